/- Several texts as one. -/
import Derived.Test.YtanpjnlhfdcicaaGreatDoorK9
import Derived.RangeFuncIn
import Derived.RangeFuncRecord
set_option linter.unusedSectionVars false
set_option linter.unusedVariables false
set_option linter.unusedSimpArgs false
set_option maxRecDepth 20000
set_option maxHeartbeats 16000000
namespace Go.Sg
open Go.Proofs
section
attribute [local go_sem] aZf aCz aEy cJ qN aKb oX Nat.reduceBNe
set_option maxRecDepth 20000 in
theorem s8 (O:aN) (tr:List bR) (c:Cl) (d:Dr) (a:Pl) (ho:Ok tr) (hd:Bd d) (ha:Pk tr a) (l:List Dr) (hB: ∀e∈l,Bd e) (hlen:l.length≤1000000000000) (s:Nat) (hO:O s=.row 191 16 (l.map fG)):iC Tryz.prog O 140 [.own s l.length,.fn 141 [] [.dp [gY tr c],.dp (fG d),.dp (mT a)]] fun O' r=> ∃(m:Nat) (ys:List Dr),O'=set O s (.row 191 16 (ys.map fG))∧ys.length=l.length∧m≤l.length∧ys.take m=l.filter (fun e=> !cvB tr d e a)∧r=.own s m:=by
 obtain⟨O1,rfl⟩: ∃O1,O=set O1 s (.row 191 16 (l.map fG)):=⟨O,by funext k;rw[aK];split<;>simp_all⟩;refine kY Tryz.func140 rfl bF ?_;refine aB [0,1] ?_;refine aA fun _ Z1=>bN [0,1] ?_;refine f9 (tZ _ tr c d a ho hd ha l hB hlen (s+100000) sz) ?_;refine Z1 _ (aA fun _ Z2=>aB [0,1,5] ?_);refine aO (fun c0=>?_) fun c0=>?_
 ·refine aB [0] ?_;refine aL ?_
  try simp only[qM,o8,pG,mO,qO,xH,↓reduceIte]
  refine bDw (O':=set O1 s (.row 191 16 ((l).map fG))) (r:=.own s (l.length)) (by first|exact .inl rfl|exact .inr rfl) 4 (by rfl) ?_ (fun q=>bUf O1 s (l:=l) (m:=l) ?_ q) (fun q h=>bDv O1 s l (l) q h) ?_ ?_
  ·simp (disch:=omega) only[go_sem,seval]
  ·rfl
  ·refine dX.pure _ ?_ ?_ rfl
   ·simp (disch:=omega) only[go_sem,seval]
   simp (disch:=omega) only[go_sem,seval];exact eK.refl _
  exact⟨l.length,l,by rw[aKb],by rfl,by omega,by rw[iL,bVv c0],rfl⟩
 obtain⟨i0,hi0,hiq,hpi,hfi⟩:=cMi c0;rw[hiq];refine aD (Z2 _ (aA fun _ Z5=>aB [0,1,5] ?_));refine aI (aX [0,1,5,6] (fun n ρ=> ∃i,∃j,∃ys,n=l.length-j∧(i<j)∧(j≤l.length)∧(ys.length=l.length)∧(ys.take i=(l.take j).filter (fun e=> !cvB tr d e a))∧(ys.drop j=l.drop j)∧ρ=dU (set O1 s (.row 191 16 (ys.map fG))) [(0,.own (s+100000) l.length),(1,.fn 141 [] [.dp [gY tr c],.dp (fG d),.dp (mT a)]),(5,vi (i:Nat)),(6,vi (j:Nat))]) _ ⟨i0,i0+1,l,rfl,?_,?_,?_,?_,?_,?_⟩ ?_)
 ·exact bD
 ·exact bD
 ·exact bD
 ·rw[bUs hi0,yN,hfi];simp[hpi]
 ·exact bD
 ·exact dT
 rintro n ρ ⟨i,j,ys,rfl,l0_0,l0_1,l0_2,l0_3,l0_4,rfl⟩ _ Z7;refine aA fun _ Z8=>aB [0,1,5,6] ?_;refine aO (fun c1=>?_) fun c1=>?_
 ·refine aD (Z8 _ (aA fun _ Z10=>aI (aA fun _ Z11=>?_)));have hgj:=bXp l0_4;have hbd:Bd (gD ys j):=by rw[hgj];exact hB _ (aHh c1)
  refine bE [0,1,5,6] ?_;refine Z11 _ (aA fun _ Z12=>bN [0,1,5,6,7] ?_);refine f9 (oC _ tr c d (gD ys j) a ho hd hbd ha) ?_;refine Z12 _ (aO (fun c2=>?_) fun c2=>?_)
  ·refine aA fun _ Z13=>?_
   skip
   refine bE [0,1,5,6,7] ?_;refine Z13 _ (bE [0,1,5,6] ?_);refine Z10 _ (bE [0,1,5,6] ?_);refine Z7 _ _ bD ⟨i+1,j+1,ys.set i (gD ys j),rfl,bD,bD,?_,?_,?_,dT⟩
   ·simp;omega
   ·(rw[hgj] at c2 ⊢;exact cSs aV aV l0_3 c2)
   ·(rw[List.drop_set_of_lt aV];exact bVc l0_4)
  refine aD (Z10 _ (bE [0,1,5,6] ?_));refine Z7 _ _ bD ⟨i,j+1,ys,rfl,bD,bD,bD,?_,?_,dT⟩
  ·(rw[hgj] at c2;exact cRh aV l0_3 c2)
  ·exact bVc l0_4
 refine bA (Z5 _ (aA fun _ Z14=>?_));refine aTi (s:=s+100000) (n:=l.length) (i:=i) (e:=191) (z:=16) (by_:=128) (zs:=List.replicate 16 (.int .i64 0)) (xs:=ys.map fG) (by rw[show decide (100000≤s+100000)=true from dF aV];kernel_rfl) sz sz sz (by rw[cJ];omega) aV bF bF eN rfl ?_;rw[cHw];refine lL ?_;refine Z14 _ (aB [0,5] ?_);refine aL ?_
 try simp only[qM,o8,pG,mO,qO,xH,↓reduceIte]
 refine bDw (O':=set O1 s (.row 191 16 ((ys.take i++List.replicate (l.length-i) z0).map fG))) (r:=.own s (i)) (by first|exact .inl rfl|exact .inr rfl) 4 (by rfl) ?_ (fun q=>bUf O1 s (l:=l) (m:=ys.take i++List.replicate (l.length-i) z0) ?_ q) (fun q h=>bDv O1 s l (ys.take i++List.replicate (l.length-i) z0) q h) ?_ ?_
 ·simp (disch:=omega) only[go_sem,seval]
 ·simp;omega
 ·refine dX.pure _ ?_ ?_ rfl
  ·simp (disch:=omega) only[go_sem,seval]
  simp (disch:=omega) only[go_sem,seval];exact eK.refl _
 exact⟨i,ys.take i++List.replicate (l.length-i) z0,by rw[aKb],by simp;omega,by omega,by rw[List.take_append_of_le_length (by simp;omega),List.take_take,Nat.min_self,l0_3,show j=l.length by omega,iL],rfl⟩
end
section
attribute [local go_sem] aZf aCz aEy cJ qN aKb oX Nat.reduceBNe
theorem vO (O:aN) (tr:List bR) (c:Cl) (d:Dr) (a:Pl) (ho:Ok tr) (hd:Bd d) (ha:Pk tr a) (l:List Dr) (hB: ∀e∈l,Bd e) (hlen:l.length≤1000000000000):aQp Tryz.prog O 90 [gY tr c,.any,.agg (fG d),.agg (mT a)] 1 191 16 (l.map fG) (fun ys=>ys=(aIw tr l d a).map fG):=by
 refine aYe (g:=90000) Tryz.func90 rfl bF rfl ?_;refine aB [0,1,2,3,90000] ?_;refine aA fun _ Z1=>aA fun _ Z2=>mC 4 rfl rfl rfl ?_;refine mC 6 rfl rfl (aXz _ _) ?_;refine mC 7 rfl rfl (bPp _ _) ?_;refine bE [1,4,6,7,90000] ?_;refine Z2 _ (aI (aX [1,4,6,7,11,12,13,90000] (fun n ρ=> ∃i,n=l.length-i∧(i≤l.length)∧(nX (fun j=> !(fun e=>cvB tr e d a) (gD l j)) i)∧ρ=dU O [(1,.own 90000 l.length),(4,.dp [gY tr c]),(6,.dp (fG d)),(7,.dp (mT a)),(11,.own 90000 l.length),(12,vi (l.length:Nat)),(13,vi (i:Nat)),(90000,.row 191 16 (l.map fG))]) _ ⟨0,rfl,?_,?_,?_⟩ ?_))
 ·exact bD
 ·exact lP _
 ·exact dT
 rintro n ρ ⟨i,rfl,l0_0,l0_1,rfl⟩ _ Z3;refine aB [1,4,6,7,11,12,13,90000] ?_;refine aA fun _ Z5=>aO (fun c0=>?_) fun c0=>?_
 ·refine aD (Z5 _ (aA fun _ Z6=>aI (aB [1,4,6,7,11,12,13,90000] ?_)));refine aA fun _ Z8=>bN [1,4,6,7,10,11,12,13,90000] ?_;refine f9 (nR _ tr c (gD l i) d a ho (hB _ (aHh c0)) hd ha) ?_;refine Z8 _ (aO (fun c1=>?_) fun c1=>?_)
  ·refine aB [1,90000] ?_;refine aL ?_
   try simp only[qM,o8]
   refine cMt (.inl rfl) 8 (l.map fG) (by rfl) bF ?_ (.inr ⟨90000,l.length,l.map fG,?_,by omega,?_,by simp,by rw[jD dH]⟩) ?_
   ·simp (disch:=omega) only[go_sem,seval]
   ·simp (disch:=omega) only[go_sem,seval]
   ·simp (disch:=omega) only[go_sem,seval]
   rw[aIw,if_pos (List.any_eq_true.2 ⟨gD l i,aHh c0,c1⟩)]
  refine aD (Z6 _ (bE [1,4,6,7,11,12,13,90000] ?_));refine Z3 _ _ bD ⟨i+1,rfl,bD,?_,dT⟩
  ·exact kE l0_1 (by simp[c1])
 refine bA (Z1 _ (aA fun _ Z10=>bN [1,4,6,7,90000] ?_));refine kA (s8 _ tr c d a ho hd ha l hB hlen 90000 sz) ?_;rintro O2 r2 ⟨m,ys,rfl,q1,q2,q3,rfl⟩;refine lL ?_;refine Z10 _ (aB [1,6,90000] ?_);refine aL (cMt (.inl rfl) 8 (List.take m (List.map fG ys)++[fG d]) (by rfl) bF ?_ (.inl ?_) ?_)
 ·simp (disch:=omega) only[go_sem,seval]
 ·simp (disch:=omega) only[go_sem,seval]
 rw[aIw,if_neg (by rw[cGt (p:=fun e=>cvB tr e d a) (by rw[show l.length=i by omega];exact l0_1)];simp),eM,← q3,List.map_take];rfl
end
theorem cIe {rl:List Int} {i:Nat} (h:i<rl.length):((rl.map eI).getD i []).getD 0 .any=vi (rl.getD i default):=by
 rw[cA (l:=rl.map eI),dG,cH h,cA (l:=rl),cH h];rfl
theorem cHd {rl:List Int} {i:Nat} (h:i<rl.length):(0<((rl.map eI).getD i []).length)=True:=by
 rw[cA (l:=rl.map eI),dG,cH h];simp[eI]
theorem cQw {rl:List Int} {k i:Nat} (hi:i<k):(rl.take k).getD i default=rl.getD i default:=by
 rw[cA,oR,if_pos hi,cA]
section
attribute [local go_sem] cIe cHd cJ Nat.mul_one iD
theorem aGn (O:aN) (rl:List Int) (k s:Nat) (x:Int) (hO:O s=.row 3 1 (rl.map eI)) (hk:k≤rl.length) (hb:k≤1000):aZ Tryz.prog O 162 [.own s k,vi x] (vi (if (rl.take k).contains x then ((rl.take k).idxOf x:Int) else -1)):=by
 have hsx:bS O (s+100000)=.row 3 1 (rl.map eI):=by rw[cI,hO];rfl
 have hkl:(rl.take k).length=k:=by rw[iO];omega
 refine eV Tryz.func162 ?_;refine bB [0,1] ?_;refine aA fun _ Z1=>bB [0,1] ?_;refine aI (aX [0,1,7,8] (fun n ρ=> ∃i,n=k-i∧(i≤k)∧((if (rl.take k).contains x then ((rl.take k).idxOf x:Int) else -1)=(if ((rl.take k).drop i).contains x then ((((rl.take k).drop i).idxOf x+i:Nat):Int) else -1))∧ρ=dU O [(0,.own (s+100000) k),(1,vi x),(7,vi (k:Nat)),(8,vi (i:Nat))]) _ ⟨0,rfl,?_,?_,?_⟩ ?_)
 ·exact bD
 ·simp
 ·exact eX
 rintro n ρ ⟨i,rfl,l0_0,l0_1,rfl⟩ _ Z3;refine bB [0,1,7,8] ?_;refine aA fun _ Z5=>aO (fun c0=>?_) fun c0=>?_
 ·refine aD (Z5 _ (aA fun _ Z6=>aI (bB [0,1,7,8] ?_)));refine aA fun _ Z8=>?_;have hat:=cQw (rl:=rl) c0;have hir:i<rl.length:=by omega
  refine cN [0,1,5,7,8] ?_;refine Z8 _ (aO (fun c1=>?_) fun c1=>?_)
  ·refine bB [5] ?_;refine aL (mA 4 ?_);exact dX.is (by simp (disch:=omega) only[go_sem,seval,hsx]<;>(refine congrArg vi ?_;rw[← hat] at c1;rw[l0_1,dL default aV];simp[c1])) rfl rfl
  refine aD (Z6 _ (cN [0,1,7,8] ?_));refine Z3 _ _ bD ⟨i+1,rfl,bD,?_,?_⟩
  ·rw[← hat] at c1;rw[l0_1,dL default aV,List.contains_cons,List.idxOf_cons,oF.2 c1,oF.2 (fC c1)];simp only[vE,fI];rw[show List.idxOf x (List.drop (i+1) (rl.take k))+1+i=List.idxOf x (List.drop (i+1) (rl.take k))+(i+1) by omega]
  exact eX
 refine bA (Z1 _ (bB [] ?_));refine aL (mA 4 ?_);exact dX.is (by simp (disch:=omega) only[go_sem,seval,hsx]<;>(refine congrArg vi ?_;rw[l0_1,iW aV];rfl)) rfl rfl
end
theorem aAy (O:aN) (rl:List Int) (k s:Nat) (x:Int) (hO:O s=.row 3 1 (rl.map eI)) (hk:k≤rl.length) (hb:k≤1000):aZ Tryz.prog O 135 [.own s k,vi x] (vb ((rl.take k).contains x)):=by
 have hx:bS O (s+100000)=.row 3 1 (rl.map eI):=by rw[cI,hO];rfl
 refine eV Tryz.func135 ?_;refine aA fun _ Z0=>cS [0,1] bF ?_;simp (disch:=omega) only[go_sem,seval,hx]
 repeat refine cP kN ?_
 refine Z0 _ (aA fun _ Z1=>cS [0,1] bF ?_);simp (disch:=omega) only[go_sem,seval,hx]
 repeat refine cP kN ?_
 refine jJ _ (aGn _ rl k (s+100000) x (by simp (disch:=omega) only[go_sem,seval,hx,s7]) hk hb) ?_
 try simp (disch:=omega) only[go_sem,seval,hx]
 repeat refine cP kN ?_
 refine Z1 _ (aL (sX 4 rfl (by simp (disch:=omega) only[go_sem,seval,hx]) ?_));exact dX.is (by simp (disch:=omega) only[go_sem,seval,hx]<;>refine congrArg vb ?_<;>(cases h:(rl.take k).contains x<;>simp)) rfl rfl
def bPm (tr:List bR) (c:Cl) (k b:Nat):Prop:= ∀(O:aN) (rl0:List Int) (best0 d:Dr) (a:Pl),(O (b+5)=.bx [.own (b+90000) k])→(O (b+3)=.bx (fG best0))→(O (b+90000)=.row 3 1 (rl0.map eI))→(O (b+6)=.bx [.fn 134 [] [.bp (b+5) 0,.dp [vi (tr.length:Nat)],.dp [gY tr c],.bp (b+3) 0,.bp (b+6) 0]])→(rl0.length=tr.length)→(k≤tr.length)→(Odr tr (rl0.take k))→(a=aHa tr (rl0.take k))→(vA tr c a d)→(nD tr c best0)→iC Tryz.prog O 134 [.agg (fG d),.agg (mT a),.bp (b+5) 0,.dp [vi (tr.length:Nat)],.dp [gY tr c],.bp (b+3) 0,.bp (b+6) 0] fun O' r=> ∃rl' best',O'=kO b O rl' k best'∧rl'.length=tr.length∧rl'.take k=rl0.take k∧nD tr c best'∧r=.tup []
section
attribute [local go_sem] Nat.reduceBNe bVb aCl aLn
set_option maxRecDepth 20000 in
theorem aQb (O:aN) (tr:List bR) (c:Cl) (ho:Ok tr) (k b:Nat) (ih:k<tr.length→bPm tr c (k+1) (b+100000)) (rl0:List Int) (best0 d:Dr) (a:Pl) (h5:O (b+5)=.bx [.own (b+90000) k]) (h3:O (b+3)=.bx (fG best0)) (h9:O (b+90000)=.row 3 1 (rl0.map eI)) (h6:O (b+6)=.bx [.fn 134 [] [.bp (b+5) 0,.dp [vi (tr.length:Nat)],.dp [gY tr c],.bp (b+3) 0,.bp (b+6) 0]]) (hl:rl0.length=tr.length) (hk:k≤tr.length) (hod:Odr tr (rl0.take k)) (ha:a=aHa tr (rl0.take k)) (hr:vA tr c a d) (hb:nD tr c best0):iC Tryz.prog O 134 [.agg (fG d),.agg (mT a),.bp (b+5) 0,.dp [vi (tr.length:Nat)],.dp [gY tr c],.bp (b+3) 0,.bp (b+6) 0] fun O' r=> ∃rl' best',O'=kO b O rl' k best'∧rl'.length=tr.length∧rl'.take k=rl0.take k∧nD tr c best'∧r=.tup []:=by
 have hn:=ho.n;have n3:b+3+100000=b+100000+3:=by omega
 have n5:b+5+100000=b+100000+5:=by omega
 have n6:b+6+100000=b+100000+6:=by omega
 have n9:b+90000+100000=b+100000+90000:=by omega
 have sw3: ∀(ρ:aN) (i:Nat) (v w:DV),i<100000→set (set ρ i v) (b+100000+3) w=set (set ρ (b+100000+3) w) i v:=fun ρ i v w h=>aOd ρ v w h aV;have sw5: ∀(ρ:aN) (i:Nat) (v w:DV),i<100000→set (set ρ i v) (b+100000+5) w=set (set ρ (b+100000+5) w) i v:=fun ρ i v w h=>aOd ρ v w h aV;have sw9: ∀(ρ:aN) (i:Nat) (v w:DV),i<100000→set (set ρ i v) (b+100000+90000) w=set (set ρ (b+100000+90000) w) i v:=fun ρ i v w h=>aOd ρ v w h aV;have kOu: ∀(ρ:aN) (rl:List Int) (kk:Nat) (be:Dr),kO (b+100000) ρ rl kk be=set (set (set ρ (b+100000+90000) (.row 3 1 (rl.map eI))) (b+100000+5) (.bx [.own (b+100000+90000) kk])) (b+100000+3) (.bx (fG be)):=fun _ _ _ _=>rfl;obtain⟨O1,rfl⟩: ∃O1,O=kO b O1 rl0 k best0:=⟨O,cNy h5 h3 h9⟩;have h6':O1 (b+6)=.bx [.fn 134 [] [.bp (b+5) 0,.dp [vi (tr.length:Nat)],.dp [gY tr c],.bp (b+3) 0,.bp (b+6) 0]]:=by rw[← h6];exact (cSw b O1 rl0 k best0).symm
 have rd5: ∀rl kk be,bS (kO b O1 rl kk be) (b+100000+5)=.bx [.own (b+100000+90000) kk]:=fun rl kk be=>by
  rw[← n5,cI,cUp,← n9];rfl
 have rd3: ∀rl kk be,bS (kO b O1 rl kk be) (b+100000+3)=.bx (fG be):=fun rl kk be=>by
  rw[← n3,cI,cTw];exact congrArg DV.bx (aDo _ _)
 have rd9: ∀rl kk be,bS (kO b O1 rl kk be) (b+100000+90000)=.row 3 1 (rl.map eI):=fun rl kk be=>by
  rw[← n9,cI,cTo];rfl
 have rd6: ∀rl kk be,bS (kO b O1 rl kk be) (b+100000+6)=.bx [.fn 134 [] [.bp (b+100000+5) 0,.dp [vi (tr.length:Nat)],.dp [gY tr c],.bp (b+100000+3) 0,.bp (b+100000+6) 0]]:=fun rl kk be=>by
  rw[← n6,cI,cSw,h6',← n5,← n3];rfl
 have wr5: ∀rl kk kk' be,set (bS (kO b O1 rl kk be)) (b+100000+5) (.bx [.own (b+100000+90000) kk'])=bS (kO b O1 rl kk' be):=fun rl kk kk' be=>by
  rw[← cPd b O1 rl kk kk' be,qN,← n5,← n9];rfl
 have wr3: ∀rl kk be be',set (bS (kO b O1 rl kk be)) (b+100000+3) (.bx (fG be'))=bS (kO b O1 rl kk be'):=fun rl kk be be'=>by
  rw[← cNf b O1 rl kk be be',qN,← n3];exact congrArg (set _ _) (congrArg DV.bx (aDo _ _).symm)
 have wr9: ∀rl rl' kk be,set (bS (kO b O1 rl kk be)) (b+100000+90000) (.row 3 1 (rl'.map eI))=bS (kO b O1 rl' kk be):=fun rl rl' kk be=>by
  rw[← cLz b O1 rl rl' kk be,qN,← n9];rfl
 have hsx:=cP sw3 (cP sw5 (cP sw9 (cP kOu (cP rd5 (cP rd3 (cP rd9 (cP rd6 (cP wr5 (cP wr3 (cP wr9 (cP n3 (cP n5 (cP n6 n9)))))))))))));refine kY Tryz.func134 rfl bF ?_;refine bB [0,1,2,3,4,5,6] ?_;refine aA fun _ Z1=>bB [2,3,4,5,6,7,8] ?_;refine aO (fun c0=>?_) fun c0=>?_
 ·refine aA fun _ Z3=>aA fun _ Z4=>eZ [4,5,7] ?_;refine pV (kJ _ tr c d best0 ho (hr.bd' ho) (hb.bd' ho)) ?_;refine Z4 _ (aO (fun c1=>?_) fun c1=>?_)
  ·refine cS [5,7] bF ?_;refine gE ?_;refine Z3 _ (aL ?_)
   try simp only[qM,o8,pG,mO,qO,↓reduceIte]
   refine aZx (O':=kO b O1 rl0 k d) (by first|exact .inl rfl|exact .inr rfl) (by rfl) ?_ (fun s=>bSe b O1 (rl:=rl0) (rl':=rl0) k k best0 d aV s) (fun s h=>bCy b O1 (rl:=rl0) (rl':=rl0) k k best0 d s h) ?_
   ·simp (disch:=omega) only[go_sem,seval,hsx]
   exact⟨rl0,d,(bMf _ _ _ _ _ _ _ _).symm,hl,rfl,bPt ho hod (by rw[iO];omega) (ha▸hr),rfl⟩
  refine aD (Z3 _ (aL ?_))
  try simp only[qM,o8,pG,mO,qO,↓reduceIte]
  refine aZx (O':=kO b O1 rl0 k best0) (by first|exact .inl rfl|exact .inr rfl) (by rfl) ?_ (fun s=>bSe b O1 (rl:=rl0) (rl':=rl0) k k best0 best0 aV s) (fun s h=>bCy b O1 (rl:=rl0) (rl':=rl0) k k best0 best0 s h) ?_
  ·simp (disch:=omega) only[go_sem,seval,hsx]
  exact⟨rl0,best0,(bMf _ _ _ _ _ _ _ _).symm,hl,rfl,hb,rfl⟩
 refine aD (Z1 _ (bB [2,3,4,6,7,8] ?_));refine aI (aX [2,4,6,7,8,21,22] (fun n ρ=> ∃i,∃rl,∃best,n=tr.length-i∧(i≤tr.length)∧(rl.length=tr.length)∧(rl.take k=rl0.take k)∧(nD tr c best)∧ρ=dU (kO b O1 rl k best) [(2,.bp (b+100000+5) 0),(4,.dp [gY tr c]),(6,.bp (b+100000+6) 0),(7,.bx (fG d)),(8,.bx (mT a)),(21,vi (tr.length:Nat)),(22,vi (i:Nat))]) _ ⟨0,rl0,best0,rfl,?_,?_,?_,?_,?_⟩ ?_)
 ·exact bD
 ·exact bD
 ·exact bD
 ·exact bD
 ·exact eX
 rintro n ρ ⟨i,rl,best,rfl,l0_0,l0_1,l0_2,l0_3,rfl⟩ _ Z6;refine bB [2,4,6,7,8,21,22] ?_;refine aA fun _ Z8=>aO (fun c2=>?_) fun c2=>?_
 ·refine aD (Z8 _ (aA fun _ Z9=>aI (bB [2,4,6,7,8,21,22] ?_)));refine aA fun _ Z11=>aA fun _ Z12=>eZ [2,4,6,7,8,9,21,22] ?_;refine pV (aAy _ rl k (b+100000+90000) (i:Nat) xU aV aV) ?_;refine Z12 _ (aO (fun c3=>?_) fun c3=>?_)
  ·refine bA (Z9 _ (cN [2,4,6,7,8,21,22] ?_));refine Z6 _ _ bD ⟨i+1,rl,best,rfl,bD,bD,bD,bD,?_⟩;exact eX
  refine aD (Z11 _ (aA fun _ Z13=>?_));have hc3:(rl0.take k).contains (i:Int)=false:=by rw[← l0_2];simpa using c3
  have hai0:a i=0:=by rw[ha];exact bZm hc3
  have hli:=ho.l i aV;refine bEq [2,4,6,7,8,9,21,22] [10,11] [2,4,6,7,8,9,21,22,28,29] [0,1] [2,3] [4,5] [(10,191,28),(11,193,29)] kR bF (by rfl) (by rfl) (by simp only[ptA,List.filterMap_cons,List.filterMap_nil,aEd,List.getElem?_cons_zero];rfl) ?_;refine gE ?_;refine cP (by rfl) ?_;refine gE ?_;refine Z13 _ (aA fun _ Z14=>aI (aX [2,4,6,7,8,21,22,9,10,11] (fun n ρ=> ∃m,∃e,n=(tr.getD i default).xAb.length-m∧(m≤(tr.getD i default).xAb.length)∧(vA tr c (lK a i m) e)∧ρ=dU (kO b O1 rl k best) [(2,.bp (b+100000+5) 0),(4,.dp [gY tr c]),(6,.bp (b+100000+6) 0),(7,.bx (fG d)),(8,.bx (mT a)),(21,vi (tr.length:Nat)),(22,vi (i:Nat)),(9,vi (i:Nat)),(10,.bx (fG e)),(11,.bx (mT (lK a i m)))]) _ ⟨0,d,rfl,?_,?_,?_⟩ ?_))
  ·exact bD
  ·rw[bTr hai0];exact hr
  ·simp (disch:=omega) only[go_sem,seval,hsx]<;>rw[bTr hai0]
  rintro n ρ ⟨m,e,rfl,l1_0,l1_1,rfl⟩ _ Z15;refine aA fun _ Z16=>aA fun _ Z17=>jF [2,4,6,7,8,9,10,11,21,22] [] ?_;refine Z17 _ (aO (fun c4=>?_) fun c4=>?_)
  ·refine aD (Z16 _ (aI (aA fun _ Z18=>eZ [2,4,6,7,8,9,10,11,21,22] ?_)));refine pV (kV _ tr c e (lK a i m) i ho (l1_1.bd ho) aV (by rw[aCl];omega) (l1_1.pk ho).1) ?_;refine Z18 _ (cN [2,4,6,7,8,9,10,11,21,22] ?_);refine Z15 _ _ bD ⟨m+1,plD tr c e (lK a i m) i,rfl,bD,?_,?_⟩
   ·(have hs:=l1_1.s (i:=i) aV (by rw[aCl];omega);rw[aCl,aLn] at hs;exact hs)
   exact eX
  refine bA (Z14 _ (aA fun _ Z19=>?_));obtain rfl:m=(tr.getD i default).xAb.length:=by omega
  have htk:(rl.set k (i:Int)).take (k+1)=rl0.take k++[(i:Int)]:=by rw[bPc aV,l0_2]
  have hod2:Odr tr ((rl.set k (i:Int)).take (k+1)):=by rw[htk];exact hod.add aV hc3
  have ha2:lK a i (tr.getD i default).xAb.length=aHa tr ((rl.set k (i:Int)).take (k+1)):=by rw[htk,ha];exact cAg aV
  refine cM (Le.keepC [2,4,6,7,8,9,10,11,21,22] _) ?_;refine fU ?_;refine bV rfl bF bF ?_;refine gE ?_;refine bV rfl bF bF ?_;refine gE ?_;refine bV rfl bF bF ?_;refine gE ?_;refine bPb (s:=(b+100000+90000)) (n:=k) (e:=3) (by_:=8) (xs:=rl.map eI) (q:=[vi (i:Nat)]) rfl rfl rfl eN bF xU xU (by rw[cJ];omega) xU bF xU xU ?_;refine gE ?_;refine bV rfl bF bF ?_;refine gE ?_;refine Z19 _ (aA fun _ Z20=>eZ [2,4,6,7,8,10,11,21,22] ?_);refine kA (ih aV _ (rl.set k (i:Nat)) best e (lK a i (tr.getD i default).xAb.length) xU xU xU xU (by simp;omega) aV hod2 ha2 l1_1 l0_3) ?_;rintro O2 r2 ⟨rl2,be2,rfl,q1,q2,q3,rfl⟩;refine gE ?_;refine Z20 _ (cN [2,4,6,7,8,21,22] ?_);refine Z9 _ (cN [2,4,6,7,8,21,22] ?_);refine Z6 _ _ bD ⟨i+1,rl2,be2,rfl,bD,?_,?_,?_,?_⟩
  ·exact q1
  ·(have h:=bLg q2;rw[List.take_set_of_le (bW _)] at h;rw[h,l0_2])
  ·exact q3
  exact eX
 refine bA ?_
 try simp only[qM,o8,pG,mO,qO,↓reduceIte]
 refine aZx (O':=kO b O1 rl k best) (by first|exact .inl rfl|exact .inr rfl) (by rfl) ?_ (fun s=>bSe b O1 (rl:=rl0) (rl':=rl) k k best0 best aV s) (fun s h=>bCy b O1 (rl:=rl0) (rl':=rl) k k best0 best s h) ?_
 ·simp (disch:=omega) only[go_sem,seval,hsx]
 exact⟨rl,best,(bMf _ _ _ _ _ _ _ _).symm,l0_1,l0_2,l0_3,rfl⟩
end
theorem bGt (tr:List bR) (c:Cl) (ho:Ok tr): ∀n k b,tr.length-k=n→bPm tr c k b
 |0,k,b,h=>fun O rl0 best0 d a h5 h3 h9 h6 hl hk hod ha hr hb=>aQb O tr c ho k b (fun g=>absurd g aV) rl0 best0 d a h5 h3 h9 h6 hl hk hod ha hr hb
 |n+1,k,b,h=>fun O rl0 best0 d a h5 h3 h9 h6 hl hk hod ha hr hb=>aQb O tr c ho k b (fun _=>bGt tr c ho n (k+1) (b+100000) aV) rl0 best0 d a h5 h3 h9 h6 hl hk hod ha hr hb
theorem cKd (O:aN) (tr:List bR) (c:Cl) (ho:Ok tr) (rl0:List Int) (best0 d:Dr) (a:Pl) (h5:O 5=.bx [.own 90000 0]) (h3:O 3=.bx (fG best0)) (h9:O 90000=.row 3 1 (rl0.map eI)) (h6:O 6=.bx [.fn 134 [] [.bp 5 0,.dp [vi (tr.length:Nat)],.dp [gY tr c],.bp 3 0,.bp 6 0]]) (hl:rl0.length=tr.length) (hk:0≤tr.length) (hod:Odr tr (rl0.take 0)) (ha:a=aHa tr (rl0.take 0)) (hr:vA tr c a d) (hb:nD tr c best0):iC Tryz.prog O 134 [.agg (fG d),.agg (mT a),.bp 5 0,.dp [vi (tr.length:Nat)],.dp [gY tr c],.bp 3 0,.bp 6 0] fun O' r=> ∃rl' best',O'=kO 0 O rl' 0 best'∧rl'.length=tr.length∧rl'.take 0=rl0.take 0∧nD tr c best'∧r=.tup []:=bGt tr c ho _ 0 0 rfl O rl0 best0 d a h5 h3 h9 h6 hl hk hod ha hr hb
theorem rpZ (n:Nat):List.replicate n (List.map DV.v [Value.int .i64 0])=(List.replicate n (0:Int)).map eI:=by rw[List.map_replicate];rfl
theorem rp1 (n:Nat):List.replicate n [DV.v (Value.int .i64 0)]=(List.replicate n (0:Int)).map eI:=rpZ n
theorem kO0 (ρ:aN) (rl:List Int) (kk:Nat) (be:Dr):kO 0 ρ rl kk be=set (set (set ρ 90000 (.row 3 1 (rl.map eI))) 5 (.bx [.own 90000 kk])) 3 (.bx (fG be)):=rfl
theorem bZt {P:Program} {ρ:aN} {x:Operand} {args:Array Operand} {ts:Array TypeId} {dd:Option Nat} {K:aN→Prop}:aLg P ρ (.call ⟨.value x,args,ts⟩) dd K=jO P ρ (.call ⟨.value x,args,ts⟩) dd K:=by cases dd<;>rfl
theorem cPb:lJ Tryz.prog 193=true:=by kernel_rfl
theorem cUv (tr:List bR):(fun _=>0)=aHa tr ((List.replicate tr.length (0:Int)).take 0):=by
 funext q;unfold aHa;rw[if_neg dH]
theorem cTi (tr:List bR) (l:List Int):Odr tr (l.take 0):=⟨by simp,by simp⟩
section
attribute [local go_sem] rpZ rp1 kO0 Nat.reduceBNe cPb jE bZt
set_option maxRecDepth 20000 in
theorem tU (O:aN) (tr:List bR) (c:Cl) (ho:Ok tr):iC Tryz.prog O 84 [gY tr c] (fun O' r'=>O'=O∧ ∃d,nD tr c d∧r'=.agg (fG d)):=by
 have hn:=ho.n;refine kY Tryz.func84 rfl bF ?_;refine aB [0] ?_;refine aA fun _ Z1=>bN [1,2] ?_;refine kA (rX _ tr c ho) ?_;rintro O2 r2 ⟨rfl,d0,hf0,rfl⟩;refine lL ?_;refine Z1 _ (aB [1,2,3] ?_);refine aA fun _ Z3=>mC 1 rfl rfl rfl ?_;refine mC 4 rfl rfl rfl ?_;refine cM (Le.keepC [1,2,3,4] _) ?_;refine fU ?_;refine bV rfl bF bF ?_;refine lL ?_;refine cLi (gh:=90000) (e:=3) (z:=1) (by_:=8) (zs:=[.int .i64 0]) (k:=.i64) (k':=.i64) (n:=0) (c:=(tr.length:Int)) rfl rfl rfl eN eN eN bF sz rfl sz bF bF rfl aV aV aV aV ?_;refine lL ?_;refine bV rfl bF bF ?_;refine lL ?_;refine bV rfl bF bF ?_;refine lL ?_;refine Z3 _ (aB [1,2,3,4,5,90000] ?_);refine aB [1,2,3,4,5,6,90000] ?_;refine aA fun _ Z6=>cAs [1,2,3,5,6,90000] [] [0,1,2,3,4] [4] kR bF (fun q hq=>?_) bF;cases hq;refine lL ?_;refine cdz (kS _ tr c ho) ?_;refine kA (cKd _ tr c ho (List.replicate tr.length 0) d0 (bgD tr) (fun _=>0) sz sz sz sr dH aV (cTi tr _) (cUv tr) .b hf0) ?_;rintro O3 r3 ⟨rl2,be2,rfl,q1,q2,q3,rfl⟩;refine lL ?_;refine Z6 _ (aB [2,3] ?_);refine aL (aQl 2 191 rfl sz sz sz sz (⟨be2,q3,rfl⟩))
end
end Go.Sg
namespace Go.Sg
open Go.RowKit
open Go.Rv (FR)
structure Rw (α:Type) where
 B:Option Nat
 b:Option Addr
 c:Nat
 l:List α
def Rw.val {α:Type} (r:Rw α):Value:=.slice r.b r.l.length r.c
def aEr (α:Type):Rw α:=⟨none,none,0,[]⟩
section
variable {α:Type} (enc:α→List DV) (e:TypeId) (z:Nat)
structure rK (w:World) (I:Nat→Prop) (A:dD) (r:Rw α):Prop where
 base:mU r.B r.b
 row:jX w I e z (r.l.map enc) r.B r.c
 free: ∀g,r.B=some g→g<w.heap.size∧ ¬I g∧ ∀s c,A s≠some (some g,c)
structure XF (w0:World) (I0:Nat→Prop) (A0:dD) (G0:Nat→Prop) (w:World) (I:Nat→Prop) (A:dD):Prop where
 os:w.os=w0.os
 tape:w.tape=w0.tape∧w0.drawn≤w.drawn
 output:w.output=w0.output
 size:w0.heap.size≤w.heap.size
 imm: ∀g,I0 g→I g
 old: ∀g,g<w0.heap.size→(∀s c,A0 s≠some (some g,c))→ ¬G0 g→w.heap[g]?=w0.heap[g]?∧(I g→I0 g)∧ ∀s c,A s≠some (some g,c)
 outA: ∀s,100000≤s→A s=A0 s
def Fo (w0:World) (I0:Nat→Prop) (A0:dD) (G0:Nat→Prop) (rs:List (Rw α)) (w:World) (I:Nat→Prop) (A:dD):Prop:=
 (∀r∈rs,rK enc e z w I A r)∧(rs.Pairwise fun x y=> ∀g,x.B=some g→y.B≠some g)∧(∀r∈rs,∀g,r.B=some g→G0 g∨w0.heap.size≤g)∧XF w0 I0 A0 G0 w I A
end
section
variable {α:Type} {enc:α→List DV} {e:TypeId} {z:Nat} {w0:World} {I0:Nat→Prop} {A0:dD} {G0:Nat→Prop}
theorem XF.refl (w:World) (I:Nat→Prop) (A:dD) (G:Nat→Prop):XF w I A G w I A:=⟨rfl,⟨rfl,bW _⟩,rfl,bW _,fun _ h=>h,fun g _ hA _=>⟨rfl,fun h=>h,hA⟩,fun _ _=>rfl⟩
theorem XF.ext {w w':World} {I I':Nat→Prop} {A A':dD} (h:XF w0 I0 A0 G0 w I A) (k:f8 w I A w' I' A'):XF w0 I0 A0 G0 w' I' A' where
 os:=k.os.trans h.os
 tape:=⟨k.tape.1.trans h.tape.1,eL h.tape.2 k.tape.2⟩
 output:=k.output.trans h.output
 size:=eL h.size k.size
 imm:=fun g hg=>k.imm g (h.imm g hg)
 old:=fun g hg hA hG=>by
  obtain⟨h1,h2,h3⟩:=h.old g hg hA hG;obtain⟨k1,k2,k3⟩:=k.old g (eE hg h.size) h3;exact⟨k1.trans h1,fun x=>h2 (k2 x),k3⟩
 outA:=fun s hs=>(k.outA s hs).trans (h.outA s hs)
theorem jX.of {w w':World} {I I':Nat→Prop} {xs:List (List DV)} {B:Option Nat} {c:Nat} (h:jX w I e z xs B c) (hb: ∀g,B=some g→w'.heap[g]?=w.heap[g]?) (hr: ∀d x,bP w I fO d x→bP w' I' fO d x):jX w' I' e z xs B c:=by
 cases B with
 |none=>exact h
 |some g=>
  obtain⟨us,q1,q2,q3,q4,q5⟩:=h;exact⟨us,(hb g rfl).trans q1,q2,q3,q4,fun i x hx=>⟨(q5 i x hx).1,fun j d u hd hu=>⟨((q5 i x hx).2 j d u hd hu).1,hr _ _ ((q5 i x hx).2 j d u hd hu).2⟩⟩⟩
theorem rK.ext {w w':World} {I I':Nat→Prop} {A A':dD} {ρ:aN} {r:Rw α} (hs:jI w I A ρ) (h:rK enc e z w I A r) (k:f8 w I A w' I' A'):rK enc e z w' I' A' r where
 base:=h.base
 row:=h.row.of (fun g hg=>(k.old g (h.free g hg).1 (h.free g hg).2.2).1) fun d x hr=>k.rel hs hr
 free:=fun g hg=>by
  obtain⟨h1,h2,h3⟩:=h.free g hg;obtain⟨k1,k2,k3⟩:=k.old g h1 h3;exact⟨eE h1 k.size,fun x=>h2 (k2 x),k3⟩
theorem Fo.ext {w w':World} {I I':Nat→Prop} {A A':dD} {ρ:aN} {rs:List (Rw α)} (hs:jI w I A ρ) (h:Fo enc e z w0 I0 A0 G0 rs w I A) (k:f8 w I A w' I' A'):Fo enc e z w0 I0 A0 G0 rs w' I' A':=
 ⟨fun r hr=>(h.1 r hr).ext hs k,h.2.1,h.2.2.1,h.2.2.2.ext k⟩
end
def oL {σ:Type} (P:Program) (nt:Nat) (F:σ→World→(Nat→Prop)→dD→Prop) (c:Code) (Q:Exit→σ→aN→Prop) (s:σ) (ρ:aN):Prop:=
 ∀(ro:Option Nat) (ds:List Deferred) I A a w,dB nt w I A ρ a→a.defers=ds→F s w I A→
  c.wpIn (FR ro) 0 P (fun e a' w'=> ∃I' A' ρ' s',dB nt w' I' A' ρ' a'∧a'.defers=ds∧F s' w' I' A'∧Q e s' ρ') a w
def bIq {σ:Type} (F:σ→World→(Nat→Prop)→dD→Prop):Prop:= ∀s w I A w' I' A' ρ,jI w I A ρ→F s w I A→f8 w I A w' I' A'→F s w' I' A'
theorem cEn {α:Type} (enc:α→List DV) (e:TypeId) (z:Nat) (w0:World) (I0:Nat→Prop) (A0:dD) (G0:Nat→Prop):bIq (Fo enc e z w0 I0 A0 G0):=fun _ _ _ _ _ _ _ _ hs h k=>Fo.ext hs h k
def y3 {σ:Type} (K:σ→aN→Prop) (Q:Exit→σ→aN→Prop):Exit→σ→aN→Prop
 | .normal,s,ρ=>K s ρ
 |e,s,ρ=>Q e s ρ
def aFu {σ:Type} (id:Nat) (Q:Exit→σ→aN→Prop):Exit→σ→aN→Prop
 | .exit id',s,ρ=>if id'=id then Q .normal s ρ else Q (.exit id') s ρ
 |e,s,ρ=>Q e s ρ
section
variable {σ:Type} {P:Program} {nt:Nat} {F:σ→World→(Nat→Prop)→dD→Prop} {Q:Exit→σ→aN→Prop} {s:σ} {ρ:aN}
theorem dW (hF:bIq F) {c:Code} (h:AW P nt c (fun e ρ'=>Q e s ρ') ρ):oL P nt F c Q s ρ:=fun ro ds I A a w hs hd hf=>
 wpIn_mono (h ro ds I A a w hs hd) fun _ _ _ ⟨I',A',ρ',h1,h2,h3,h4⟩=>⟨I',A',ρ',s,h1,h2,hF _ _ _ _ _ _ _ ρ hs.osim hf h3,h4⟩
theorem nU (h:Q .normal s ρ):oL P nt F .skip Q s ρ:=fun ro ds I A a w hs hd hf=>wpIn_skip ⟨I,A,ρ,s,hs,hd,hf,h⟩
theorem vT {i:Nat} (h:Q (.exit i) s ρ):oL P nt F (.exit i) Q s ρ:=fun ro ds I A a w hs hd hf=>wpIn_exit ⟨I,A,ρ,s,hs,hd,hf,h⟩
theorem aWy (h:Q .ret s ρ):oL P nt F .ret Q s ρ:=fun ro ds I A a w hs hd hf=>wpIn_ret ⟨I,A,ρ,s,hs,hd,hf,h⟩
theorem dM {x y:Code} (h: ∀K:σ→aN→Prop,(∀s ρ,oL P nt F y Q s ρ→K s ρ)→oL P nt F x (y3 K Q) s ρ):oL P nt F (.seq x y) Q s ρ:=by
 intro ro ds I A a w hs hd hf;refine wpIn_seq (wpIn_mono (h (fun s ρ=>oL P nt F y Q s ρ) (fun _ _ h=>h) ro ds I A a w hs hd hf) ?_);intro e a1 w1 ⟨I1,A1,ρ1,s1,h1,h2,h3,h4⟩;cases e with
 |normal=>exact h4 ro ds I1 A1 a1 w1 h1 h2 h3
 |exit i=>exact⟨I1,A1,ρ1,s1,h1,h2,h3,h4⟩
 |goto l=>exact⟨I1,A1,ρ1,s1,h1,h2,h3,h4⟩
 |ret=>exact⟨I1,A1,ρ1,s1,h1,h2,h3,h4⟩
 |panic ch=>exact⟨I1,A1,ρ1,s1,h1,h2,h3,h4⟩
 |outgrown=>exact⟨I1,A1,ρ1,s1,h1,h2,h3,h4⟩
theorem mF {id:Nat} {c:Code} (h:oL P nt F c (aFu id Q) s ρ):oL P nt F (.block id c) Q s ρ:=by
 intro ro ds I A a w hs hd hf;refine wpIn_block (wpIn_mono (h ro ds I A a w hs hd hf) ?_);intro e a1 w1 ⟨I1,A1,ρ1,s1,h1,h2,h3,h4⟩;cases e with
 |exit i=>
  simp only[Exit.inBlock,aFu] at*;split<;>rename_i hi
  ·rw[if_pos hi] at h4;exact⟨I1,A1,ρ1,s1,h1,h2,h3,h4⟩
  rw[if_neg hi] at h4;exact⟨I1,A1,ρ1,s1,h1,h2,h3,h4⟩
 |normal=>exact⟨I1,A1,ρ1,s1,h1,h2,h3,h4⟩
 |goto l=>exact⟨I1,A1,ρ1,s1,h1,h2,h3,h4⟩
 |ret=>exact⟨I1,A1,ρ1,s1,h1,h2,h3,h4⟩
 |panic ch=>exact⟨I1,A1,ρ1,s1,h1,h2,h3,h4⟩
 |outgrown=>exact⟨I1,A1,ρ1,s1,h1,h2,h3,h4⟩
theorem jY {c:Code} {ρ ρ':aN} (hl:Le ρ ρ') (h:oL P nt F c Q s ρ'):oL P nt F c Q s ρ:=fun ro ds I A a w hs hd hf=>h ro ds I A a w (hs.weaken hl) hd hf
theorem z8 {x:Operand} {c d:Code} (b:Bool) (ho:s9 nt x=true) (hx:ev ρ x=.v (.bool b)) (ht:b=true→oL P nt F c Q s ρ) (hf:b=false→oL P nt F d Q s ρ):oL P nt F (.cond x c d) Q s ρ:=by
 intro ro ds I A a w hs hd hF;have he:=hs.evRel x ho;rw[hx] at he;have hv:a.eval x=.bool b:=by
  generalize a.eval x=y at he ⊢;cases he;rfl
 exact wpIn_cond_split hv (fun h=>ht h ro ds I A a w hs hd hF) (fun h=>hf h ro ds I A a w hs hd hF)
theorem bKb {c:Code} (J:Nat→σ→aN→Prop) (n₀:Nat) (h₀:J n₀ s ρ)
  (round: ∀n s ρ,J n s ρ→ ∀K:σ→aN→Prop,(∀m s' ρ',m<n→J m s' ρ'→K s' ρ')→oL P nt F c (y3 K Q) s ρ):oL P nt F (.loop c) Q s ρ:=by
 intro ro ds I A a w hs hd hf;refine wpIn_loop_ghost (fun n a' w'=> ∃I' A' ρ' s',dB nt w' I' A' ρ' a'∧a'.defers=ds∧F s' w' I' A'∧J n s' ρ') n₀ ⟨I,A,ρ,s,hs,hd,hf,h₀⟩ ?_;intro n a1 w1 ⟨I1,A1,ρ1,s1,h1,h2,h3,h4⟩;refine wpIn_mono (round n s1 ρ1 h4 (fun s ρ=> ∃m,m<n∧J m s ρ) (fun m s' ρ' hm hj=>⟨m,hm,hj⟩) ro ds I1 A1 a1 w1 h1 h2 h3) ?_;intro e a2 w2 ⟨I2,A2,ρ2,s2,k1,k2,k3,k4⟩;cases e with
 |normal=>obtain⟨m,hm,hj⟩:=k4;exact⟨m,hm,I2,A2,ρ2,s2,k1,k2,k3,hj⟩
 |exit i=>exact⟨I2,A2,ρ2,s2,k1,k2,k3,k4⟩
 |goto l=>exact⟨I2,A2,ρ2,s2,k1,k2,k3,k4⟩
 |ret=>exact⟨I2,A2,ρ2,s2,k1,k2,k3,k4⟩
 |panic ch=>exact⟨I2,A2,ρ2,s2,k1,k2,k3,k4⟩
 |outgrown=>exact⟨I2,A2,ρ2,s2,k1,k2,k3,k4⟩
theorem xD (L:List Nat) {c:Code} (J:Nat→σ→aN→Prop) (n₀:Nat) (h₀:J n₀ s (keepC L ρ))
  (round: ∀n s ρ,J n s ρ→ ∀K:σ→aN→Prop,(∀m s' ρ',m<n→J m s' (keepC L ρ')→K s' ρ')→oL P nt F c (y3 K Q) s ρ):oL P nt F (.loop c) Q s ρ:=by
 refine jY (Le.keepC L ρ) (bKb (fun n s ρ=> ∃ρ',J n s ρ'∧Le ρ ρ') n₀ ⟨_,h₀,Le.refl _⟩ ?_);rintro n s1 ρ1 ⟨ρ2,hJ,hle⟩ K hK;exact jY hle (round n s1 ρ2 hJ K fun m s' ρ' hm hj=>hK m s' ρ' hm ⟨_,hj,Le.keepC L ρ'⟩)
theorem aBf (K:σ→aN→Prop) (Q:Exit→σ→aN→Prop) (s:σ) (ρ:aN):y3 K Q .normal s ρ=K s ρ:=rfl
theorem aCg (K:σ→aN→Prop) (Q:Exit→σ→aN→Prop) (s:σ) (ρ:aN):y3 K Q .ret s ρ=Q .ret s ρ:=rfl
theorem aXv (K:σ→aN→Prop) (Q:Exit→σ→aN→Prop) (i:Nat) (s:σ) (ρ:aN):y3 K Q (.exit i) s ρ=Q (.exit i) s ρ:=rfl
theorem tC (i:Nat) (Q:Exit→σ→aN→Prop) (s:σ) (ρ:aN):aFu i Q .normal s ρ=Q .normal s ρ:=rfl
theorem uE (i:Nat) (Q:Exit→σ→aN→Prop) (s:σ) (ρ:aN):aFu i Q .ret s ρ=Q .ret s ρ:=rfl
theorem xF (i j:Nat) (Q:Exit→σ→aN→Prop) (s:σ) (ρ:aN):aFu i Q (.exit j) s ρ=if j=i then Q .normal s ρ else Q (.exit j) s ρ:=rfl
def aXj (P:Program) (nt:Nat) (F:σ→World→(Nat→Prop)→dD→Prop) (ops:Array Oper) (o:Oper) (K:σ→aN→Prop) (s:σ) (ρ:aN):Prop:=
 ∀(ro:Option Nat) (ds:List Deferred) I A a w,dB nt w I A ρ a→a.defers=ds→F s w I A→ ∀(next:Act→World→Prop) (Q':Exit→Act→World→Prop),
  (∀I' A' a' w' ρ' s',dB nt w' I' A' ρ' a'→a'.defers=ds→F s' w' I' A'→K s' ρ'→next a' w')→
  if Region.wanted o (yielded ops a.tmps)=true then o.wpIn (FR ro) 0 P a w next Q' else (∀f,o.about P w a.eval=some f→(FR ro).fn f)∧next (a.put o.dst undef) w
theorem dS (hF:bIq F) {ops:Array Oper} {o:Oper} {K:σ→aN→Prop} (h:OW P nt ops o (K s) ρ):aXj P nt F ops o K s ρ:=fun ro ds I A a w hs hd hf next Q' hn=>
 h ro ds I A a w hs hd next Q' fun I' A' a' w' ρ' q1 q2 q3 q4=>hn I' A' a' w' ρ' s q1 q2 (hF _ _ _ _ _ _ _ ρ hs.osim hf q3) q4
def cJw (P:Program) (nt:Nat) (F:σ→World→(Nat→Prop)→dD→Prop) (ops:Array Oper) (k:σ→aN→Prop):List Oper→σ→aN→Prop
 | [],s,ρ=>k s ρ
 |o::os,s,ρ=>aXj P nt F ops o (cJw P nt F ops k os) s ρ
theorem aOo {ro:Option Nat} {ds:List Deferred} {ops:Array Oper} {k:σ→aN→Prop} {Q':Exit→Act→World→Prop}: ∀(l:List Oper) (s:σ) (ρ:aN) (I:Nat→Prop) (A:dD) (a:Act) (w:World),cJw P nt F ops k l s ρ→dB nt w I A ρ a→a.defers=ds→F s w I A→
  (∀I' A' a' w' ρ' s',dB nt w' I' A' ρ' a'→a'.defers=ds→F s' w' I' A'→k s' ρ'→Q' .normal a' w')→wpListIn (FR ro) 0 P ops Q' l a w
 | [],s,ρ,I,A,a,w,h,hs,hd,hf,hk=>hk I A a w ρ s hs hd hf h
 |o::l,s,ρ,I,A,a,w,h,hs,hd,hf,hk=>by
  refine wpListIn_step fun K hK=>h ro ds I A a w hs hd hf K Q' fun I' A' a' w' ρ' s' h1 h2 h3 h4=>hK _ _ ?_;exact aOo l s' ρ' I' A' a' w' h4 h1 h2 h3 hk
theorem uF {id:Nat} {l:List Oper} (h:cJw P nt F l.toArray (Q .normal) l s ρ):oL P nt F (.region id l.toArray false) Q s ρ:=by
 intro ro ds I A a w hs hd hf;exact wpIn_region_lit (aOo l s ρ I A a w h hs hd hf fun I' A' a' w' ρ' s' h1 h2 h3 h4=>⟨I',A',ρ',s',h1,h2,h3,h4⟩)
def bDk (P:Program) (nt:Nat) (F:σ→World→(Nat→Prop)→dD→Prop) (l:List Oper) (k:σ→aN→Prop):Nat→Array Bool→σ→aN→Prop
 |0,listed,s,ρ=>Region.ready .any l.toArray listed=[]∧ ∃ρ',Le ρ ρ'∧k s ρ'
 |fuel+1,listed,s,ρ=> ∃ρ',Le ρ ρ'∧(Region.ready .any l.toArray listed=[]→k s ρ')∧ ∀i∈Region.ready .any l.toArray listed,∃o,l[i]?=some o∧aXj P nt F l.toArray o (bDk P nt F l k fuel (listed.setIfInBounds i true)) s ρ'
theorem aEz {ro:Option Nat} {ds:List Deferred} {l:List Oper} {k:σ→aN→Prop} {Q':Exit→Act→World→Prop}: ∀(fuel:Nat) (listed:Array Bool) (s:σ) (ρ:aN) (I:Nat→Prop) (A:dD) (a:Act) (w:World),
  bDk P nt F l k fuel listed s ρ→dB nt w I A ρ a→a.defers=ds→F s w I A→
  (∀I' A' a' w' ρ' s',dB nt w' I' A' ρ' a'→a'.defers=ds→F s' w' I' A'→k s' ρ'→Q' .normal a' w')→wpAnyIn (FR ro) 0 P .any l.toArray Q' fuel listed a w
 |0,listed,s,ρ,I,A,a,w,h,hs,hd,hf,hk=>by
  obtain⟨h1,ρ',hl,h2⟩:=h;exact⟨h1,hk I A a w ρ' s (hs.weaken hl) hd hf h2⟩
 |fuel+1,listed,s,ρ,I,A,a,w,h,hs,hd,hf,hk=>by
  obtain⟨ρ',hl,h1,h2⟩:=h;have hs:=hs.weaken hl;refine⟨fun h0=>hk I A a w ρ' s hs hd hf (h1 h0),fun i hi=>?_⟩;obtain⟨o,ho,h3⟩:=h2 i hi;unfold wpOpIn;simp only[xR,ho];exact h3 ro ds I A a w hs hd hf _ Q' fun I' A' a' w' ρ'' s'' q1 q2 q3 q4=>aEz fuel _ s'' ρ'' I' A' a' w' q4 q1 q2 q3 hk
theorem bAd (L:List Nat) {id:Nat} {l:List Oper} (hF:bIq F) (hm:P.follows .mixedOrders=true)
  (h: ∀Y:Nat→Array Bool→σ→aN→Prop,
   (∀(n:Nat) (listed:Array Bool) (L:List Nat) (s:σ) (ρ:aN),zR l=true→listed.size=l.length→(∃i,i<l.length∧listed.getD i true=false)→(∀(i:Nat) (o:Oper),listed.getD i true=false→l[i]?=some o→(∀e∈o.after,Region.binds .any e=true→listed.getD e.on false=true)→aXj P nt F l.toArray o (Y n (listed.setIfInBounds i true)) s (keepC L ρ))→Y (n+1) listed s ρ)→
   (∀(listed:Array Bool) (L:List Nat) (s:σ) (ρ:aN),(Region.ready .any l.toArray listed).isEmpty=true→Q .normal s (keepC L ρ)→Y 0 listed s ρ)→Y l.length (Array.replicate l.length false) s (keepC L ρ)):oL P nt F (.region id l.toArray true) Q s ρ:=by
 have hY:=h (bDk P nt F l (Q .normal)) (fun n listed L s ρ p1 p2 p3 q2=>⟨_,Le.keepC L ρ,fun h0=>absurd h0 (aKz p1 p2 p3),fun i hi=>by
   obtain⟨hun,o,ho,hdep⟩:=mem_ready.1 hi;have ho':l[i]?=some o:=by simpa using ho
   exact⟨o,ho',q2 i o hun ho' fun e he hb=>hdep e he hb⟩⟩) (fun listed L s ρ q1 q2=>⟨by simpa using q1,_,Le.keepC L ρ,q2⟩)
 refine jY (Le.keepC L ρ) ?_;intro ro ds I A a w hs hd hf;refine wpIn_region_any hm ?_;have hgr:oT w I w.drew I:=⟨rfl,⟨rfl,xJ _⟩,rfl,bW _,fun _ _=>rfl,fun _ h=>h,fun _ h=>.inl h⟩
 have:=aEz (ro:=ro) (Q':=fun e a' w'=> ∃I' A' ρ' s',dB nt w' I' A' ρ' a'∧a'.defers=ds∧F s' w' I' A'∧Q e s' ρ') _ _ s (keepC L ρ) I A a w.drew hY (hs.grow hgr) hd (hF _ _ _ _ _ _ _ _ hs.osim hf (hgr.ext hs.osim))
  fun I' A' a' w' ρ' s' q1 q2 q3 q4=>⟨I',A',ρ',s',q1,q2,q3,q4⟩
 simpa using this
end
attribute [go_sem] aBf aCg aXv tC uE xF
section
variable {α:Type} {enc:α→List DV} {e:TypeId} {z:Nat} {w0:World} {I0:Nat→Prop} {A0:dD} {G0:Nat→Prop} {P:Program} {nt:Nat} {ρ:aN}
theorem bLc {ops:Array Oper} {o:Oper} {K:List (Rw α)→aN→Prop} {fv:Operand} {args:Array Operand} {ts:Array TypeId} {d:Nat} (hop:o.op=.call ⟨.value fv,args,ts⟩) (hg:o.guard=none) (hdst:o.dst=some d) (hd:d<nt)
  (ho:eJ nt o=true) (hgf:gd (ev ρ fv)) (hga: ∀x∈args.toList,gd (ev ρ x)) {f:FuncId} {l:List DV} (hc:callee (un (ev ρ fv)) (args.toList.map fun x=>un (ev ρ x))=some (f,l)) (hb:aM P f=true)
  {j:Nat} {r:Rw α} {rs s1 s2:List (Rw α)} (hj:l[j]?=some (.v r.val)) (hr:rs=s1++r::s2∨(r=aEr α∧rs=s1++s2)) {R:List α→Prop}
  (hm:aQp P ρ f (l.set j .any) j e z (r.l.map enc) (fun ys=> ∃l',ys=l'.map enc∧R l')) (hK: ∀r':Rw α,R r'.l→K (s1++r'::s2) (set ρ d (.v r'.val))):aXj P nt (Fo enc e z w0 I0 A0 G0) ops o K rs ρ:=by
 intro ro ds I A a w hs hdf hf next Q' hn
 obtain⟨vals,h1,h2,h3⟩:=nI hs hop ho hgf hga hc hb;rw[if_pos (by simp[Region.wanted,hg])];refine tG h1 ?_;have hjl:j<l.length:=by
  rcases b9 j l.length with h|h
  ·exact h
  rw[fN h] at hj;cases hj
 have hvj:vals[j]?=some r.val:=by
  have hv:vals[j]?=some (vals[j]'(by omega)):=iY aV;have:=h3 j _ _ hj hv;rw[hv];generalize vals[j]'(by omega)=u at this;cases this;rfl
 obtain⟨f1,f2,f3,f4⟩:=hf;have hrow:rK enc e z w I A r:=by
  rcases hr with rfl|⟨rfl,_⟩
  ·exact f1 r dH
  exact⟨lY _,⟨rfl,rfl⟩,fun g hg=>by cases hg⟩
 have hmem: ∀x,x∈s1++s2→x∈rs:=fun x hx=>by
  rcases hr with rfl|⟨_,rfl⟩
  ·simp at hx ⊢;rcases hx with h|h
   ·exact .inl h
   exact .inr (.inr h)
  exact hx
 have hapart: ∀x∈s1++s2,∀g,r.B=some g→x.B≠some g:=fun x hx g hg=>by
  rcases hr with rfl|⟨rfl,_⟩
  ·rw[oI] at f2;rcases iV.1 hx with h|h
   ·intro hxg;exact f2.2.2 x h r dH g hxg hg
   exact (lZ.1 f2.2.1).1 x h g hg
  cases hg
 refine (hm w I A vals r.B r.c r.b hs.osim (by rw[aDh];exact h2) (fun i d u hd hu=>by
  by_cases hij:j=i
  ·subst hij;rw[List.getElem?_set_self hjl] at hd;cases hd;exact .any _ _
  rw[List.getElem?_set_ne hij] at hd;exact h3 i d u hd hu) (by rw[hvj];unfold Rw.val;rw[cJ]) hrow.base hrow.row hrow.free).mono ?_
 rintro en w' ⟨b',I',ys,B',c',rfl,m1,m2,m3,⟨l',rfl,mR⟩,m5,m6,m7,m8,m9,m10,m11⟩;obtain⟨r',hr'⟩: ∃r':Rw α,r'=⟨B',b',c',l'⟩:=⟨_,rfl⟩;have hval:(Value.slice b' (l'.map enc).length c')=r'.val:=by rw[hr'];unfold Rw.val;rw[cJ]
 have hset: ∀g,I g→I' g∧w'.heap[g]?=w.heap[g]?:=fun g hg=>⟨m9 g hg,(m10 g (hs.osim.imm g hg) (fun s c hc=>(hs.osim.sep s g c hc).2 hg) fun hB=>(hrow.free g hB).2.1 hg).1⟩;have hrel: ∀B d x,bP w I B d x→bP w' I' B d x:=fun B d x hr=>hr.mono fun g hg=>⟨(hset g hg).1,fun o=>eD (hset g hg).2 o⟩;have hs':dB nt w' I' A ρ a:=⟨m2,hs.size,hs.bound,fun i hi=>(hs.slot i hi).keep hrel,hs.out⟩;have hs2:=hs'.put (d:=d) (v:=.v r'.val) (x:=r'.val) hd (.ofRel (.v A _)) trivial;rw[hdst];show next (a.put (some d) (Value.slice b' (l'.map enc).length c')) w'
 rw[hval];refine hn I' A _ w' _ _ hs2 (by rw[gT];exact hdf) ?_ (hK r' (by rw[hr'];exact mR));have hothers: ∀x∈s1++s2,rK enc e z w' I' A x∧ ∀g,x.B=some g→g<w.heap.size:=fun x hx=>by
  have hx1:=f1 x (hmem x hx);have hold: ∀g,x.B=some g→w'.heap[g]?=w.heap[g]?∧(I' g→I g):=fun g hg=>m10 g (hx1.free g hg).1 (hx1.free g hg).2.2 fun hB=>hapart x hx g hB hg;exact⟨⟨hx1.base,hx1.row.of (fun g hg=>(hold g hg).1) fun d u hr=>hrel _ _ _ hr,fun g hg=>⟨eE (hx1.free g hg).1 m8,fun hi=>(hx1.free g hg).2.1 ((hold g hg).2 hi),(hx1.free g hg).2.2⟩⟩,fun g hg=>(hx1.free g hg).1⟩
 have hr'row:rK enc e z w' I' A r':=by
  rw[hr'];exact⟨m1,m3,fun g hg=>⟨(m11 g hg).2.1,(m11 g hg).2.2.1,(m11 g hg).2.2.2⟩⟩
 have hnew: ∀x∈s1++s2,∀g,r'.B=some g→x.B≠some g:=fun x hx g hg hxg=>by
  rw[hr'] at hg;rcases (m11 g hg).1 with h|h
  ·have:=(hothers x hx).2 g hxg;omega
  exact hapart x hx g h hxg
 have hmem2: ∀x∈s1++r'::s2,x=r'∨x∈s1++s2:=fun x hx=>by
  simp at hx ⊢;rcases hx with h|h|h
  ·exact .inr (.inl h)
  ·exact .inl h
  exact .inr (.inr h)
 have hpair:(s1++s2).Pairwise fun x y=> ∀g,x.B=some g→y.B≠some g:=by
  rcases hr with rfl|⟨_,rfl⟩
  ·exact f2.sublist (List.Sublist.append (List.Sublist.refl _) (List.sublist_cons_self _ _))
  exact f2
 refine⟨fun x hx=>?_,?_,fun x hx g hg=>?_,?_⟩
 ·rcases hmem2 x hx with rfl|h
  ·exact hr'row
  exact (hothers x h).1
 ·rw[oI] at hpair ⊢;refine⟨hpair.1,lZ.2 ⟨fun y hy g hg=>hnew y (by simp[hy]) g hg,hpair.2.1⟩,fun x hx y hy g hg hy'=>?_⟩;rcases gN.1 hy with rfl|hy
  ·exact hnew x (by simp[hx]) g hy' hg
  exact hpair.2.2 x hx y hy g hg hy'
 ·rcases hmem2 x hx with rfl|h
  ·rw[hr'] at hg;rcases (m11 g hg).1 with h|h
   ·exact .inr (eL f4.size h)
   rcases hr with rfl|⟨rfl,_⟩
   ·exact f3 r dH g h
   cases h
  exact f3 x (hmem x h) g hg
 refine⟨m5.trans f4.os,⟨m6.1.trans f4.tape.1,eL f4.tape.2 m6.2⟩,m7.trans f4.output,eL f4.size m8,fun g hg=>m9 g (f4.imm g hg),fun g hg hA hG=>?_,f4.outA⟩;obtain⟨k1,k2,k3⟩:=f4.old g hg hA hG;obtain⟨n1,n2⟩:=m10 g (eE hg f4.size) k3 fun hB=>by
  rcases hr with rfl|⟨rfl,_⟩
  ·rcases f3 r dH g hB with h|h
   ·exact hG h
   omega
  cases hB
 exact⟨n1.trans k1,fun h=>k2 (n2 h),k3⟩
theorem dB.foSettle {rs s1 s2:List (Rw α)} {r:Rw α} {w:World} {I:Nat→Prop} {A:dD} {a:Act} {d:Nat} (hs:dB nt w I A ρ a) (hdn:d<nt) (hρ:ρ d=.v r.val) (hf:Fo enc e z w0 I0 A0 G0 rs w I A)
  (hr:rs=s1++r::s2∨(r=aEr α∧rs=s1++s2)): ∃I',dB nt w I' A (set ρ d (Sg.frz z (r.l.map enc))) a∧Fo enc e z w0 I0 A0 G0 (s1++s2) w I' A:=by
 obtain⟨f1,f2,f3,f4⟩:=hf;have hrow:rK enc e z w I A r:=by
  rcases hr with rfl|⟨rfl,_⟩
  ·exact f1 r dH
  exact⟨lY _,⟨rfl,rfl⟩,fun g hg=>by cases hg⟩
 have hmem: ∀x,x∈s1++s2→x∈rs:=fun x hx=>by
  rcases hr with rfl|⟨_,rfl⟩
  ·simp at hx ⊢;rcases hx with h|h
   ·exact .inl h
   exact .inr (.inr h)
  exact hx
 have hapart: ∀x∈s1++s2,∀g,r.B=some g→x.B≠some g:=fun x hx g hg=>by
  rcases hr with rfl|⟨rfl,_⟩
  ·rw[oI] at f2;rcases iV.1 hx with h|h
   ·intro hxg;exact f2.2.2 x h r dH g hxg hg
   exact (lZ.1 f2.2.1).1 x h g hg
  cases hg
 have hpair:(s1++s2).Pairwise fun x y=> ∀g,x.B=some g→y.B≠some g:=by
  rcases hr with rfl|⟨_,rfl⟩
  ·exact f2.sublist (List.Sublist.append (List.Sublist.refl _) (List.sublist_cons_self _ _))
  exact f2
 have hmono: ∀(B':dD) d x,bP w I B' d x→bP w (fun g=>I g∨r.B=some g) B' d x:=fun B' d x hr=>hr.mono fun g hg=>⟨.inl hg,fun _=>rfl⟩;refine⟨fun g=>I g∨r.B=some g,⟨⟨fun t=>?_,hs.osim.inj,fun t g c' hA=>⟨(hs.osim.sep t g c' hA).1,fun hi=>hi.elim (hs.osim.sep t g c' hA).2 fun hb=>(hrow.free g hb).2.2 t c' hA⟩,hs.osim.imm.step (fun g hg=>hg.elim (hs.osim.imm g) fun hb=>(hrow.free g hb).1) fun g hg=>⟨.inl hg,rfl⟩⟩,hs.size,hs.bound,fun i hi=>?_,fun t ht=>?_⟩,?_⟩
 ·rw[aK];split
  ·trivial
  exact (hs.osim.own t).keep (fun _ _ _=>rfl) hmono
 ·rw[aK];split
  ·rename_i e1;subst e1;have:=hs.slot i hi;rw[hρ] at this;generalize a.tmps.getD i undef=x at this ⊢;have this:bP w I A (.v r.val) x:=this;cases this;have h:=hrow.row.frz (I':=fun g=>I g∨r.B=some g) (fun g hg=>.inr hg) (fun g hg=>.inl hg) (A:=A) hrow.base;rw[cJ] at h;exact .ofRel h
  exact (hs.slot i hi).keep hmono
 ·rw[aK,if_neg (by have:=hs.bound;omega)];exact hs.out t ht
 refine⟨fun x hx=>?_,hpair,fun x hx=>f3 x (hmem x hx),⟨f4.os,f4.tape,f4.output,f4.size,fun g hg=>.inl (f4.imm g hg),fun g hg hA hG=>?_,f4.outA⟩⟩
 ·have hx1:=f1 x (hmem x hx);exact⟨hx1.base,hx1.row.of (fun _ _=>rfl) fun d u hr=>hmono _ _ _ hr,fun g hg=>⟨(hx1.free g hg).1,fun hi=>hi.elim (hx1.free g hg).2.1 fun hb=>hapart x hx g hb hg,(hx1.free g hg).2.2⟩⟩
 obtain⟨k1,k2,k3⟩:=f4.old g hg hA hG;refine⟨k1,fun h=>h.elim k2 fun hb=>?_,k3⟩;rcases hr with rfl|⟨rfl,_⟩
 ·rcases f3 r dH g hb with h|h
  ·exact absurd h hG
  omega
 cases hb
theorem bCa {rs s1 s2:List (Rw α)} {r:Rw α} {c:Code} {Q:Exit→List (Rw α)→aN→Prop} (d:Nat) (hdn:d<nt) (hρ:ρ d=.v r.val) (hr:rs=s1++r::s2∨(r=aEr α∧rs=s1++s2))
  (h:oL P nt (Fo enc e z w0 I0 A0 G0) c Q (s1++s2) (set ρ d (Sg.frz z (r.l.map enc)))):oL P nt (Fo enc e z w0 I0 A0 G0) c Q rs ρ:=fun ro ds I A a w hs hd hf=>by
 obtain⟨I',h1,h2⟩:=hs.foSettle hdn hρ hf hr;exact h ro ds I' A a w h1 hd h2
end
end Go.Sg
namespace Go.Sg
open Go.Proofs
section
variable {tr:List bR} {c:Cl}
theorem Gt.trans {a b d:Pl} (h:Gt tr a b) (k:Gt tr b d):Gt tr a d:=by
 obtain⟨p,h1,h2,h3⟩:=h;obtain⟨q,k1,k2,k3⟩:=k;rcases Nat.lt_trichotomy p q with g|g|g
 ·exact⟨p,h1,by have:=k3 p g;omega,fun r hr=>(h3 r hr).trans (k3 r aV)⟩
 ·subst g;exact⟨p,h1,by omega,fun r hr=>(h3 r hr).trans (k3 r hr)⟩
 exact⟨q,k1,by have:=h3 q g;omega,fun r hr=>(h3 r aV).trans (k3 r hr)⟩
theorem Gt.irr {a:Pl} (h:Gt tr a a):False:=by
 obtain⟨p,_,h2,_⟩:=h;omega
def dnA (a:Pl) (i:Nat):Pl:=lK a i (a i-1)
theorem cNl (a:Pl) (i:Nat):dnA (lK a i (a i+1)) i=a:=by
 funext x;unfold dnA lK;by_cases e:x=i
 ·subst e;simp
 simp[e]
open Classical in
noncomputable def viN (tr:List bR) (at_ a:Pl):Nat→Nat
 |0=>0
 |m+1=>viN tr at_ a m+if 1≤a m∧Gt tr at_ (dnA a m) then 1 else 0
theorem cFd {at_ a:Pl}: ∀m,viN tr at_ a m≤m
 |0=>bW _
 |m+1=>by have:= @cFd at_ a m;unfold viN;split<;>omega
theorem aTt {at_ b a:Pl} (h:Gt tr b at_): ∀m,viN tr at_ a m≤viN tr b a m
 |0=>bW _
 |m+1=>by
  have:=aTt (a:=a) h m;unfold viN;split
  ·rename_i q;rw[if_pos ⟨q.1,h.trans q.2⟩];omega
  split<;>omega
theorem bGg {at_ b a:Pl} (h:Gt tr b at_) {j:Nat} (hj:1≤a j) (hd:dnA a j=at_): ∀m,j<m→viN tr at_ a m+1≤viN tr b a m
 |0,hm=>by omega
 |m+1,hm=>by
  unfold viN;by_cases e:j=m
  ·subst e;have:=aTt (a:=a) h j;rw[if_neg (fun q=>by rw[hd] at q;exact q.2.irr),if_pos ⟨hj,by rw[hd];exact h⟩];omega
  have:=bGg h hj hd m aV;split
  ·rename_i q;rw[if_pos ⟨q.1,h.trans q.2⟩];omega
  split<;>omega
noncomputable def bdN (tr:List bR) (at_ a:Pl):Nat:=viN tr at_ a tr.length*4^(sA a-1)+(1-sA a)
theorem cAw {at_ b a:Pl} (h:Gt tr b at_):bdN tr at_ a≤bdN tr b a:=by
 have:=gF (4^(sA a-1)) (aTt (a:=a) h tr.length);unfold bdN;omega
theorem bTn (ho:Ok tr) {at_ a:Pl} (ha:Vp tr a):bdN tr at_ a≤4^sA a:=by
 have hn:=ho.n;unfold bdN;rcases nL (sA a) with h|h
 ·have hz: ∀m,m≤tr.length→viN tr at_ a m=0:=by
   intro m
   induction m with
   |zero=>intro _;rfl
   |succ m ih=>
    intro hm;have hm0:a m=0:=by
     unfold sA at h;rcases (show m=0∨m=1∨m=2∨m=3 by omega) with rfl|rfl|rfl|rfl<;>omega
    unfold viN;rw[ih aV,if_neg aV]
  rw[hz _ (bW _),h];simp
 obtain⟨q,hq⟩: ∃q,sA a=q+1:=⟨sA a-1,by omega⟩;rw[hq,xN,Nat.pow_succ];have h1:=cFd (tr:=tr) (at_:=at_) (a:=a) tr.length;have h2:viN tr at_ a tr.length*4^q≤4*4^q:=gF _ aV;have h3:1-(q+1)=0:=by omega
 rw[h3,oE (4^q) 4];omega
theorem cPy (ho:Ok tr) {at_ b:Pl} {j:Nat} (hj:j<tr.length) (h:Gt tr b at_):bdN tr at_ (lK at_ j (at_ j+1))+4^sA at_≤bdN tr b (lK at_ j (at_ j+1)):=by
 have hn:=ho.n;have hs:=cKs (a:=at_) (i:=j) aV;have:=bGg (a:=lK at_ j (at_ j+1)) h (j:=j) (by simp[lK]) (cNl at_ j) tr.length hj;unfold bdN;rw[hs,xN];have h2:=gF (4^sA at_) this;rw[jV] at h2;omega
abbrev Mp:=List (Pl×Rw Dr)
structure aGu (tr:List bR) (c:Cl) (kn:Dr) (at_:Pl) (M:Mp) (best:Dr):Prop where
 key: ∀x∈M,Ge tr x.1 at_∧Vp tr x.1
 rch: ∀x∈M,∀d∈x.2.l,vA tr c x.1 d
 un:M.Pairwise fun x y=>x.1≠y.1
 nb: ∀x∈M,x.2.l.length≤bdN tr at_ x.1
 full:nD tr c best
structure nW (tr:List bR) (c:Cl) (kn:Dr) (at_:Pl) (M:Mp) (best:Dr) (k i:Nat) (Cu:Pl→Dr→Prop):Prop where
 key: ∀x∈M,Gt tr x.1 at_∧Vp tr x.1
 rch: ∀x∈M,∀d∈x.2.l,vA tr c x.1 d
 un:M.Pairwise fun x y=>x.1≠y.1
 nb: ∀x∈M,(∀j,j<tr.length→x.1≠lK at_ j (at_ j+1))→x.2.l.length≤bdN tr at_ x.1
 nc: ∀x∈M,∀j,j<tr.length→x.1=lK at_ j (at_ j+1)→x.2.l.length≤bdN tr at_ x.1+k+if j<i then 1 else 0
 full:nD tr c best
theorem aGu.len (ho:Ok tr) {kn:Dr} {at_:Pl} {M:Mp} {best:Dr} (h:aGu tr c kn at_ M best) {x:Pl×Rw Dr} (hx:x∈M):x.2.l.length≤4^sA x.1:=eL (h.nb x hx) (bTn ho (h.key x hx).2)
theorem aGu.visit (ho:Ok tr) {kn:Dr} {at_:Pl} {M M':Mp} {best:Dr} {fs:List Dr} (h:aGu tr c kn at_ M best)
  (hM:(M'=M∧(∀x∈M,x.1≠at_)∧fs=[])∨ ∃M1 r M2,M=M1++(at_,r)::M2∧M'=M1++M2∧fs=r.l):nW tr c kn at_ M' best 0 0 (fun a e=>a=at_∧e∈fs.drop 0)∧(∀d∈fs,vA tr c at_ d)∧(fs.length≤4^sA at_):=by
 have hsub: ∀x∈M',x∈M∧x.1≠at_:=fun x hx=>by
  rcases hM with ⟨rfl,h2,_⟩|⟨M1,r,M2,rfl,rfl,_⟩
  ·exact⟨hx,h2 x hx⟩
  have hu:=h.un;rw[oI,lZ] at hu;rcases iV.1 hx with q|q
  ·exact⟨by simp[q],hu.2.2 x q (at_,r) dH⟩
  exact⟨by simp[q],fun e=>hu.2.1.1 x q e.symm⟩
 refine⟨⟨fun x hx=>?_,fun x hx=>h.rch x (hsub x hx).1,?_,fun x hx _=>h.nb x (hsub x hx).1,fun x hx j _ _=>by have:=h.nb x (hsub x hx).1;omega,h.full⟩,fun d hd=>?_,?_⟩
 ·obtain⟨h1,h2⟩:=hsub x hx;exact⟨(h.key x h1).1.resolve_left h2,(h.key x h1).2⟩
 ·rcases hM with ⟨rfl,_,_⟩|⟨M1,r,M2,rfl,rfl,_⟩
  ·exact h.un
  exact h.un.sublist (List.Sublist.append (List.Sublist.refl _) (List.sublist_cons_self _ _))
 ·rcases hM with ⟨_,_,rfl⟩|⟨M1,r,M2,rfl,_,rfl⟩
  ·cases hd
  exact h.rch (at_,r) dH d hd
 rcases hM with ⟨_,_,rfl⟩|⟨M1,r,M2,rfl,_,rfl⟩
 ·simp
 exact h.len ho (x:=(at_,r)) dH
variable {kn:Dr} {at_:Pl} {M M':Mp} {best:Dr} {k i:Nat} {fs:List Dr} {d:Dr}
theorem nW.take (ho:Ok tr) (hr:vA tr c at_ d) (hf:fs.drop k=d::fs.drop (k+1)) (h:nW tr c kn at_ M best k 0 (fun a e=>a=at_∧e∈fs.drop k)):
  nW tr c kn at_ M (if alB tr at_=true∧beB tr d best=true then d else best) k 0 (fun a e=>(a=at_∧e∈fs.drop (k+1))∨NxZ tr c at_ d 0 a e):=by
 refine⟨h.key,h.rch,h.un,h.nb,h.nc,?_⟩;split
 ·rename_i q;have:at_=enA tr:=by
   funext p;unfold enA;have hp:=hr.pk ho;split
   ·rename_i hpl;have:=cFk.1 q.1 p hpl;have:=hp.1 p hpl;omega
   rename_i hpl;exact hp.2 p aV
  rw[this] at hr;exact hr
 exact h.full
theorem nW.imp (ho:Ok tr)
  (h:nW tr c kn at_ M best k i (fun a e=>(a=at_∧e∈fs.drop (k+1))∨NxZ tr c at_ d i a e)):nW tr c kn at_ M best k (i+1) (fun a e=>(a=at_∧e∈fs.drop (k+1))∨NxZ tr c at_ d (i+1) a e):=by
 refine⟨h.key,h.rch,h.un,h.nb,fun x hx j hj he=>?_,h.full⟩;have:=h.nc x hx j hj he;split at this<;>split<;>omega
theorem nW.skip (ho:Ok tr) (he:at_ i=(tr.getD i default).xAb.length) (h:nW tr c kn at_ M best k i (fun a e=>(a=at_∧e∈fs.drop (k+1))∨NxZ tr c at_ d i a e)):
  nW tr c kn at_ M best k (i+1) (fun a e=>(a=at_∧e∈fs.drop (k+1))∨NxZ tr c at_ d (i+1) a e):=h.imp ho
theorem nW.prune (ho:Ok tr) (hb:beB tr kn (plD tr c d at_ i)=true) (h:nW tr c kn at_ M best k i (fun a e=>(a=at_∧e∈fs.drop (k+1))∨NxZ tr c at_ d i a e)):
  nW tr c kn at_ M best k (i+1) (fun a e=>(a=at_∧e∈fs.drop (k+1))∨NxZ tr c at_ d (i+1) a e):=h.imp ho
theorem nW.add (ho:Ok tr) (hr:vA tr c at_ d) (hi:i<tr.length) (hai:at_ i<(tr.getD i default).xAb.length) {r':Rw Dr} {old:List Dr}
  (hM:(M'=M++[(lK at_ i (at_ i+1),r')]∧(∀x∈M,x.1≠lK at_ i (at_ i+1))∧old=[])∨ ∃M1 r M2,M=M1++(lK at_ i (at_ i+1),r)::M2∧M'=M1++(lK at_ i (at_ i+1),r')::M2∧old=r.l)
  (hl:r'.l=aIw tr old (plD tr c d at_ i) (lK at_ i (at_ i+1))) (h:nW tr c kn at_ M best k i (fun a e=>(a=at_∧e∈fs.drop (k+1))∨NxZ tr c at_ d i a e)):
  nW tr c kn at_ M' best k (i+1) (fun a e=>(a=at_∧e∈fs.drop (k+1))∨NxZ tr c at_ d (i+1) a e):=by
 generalize hnx:lK at_ i (at_ i+1)=nx at*;have hrn:vA tr c nx (plD tr c d at_ i):=hnx▸vA.s hr hi hai;have hgt:Gt tr nx at_:=hnx▸Gt.up hi (.inl rfl);have hmem: ∀x∈M',x=(nx,r')∨(x∈M∧x.1≠nx):=fun x hx=>by
  rcases hM with ⟨rfl,h2,_⟩|⟨M1,r,M2,rfl,rfl,_⟩
  ·rw[iV,lH] at hx;rcases hx with q|q
   ·exact .inr ⟨q,h2 x q⟩
   exact .inl q
  have hu:=h.un;rw[oI,lZ] at hu;rw[iV,gN] at hx;rcases hx with q|q|q
  ·exact .inr ⟨by simp[q],hu.2.2 x q (nx,r) dH⟩
  ·exact .inl q
  exact .inr ⟨by simp[q],fun e=>hu.2.1.1 x q e.symm⟩
 have hold: ∀e∈old,vA tr c nx e:=fun e he=>by
  rcases hM with ⟨_,_,rfl⟩|⟨M1,r,M2,rfl,_,rfl⟩
  ·cases he
  exact h.rch (nx,r) dH e he
 have hlen:(aIw tr old (plD tr c d at_ i) nx).length≤old.length+1:=by
  unfold aIw;split
  ·omega
  rw[fP];have:=aHv (fun e=> !cvB tr (plD tr c d at_ i) e nx) old;simp;omega
 refine⟨fun x hx=>?_,fun x hx e he=>?_,?_,fun x hx hne=>?_,fun x hx j hj he=>?_,h.full⟩
 ·rcases hmem x hx with rfl|⟨q,_⟩
  ·exact⟨hgt,hrn.vp ho⟩
  exact h.key x q
 ·rcases hmem x hx with rfl|⟨q,_⟩
  ·have he:e∈r'.l:=he;rw[hl] at he;rcases bSl he with q|q
   ·exact hold e q
   rw[q];exact hrn
  exact h.rch x q e he
 ·rcases hM with ⟨rfl,h2,_⟩|⟨M1,r,M2,rfl,rfl,_⟩
  ·rw[oI];exact⟨h.un,by simp,fun x hx y hy=>by simp at hy;subst hy;exact h2 x hx⟩
  have hu:=h.un;rw[oI,lZ] at hu ⊢;refine⟨hu.1,⟨fun y hy=>hu.2.1.1 y hy,hu.2.1.2⟩,fun x hx y hy=>?_⟩;rcases gN.1 hy with rfl|hy
  ·exact hu.2.2 x hx (nx,r) dH
  exact hu.2.2 x hx y (by simp[hy])
 ·rcases hmem x hx with rfl|⟨q,_⟩
  ·exact absurd hnx.symm (hne i hi)
  exact h.nb x q hne
 rcases hmem x hx with rfl|⟨q,hq⟩
 ·have hji:j=i:=by
   refine aIp fun hne=>?_;have:=congrFun (he.trans rfl) i;simp only at this;rw[← hnx] at this;simp[lK,show i≠j from fun e=>hne e.symm] at this
  subst hji;rw[if_pos aV];show r'.l.length≤_;rw[hl];have hob:old.length≤bdN tr at_ nx+k:=by
   rcases hM with ⟨_,_,rfl⟩|⟨M1,r,M2,rfl,_,rfl⟩
   ·simp
   have:=h.nc (nx,r) dH j hj he;rw[if_neg aV] at this;simpa using this
  show (aIw tr old (plD tr c d at_ j) nx).length≤bdN tr at_ nx+k+1;omega
 have:=h.nc x q j hj he;split at this<;>split<;>omega
theorem nW.next (ho:Ok tr) (h:nW tr c kn at_ M best k tr.length (fun a e=>(a=at_∧e∈fs.drop (k+1))∨NxZ tr c at_ d tr.length a e)):nW tr c kn at_ M best (k+1) 0 (fun a e=>a=at_∧e∈fs.drop (k+1)):=
 ⟨h.key,h.rch,h.un,h.nb,fun x hx j hj he=>by
  have:=h.nc x hx j hj he;rw[if_pos hj] at this;rw[if_neg aV];omega,h.full⟩
theorem nW.done (ho:Ok tr) (hk:fs.length≤k) (hkb:k≤4^sA at_) (h:nW tr c kn at_ M best k 0 (fun a e=>a=at_∧e∈fs.drop k)) {b:Pl} (hb:Gt tr b at_) (hge: ∀a,Vp tr a→Gt tr a at_→Ge tr a b):aGu tr c kn b M best:=by
 refine⟨fun x hx=>⟨hge _ (h.key x hx).2 (h.key x hx).1,(h.key x hx).2⟩,h.rch,h.un,fun x hx=>?_,h.full⟩;by_cases e: ∃j,j<tr.length∧x.1=lK at_ j (at_ j+1)
 ·obtain⟨j,hj,he⟩:=e;have h1:=h.nc x hx j hj he;rw[if_neg aV] at h1;have h2:=cPy ho hj hb;rw[← he] at h2;omega
 exact eL (h.nb x hx fun j hj he=>e ⟨j,hj,he⟩) (cAw hb)
theorem nW.last (ho:Ok tr) (hk:fs.length≤k) (h:nW tr c kn at_ M best k 0 (fun a e=>a=at_∧e∈fs.drop k)) (hf: ∀q,q<tr.length→at_ q=(tr.getD q default).xAb.length):nD tr c best∧ ∀f,nD tr c f→True:=⟨h.full,fun _ _=>trivial⟩
theorem aGu.begin (ho:Ok tr) (hk:nD tr c kn) {r:Rw Dr} (hr:r.l=[bgD tr]):aGu tr c kn (fun _=>0) [((fun _=>0),r)] kn:=by
 refine⟨fun x hx=>?_,fun x hx d hd=>?_,by simp,fun x hx=>?_,hk⟩<;>(simp only[lH] at hx;subst hx)
 ·exact⟨.inl rfl,fun _ _=>nJ _,fun _ _=>rfl⟩
 ·rw[hr] at hd;simp at hd;subst hd;exact .b
 show r.l.length≤_;rw[hr];unfold bdN;simp[sA]
end
end Go.Sg
namespace Go.Sg
open Go.RowKit
open Go.Rv (FR depth_FR callsIn_FR roundIn_FR room_FR)
def Hid (g:Nat) (o:Obj) (w:World) (I:Nat→Prop) (A:dD):Prop:=w.heap[g]?=some o∧ ¬I g∧ ∀s c,A s≠some (some g,c)
section
variable {w w':World} {I I':Nat→Prop} {A A':dD} {g:Nat} {o:Obj} {nt:Nat} {ρ:aN} {a:Act}
theorem bZw {k:Nat} {x:Obj} (h:w.heap[k]?=some x):k<w.heap.size:=by
 rcases b9 k w.heap.size with h'|h'
 ·exact h'
 rw[aJt h'] at h;cases h
theorem Hid.lt (h:Hid g o w I A):g<w.heap.size:=bZw h.1
theorem Hid.ext (h:Hid g o w I A) (k:f8 w I A w' I' A'):Hid g o w' I' A':=
 let ⟨h1,h2,h3⟩:=k.old g h.lt h.2.2
 ⟨h1.trans h.1,fun x=>h.2.1 (h2 x),h3⟩
theorem aVx {o':Obj} (hI: ¬I g) {k:Nat} (hk:I k):(w.putObj g o').heap[k]?=w.heap[k]?:=World.putObj_heap_other fun e=>hI (e▸hk)
theorem bP.aside {o':Obj} (hI: ¬I g) {B:dD} {d:DV} {x:Value} (h:bP w I B d x):bP (w.putObj g o') I B d x:=h.mono fun k hk=>⟨hk,fun j=>eD (aVx hI hk) j⟩
theorem jI.aside (hs:jI w I A ρ) (h:Hid g o w I A) (o':Obj):jI (w.putObj g o') I A ρ where
 own:=fun s=>(hs.own s).keep (fun k c hk=>World.putObj_heap_other fun e=>h.2.2 s c (e▸hk)) fun B d x=>bP.aside h.2.1
 inj:=hs.inj
 sep:=fun s k c hk=>⟨by rw[World.putObj_size];exact (hs.sep s k c hk).1,(hs.sep s k c hk).2⟩
 imm:=hs.imm.step (fun k hk=>by rw[World.putObj_size];exact hs.imm k hk) fun k hk=>⟨hk,aVx h.2.1 hk⟩
theorem dB.aside (hs:dB nt w I A ρ a) (h:Hid g o w I A) (o':Obj):dB nt (w.putObj g o') I A ρ a:=
 ⟨hs.osim.aside h o',hs.size,hs.bound,fun i hi=>(hs.slot i hi).keep fun B d x=>bP.aside h.2.1,hs.out⟩
theorem Hid.put (h:Hid g o w I A) (o':Obj):Hid g o' (w.putObj g o') I A:=⟨World.putObj_heap_same h.lt,h.2⟩
theorem Hid.other {k:Nat} {x:Obj} (h:Hid k x w I A) (hk:k≠g) (o':Obj):Hid k x (w.putObj g o') I A:=⟨(World.putObj_heap_other hk).trans h.1,h.2⟩
theorem rK.aside {α:Type} {enc:α→List DV} {e:TypeId} {z:Nat} {r:Rw α} (h:rK enc e z w I A r) (hg:Hid g o w I A) (hr:r.B≠some g) (o':Obj):rK enc e z (w.putObj g o') I A r where
 base:=h.base
 row:=h.row.of (fun k hk=>World.putObj_heap_other fun e=>hr (e▸hk)) fun d x=>bP.aside hg.2.1
 free:=fun k hk=>⟨by rw[World.putObj_size];exact (h.free k hk).1,(h.free k hk).2⟩
theorem rK.ne {α:Type} {enc:α→List DV} {e:TypeId} {z:Nat} {r:Rw α} (h:rK enc e z w I A r) (hg:w.heap[g]?=some o) (ho: ∀us et q,o≠ .cells us et q):r.B≠some g:=fun hr=>by
 have:=h.row;rw[hr] at this;obtain⟨us,h1,_⟩:=this;rw[hg] at h1;exact ho _ _ _ (dO h1)
end
theorem dB.give {α:Type} {enc:α→List DV} {e:TypeId} {z:Nat} {nt:Nat} {w w0:World} {I I0:Nat→Prop} {A A0:dD} {G0:Nat→Prop} {ρ:aN} {a:Act} {rs:List (Rw α)} {d:Nat} {l:List α} (hs:dB nt w I A ρ a) (hf:Fo enc e z w0 I0 A0 G0 rs w I A) (hd:d<nt)
  (hρ:ρ d=.row e z (l.map enc)) (hnew: ∀g c,A d=some (some g,c)→w0.heap.size≤g): ∃r:Rw α,r.l=l∧dB nt w I (kC A d none) (set (d4 d ρ) d (.v r.val)) a∧Fo enc e z w0 I0 A0 G0 (rs++[r]) w I (kC A d none):=by
 have hsl:=hs.slot d hd;have ho:=hs.osim.own d;have hd2:d<100000:=eE hd hs.bound;rw[hρ] at hsl ho;obtain⟨B,c,hA,b,hb,hx⟩:=hsl;obtain⟨B',c',hA',hrow⟩:=ho;rw[hA] at hA';simp only[bX,cF] at hA';obtain⟨rfl,rfl⟩:=hA';have hup: ∀t,t≠d→kC A d none t=A t:=fun t h=>fF A _ h;have hno: ∀t g c',kC A d none t=some (some g,c')→t≠d∧A t=some (some g,c'):=fun t g c' h=>by
  unfold kC at h;split at h
  ·cases h
  rename_i h';exact⟨h',h⟩
 have hsep: ∀g,B=some g→g<w.heap.size∧ ¬I g∧ ∀s c',kC A d none s≠some (some g,c'):=fun g hg=>by
  have h1:=hs.osim.sep d g c (by rw[hA,hg]);refine⟨h1.1,h1.2,fun s c' h=>?_⟩;obtain⟨h2,h3⟩:=hno s g c' h;exact h2 (hs.osim.inj s d g c' c h3 (by rw[hA,hg]))
 refine⟨⟨B,b,c,l⟩,rfl,⟨⟨fun s=>?_,fun s t g c1 c2 h1 h2=>?_,fun s g c1 h=>?_,hs.osim.imm⟩,hs.size,hs.bound,fun i hi=>?_,fun s h=>?_⟩,?_⟩
 ·unfold set;split
  ·trivial
  rename_i h;rw[fT hd2 (hs.out s)];exact (hs.osim.own s).reown h hup
 ·exact hs.osim.inj s t g c1 c2 (hno s g c1 h1).2 (hno t g c2 h2).2
 ·exact hs.osim.sep s g c1 (hno s g c1 h).2
 ·unfold set;split
  ·rename_i h;subst h;rw[hx];have:(Value.slice b (l.map enc).length c)=(Rw.val ⟨B,b,c,l⟩:Value):=by unfold Rw.val;rw[cJ]
   rw[this];exact .ofRel (.v _ _)
  rename_i h;rw[fT hd2 (hs.out i)];exact (hs.slot i hi).reown h hup
 ·unfold set;rw[if_neg aV,fT hd2 (hs.out s)];exact l3 (hs.out s h)
 obtain⟨f1,f2,f3,f4⟩:=hf;refine⟨fun r hr=>?_,?_,fun r hr g hg=>?_,⟨f4.os,f4.tape,f4.output,f4.size,f4.imm,fun g hg hAg hG=>?_,fun s hs'=>?_⟩⟩
 ·rcases iV.1 hr with h|h
  ·obtain⟨q1,q2,q3⟩:=f1 r h;exact⟨q1,q2,fun g hg=>⟨(q3 g hg).1,(q3 g hg).2.1,fun s c' h=>(q3 g hg).2.2 s c' (hno s g c' h).2⟩⟩
  simp at h;subst h;exact⟨hb,hrow,hsep⟩
 ·rw[oI];refine⟨f2,by simp,fun x hx y hy g hg hg'=>?_⟩;simp at hy;subst hy;exact ((f1 x hx).free g hg).2.2 d c (by rw[hA];exact congrArg (fun q=>some (q,c)) hg')
 ·rcases iV.1 hr with h|h
  ·exact f3 r h g hg
  simp at h;subst h;exact .inr (hnew g c (by rw[hA];exact congrArg (fun q=>some (q,c)) hg))
 ·obtain⟨k1,k2,k3⟩:=f4.old g hg hAg hG;exact⟨k1,k2,fun s c' h=>k3 s c' (hno s g c' h).2⟩
 rw[hup s aV];exact f4.outA s hs'
theorem bNa {α:Type} {enc:α→List DV} {e:TypeId} {z:Nat} {P:Program} {nt:Nat} {w0:World} {I0:Nat→Prop} {A0:dD} {ρ:aN} {rs:List (Rw α)} {ops:Array Oper} {o:Oper} {K:List (Rw α)→aN→Prop} (d:Nat) (l:List α) (hd:d<nt) (hρ:ρ d=.row e z (l.map enc))
  (h: ∀r:Rw α,r.l=l→aXj P nt (Fo enc e z w0 I0 (cG A0) fun _=>False) ops o K (rs++[r]) (set (d4 d ρ) d (.v r.val))):aXj P nt (Fo enc e z w0 I0 (cG A0) fun _=>False) ops o K rs ρ:=fun ro ds I A a w hs hdf hf=>by
 have hd2:d<100000:=eE hd hs.bound;obtain⟨r,h1,h2,h3⟩:=hs.give hf hd hρ fun g c hA=>by
  rcases b9 g w0.heap.size with hlt|hge
  ·exfalso;by_cases ho: ∀s c,cG A0 s≠some (some g,c)
   ·exact (hf.2.2.2.old g hlt ho fun h=>h).2.2 d c hA
   simp only[ne_eq,Classical.not_forall,zY] at ho;obtain⟨s,c',hs'⟩:=ho;have hge:100000≤s:=by
    rcases b9 s 100000 with h|h
    ·unfold cG at hs';rw[if_pos h] at hs';cases hs'
    exact h
   have:=hs.osim.inj s d g c' c ((hf.2.2.2.outA s hge).trans hs') hA;omega
  exact hge
 exact h r h1 ro ds I _ a w h2 hdf h3
def rdS (t:Nat):DV→DV
 | .cond _ _=>.any
 |d=>sh (rd t d)
theorem aQy (t:Nat) (d:DV):cX (rdS t d):=by cases d<;>first|exact aFb _|rfl
theorem eU.inner {w:World} {I:Nat→Prop} {A:dD} {s:Nat} {d:DV} {x:Value} (h:eU w I A s d x):bP w I (cG A) (rdS s d) x:=by
 cases d with
 |bx cs=>obtain⟨g,c,h1,rfl⟩:=h;exact .bp _ (s+100000) 0 g c ((d7 A s).trans h1)
 |row e z xs=>obtain⟨B,c,h1,b,hb,rfl⟩:=h;exact .own _ (s+100000) _ B c b ((d7 A s).trans h1) hb
 |mo es=>obtain⟨g,c,h1,rfl⟩:=h;exact .mr _ (s+100000) g c ((d7 A s).trans h1)
 |cond g y=>exact .any _ _
 |any=>exact .any _ _
 |v y=>exact (show bP w I A _ x from h).rename (d7 A)
 |sl z n f=>exact (show bP w I A _ x from h).rename (d7 A)
 |agg cs=>exact (show bP w I A _ x from h).rename (d7 A)
 |tup cs=>exact (show bP w I A _ x from h).rename (d7 A)
 |dp cs=>exact (show bP w I A _ x from h).rename (d7 A)
 |bp s o=>exact (show bP w I A _ x from h).rename (d7 A)
 |own s n=>exact (show bP w I A _ x from h).rename (d7 A)
 |rp s z i o=>exact (show bP w I A _ x from h).rename (d7 A)
 |fn f b c=>exact (show bP w I A _ x from h).rename (d7 A)
 |iface t' y=>exact (show bP w I A _ x from h).rename (d7 A)
 |mr s=>exact (show bP w I A _ x from h).rename (d7 A)
 |ez=>exact (show bP w I A _ x from h).rename (d7 A)
def reR (R:Nat→DV) (n:Nat) (ρ:aN):aN:=fun s=>if s<100000 then (if s<n then R s else .any) else ρ s
def hiO (A:dD):dD:=fun s=>if s<100000 then none else A s
def aPj (ρ ρ':aN):aN:=fun s=>if s<100000 then ρ s else ρ' s
theorem oP {A:dD} {s:Nat} {p:Option Nat×Nat} (h:hiO A s=some p):100000≤s∧A s=some p:=by
 unfold hiO at h;split at h
 ·cases h
 exact⟨by omega,h⟩
theorem aUb (A:dD) {s:Nat} (h:100000≤s):hiO A s=A s:=if_neg aV
theorem bP.toHi {w:World} {I:Nat→Prop} {A A':dD} {d:DV} {x:Value} (h:bP w I A d x) (ho:cX d) (hA: ∀s,100000≤s→A' s=A s):bP w I A' d x:=
 h.congrA _ ho fun s hs=>hA s (dK hs)
theorem fW.toHi {w:World} {I:Nat→Prop} {A A':dD} {s:Nat} {d:DV} (h:fW w I A s d) (hs:100000≤s) (ho:cX d) (hA: ∀s,100000≤s→A' s=A s):fW w I A' s d:=by
 cases d with
 |bx cs=>
  obtain⟨g,c,us,et,h1,h2,h3,h4,h5⟩:=h;have ho:d6 (fun t=>decide (100000≤t)) cs=true:=ho;exact⟨g,c,us,et,(hA s hs).trans h1,h2,h3,h4,fun j d u hd hu=>(h5 j d u hd hu).toHi (gZ ho hd) hA⟩
 |row e z xs=>obtain⟨B,c,h1,h2⟩:=h;exact⟨B,c,(hA s hs).trans h1,h2⟩
 |mo es=>obtain⟨g,c,vs,cl,h1,h2,h3⟩:=h;exact⟨g,c,vs,cl,(hA s hs).trans h1,h2,h3⟩
 |_=>trivial
section
variable {α:Type} {enc:α→List DV} {e:TypeId} {z:Nat} {P:Program} {nt n:Nat} {w0:World} {I0:Nat→Prop} {A0:dD} {G0:Nat→Prop} {ρ:aN} {R:Nat→DV} {l D:Nat} {rec:Loop}
def FO (enc:α→List DV) (e:TypeId) (z:Nat) (w0:World) (I0:Nat→Prop) (A0:dD) (G0:Nat→Prop) (l D:Nat) (rec:Loop) (R:Nat→DV) (n:Nat) (rs:List (Rw α)) (w:World) (I:Nat→Prop) (A:dD):Prop:=
 Fo enc e z w0 I0 A0 G0 rs w I A∧Hid l (.loop rec) w I A∧Hid D (.deferred (some [])) w I A∧ ∀i,i<n→bP w I A (R i) (rec.tmps.getD i undef)
theorem cIy (hR: ∀i,i<n→cX (R i)):bIq (FO enc e z w0 I0 A0 G0 l D rec R n):=fun rs w I A w' I' A' ρ hs h k=>
 ⟨h.1.ext hs k,h.2.1.ext k,h.2.2.1.ext k,fun i hi=>(k.rel hs (h.2.2.2 i hi)).toHi (hR i hi) k.outA⟩
theorem dB.round {w:World} {I:Nat→Prop} {A:dD} {a:Act} {tmps:Array Value} (hs:dB nt w I A ρ a) (hR: ∀i,i<n→cX (R i)) (hr: ∀i,i<n→bP w I A (R i) (tmps.getD i undef)) (hsz:tmps.size=n) (hn:n≤100000):
  dB n w I (hiO A) (reR R n ρ) {tmps:=tmps,defers:=[]}:=by
 refine⟨⟨fun s=>?_,fun s t g c c' h1 h2=>hs.osim.inj s t g c c' (oP h1).2 (oP h2).2,fun s g c h=>hs.osim.sep s g c (oP h).2,hs.osim.imm⟩,hsz,hn,fun i hi=>?_,fun s h=>?_⟩
 ·unfold reR;split
  ·split
   ·rename_i h;exact fW.ofPure (sT (hr s h))
   trivial
  rename_i h;exact (hs.osim.own s).toHi aV (hs.out s aV) fun s h=>aUb A h
 ·unfold reR;rw[if_pos aV,if_pos hi];exact .ofRel ((hr i hi).toHi (hR i hi) fun s h=>aUb A h)
 unfold reR;rw[if_neg aV];exact hs.out s h
theorem bKw {ops:Array Oper} {o:Oper} {K:List (Rw α)→aN→Prop} {fv av:Operand} {ts:Array TypeId} {d p:Nat} {rs:List (Rw α)} {asg body:Code} {x:DV} (hop:o.op=.call ⟨.value fv,#[av],ts⟩) (hg:o.guard=none) (hdst:o.dst=some d) (hd:d<nt)
  (ho:eJ nt o=true) (hfv:ev ρ fv=.v (.func (.yield l) #[] #[])) (hga:gd (ev ρ av)) (hx:un (ev ρ av)=x) (hxo:cX x)
  (hp:rec.params= #[p]) (hpn:p<n) (hst:rec.state=.ready) (hpe:rec.pending=none) (hsz:rec.tmps.size=n) (hn:n≤100000) (hR: ∀i,i<n→cX (R i)) (hasg:rec.assign=asg) (hbody:rec.body=body)
  {Kr:List (Rw α)→aN→Prop}
  (hround:AW P n asg (fun e1 ρ1=>e1=.normal∧ ∀w1 I1 A1 G1,oL P n (Fo enc e z w1 I1 A1 G1) body (fun e' s' ρ'=>e'=.normal∧Kr s' ρ') rs ρ1) (set (reR R n ρ) p x))
  (hK: ∀s' ρ',Kr s' ρ'→K s' (set (aPj ρ ρ') d (.v (.bool true)))):aXj P nt (FO enc e z w0 I0 A0 G0 l D rec R n) ops o K rs ρ:=by
 intro ro ds I A a w hs hdf hf next Q' hnx
 obtain⟨⟨f1,f2,f3,f4⟩,hl,hD,hT⟩:=hf;rw[if_pos (by simp[Region.wanted,hg])];refine⟨fun _ _=>trivial,?_⟩;rw[Oper.semAt_eq _ _ _ fun c hc=>by rw[hop] at hc;cases hc];have hmem: ∀q,q=fv∨q=av→q∈o.op.operands:=fun q hq=>by rw[hop];simp[Op.operands,Call.operands];rcases hq with rfl|rfl<;>simp
 have hvf:=hs.opd fv (bM ho (hmem fv (.inl rfl))) (by rw[hfv];trivial);have hva:=hs.opd av (bM ho (hmem av (.inr rfl))) hga;rw[hfv] at hvf;rw[hx] at hva;have hv:a.eval fv=.func (.yield l) #[] #[]:=by
  generalize a.eval fv=y at hvf;have hvf:bP w I A (.v (.func (.yield l) #[] #[])) y:=hvf;cases hvf;rfl
 have hrun:(execOp a.eval o).run P w=.ok (.round l rec.fn ((rec.params.zip #[a.eval av]).foldl (fun tmps (t,a)=>tmps.setIfInBounds t a) rec.tmps) rec.assign rec.body) w:=by
  have hy:=run_yield (P:=P) hl.1 (args:= #[a.eval av]) (by rw[hp];rfl);simp[execOp,hop,resolve,hv,Deferred.ofValue,invoke,hy]
 rw[hrun,Oper.uponIn_round];refine⟨depth_FR _,roundIn_FR (n:=0) (roundIn_of_wpIn (F:=FR none) trivial ?_)⟩;have hs0:=(hs.round hR hT hsz hn).put (d:=p) (v:=x) (x:=a.eval av) hpn (.ofRel (hva.toHi hxo fun s h=>aUb A h)) (fW.ofPure (sT hva));have hact:(Act.put {tmps:=rec.tmps,defers:=[]} (some p) (a.eval av))={tmps:=(rec.params.zip #[a.eval av]).foldl (fun tmps (t,a)=>tmps.setIfInBounds t a) rec.tmps,defers:=[]}:=by
  rw[hp,← Array.foldl_toList,Array.toList_zip];rfl
 rw[hact] at hs0;rw[hasg,hbody];refine wpIn_mono (F:=FR (some l)) (hround (some l) [] I (hiO A) _ w hs0 rfl) ?_;rintro e1 c1 w1 ⟨I1,A1,ρ1,s1,d1,x1,rfl,hb⟩;have hlO:Hid l (.loop rec) w I (hiO A):=⟨hl.1,hl.2.1,fun s c h=>hl.2.2 s c (oP h).2⟩;have hH1:=hlO.ext x1;refine⟨w1.putObj l (.loop {rec with state:=.busy}),run_beginRound hH1.1 hst,?_⟩;obtain⟨w2,hw2⟩: ∃w2,w1.putObj l (.loop {rec with state:=.busy})=w2:=⟨_,rfl⟩;obtain⟨Gr,hGr⟩: ∃Gr:Nat→Prop,Gr=fun g=> ∃r∈rs,r.B=some g:=⟨_,rfl⟩;have s2:=s1.aside hH1 (.loop {rec with state:=.busy});have hH2:=hH1.put (.loop {rec with state:=.busy});have hrowA: ∀r∈rs,rK enc e z w I (hiO A) r:=fun r hr=>⟨(f1 r hr).base,(f1 r hr).row,fun g hg=>⟨((f1 r hr).free g hg).1,((f1 r hr).free g hg).2.1,fun s c h=>((f1 r hr).free g hg).2.2 s c (oP h).2⟩⟩;have hos0:jI w I (hiO A) (set (reR R n ρ) p x):=hs0.osim;have hrow1: ∀r∈rs,rK enc e z w1 I1 A1 r:=fun r hr=>(hrowA r hr).ext hos0 x1;have hrow2: ∀r∈rs,rK enc e z (w1.putObj l (.loop {rec with state:=.busy})) I1 A1 r:=fun r hr=>(hrow1 r hr).aside hH1 ((hrow1 r hr).ne hH1.1 (by intros;simp)) _;have sz1:w.heap.size≤w1.heap.size:=x1.size;have sz2:w2.heap.size=w1.heap.size:=by rw[← hw2,World.putObj_size]
 rw[hw2] at s2 hrow2 hH2 ⊢;refine wpIn_mono (F:=FR (some l)) (hb w2 I1 A1 Gr (some l) [] I1 A1 c1 w2 s2 d1 ⟨hrow2,f2,fun r hr g hg=>.inl (by rw[hGr];exact⟨r,hr,hg⟩),XF.refl _ _ _ _⟩) ?_;rintro e2 c2 w3 ⟨I3,A3,ρ3,rs3,s3,d3,⟨g1,g2,g3,g4⟩,rfl,hkr⟩;have hnG: ¬Gr l:=fun h=>by
  rw[hGr] at h;obtain⟨r,hr,hB⟩:=h;exact (f1 r hr).ne hl.1 (by intros;simp) hB
 obtain⟨o1,o2,o3⟩:=g4.old l (by rw[sz2];exact hH1.lt) hH2.2.2 hnG;have hH3:Hid l (.loop {rec with state:=.busy}) w3 I3 A3:=⟨o1.trans hH2.1,fun h=>hH2.2.1 (o2 h),o3⟩;refine⟨_,_,run_endRound none hH3.1,?_⟩;have hrec:({({rec with state:=.busy}:Loop) with state:=if (none:Option Code).isNone then .ready else .done,pending:=none}:Loop)=rec:=by
  cases rec;simp_all
 rw[hrec];obtain⟨w4,hw4⟩: ∃w4,w3.putObj l (.loop rec)=w4:=⟨_,rfl⟩;have s4:=s3.aside hH3 (.loop rec);have hH4:=hH3.put (.loop rec);rw[hw4] at s4 hH4 ⊢;have sz4:w4.heap.size=w3.heap.size:=by rw[← hw4,World.putObj_size]
 have sz3:w2.heap.size≤w3.heap.size:=g4.size;have hp4: ∀g,g≠l→w4.heap[g]?=w3.heap[g]?:=fun g h=>by rw[← hw4];exact World.putObj_heap_other h
 have hp2: ∀g,g≠l→w2.heap[g]?=w1.heap[g]?:=fun g h=>by rw[← hw2];exact World.putObj_heap_other h
 have hkeep: ∀g,g<w.heap.size→(∀s c,hiO A s≠some (some g,c))→ ¬Gr g→w4.heap[g]?=w.heap[g]?∧(I3 g→I g)∧ ∀s c,A3 s≠some (some g,c):=fun g hg hA hG=>by
  obtain⟨k1,k2,k3⟩:=x1.old g hg hA;obtain⟨m1,m2,m3⟩:=g4.old g aV k3 hG;refine⟨?_,fun h=>k2 (m2 h),m3⟩;by_cases e:g=l
  ·subst e;rw[hH4.1,hl.1]
  rw[hp4 g e,m1,hp2 g e,k1]
 have hImm: ∀g,I g→I3 g∧w4.heap[g]?=w.heap[g]?:=fun g hg=>by
  refine⟨g4.imm g (x1.imm g hg),(hkeep g (hs.osim.imm g hg) (fun s c h=>(hs.osim.sep s g c (oP h).2).2 hg) fun h=>?_).1⟩;rw[hGr] at h;obtain⟨r,hr,hB⟩:=h;exact ((f1 r hr).free g hB).2.1 hg
 have hrel: ∀B d x,bP w I B d x→bP w4 I3 B d x:=fun B d x hr=>hr.mono fun g hg=>⟨(hImm g hg).1,fun o=>eD (hImm g hg).2 o⟩;have hA3: ∀s,100000≤s→A3 s=A s:=fun s h=>by rw[g4.outA s h,x1.outA s h,aUb A h]
 have hlow: ∀s g c,s<100000→A s=some (some g,c)→g<w.heap.size∧(∀s c,hiO A s≠some (some g,c))∧ ¬Gr g:=fun s g c hs' hA=>by
  refine⟨(hs.osim.sep s g c hA).1,fun s' c' h=>?_,fun h=>?_⟩
  ·have:=hs.osim.inj s' s g c' c (oP h).2 hA;have:=(oP h).1;omega
  rw[hGr] at h;obtain⟨r,hr,hB⟩:=h;exact ((f1 r hr).free g hB).2.2 s c hA
 have hsim4:dB nt w4 I3 A (aPj ρ ρ3) a:=by
  refine⟨⟨fun s=>?_,hs.osim.inj,fun s g c hA=>?_,s4.osim.imm⟩,hs.size,hs.bound,fun i hi=>?_,fun s h=>?_⟩
  ·unfold aPj;split
   ·rename_i h;exact (hs.osim.own s).keep (fun g c hA=>(hkeep g (hlow s g c h hA).1 (hlow s g c h hA).2.1 (hlow s g c h hA).2.2).1) hrel
   exact (s4.osim.own s).toHi aV (s4.out s aV) fun s h=>(hA3 s h).symm
  ·rcases b9 s 100000 with h|h
   ·obtain⟨q1,q2,q3⟩:=hlow s g c h hA;exact⟨by omega,fun hi=>(hs.osim.sep s g c hA).2 ((hkeep g q1 q2 q3).2.1 hi)⟩
   exact s4.osim.sep s g c ((hA3 s h).trans hA)
  ·unfold aPj;rw[if_pos (eE hi hs.bound)];exact (hs.slot i hi).keep hrel
  unfold aPj;rw[if_neg aV];exact s4.out s h
 have hown: ∀g,(w2.heap.size≤g∨Gr g)→(∀s c,A3 s≠some (some g,c))→ ∀s c,A s≠some (some g,c):=fun g hg hA s c h=>by
  rcases b9 s 100000 with hs'|hs'
  ·obtain⟨q1,q2,q3⟩:=hlow s g c hs' h;rcases hg with hg|hg
   ·omega
   exact q3 hg
  exact hA s c ((hA3 s hs').trans h)
 have hG3: ∀r∈rs3,∀g,r.B=some g→w2.heap.size≤g∨Gr g:=fun r hr g hg=>(g3 r hr g hg).symm;have hfree4: ∀r∈rs3,rK enc e z w4 I3 A r:=fun r hr=>by
  have hne:r.B≠some l:=(g1 r hr).ne hH3.1 (by intros;simp);have hI: ¬I3 l:=hH3.2.1;refine⟨(g1 r hr).base,(g1 r hr).row.of (fun g hg=>hp4 g fun e=>hne (e▸hg)) fun d x hr=>(by rw[← hw4];exact bP.aside hI hr),fun g hg=>⟨by rw[sz4];exact ((g1 r hr).free g hg).1,((g1 r hr).free g hg).2.1,hown g (hG3 r hr g hg) ((g1 r hr).free g hg).2.2⟩⟩
 have hxf:XF w0 I0 A0 G0 w4 I3 A:=by
  refine⟨?_,?_,?_,by have:=f4.size;omega,fun g hg=>(hImm g (f4.imm g hg)).1,fun g hg hA hG=>?_,f4.outA⟩
  ·rw[← hw4];show w3.os=_;rw[g4.os,← hw2];show w1.os=_;rw[x1.os,f4.os]
  ·have e1:=g4.tape;have e2:=x1.tape;have e3:=f4.tape;rw[← hw4];rw[← hw2] at e1;exact⟨e1.1.trans (e2.1.trans e3.1),eL e3.2 (eL e2.2 e1.2)⟩
  ·rw[← hw4];show w3.output=_;rw[g4.output,← hw2];show w1.output=_;rw[x1.output,f4.output]
  obtain⟨q1,q2,q3⟩:=f4.old g hg hA hG;obtain⟨k1,k2,k3⟩:=hkeep g (eE hg f4.size) (fun s c h=>q3 s c (oP h).2) fun h=>by
   rw[hGr] at h;obtain⟨r,hr,hB⟩:=h;rcases f3 r hr g hB with h|h
   ·exact hG h
   omega
  exact⟨k1.trans q1,fun h=>q2 (k2 h),q3⟩
 have hD4:Hid D (.deferred (some [])) w4 I3 A:=by
  obtain⟨k1,k2,k3⟩:=hkeep D hD.lt (fun s c h=>hD.2.2 s c (oP h).2) fun h=>by
   rw[hGr] at h;obtain⟨r,hr,hB⟩:=h;exact (f1 r hr).ne hD.1 (by intros;simp) hB
  exact⟨k1.trans hD.1,fun h=>hD.2.1 (k2 h),hD.2.2⟩
 have hF4:FO enc e z w0 I0 A0 G0 l D rec R n rs3 w4 I3 A:=by
  refine⟨⟨hfree4,g2,fun r hr g hg=>?_,hxf⟩,⟨hH4.1,hH4.2.1,hl.2.2⟩,hD4,fun i hi=>hrel _ _ _ (hT i hi)⟩;rcases hG3 r hr g hg with h|h
  ·right;have:=f4.size;omega
  rw[hGr] at h;obtain⟨r',hr',hB⟩:=h;exact f3 r' hr' g hB
 rw[hdst];exact hnx I3 A _ w4 _ rs3 (hsim4.put (d:=d) (v:=.v (.bool true)) (x:=.bool true) hd (.ofRel (.v A _)) trivial) (by rw[gT];exact hdf) hF4 (hK _ _ hkr)
end
end Go.Sg
namespace Go.Sg
open Go.RowKit
open Go.Rv (FR depth_FR callsIn_FR roundIn_FR room_FR)
def AWS {σ:Type} (P:Program) (nt:Nat) (F:σ→World→(Nat→Prop)→dD→Prop) (c:Code) (Φ:Exit→Act→World→Prop) (s:σ) (ρ:aN):Prop:=
 ∀I A a w,dB nt w I A ρ a→a.defers=[]→F s w I A→c.wpIn (FR none) 0 P Φ a w
def QS {σ:Type} (nt:Nat) (F:σ→World→(Nat→Prop)→dD→Prop) (Φ:Exit→Act→World→Prop):Exit→σ→aN→Prop:=fun e s ρ=> ∀I A a w,dB nt w I A ρ a→a.defers=[]→F s w I A→Φ e a w
section
variable {σ:Type} {P:Program} {nt:Nat} {F:σ→World→(Nat→Prop)→dD→Prop} {Φ:Exit→Act→World→Prop} {s:σ} {ρ:aN}
theorem wD {x y:Code} (h: ∀K:σ→aN→Prop,(∀s ρ,AWS P nt F y Φ s ρ→K s ρ)→oL P nt F x (y3 K (QS nt F Φ)) s ρ):AWS P nt F (.seq x y) Φ s ρ:=by
 intro I A a w hs hd hf;refine wpIn_seq (wpIn_mono (h (fun s ρ=>AWS P nt F y Φ s ρ) (fun _ _ h=>h) none [] I A a w hs hd hf) ?_);intro e a1 w1 ⟨I1,A1,ρ1,s1,h1,h2,h3,h4⟩;cases e with
 |normal=>exact h4 I1 A1 a1 w1 h1 h2 h3
 |exit i=>exact h4 I1 A1 a1 w1 h1 h2 h3
 |goto l=>exact h4 I1 A1 a1 w1 h1 h2 h3
 |ret=>exact h4 I1 A1 a1 w1 h1 h2 h3
 |panic ch=>exact h4 I1 A1 a1 w1 h1 h2 h3
 |outgrown=>exact h4 I1 A1 a1 w1 h1 h2 h3
theorem bJh {Q:Exit→σ→aN→Prop} (L:List Nat) {x y:Code} (J:σ→aN→Prop) (hx: ∀K:σ→aN→Prop,(∀s ρ',J s (keepC L ρ')→K s ρ')→oL P nt F x (y3 K Q) s ρ) (hy: ∀s ρ,J s ρ→oL P nt F y Q s ρ):oL P nt F (.seq x y) Q s ρ:=
 dM fun K hK=>hx K fun s ρ' hJ=>hK s ρ' (jY (Le.keepC L ρ') (hy s _ hJ))
theorem bNi {x y:Code} (h:AWS P nt F x (Exit.then (fun a w=>y.wpIn (FR none) 0 P Φ a w) Φ) s ρ):AWS P nt F (.seq x y) Φ s ρ:=fun I A a w hs hd hf=>wpIn_seq (h I A a w hs hd hf)
theorem bBy {c:Code} {ρ ρ':aN} (hl:Le ρ ρ') (h:AWS P nt F c Φ s ρ'):AWS P nt F c Φ s ρ:=fun I A a w hs hd hf=>h I A a w (hs.weaken hl) hd hf
end
section
variable {α:Type} {enc:α→List DV} {e:TypeId} {z:Nat} {P:Program}
def bAz (P:Program) (fn:Func) (O:aN) (R:aN→DV→Prop) (w0:World) (I0:Nat→Prop) (A0:dD) (en:Exit) (a':Act) (w':World):Prop:=
 (en=.ret∨en=.normal)∧ ∃I' A' ρ',dB fn.ntmps w' I' A' ρ' a'∧XF w0 I0 (cG A0) (fun _=>False) w' I' A'∧rZ P fn O R .ret ρ'∧
  (a'.defers=[]∨ ∃D,a'.defers=[{target:=.collected D,args:= #[]}]∧Hid D (.deferred (some [])) w' I' A'∧w0.heap.size≤D)
theorem XF.toExt {w0 w:World} {I0 I:Nat→Prop} {A0 A:dD} {ρ:aN} (h:XF w0 I0 (cG A0) (fun _=>False) w I A) (hs:jI w I A ρ):f8 w0 I0 (cG A0) w I A:=
 ⟨h.os,h.tape,h.output,h.size,h.imm,fun g hg hA=>h.old g hg hA fun h=>h,fun s g c hAs hg hlt=>by
  exfalso;by_cases ho: ∀s c,cG A0 s≠some (some g,c)
  ·exact (h.old g hg ho fun h=>h).2.2 s c hAs
  simp only[ne_eq,Classical.not_forall,zY] at ho;obtain⟨t,c',ht⟩:=ho;have hge:100000≤t:=by
   rcases b9 t 100000 with h|h
   ·unfold cG at ht;rw[if_pos h] at ht;cases ht
   exact h
  have:=hs.inj t s g c' c ((h.outA t hge).trans ht) hAs;omega,h.outA⟩
theorem XF.put {w0 w:World} {I0 I:Nat→Prop} {A0 A:dD} {G0:Nat→Prop} {g:Nat} (h:XF w0 I0 A0 G0 w I A) (hg:w0.heap.size≤g) (o:Obj):XF w0 I0 A0 G0 (w.putObj g o) I A:=
 ⟨h.os,h.tape,h.output,by rw[World.putObj_size];exact h.size,h.imm,fun k hk hA hG=>⟨(World.putObj_heap_other aV).trans (h.old k hk hA hG).1,(h.old k hk hA hG).2⟩,h.outA⟩
theorem aSa {f:FuncId} {fn:Func} {c:Code} {O:aN} {args:List DV} {R:aN→DV→Prop} (hf:P.funcs[f]?=some fn) (hb:fn.body=some c)
  (hn:(decide (args.length≤fn.ntmps)&&decide (fn.ntmps≤100000)&&fn.results.toList.all (fun v=>match v with| .tmp t=>decide (t<fn.ntmps)| .cell t _=>decide (t<fn.ntmps)))=true)
  (h: ∀w0 I0 A0,AWS P fn.ntmps (Fo enc e z w0 I0 (cG A0) fun _=>False) c (bAz P fn O R w0 I0 A0) [] (nF O args)):iC P O f args R:=by
 intro w I A vals hO hl hv;simp only[cD,dR] at hn;obtain⟨⟨hn1,hn2⟩,hn3⟩:=hn;refine (callsIn_of_wp_marks (F:=FR none) (n:=0) hf hb trivial (wpIn_mono (h w I A I (cG A) _ w (dB.enter hO hl hn1 hn2 hv) rfl ⟨by simp,List.Pairwise.nil,by simp,XF.refl _ _ _ _⟩) ?_)).calls (fun _=>room_FR _ _);rintro en a' w' ⟨hen,I',A',ρ',k1,k3,k4,k5⟩
 have fin: ∀w',dB fn.ntmps w' I' A' ρ' a'→XF w I (cG A) (fun _=>False) w' I' A'→
   ∃v,(results fn a'.tmps).run P w'=.ok v w'∧ ∃v' I' O' r,Ending.returned v=.returned v'∧jI w' I' A O'∧(∀s,fR (O s) (O' s))∧(∀s,cX (O s)→cX (O' s))∧f8 w I A w' I' A∧qA w w' I' A r v'∧R O' r:=by
  intro w' k1 hxf;have k3:=hxf.toExt k1.osim;obtain⟨O',r,q1,q2,q3,q4,q5⟩:=k4;obtain⟨v,r1,r2⟩:=aOh k1 k3 hn3 q4;have hA': ∀s,A' (s+100000)=A s:=fun s=>by rw[k3.outA _ aV,d7]
  have hfun:(fun s=>A' (s+100000))=A:=funext hA';refine⟨v,r1,v,I',O',r,rfl,⟨fun s=>?_,hO.inj,fun s g c hA=>?_,k1.osim.imm⟩,q2,q3,⟨k3.os,k3.tape,k3.output,k3.size,k3.imm,fun g hg hA=>?_,fun s g c hA _ hs=>⟨s,c,hs,hA⟩,fun _ _=>rfl⟩,r2,q5⟩
  ·have:=k1.osim.own (s+100000);rw[q1] at this;have:=this.outof (s:=s) rfl
   rwa [hfun] at this
  ·exact k1.osim.sep (s+100000) g c ((hA' s).trans hA)
  obtain⟨e1,e2,e3⟩:=k3.old g hg fun s c hs=>by
   unfold cG at hs;split at hs
   ·cases hs
   exact hA _ _ hs
  exact⟨e1,e2,hA⟩
 have hlv:LeavesInM (FR none) 0 P fn a'.tmps (fun en w'=> ∃v' I' O' r,en=.returned v'∧jI w' I' A O'∧(∀s,fR (O s) (O' s))∧(∀s,cX (O s)→cX (O' s))∧f8 w I A w' I' A∧qA w w' I' A r v'∧R O' r) a'.defers .returning w':=by
  rcases k5 with k5|⟨D,k5,k6,k7⟩
  ·rw[k5];exact fin w' k1 k3
  rw[k5];refine⟨by simp,.inl ⟨D,w'.putObj D (.deferred none),rfl,run_takeDeferred k6.1,?_⟩⟩;exact fin _ (k1.aside k6 _) (k3.put k7 _)
 rcases hen with rfl|rfl<;>exact hlv
def aKy (ρ O:aN):Prop:= ∀s,O s=ρ s∨(s<100000∧((∃c c',ρ s=.bx c∧O s=.bx c')∨ ∃m m',ρ s=.mo m∧O s=.mo m'))
theorem aSh {f:FuncId} (hb:aM P f=true) (vals:Array Value) (w:World):(callFunc f vals).run P w=.ok (.enter f vals) w:=by
 unfold aM at hb;cases hP:P.funcs[f]? with
 |none=>rw[hP] at hb;cases hb
 |some fn=>
  rw[hP] at hb;simp only[cD,mH] at hb;have hn:fn.body.isNone=false:=by cases h:fn.body<;>simp_all
  simp only[callFunc,Sem.run_bind,run_program,Result.andThen_ok,hP,hb.2,hn,aQs,s7,Sem.run_pure]
theorem bIa {fn:Func} {O:aN} {R:aN→DV→Prop} {w0:World} {I0:Nat→Prop} {A0:dD} {rs:List (Rw α)} {ρ:aN} {g:Operand} {p b:Nat} {asg body rest:Code} {f:FuncId} {caps:List DV} {fn5:Func} {cd5:Code} {K:aN→aN→Prop}
  (hgo:s9 fn.ntmps g=true) (hg:ev ρ g=.fn f [] caps) (hf:P.funcs[f]?=some fn5) (hbd:aM P f=true) (hb5:fn5.body=some cd5) (hr5:fn5.results= #[]) (hn5:(decide (caps.length+1≤fn5.ntmps)&&decide (fn5.ntmps≤100000))=true)
  (h5: ∀w1 I1 A1 G1 l D rec,rec.params= #[p]→rec.assign=asg→rec.body=body→rec.state=.ready→rec.pending=none→rec.tmps.size=fn.ntmps→
   oL P fn5.ntmps (FO enc e z w1 I1 A1 G1 l D rec (fun i=>rdS i (ρ i)) fn.ntmps) cd5 (fun e' s' ρ'=>(e'=.ret∨e'=.normal)∧ ∃O',hi ρ'=bS O'∧aKy ρ O'∧K ρ O') rs (nF ρ (.v (.func (.yield l) #[] #[])::caps)))
  (hrest: ∀O',K ρ O'→AW P fn.ntmps rest (fun en ρ'=>(en=.ret∨en=.normal)∧rZ P fn O R .ret ρ') O'):
  AWS P fn.ntmps (Fo enc e z w0 I0 (cG A0) fun _=>False) (.block b (.rangeFunc g #[p] asg body)) (Exit.then (fun a w=>rest.wpIn (FR none) 0 P (bAz P fn O R w0 I0 A0) a w) (bAz P fn O R w0 I0 A0)) rs ρ:=by
 intro I A a w hs hd hfo;refine wpIn_block (wpIn_rangeFunc fun fid _=>?_);have hgr:=hs.opd g hgo (by rw[hg];trivial);rw[hg] at hgr;have hgr:bP w I A (.fn f [] caps) (a.eval g):=hgr;generalize hgv:a.eval g=gv at hgr;cases hgr with
 |fn _ _ _ _ us vs hf1 hc1 hfr hcr=>
 obtain rfl:us= #[]:=aZw (by simpa using hf1.symm);obtain⟨rec,hrecd⟩: ∃rec:Loop,rec={state:=.ready,pending:=none,fn:=fid,tmps:=a.tmps,params:= #[p],assign:=asg,body,defers:=w.heap.size}:=⟨_,rfl⟩;obtain⟨W0,hW0⟩: ∃W0,w.alloc (.deferred (some []))=W0:=⟨_,rfl⟩;obtain⟨W1,hW1⟩: ∃W1,W0.alloc (.loop rec)=W1:=⟨_,rfl⟩;have hsz0:W0.heap.size=w.heap.size+1:=by rw[← hW0];exact World.size_alloc _ _
 have hsz1:W1.heap.size=w.heap.size+2:=by rw[← hW1,World.size_alloc,hsz0]
 have g0:oT w I W0 I:=hW0▸oT.alloc hs.osim _;have hs0:=hs.grow g0;have g1:oT W0 I W1 I:=hW1▸oT.alloc hs0.osim _;have hs1:=hs0.grow g1;have hfo1:=(hfo.ext hs.osim (g0.ext hs.osim)).ext hs0.osim (g1.ext hs0.osim);have hL1:W1.heap[w.heap.size+1]?=some (.loop rec):=by
  rw[← hW1,← hsz0];show (W0.heap.push _)[W0.heap.size]?=_;simp
 have hD1:W1.heap[w.heap.size]?=some (.deferred (some [])):=by
  rw[g1.heap _ aV,← hW0];show (w.heap.push _)[w.heap.size]?=_;simp
 have hfresh: ∀k,w.heap.size≤k→ ¬I k∧ ∀s c,cG A s≠some (some k,c):=fun k hk=>⟨fun h=>by have:=hs.osim.imm k h;omega,fun s c h=>by
  unfold cG at h;split at h
  ·cases h
  have:=(hs.osim.sep _ k c h).1;omega⟩
 refine⟨w.heap.size+1,[{target:=.collected w.heap.size,args:= #[]}],W1,{target:=.fn (.func f) vs,args:= #[.func (.yield (w.heap.size+1)) #[] #[]]},W1,f,#[.func (.yield (w.heap.size+1)) #[] #[]]++vs,W1,?_,?_,fun _ _=>trivial,?_,depth_FR _,?_⟩
 ·rw[← hW1,← hW0,hrecd];exact run_enterLoop_outer _ _ _ _ _
 ·simp only[resolve,hgv];simp[Deferred.ofValue,Act.eval]
 ·simp[invoke,aSh hbd]
 simp only[cD,dR] at hn5;have hargs: ∀(j:Nat) (d:DV) (u:Value),(DV.v (.func (.yield (w.heap.size+1)) #[] #[])::caps)[j]?=some d→(#[Value.func (.yield (w.heap.size+1)) #[] #[]]++vs)[j]?=some u→bP W1 I A d u:=fun j d u hd hu=>by
  cases j with
  |zero=>
   rw[List.getElem?_cons_zero] at hd;cases hd;rw[bCm] at hu;simp at hu;subst hu;exact .v _ _
  |succ j=>
   rw[aEd] at hd;rw[bCm] at hu;simp at hu;exact g1.rel hs0.osim (g0.rel hs.osim (hcr j d u hd hu))
 have hent:=dB.enter (nt:=fn5.ntmps) (args:=DV.v (.func (.yield (w.heap.size+1)) #[] #[])::caps) (vals:= #[Value.func (.yield (w.heap.size+1)) #[] #[]]++vs) hs1.osim (by simp[hc1];omega) (by simpa using hn5.1) hn5.2 hargs;obtain⟨G1,hG1⟩: ∃G1:Nat→Prop,G1=fun g=> ∃r∈rs,r.B=some g:=⟨_,rfl⟩;have hno: ∀s k c,cG A s=some (some k,c)→A (s-100000)=some (some k,c):=fun s k c h=>by
  unfold cG at h;split at h
  ·cases h
  exact h
 have hF:FO enc e z W1 I (cG A) G1 (w.heap.size+1) w.heap.size rec (fun i=>rdS i (ρ i)) fn.ntmps rs W1 I (cG A):=by
  refine⟨⟨fun r hr=>?_,hfo1.2.1,fun r hr k hk=>.inl (by rw[hG1];exact⟨r,hr,hk⟩),XF.refl _ _ _ _⟩,⟨hL1,hfresh _ aV⟩,⟨hD1,hfresh _ (bW _)⟩,fun i hi=>?_⟩
  ·have:=hfo1.1 r hr;exact⟨this.base,this.row,fun k hk=>⟨(this.free k hk).1,(this.free k hk).2.1,fun s c h=>(this.free k hk).2.2 _ c (hno s k c h)⟩⟩
  have:=(hs1.slot i hi).inner;rw[hrecd];exact this
 have hrecs:rec.params= #[p]∧rec.assign=asg∧rec.body=body∧rec.state=.ready∧rec.pending=none∧rec.tmps.size=fn.ntmps:=by rw[hrecd];exact⟨rfl,rfl,rfl,rfl,rfl,hs.size⟩
 have hwalk:=h5 W1 I (cG A) G1 (w.heap.size+1) w.heap.size rec hrecs.1 hrecs.2.1 hrecs.2.2.1 hrecs.2.2.2.1 hrecs.2.2.2.2.1 hrecs.2.2.2.2.2 none [] I (cG A) _ W1 hent rfl hF;refine callsIn_of_wp (F:=FR none) (n:=0) hf hb5 trivial (wpIn_mono hwalk ?_);rintro en a3 w3 ⟨I3,A3,ρ3,rs3,k1,k2,⟨⟨f1,f2,f3,f4⟩,hl3,hD3,hT3⟩,hen,O',hO1,hO2,hO3⟩;have hresult:(results fn5 a3.tmps).run P w3=.ok (.tuple #[]) w3:=by simp[results,hr5]
 suffices hgoal:rangePost (FR none) 0 P (w.heap.size+1) (Exit.inBlock b (Exit.then (fun a w=>rest.wpIn (FR none) 0 P (bAz P fn O R w0 I0 A0) a w) (bAz P fn O R w0 I0 A0))) {a with defers:=[{target:=.collected w.heap.size,args:= #[]}]++a.defers} (.returned (.tuple #[])) w3 by
  rcases hen with rfl|rfl
  ·exact⟨k2,_,hresult,hgoal⟩
  exact⟨k2,_,hresult,hgoal⟩
 obtain⟨w4,hw4⟩: ∃w4,w3.putObj (w.heap.size+1) (.loop {rec with state:=.exhausted})=w4:=⟨_,rfl⟩;refine⟨none,w4,?_,?_⟩
 ·have:=run_endLoop (P:=P) hl3.1 (by rw[hrecs.2.2.2.1];simp);rw[hw4,hrecs.2.2.2.2.1] at this;exact this
 have hos4:=k1.osim.aside hl3 (.loop {rec with state:=.exhausted});have hD4:=hD3.other (g:=w.heap.size+1) aV (.loop {rec with state:=.exhausted});rw[hw4] at hos4 hD4;have hA3: ∀s,A3 (s+100000)=A s:=fun s=>by rw[f4.outA _ aV,d7]
 have hfun:(fun s=>A3 (s+100000))=A:=funext hA3;have hh4: ∀k,k≠w.heap.size+1→w4.heap[k]?=w3.heap[k]?:=fun k h=>by rw[← hw4];exact World.putObj_heap_other h
 have hI4: ∀k,I k→I3 k∧w4.heap[k]?=w.heap[k]?:=fun k hk=>by
  have hk1:=hs.osim.imm k hk;refine⟨f4.imm k hk,?_⟩;rw[hh4 k aV,(f4.old k aV (fun s c h=>(hs.osim.sep _ k c (hno s k c h)).2 hk) fun h=>by
   rw[hG1] at h;obtain⟨r,hr,hB⟩:=h;exact ((hfo.1 r hr).free k hB).2.1 hk).1,g1.heap k aV,g0.heap k hk1]
 have hrel: ∀B d x,bP w I B d x→bP w4 I3 B d x:=fun B d x hr=>hr.mono fun k hk=>⟨(hI4 k hk).1,fun o=>eD (hI4 k hk).2 o⟩;have hsim:dB fn.ntmps w4 I3 A O' {a with defers:=[{target:=.collected w.heap.size,args:= #[]}]++a.defers}:=by
  refine⟨⟨fun s=>?_,hs.osim.inj,fun s k c hA=>hos4.sep (s+100000) k c ((hA3 s).trans hA),hos4.imm⟩,hs.size,hs.bound,fun i hi=>?_,fun s h=>?_⟩
  ·have:=hos4.own (s+100000);have hρ3:ρ3 (s+100000)=sh (O' s):=by
    have hq:=congrFun hO1 (s+100000);rw[cI] at hq;refine Eq.trans ?_ hq;unfold hi;rw[if_neg aV]
   rw[hρ3] at this;have:=this.outof (s:=s) rfl
   rwa [hfun] at this
  ·have hsl:=(hs.slot i hi).keep hrel;show eU w4 I3 A i (O' i) (a.tmps.getD i undef);rcases hO2 i with h|⟨_,⟨c,c',h1,h2⟩|⟨m,m',h1,h2⟩⟩
   ·rw[h];exact hsl
   ·rw[h1] at hsl;rw[h2];exact hsl
   rw[h1] at hsl;rw[h2];exact hsl
  rcases hO2 s with h'|⟨h',_⟩
  ·rw[h'];exact hs.out s h
  omega
 have hxf:XF w0 I0 (cG A0) (fun _=>False) w4 I3 A:=by
  have f0:=hfo.2.2.2;refine⟨?_,?_,?_,?_,fun k hk=>(hI4 k (f0.imm k hk)).1,fun k hk hA hG=>?_,f0.outA⟩
  ·rw[← hw4];show w3.os=_;rw[f4.os,g1.os,g0.os,f0.os]
  ·have e1:=f4.tape;have e2:=g1.tape;have e3:=g0.tape;have e4:=f0.tape;rw[← hw4];exact⟨e1.1.trans (e2.1.trans (e3.1.trans e4.1)),eL e4.2 (eL e3.2 (eL e2.2 e1.2))⟩
  ·rw[← hw4];show w3.output=_;rw[f4.output,g1.output,g0.output,f0.output]
  ·have:=f4.size;have:=f0.size;rw[← hw4,World.putObj_size];omega
  obtain⟨q1,q2,q3⟩:=f0.old k hk hA hG;have hkw:k<w.heap.size:=eE hk f0.size;obtain⟨m1,m2,m3⟩:=f4.old k aV (fun s c h=>q3 _ c (hno s k c h)) fun h=>by
   rw[hG1] at h;obtain⟨r,hr,hB⟩:=h;rcases hfo.2.2.1 r hr k hB with h|h
   ·exact h
   omega
  exact⟨by rw[hh4 k aV,m1,g1.heap k aV,g0.heap k hkw,q1],fun h=>q2 (m2 h),q3⟩
 have hD5:Hid w.heap.size (.deferred (some [])) w4 I3 A:=⟨hD4.1,hD4.2.1,fun s c h=>by have:=(hs.osim.sep s _ c h).1;omega⟩;show rest.wpIn (FR none) 0 P (bAz P fn O R w0 I0 A0) _ w4;have hdf:([{target:=.collected w.heap.size,args:= #[]}]++a.defers:List Deferred)=[{target:=.collected w.heap.size,args:= #[]}]:=by rw[hd];rfl
 refine wpIn_mono (hrest O' hO3 none [{target:=.collected w.heap.size,args:= #[]}] I3 A _ w4 hsim hdf) ?_;rintro en2 a5 w5 ⟨I5,A5,ρ5,r1,r2,r3,r4,r5⟩;exact⟨r4,I5,A5,ρ5,r1,hxf.ext r3,r5,.inr ⟨w.heap.size,r2,hD5.ext r3,hfo.2.2.2.size⟩⟩
end
section
variable {P:Program} {nt:Nat} {ρ:aN}
theorem bIm {ops:Array Oper} {o:Oper} {K:aN→Prop} {t:TypeId} {ad x:Operand} {s m:Nat} {c0:DV} (hop:o.op=.store t ad x) (hg:o.guard=none) (hdst:o.dst=none) (ho:eJ nt o=true)
  (ha:ev ρ ad=.bp s 0) (hx:ev ρ x=.mr m) (hz:gV P t=some 1) (hs1:s<100000) (hρ:ρ s=.bx [c0]) (hK:K (set ρ s (.bx [.mr m]))):OW P nt ops o K ρ:=by
 refine aAj hg fun I A a w hs=>?_;have hxr:=hs.opd x (bM ho (by simp[hop,Op.operands])) (by rw[hx];trivial);have hadr:=hs.opd ad (bM ho (by simp[hop,Op.operands])) (by rw[ha];trivial);rw[ha] at hadr;rw[hx] at hxr;have hadr:bP w I A (.bp s 0) (a.eval ad):=hadr;have hxr:bP w I A (.mr m) (a.eval x):=hxr;generalize hav:a.eval ad=av at*;generalize hxv:a.eval x=xv at*;cases hadr with
 |bp _ _ _ g c hA=>
  have hown:=hs.osim.own s;rw[hρ] at hown;obtain⟨g',c',us,et,q1,q2,q3,q4,q5⟩:=hown;rw[hA] at q1;simp only[bX,cF] at q1;obtain⟨rfl,rfl⟩:=q1;cases hxr with
  |mr _ _ gm cm hm=>
   have hrun:=yJ (P:=P) (w:=w) hz (x:=.map (some gm)) rfl q2 (o:=0) (by rw[q3];simp) (by simp[Value.cells];rfl);generalize hnew:(us.toList.take 0++(Value.map (some gm)).cells.toList++us.toList.drop (0+1)).toArray=new at hrun;have hnw:new= #[.map (some gm)]:=by
    rw[← hnew];have:us.toList.drop (0+1)=[]:=List.drop_of_length_le (by rw[xT,q3];simp);rw[this];rfl
   refine⟨w.setRow g new,I,A,_,?_,?_,f8.turn hA new,hK⟩
   ·simp only[execOp,hop,Sem.run_bind,hav,hxv,hrun,Result.andThen_ok,Sem.run_pure]
   rw[hdst];refine hs.turn hA q2 (fun v hv=>?_) ?_ fun hs'=>absurd hs' aV
   ·rw[hρ] at hv;exact hv
   refine⟨g,c,_,et,hA,setRow_heap w g us _ et _ q2,by rw[hnw];rfl,fun u hu=>by rw[hnw] at hu;simp at hu;subst hu;rfl,fun j e u he hu=>?_⟩;rw[hnw] at hu;cases j with
   |zero=>
    simp at he hu;subst he;subst hu;exact .mr _ _ gm cm hm
   |succ j=>simp at he
end
theorem aQp.mono {P:Program} {O:aN} {f:FuncId} {args:List DV} {j:Nat} {e:TypeId} {z:Nat} {xs:List (List DV)} {R R':List (List DV)→Prop} (h:aQp P O f args j e z xs R) (hr: ∀ys,R ys→R' ys):aQp P O f args j e z xs R':=
 fun w I A vals B c b h1 h2 h3 h4 h5 h6 h7=>(h w I A vals B c b h1 h2 h3 h4 h5 h6 h7).mono fun _ _ ⟨b,I',ys,B',c',q1,q2,q3,q4,q5,q6⟩=>⟨b,I',ys,B',c',q1,q2,q3,q4,hr _ q5,q6⟩
end Go.Sg
namespace Go.Sg
open Go.Proofs
open Go.RowKit
open Go.Rv (goodB FR)
def sW (a:Pl):Value:=.agg #[.int .i64 (a 0),.int .i64 (a 1),.int .i64 (a 2),.int .i64 (a 3)]
def esM (M:Mp):List (Value×Value):=M.map fun x=>(sW x.1,x.2.val)
def rsM (M:Mp):List (Rw Dr):=M.map (·.2)
def s0 (O:aN) (M:Mp) (best:Dr):aN:=set (set O 30 (.mo (esM M))) 10 (.bx (fG best))
theorem bHj (M N:Mp):esM (M++N)=esM M++esM N:=eM
theorem aRx (M N:Mp):rsM (M++N)=rsM M++rsM N:=eM
theorem bOd (x:Pl×Rw Dr) (M:Mp):esM (x::M)=(sW x.1,x.2.val)::esM M:=rfl
theorem aVz (x:Pl×Rw Dr) (M:Mp):rsM (x::M)=x.2::rsM M:=rfl
theorem aVl (w:Go.World) (I:Nat→Prop) (A:dD) (a:Pl) (v:Value) (h:bP w I A (.agg (mT a)) v):v=sW a:=by
 cases h with
 |agg _ _ vs hl hone hrel=>
  have hsz:vs.size=4:=by rw[← hl,aVa]
  have hg: ∀k (hk:k<4),vs[k]?=some (.int .i64 (a k)):=fun k hk=>by
   have h1:(mT a)[k]?=some (vi (a k:Nat)):=by
    unfold mT;rw[dG,p9 hk];rfl
   have h2:vs[k]?=some (vs[k]'(by omega)):=iY aV;have h3:=hrel k _ _ h1 h2;rw[h2];generalize vs[k]'(by omega)=u at h3;cases h3;rfl
  unfold sW;congr 1;apply Array.ext
  ·rw[hsz];rfl
  intro k h1 h2;have hk:k<4:=by omega
  have:=hg k hk;rw[iY h1] at this;rw[dO this]
  match k,hk with
  |0,_=>rfl
  |1,_=>rfl
  |2,_=>rfl
  |3,_=>rfl
theorem bHg {n:Nat} (h:n≤4) (d:Nat):Tryz.prog.keyLits (d+1) 3 [.int .i64 (n:Int)]=some [.int .i64 n]:=by
 have u3:Tryz.prog.underlying 3=some (.int .i64):=by kernel_rfl
 have hw:(Lit.int .i64 (n:Int)).wf=true:=by
  have:n=0∨n=1∨n=2∨n=3∨n=4:=by omega
  rcases this with rfl|rfl|rfl|rfl|rfl<;>rfl
 unfold Program.keyLits;rw[u3];simp[hw]
theorem bKo {a:Pl} (h: ∀k,a k≤4):goodB Tryz.prog 193 (sW a)=true:=by
 have u:Tryz.prog.underlying 193=some (.array 4 3):=by kernel_rfl
 have c62:Tryz.prog.cellsOf 193=4:=by kernel_rfl
 have c3:Tryz.prog.cellsOf 3=1:=by kernel_rfl
 have k1:Tryz.prog.keyType 193=true:=by kernel_rfl
 have k2:Tryz.prog.keyTypeAt 8 193=true:=by kernel_rfl
 have k3:Tryz.prog.tiled 8 193=true:=by kernel_rfl
 obtain⟨d,hd⟩: ∃d,Tryz.prog.types.size+1=d+1+1:=⟨Tryz.prog.types.size-1,by kernel_rfl⟩;have hf:(sW a).formed Tryz.prog 193=true:=by unfold sW Value.formed;simp only[u,c62];rfl
 have hl:Tryz.prog.keyLits (d+1+1) 193 (sW a).cells.toList=some [.int .i64 (a 0),.int .i64 (a 1),.int .i64 (a 2),.int .i64 (a 3)]:=by
  unfold sW Program.keyLits;rw[u];simp only[Value.cells,c62,c3,qH,aPq,gH,Nat.reduceAdd,if_true,show List.range 4=[0,1,2,3] from rfl,aXi,List.mapM_nil,Nat.mul_one,iP,aHc,List.take_zero,List.drop_succ_cons];simp[bHg (h 0),bHg (h 1),bHg (h 2),bHg (h 3)]
 unfold goodB keyOf;rw[u];simp only[k1,k2,k3,hf,hd,hl,Bool.and_self,if_true,gG,Option.isSome_some]
theorem vp4 {tr:List bR} (ho:Ok tr) {a:Pl} (ha:Vp tr a): ∀k,a k≤4:=fun k=>by
 rcases b9 k tr.length with h|h
 ·exact eL (ha.1 k h) (ho.l k h).2
 rw[ha.2 k h];omega
theorem aEf {tr:List bR} (ho:Ok tr) {a:Pl} (ha:Vp tr a):goodB Tryz.prog 193 (sW a)=true:=bKo (vp4 ho ha)
theorem aTh {tr:List bR} (ho:Ok tr) {M:Mp} (hv: ∀x∈M,Vp tr x.1): ∀e∈esM M,goodB Tryz.prog 193 e.1=true:=fun e he=>by
 obtain⟨x,hx,rfl⟩:=dZ.1 he;exact aEf ho (hv x hx)
theorem cHz: ∃i,Tryz.prog.info? 194=some i∧i.zero=some (.slice none 0 0):=⟨_,rfl,by kernel_rfl⟩
theorem bEf {tr:List bR} (hn:tr.length≤4) {a b:Pl} (ha:Vp tr a) (hb:Vp tr b) (h:sW a=sW b):a=b:=by
 unfold sW at h;simp only[Value.agg.injEq,Array.mk.injEq,List.cons.injEq,Value.int.injEq,Int.ofNat_inj,jE,jC] at h;obtain⟨h0,h1,h2,h3⟩:=h;funext k;rcases b9 k 4 with hk|hk
 ·match k,hk with
  |0,_=>exact h0
  |1,_=>exact h1
  |2,_=>exact h2
  |3,_=>exact h3
 rw[ha.2 k aV,hb.2 k aV]
def LkS (M:Mp) (a:Pl) (r:Rw Dr) (M1 M2:Mp):Prop:=M=M1++(a,r)::M2∨(r=aEr Dr∧M=M1∧M2=[]∧ ∀x∈M,x.1≠a)
theorem bSi (M:Mp) (a:Pl): ∃r M1 M2,LkS M a r M1 M2:=by
 by_cases h: ∃x∈M,x.1=a
 ·obtain⟨x,hx,rfl⟩:=h;obtain⟨M1,M2,h⟩:=List.append_of_mem hx;exact⟨x.2,M1,M2,.inl h⟩
 refine⟨aEr Dr,M,[],.inr ⟨rfl,rfl,rfl,fun x hx e=>h ⟨x,hx,e⟩⟩⟩
theorem xB {κ υ:Type}: ∀{l1 m1 l2 m2:List (κ×υ)} {k:κ} {u v:υ},l1++(k,u)::l2=m1++(k,v)::m2→((l1++(k,u)::l2).Pairwise fun x y=>x.1≠y.1)→l1=m1∧u=v∧l2=m2
 | [],[],l2,m2,k,u,v,h,_=>by simp at h;exact⟨rfl,h.1,h.2⟩
 | [],y::m1,l2,m2,k,u,v,h,hp=>by
  simp only[yS,wA,List.cons.injEq] at h;obtain⟨rfl,rfl⟩:=h;simp at hp;exact absurd rfl (hp.1 _ v (.inr (.inl ⟨rfl,rfl⟩)))
 |x::l1,[],l2,m2,k,u,v,h,hp=>by
  simp only[yS,wA,List.cons.injEq] at h;obtain⟨rfl,h⟩:=h;simp only[wA,lZ] at hp;exact absurd rfl (hp.1 (k,u) dH)
 |x::l1,y::m1,l2,m2,k,u,v,h,hp=>by
  simp only[wA,List.cons.injEq] at h;simp only[wA,lZ] at hp;obtain⟨h1,h2,h3⟩:=xB h.2 hp.2;exact⟨by rw[h.1,h1],h2,h3⟩
section
variable {tr:List bR} {M M1 M2:Mp} {a:Pl} {r:Rw Dr}
theorem bTk (hn:tr.length≤4) (hv: ∀x∈M,Vp tr x.1) (hu:M.Pairwise fun x y=>x.1≠y.1):(esM M).Pairwise fun x y=>x.1≠y.1:=by
 unfold esM;rw[List.pairwise_map];exact List.Pairwise.imp_of_mem (fun {x y} hx hy h e=>h (bEf hn (hv x hx) (hv y hy) e)) hu
theorem bNl (hn:tr.length≤4) (hv: ∀x∈M,Vp tr x.1) (ha:Vp tr a) (h: ∀x∈M,x.1≠a): ∀e∈esM M,e.1≠sW a:=fun e he=>by
 obtain⟨x,hx,rfl⟩:=dZ.1 he;exact fun h2=>h x hx (bEf hn (hv x hx) ha h2)
theorem yL (h:M=M1++(a,r)::M2):esM M=esM M1++(sW a,r.val)::esM M2:=by rw[h,bHj,bOd]
section
variable {P:Program} {nt:Nat} {ρ:aN} {ops:Array Oper} {o:Oper} {K:aN→Prop} {t:TypeId} {x k y:Operand} {s:Nat}
theorem aYw (hlk:LkS M a r M1 M2) (ho':Ok tr) (hv: ∀x∈M,Vp tr x.1) (ha:Vp tr a) (hu:M.Pairwise fun x y=>x.1≠y.1) (hop:o.op=.lookup 195 x k false) (hg:o.guard=none) (ho:eJ nt o=true) (hd:jH nt o=true)
  (hx:ev ρ x=.mr s) (hes:ρ s=.mo (esM M)) (hk:gd (ev ρ k)) (hkv:un (ev ρ k)=.agg (mT a)) (hK:K (cO ρ o.dst (.v r.val))):OW Tryz.prog nt ops o K ρ:=by
 obtain⟨i,hi1,hi2⟩:=cHz;refine bAu (s:=s) (i:=i) (z:=.slice none 0 0) (kt:=193) (e:=194) (kv:=sW a) (es:=esM M) hop hg ho hd hx hes hk (fun w I A v h=>aVl w I A a v (hkv▸h)) bF hi1 hi2 (aEf ho' ha) (aTh ho' hv) (fun hne=>?_) fun es1 v es2 he=>?_
 ·rcases hlk with h|⟨rfl,_⟩
  ·exact absurd rfl (hne (sW a,r.val) (by rw[yL h];simp))
  exact hK
 rcases hlk with h|⟨_,_,_,h⟩
 ·rw[yL h] at he;obtain⟨_,h2,_⟩:=xB he (by rw[← yL h];exact bTk ho'.n hv hu);rw[← h2];exact hK
 exact absurd rfl (bNl ho'.n hv ha h (sW a,v) (by rw[he];simp))
theorem cAh (hlk:LkS M a r M1 M2) (ho':Ok tr) (hv: ∀x∈M,Vp tr x.1) (ha:Vp tr a) (hu:M.Pairwise fun x y=>x.1≠y.1) (hop:o.op=.call ⟨.builtin .delete,#[x,k],#[195,193]⟩) (hg:o.guard=none) (hdst:o.dst=none) (ho:eJ nt o=true)
  (hx:ev ρ x=.mr s) (hes:ρ s=.mo (esM M)) (hk:gd (ev ρ k)) (hkv:un (ev ρ k)=.agg (mT a)) (hK:K (set ρ s (.mo (esM (M1++M2))))):OW Tryz.prog nt ops o K ρ:=by
 refine bAe (s:=s) (kt:=193) (e:=194) (kv:=sW a) (es:=esM M) hop hg hdst ho hx hes hk (fun w I A v h=>aVl w I A a v (hkv▸h)) bF (aEf ho' ha) (aTh ho' hv) (fun hne=>?_) fun es1 v es2 he=>?_
 ·rcases hlk with h|⟨rfl,rfl,rfl,_⟩
  ·exact absurd rfl (hne (sW a,r.val) (by rw[yL h];simp))
  rw[kZ] at hK;exact hK
 rcases hlk with h|⟨_,_,_,h⟩
 ·rw[yL h] at he;obtain⟨h1,h2,h3⟩:=xB he (by rw[← yL h];exact bTk ho'.n hv hu);rw[← h1,← h3,← bHj];exact hK
 exact absurd rfl (bNl ho'.n hv ha h (sW a,v) (by rw[he];simp))
theorem bFp {r':Rw Dr} (hlk:LkS M a r M1 M2) (ho':Ok tr) (hv: ∀x∈M,Vp tr x.1) (ha:Vp tr a) (hu:M.Pairwise fun x y=>x.1≠y.1) (hop:o.op=.mapUpdate 195 x k y∨o.op=.insert 195 x k y) (hg:o.guard=none) (hdst:o.dst=none) (ho:eJ nt o=true)
  (hx:ev ρ x=.mr s) (hes:ρ s=.mo (esM M)) (hk:gd (ev ρ k)) (hkv:un (ev ρ k)=.agg (mT a)) (hy:ev ρ y=.v r'.val) (hK:K (set ρ s (.mo (esM (M1++(a,r')::M2))))):OW Tryz.prog nt ops o K ρ:=by
 refine bAo (s:=s) (kt:=193) (e:=194) (kv:=sW a) (es:=esM M) hop hg hdst ho hx hes hk (fun w I A v h=>aVl w I A a v (hkv▸h)) hy bF (aEf ho' ha) (aTh ho' hv) (fun hne=>?_) fun es1 v es2 he=>?_
 ·rcases hlk with h|⟨rfl,rfl,rfl,_⟩
  ·exact absurd rfl (hne (sW a,r.val) (by rw[yL h];simp))
  rw[yL rfl] at hK;exact hK
 rcases hlk with h|⟨_,_,_,h⟩
 ·rw[yL h] at he;obtain⟨h1,h2,h3⟩:=xB he (by rw[← yL h];exact bTk ho'.n hv hu);rw[← h1,← h3];rw[yL rfl] at hK;exact hK
 exact absurd rfl (bNl ho'.n hv ha h (sW a,v) (by rw[he];simp))
end
theorem cDp (h:LkS M a r M1 M2):rsM M=rsM M1++r::rsM M2∨(r=aEr Dr∧rsM M=rsM M1++rsM M2):=by
 rcases h with rfl|⟨h,rfl,rfl,_⟩
 ·exact .inl (by rw[aRx,aVz])
 exact .inr ⟨h,by simp[rsM]⟩
end
section
variable (O:aN) (M M':Mp) (best best':Dr)
theorem cEu:s0 O M best 10=.bx (fG best):=by unfold s0;rw[aK,if_pos rfl]
theorem cSu:s0 O M best 30=.mo (esM M):=by unfold s0;rw[aK,if_neg eN,aK,if_pos rfl]
theorem cTr:s0 O M best 9=O 9:=by unfold s0;rw[aK,if_neg eN,aK,if_neg eN]
theorem cHl:set (s0 O M best) 10 (.bx (fG best'))=s0 O M best':=by
 funext s;unfold s0;simp only[aK];split<;>rfl
theorem cFw:set (s0 O M best) 30 (.mo (esM M'))=s0 O M' best:=by
 funext s;unfold s0;simp only[aK];split<;>split<;>first|rfl|(exfalso;omega)|(split<;>first|rfl|(exfalso;omega))
theorem cCf (h10:O 10=.bx (fG best)) (h30:O 30=.mo (esM M)):aKy O (s0 O M' best'):=fun s=>by
 unfold s0;simp only[aK];split
 ·rename_i e;subst e;exact .inr ⟨by decide,.inl ⟨_,_,h10,rfl⟩⟩
 split
 ·rename_i e;subst e;exact .inr ⟨by decide,.inr ⟨_,_,h30,rfl⟩⟩
 exact .inl rfl
end
def aKd:Code→Option (Code×Code)
 | .rangeFunc _ _ a b=>some (a,b)
 | .seq a b=>match aKd a with
  |some x=>some x
  |none=>aKd b
 | .block _ c=>aKd c
 |_=>none
end Go.Sg
namespace Go.Sg
open Go.Proofs
open Go.RowKit
noncomputable def bAj:Code×Code:=((Tryz.f47.body.bind aKd).getD (.skip,.skip))
theorem cSt (l:List Dr):Sg.frz 16 (l.map fG)=.sl 16 l.length fun i=>(l.map fG).getD i []:=by unfold Sg.frz;rw[cJ]
theorem cFl {l:List Dr} {k:Nat} (h:k<l.length):l.drop k=gD l k::l.drop (k+1):=by
 rw[aMf h];congr 1;unfold gD;rw[cA,cH h];rfl
theorem bRa {M M1 M2:Mp} {a:Pl} {r:Rw Dr} (h:LkS M a r M1 M2):(M1++M2=M∧(∀x∈M,x.1≠a)∧r.l=[])∨ ∃N1 q N2,M=N1++(a,q)::N2∧M1++M2=N1++N2∧r.l=q.l:=by
 rcases h with h|⟨rfl,rfl,rfl,h⟩
 ·exact .inr ⟨M1,r,M2,h,rfl,rfl⟩
 exact .inl ⟨kZ _,h,rfl⟩
theorem cLa {M M1 M2:Mp} {a:Pl} {r r':Rw Dr} (h:LkS M a r M1 M2):(M1++(a,r')::M2=M++[(a,r')]∧(∀x∈M,x.1≠a)∧r.l=[])∨ ∃N1 q N2,M=N1++(a,q)::N2∧M1++(a,r')::M2=N1++(a,r')::N2∧r.l=q.l:=by
 rcases h with h|⟨rfl,rfl,rfl,h⟩
 ·exact .inr ⟨M1,r,M2,h,rfl,rfl⟩
 exact .inl ⟨rfl,h,rfl⟩
theorem cDx:(4:Nat)^16=4294967296:=by decide
theorem bPy {tr:List bR} {c:Cl} {kn:Dr} {at_ a:Pl} {M M1 M2:Mp} {best:Dr} {k i:Nat} {Cu:Pl→Dr→Prop} {r:Rw Dr} (ho:Ok tr) (h:nW tr c kn at_ M best k i Cu) (hk:k≤4^16) (hl:LkS M a r M1 M2):(∀d∈r.l,Bd d)∧r.l.length≤1000000000000:=by
 rcases hl with hl|⟨rfl,_⟩
 ·have hx:(a,r)∈M:=by rw[hl];simp
  refine⟨fun d hd=>(h.rch _ hx d hd).bd' ho,?_⟩;rcases nL r.l.length with h0|h0
  ·omega
  obtain⟨d,hd⟩: ∃d,d∈r.l:=List.exists_mem_of_length_pos h0;have hs:4^sA a≤4^16:=Nat.pow_le_pow_right eN ((h.rch _ hx d hd).sum ho);have hb:=bTn ho (at_:=at_) (h.key _ hx).2;have hb:bdN tr at_ a≤4^sA a:=hb;rw[cDx] at hs hk;by_cases e: ∃j,j<tr.length∧a=lK at_ j (at_ j+1)
  ·obtain⟨j,hj,he⟩:=e;have:=h.nc _ hx j hj he;have this:r.l.length≤bdN tr at_ a+k+if j<i then 1 else 0:=this
   split at this<;>omega
  have:=h.nb _ hx fun j hj he=>e ⟨j,hj,he⟩;have this:r.l.length≤bdN tr at_ a:=this;omega
 exact⟨fun d hd=>(by cases hd),by simp[aEr]⟩
section
attribute [local go_sem] aZf aCz cJ aCl aLn Nat.reduceBNe cSt gR fI
set_option maxRecDepth 20000 in
theorem aZd (O:aN) (tr:List bR) (c:Cl) (kn best0:Dr) (at_:Pl) (M0:Mp) (ho:Ok tr) (hkn:nD tr c kn) (h9:O 9=.bx [.mr 30]) (hO:aGu tr c kn at_ M0 best0) (hat:Vp tr at_) (hsum:sA at_≤16): ∀w1 I1 A1 G1,oL Tryz.prog 106 (Fo fG 191 16 w1 I1 A1 G1) bAj.2 (fun e' s' ρ'=>e'=.normal∧ ∃(M':Mp) (best':Dr) (fs:List Dr) (k:Nat),s'=rsM M'∧hi ρ'=bS (s0 O M' best')∧fs.length≤k∧k≤4^sA at_∧nW tr c kn at_ M' best' k 0 (fun a e=>a=at_∧e∈fs.drop k)) (rsM M0) (dU (s0 O M0 best0) [(3,.dp [cL tr]),(7,.dp [gY tr c]),(8,.dp (fG kn)),(9,.bp 100009 0),(10,.bp 100010 0),(11,.bx (mT at_))]):=by
 have hn:=ho.n;have sw10: ∀(ρ:aN) (i:Nat) (v w:DV),i<100000→set (set ρ i v) 100010 w=set (set ρ 100010 w) i v:=fun ρ i v w h=>aOd ρ v w h aV;have sw30: ∀(ρ:aN) (i:Nat) (v w:DV),i<100000→set (set ρ i v) 100030 w=set (set ρ 100030 w) i v:=fun ρ i v w h=>aOd ρ v w h aV;have rd9: ∀M be,bS (s0 O M be) 100009=.bx [.mr 100030]:=fun M be=>by
  show bS _ (9+100000)=_;rw[cI,cTr,h9];rfl
 have rd10: ∀M be,bS (s0 O M be) 100010=.bx (fG be):=fun M be=>by
  show bS _ (10+100000)=_;rw[cI,cEu];exact congrArg DV.bx (aDo _ _)
 have rd30: ∀M be,bS (s0 O M be) 100030=.mo (esM M):=fun M be=>by
  show bS _ (30+100000)=_;rw[cI,cSu];rfl
 have wr10: ∀M be be',set (bS (s0 O M be)) 100010 (.bx (fG be'))=bS (s0 O M be'):=fun M be be'=>by
  rw[← cHl O M be be',qN];exact congrArg (set _ _) (congrArg DV.bx (aDo _ _).symm)
 have wr30: ∀M M' be,set (bS (s0 O M be)) 100030 (.mo (esM M'))=bS (s0 O M' be):=fun M M' be=>by
  rw[← cFw O M M' be,qN];rfl
 have hsx:=cP rd9 (cP rd10 (cP rd30 (cP wr10 (cP wr30 (cP sw10 sw30)))));obtain⟨r0,M1,M2,hlk⟩:=bSi M0 at_;have hvis:=aGu.visit ho hO (bRa hlk);have hlen16:r0.l.length≤4^16:=eL hvis.2.2 (Nat.pow_le_pow_right eN hsum);have hlenN:r0.l.length≤4294967296:=by rw[cDx] at hlen16;exact hlen16
 intro w1 I1 A1 G1;have hF:=cEn fG 191 16 w1 I1 A1 G1
 try simp only[dU]
 refine mF ?_;refine dM fun _ Z0=>?_;refine jY (Le.keepC [3,7,8,9,10,11] _) ?_;refine uF ?_;refine dS hF ?_;refine bV rfl bF bF ?_;refine gE ?_;refine dS hF ?_;refine bV rfl bF bF ?_;refine gE ?_;refine dS hF (aYw (s:=100030) hlk ho (fun x hx=>(hO.key x hx).2) hat hO.un rfl rfl bF bF xU xU (by simp (disch:=omega) only[go_sem,seval,hsx];try trivial) xU ?_);simp (disch:=omega) only[go_sem,seval,hsx];refine dS hF ?_;refine bV rfl bF bF ?_;refine gE ?_;refine Z0 _ _ (dM fun _ Z1=>?_);refine jY (Le.keepC [3,7,8,9,10,11,12] _) ?_;refine uF ?_;refine dS hF ?_;refine bV rfl bF bF ?_;refine gE ?_;refine dS hF ?_;refine bV rfl bF bF ?_;refine gE ?_;refine dS hF (cAh (s:=100030) hlk ho (fun x hx=>(hO.key x hx).2) hat hO.un rfl rfl rfl bF xU xU (by simp (disch:=omega) only[go_sem,seval,hsx];try trivial) xU ?_);refine gE ?_;refine Z1 _ _ (dM fun _ Z2=>?_);refine bCa (r:=r0) (s1:=rsM M1) (s2:=rsM M2) 12 eN xU (cDp hlk) ?_;rw[← aRx];refine dW hF ?_;refine cN [3,7,8,9,10,11,12] ?_;refine Z2 _ _ (mF ?_);refine xD [3,7,8,9,10,11,45,46,47] (fun n sF ρ=> ∃k,∃M,∃best,n=r0.l.length-k∧sF=rsM M∧(k≤r0.l.length)∧(nW tr c kn at_ M best k 0 (fun a e=>a=at_∧e∈r0.l.drop k))∧ρ=dU (s0 O M best) [(3,.dp [cL tr]),(7,.dp [gY tr c]),(8,.dp (fG kn)),(9,.bp 100009 0),(10,.bp 100010 0),(11,.bx (mT at_)),(45,.sl 16 r0.l.length fun i=>(r0.l.map fG).getD i []),(46,vi (r0.l.length:Nat)),(47,vi (k:Nat))]) _ ⟨0,(M1++M2),best0,rfl,rfl,?_,?_,?_⟩ ?_
 ·exact bD
 ·exact hvis.1
 ·exact eX
 rintro n sF ρ ⟨k,M,best,rfl,rfl,l0_0,l0_1,rfl⟩ _ Z3;refine dM fun _ Z4=>?_;refine dW hF ?_;refine cN [3,7,8,9,10,11,12,45,46,47] ?_;refine Z4 _ _ (dM fun _ Z5=>?_);refine cQ (fun c0=>?_) fun c0=>?_
 ·refine nU ?_;refine Z5 _ _ (dM fun _ Z6=>?_);refine mF ?_;refine dM fun _ Z7=>?_;have hdk:=cFl c0;have hrd:vA tr c at_ (gD r0.l k):=hvis.2.1 _ (aHh c0);refine dW hF ?_;refine cN [3,7,8,9,10,11,12,45,46,47] ?_;refine Z7 _ _ (bJh [3,7,8,9,10,11,45,46,47,14] (fun sF ρ=> ∃be,sF=rsM M∧(nW tr c kn at_ M be k 0 (fun a e=>(a=at_∧e∈r0.l.drop (k+1))∨NxZ tr c at_ (gD r0.l k) 0 a e))∧ρ=dU (s0 O M be) [(3,.dp [cL tr]),(7,.dp [gY tr c]),(8,.dp (fG kn)),(9,.bp 100009 0),(10,.bp 100010 0),(11,.bx (mT at_)),(45,.sl 16 r0.l.length fun i=>(r0.l.map fG).getD i []),(46,vi (r0.l.length:Nat)),(47,vi (k:Nat)),(14,.bx (fG (gD r0.l k)))]) (fun _ Z8=>?_) ?_)
  ·skip
   refine dM fun _ Z9=>?_;refine dW hF ?_;refine eZ [3,7,8,9,10,11,12,14,45,46,47] ?_;refine pV (vV _ tr c at_ ho) ?_;refine bLa (fun g0=>kJ _ tr c (gD r0.l k) best ho (hrd.bd' ho) (l0_1.full.bd' ho)) ?_;refine Z9 _ _ (cQ (fun c1=>?_) fun c1=>?_)
   ·refine dW hF ?_;refine cN [3,7,8,9,10,11,12,14,45,46,47] ?_;refine Z8 _ _ ⟨(gD r0.l k),rfl,?_,?_⟩
    ·(have h:=nW.take ho hrd hdk l0_1;rw[if_pos c1] at h;exact h)
    exact eX
   refine nU ?_;refine Z8 _ _ ⟨best,rfl,?_,?_⟩
   ·(have h:=nW.take ho hrd hdk l0_1;rw[if_neg (fun q=>by rw[q.1,q.2] at c1;simp at c1)] at h;exact h)
   exact eX
  rintro sF ρ ⟨be,rfl,j17_0,rfl⟩;refine dM fun _ Z10=>?_;refine dW hF ?_;refine cN [3,7,8,9,10,11,12,14,45,46,47] ?_;refine Z10 _ _ (mF ?_);refine xD [3,7,8,9,10,11,45,46,47,14,62,63] (fun n sF ρ=> ∃i,∃N,n=tr.length-i∧sF=rsM N∧(i≤tr.length)∧(nW tr c kn at_ N be k i (fun a e=>(a=at_∧e∈r0.l.drop (k+1))∨NxZ tr c at_ (gD r0.l k) i a e))∧ρ=dU (s0 O N be) [(3,.dp [cL tr]),(7,.dp [gY tr c]),(8,.dp (fG kn)),(9,.bp 100009 0),(10,.bp 100010 0),(11,.bx (mT at_)),(45,.sl 16 r0.l.length fun i=>(r0.l.map fG).getD i []),(46,vi (r0.l.length:Nat)),(47,vi (k:Nat)),(14,.bx (fG (gD r0.l k))),(62,vi (tr.length:Nat)),(63,vi (i:Nat))]) _ ⟨0,M,rfl,rfl,?_,?_,?_⟩ ?_
  ·exact bD
  ·exact j17_0
  ·exact eX
  rintro n sF ρ ⟨i,N,rfl,rfl,l1_0,l1_1,rfl⟩ _ Z11;refine dM fun _ Z12=>?_;refine dW hF ?_;refine cN [3,7,8,9,10,11,12,14,45,46,47,62,63] ?_;refine Z12 _ _ (dM fun _ Z13=>?_);refine cQ (fun c2=>?_) fun c2=>?_
  ·refine nU ?_;refine Z13 _ _ (dM fun _ Z14=>?_);refine mF ?_;refine dM fun _ Z15=>?_;refine dW hF ?_;refine cN [3,7,8,9,10,11,12,14,45,46,47,62,63] ?_;refine Z15 _ _ (dM fun _ Z16=>?_);refine dM fun _ Z17=>?_;refine dW hF ?_;refine jF [3,7,8,9,10,11,12,14,15,45,46,47,62,63] [] ?_;refine Z17 _ _ (cQ (fun c3=>?_) fun c3=>?_)
   ·refine vT ?_;refine Z14 _ _ (dW hF ?_);refine cN [3,7,8,9,10,11,12,14,45,46,47,62,63] ?_;refine Z11 _ _ _ bD ⟨i+1,N,rfl,rfl,bD,?_,?_⟩
    ·exact l1_1.skip ho aV
    exact eX
   refine nU ?_;refine Z16 _ _ (dM fun _ Z18=>?_);have hl4:=ho.l i aV;have hai:at_ i<(tr.getD i default).xAb.length:=by have:=hat.1 i aV;omega
   have hrn:vA tr c (lK at_ i (at_ i+1)) (plD tr c (gD r0.l k) at_ i):=vA.s hrd aV hai;have hbd2:Bd (plD tr c (gD r0.l k) at_ i):=hrn.bd' ho;have hvn:Vp tr (lK at_ i (at_ i+1)):=hrn.vp ho;refine dW hF ?_;refine cN [3,7,8,9,10,11,12,14,15,45,46,47,62,63] ?_;refine Z18 _ _ (dM fun _ Z19=>?_);refine dW hF ?_;refine cN [3,7,8,9,10,11,12,14,15,16,45,46,47,62,63] ?_;refine Z19 _ _ (dM fun _ Z20=>?_);refine dW hF ?_;refine eZ [3,7,8,9,10,11,12,14,15,16,45,46,47,62,63] ?_;refine pV (kV _ tr c (gD r0.l k) at_ i ho (hrd.bd ho) aV hai hat.1) ?_;refine Z20 _ _ (dM fun _ Z21=>?_);refine dW hF ?_;refine eZ [3,7,8,9,10,11,12,14,16,17,45,46,47,62,63] ?_;refine pV (kJ _ tr c kn (plD tr c (gD r0.l k) at_ i) ho (hkn.bd' ho) hbd2) ?_;refine Z21 _ _ (cQ (fun c4=>?_) fun c4=>?_)
   ·obtain⟨rN,N1,N2,hlN⟩:=bSi N (lK at_ i (at_ i+1));have hsm:=bPy ho l1_1 aV hlN;refine bAd [3,7,8,9,10,11,12,14,16,17,45,46,47,62,63] hF kR (fun Y hYm hY0=>?_);have tT: ∀(rr:Rw Dr),rr.l=aIw tr rN.l (plD tr c (gD r0.l k) at_ i) (lK at_ i (at_ i+1))→ ∀ρ,keepC [3,7,8,9,10,11,45,46,47,14,62,63,16,17,92,93,94,95,96,97,98,99,100] ρ=dU (s0 O (N1++((lK at_ i (at_ i+1)),rr)::N2) be) [(3,.dp [cL tr]),(7,.dp [gY tr c]),(8,.dp (fG kn)),(9,.bp 100009 0),(10,.bp 100010 0),(11,.bx (mT at_)),(45,.sl 16 r0.l.length fun i=>(r0.l.map fG).getD i []),(46,vi (r0.l.length:Nat)),(47,vi (k:Nat)),(14,.bx (fG (gD r0.l k))),(62,vi (tr.length:Nat)),(63,vi (i:Nat)),(16,.bx (mT (lK at_ i (at_ i+1)))),(17,.bx (fG (plD tr c (gD r0.l k) at_ i))),(92,.mr 100030),(93,.agg (mT (lK at_ i (at_ i+1)))),(94,gY tr c),(95,.mr 100030),(96,.agg (mT (lK at_ i (at_ i+1)))),(97,.v rN.val),(98,.agg (fG (plD tr c (gD r0.l k) at_ i))),(99,.agg (mT (lK at_ i (at_ i+1)))),(100,.v rr.val)]→Y 0 #[true,true,true,true,true,true,true,true,true,true] (rsM N1++rr::rsM N2) ρ:=by
     intro rr hrr ρ hρ;refine hY0 _ [3,7,8,9,10,11,45,46,47,14,62,63,16,17,92,93,94,95,96,97,98,99,100] _ _ bF ?_;rw[hρ];clear hYm hY0 hρ;have hst:rsM N1++rr::rsM N2=rsM (N1++((lK at_ i (at_ i+1)),rr)::N2):=by rw[aRx,aVz]
     rw[hst];clear hst
     repeat refine cP kN ?_
     refine Z14 _ _ (dW hF ?_);refine cN [3,7,8,9,10,11,12,14,45,46,47,62,63] ?_;refine Z11 _ _ _ bD ⟨i+1,(N1++((lK at_ i (at_ i+1)),rr)::N2),rfl,rfl,bD,?_,?_⟩
     ·exact nW.add ho hrd c2 hai (cLa hlN) hrr l1_1
     exact eX
    have main: ∀(m:Nat) (b0 b1 b2 b3 b4 b5 b6 b7 b8:Bool) (rr:Rw Dr),(b8=true→rr.l=aIw tr rN.l (plD tr c (gD r0.l k) at_ i) (lK at_ i (at_ i+1)))→cB b0+cB b1+cB b2+cB b3+cB b4+cB b5+cB b6+cB b7+cB b8+1=m→ ∀ρ,keepC [3,7,8,9,10,11,45,46,47,14,62,63,16,17,92,93,94,95,96,97,98,99,100] ρ=dU (s0 O N be) [(3,.dp [cL tr]),(7,.dp [gY tr c]),(8,.dp (fG kn)),(9,.bp 100009 0),(10,.bp 100010 0),(11,.bx (mT at_)),(45,.sl 16 r0.l.length fun i=>(r0.l.map fG).getD i []),(46,vi (r0.l.length:Nat)),(47,vi (k:Nat)),(14,.bx (fG (gD r0.l k))),(62,vi (tr.length:Nat)),(63,vi (i:Nat)),(16,.bx (mT (lK at_ i (at_ i+1)))),(17,.bx (fG (plD tr c (gD r0.l k) at_ i))),(92,bC b0 (.mr 100030)),(93,bC b1 (.agg (mT (lK at_ i (at_ i+1))))),(94,bC b2 (gY tr c)),(95,bC b3 (.mr 100030)),(96,bC b4 (.agg (mT (lK at_ i (at_ i+1))))),(97,bC b5 (.v rN.val)),(98,bC b6 (.agg (fG (plD tr c (gD r0.l k) at_ i)))),(99,bC b7 (.agg (mT (lK at_ i (at_ i+1))))),(100,bC b8 (.v rr.val))]→Y m #[b0,b1,b2,b3,b4,b5,b6,b7,b8,false] (bif b8 then rsM N1++rr::rsM N2 else rsM N) ρ:=by
     intro m
     induction m with
     |zero=>
      intro b0 b1 b2 b3 b4 b5 b6 b7 b8 rr hrr hm;omega
     |succ m ih=>
      intro b0 b1 b2 b3 b4 b5 b6 b7 b8 rr hrr hm ρ hρ;refine hYm m _ [3,7,8,9,10,11,45,46,47,14,62,63,16,17,92,93,94,95,96,97,98,99,100] _ _ bF rfl ⟨9,by decide,rfl⟩ ?_;clear hY0 hYm;intro iQ oQ hun hoQ hdep;have hiQ:iQ<10:=(oJ.1 hoQ).1
      match iQ,hiQ with
      |0,_=>
       obtain rfl:b0=false:=hun;obtain rfl:=dO hoQ;clear hdep;rw[hρ];refine dS hF (bV rfl bF bF ?_);refine gE ?_;refine ih true b1 b2 b3 b4 b5 b6 b7 b8 rr hrr ?_ _ ?_
       ·simp only[cB,gR,fI] at hm ⊢;omega
       exact aDd
      |1,_=>
       obtain rfl:b1=false:=hun;obtain rfl:=dO hoQ;clear hdep;rw[hρ];refine dS hF (bV rfl bF bF ?_);refine gE ?_;refine ih b0 true b2 b3 b4 b5 b6 b7 b8 rr hrr ?_ _ ?_
       ·simp only[cB,gR,fI] at hm ⊢;omega
       exact aDd
      |2,_=>
       obtain rfl:b2=false:=hun;obtain rfl:=dO hoQ;clear hdep;rw[hρ];refine dS hF (bV rfl bF bF ?_);refine gE ?_;refine ih b0 b1 true b3 b4 b5 b6 b7 b8 rr hrr ?_ _ ?_
       ·simp only[cB,gR,fI] at hm ⊢;omega
       exact aDd
      |3,_=>
       obtain rfl:b3=false:=hun;obtain rfl:=dO hoQ;clear hdep;rw[hρ];refine dS hF (bV rfl bF bF ?_);refine gE ?_;refine ih b0 b1 b2 true b4 b5 b6 b7 b8 rr hrr ?_ _ ?_
       ·simp only[cB,gR,fI] at hm ⊢;omega
       exact aDd
      |4,_=>
       obtain rfl:b4=false:=hun;obtain rfl:=dO hoQ;clear hdep;rw[hρ];refine dS hF (bV rfl bF bF ?_);refine gE ?_;refine ih b0 b1 b2 b3 true b5 b6 b7 b8 rr hrr ?_ _ ?_
       ·simp only[cB,gR,fI] at hm ⊢;omega
       exact aDd
      |5,_=>
       obtain rfl:b5=false:=hun;obtain rfl:=dO hoQ;have e3:b3=true:=by first|(refine hdep ⟨3,.data⟩ ?_ rfl;simp;done)|(refine hdep ⟨3,.phase⟩ ?_ rfl;simp;done)|(refine hdep ⟨3,.chain⟩ ?_ rfl;simp;done)
       have e4:b4=true:=by first|(refine hdep ⟨4,.data⟩ ?_ rfl;simp;done)|(refine hdep ⟨4,.phase⟩ ?_ rfl;simp;done)|(refine hdep ⟨4,.chain⟩ ?_ rfl;simp;done)
       subst e3 e4;clear hdep;rw[hρ];refine dS hF (aYw (s:=100030) hlN ho (fun x hx=>(l1_1.key x hx).2) hvn l1_1.un rfl rfl bF bF xU xU (by simp (disch:=omega) only[go_sem,seval,hsx];try trivial) xU ?_);simp (disch:=omega) only[go_sem,seval,hsx];refine ih b0 b1 b2 true true true b6 b7 b8 rr hrr ?_ _ ?_
       ·simp only[cB,gR,fI] at hm ⊢;omega
       exact aDd
      |6,_=>
       obtain rfl:b6=false:=hun;obtain rfl:=dO hoQ;clear hdep;rw[hρ];refine dS hF (bV rfl bF bF ?_);refine gE ?_;refine ih b0 b1 b2 b3 b4 b5 true b7 b8 rr hrr ?_ _ ?_
       ·simp only[cB,gR,fI] at hm ⊢;omega
       exact aDd
      |7,_=>
       obtain rfl:b7=false:=hun;obtain rfl:=dO hoQ;clear hdep;rw[hρ];refine dS hF (bV rfl bF bF ?_);refine gE ?_;refine ih b0 b1 b2 b3 b4 b5 b6 true b8 rr hrr ?_ _ ?_
       ·simp only[cB,gR,fI] at hm ⊢;omega
       exact aDd
      |8,_=>
       obtain rfl:b8=false:=hun;obtain rfl:=dO hoQ;have e2:b2=true:=by first|(refine hdep ⟨2,.data⟩ ?_ rfl;simp;done)|(refine hdep ⟨2,.phase⟩ ?_ rfl;simp;done)|(refine hdep ⟨2,.chain⟩ ?_ rfl;simp;done)
       have e5:b5=true:=by first|(refine hdep ⟨5,.data⟩ ?_ rfl;simp;done)|(refine hdep ⟨5,.phase⟩ ?_ rfl;simp;done)|(refine hdep ⟨5,.chain⟩ ?_ rfl;simp;done)
       have e6:b6=true:=by first|(refine hdep ⟨6,.data⟩ ?_ rfl;simp;done)|(refine hdep ⟨6,.phase⟩ ?_ rfl;simp;done)|(refine hdep ⟨6,.chain⟩ ?_ rfl;simp;done)
       have e7:b7=true:=by first|(refine hdep ⟨7,.data⟩ ?_ rfl;simp;done)|(refine hdep ⟨7,.phase⟩ ?_ rfl;simp;done)|(refine hdep ⟨7,.chain⟩ ?_ rfl;simp;done)
       subst e2 e5 e6 e7;clear hdep;rw[hρ];refine bLc (f:=90) (l:=[gY tr c,.v rN.val,.agg (fG (plD tr c (gD r0.l k) at_ i)),.agg (mT (lK at_ i (at_ i+1)))]) (j:=1) (r:=rN) (s1:=rsM N1) (s2:=rsM N2) (R:=fun l'=>l'=aIw tr rN.l (plD tr c (gD r0.l k) at_ i) (lK at_ i (at_ i+1))) rfl rfl rfl eN bF (by simp (disch:=omega) only[go_sem,seval,hsx];try trivial) (fun x hx=>by simp at hx;rcases hx with rfl|rfl|rfl|rfl<;>(simp (disch:=omega) only[go_sem,seval,hsx];try trivial)) (by simp (disch:=omega) only[go_sem,seval,hsx];first|done|rfl) bF rfl (cDp hlN) ((vO _ tr c (plD tr c (gD r0.l k) at_ i) (lK at_ i (at_ i+1)) ho hbd2 hvn.1 rN.l hsm.1 hsm.2).mono fun ys hy=>⟨_,hy,rfl⟩) ?_;clear hrr;intro rr hrr;refine ih b0 b1 true b3 b4 true true true true rr (fun _=>hrr) ?_ _ ?_
       ·simp only[cB,gR,fI] at hm ⊢;omega
       exact aDd
      |9,_=>
       obtain rfl:=dO hoQ;have e0:b0=true:=by first|(refine hdep ⟨0,.data⟩ ?_ rfl;simp;done)|(refine hdep ⟨0,.phase⟩ ?_ rfl;simp;done)|(refine hdep ⟨0,.chain⟩ ?_ rfl;simp;done)
       have e1:b1=true:=by first|(refine hdep ⟨1,.data⟩ ?_ rfl;simp;done)|(refine hdep ⟨1,.phase⟩ ?_ rfl;simp;done)|(refine hdep ⟨1,.chain⟩ ?_ rfl;simp;done)
       have e2:b2=true:=by first|(refine hdep ⟨2,.data⟩ ?_ rfl;simp;done)|(refine hdep ⟨2,.phase⟩ ?_ rfl;simp;done)|(refine hdep ⟨2,.chain⟩ ?_ rfl;simp;done)
       have e3:b3=true:=by first|(refine hdep ⟨3,.data⟩ ?_ rfl;simp;done)|(refine hdep ⟨3,.phase⟩ ?_ rfl;simp;done)|(refine hdep ⟨3,.chain⟩ ?_ rfl;simp;done)
       have e4:b4=true:=by first|(refine hdep ⟨4,.data⟩ ?_ rfl;simp;done)|(refine hdep ⟨4,.phase⟩ ?_ rfl;simp;done)|(refine hdep ⟨4,.chain⟩ ?_ rfl;simp;done)
       have e5:b5=true:=by first|(refine hdep ⟨5,.data⟩ ?_ rfl;simp;done)|(refine hdep ⟨5,.phase⟩ ?_ rfl;simp;done)|(refine hdep ⟨5,.chain⟩ ?_ rfl;simp;done)
       have e6:b6=true:=by first|(refine hdep ⟨6,.data⟩ ?_ rfl;simp;done)|(refine hdep ⟨6,.phase⟩ ?_ rfl;simp;done)|(refine hdep ⟨6,.chain⟩ ?_ rfl;simp;done)
       have e7:b7=true:=by first|(refine hdep ⟨7,.data⟩ ?_ rfl;simp;done)|(refine hdep ⟨7,.phase⟩ ?_ rfl;simp;done)|(refine hdep ⟨7,.chain⟩ ?_ rfl;simp;done)
       have e8:b8=true:=by first|(refine hdep ⟨8,.data⟩ ?_ rfl;simp;done)|(refine hdep ⟨8,.phase⟩ ?_ rfl;simp;done)|(refine hdep ⟨8,.chain⟩ ?_ rfl;simp;done)
       subst e0 e1 e2 e3 e4 e5 e6 e7 e8;clear hdep;rw[hρ];obtain rfl:m=0:=by simp only[cB,gR] at hm;omega
       refine dS hF (bFp (s:=100030) (r':=rr) hlN ho (fun x hx=>(l1_1.key x hx).2) hvn l1_1.un (.inl rfl) rfl rfl bF xU xU (by simp (disch:=omega) only[go_sem,seval,hsx];try trivial) xU xU ?_);simp (disch:=omega) only[go_sem,seval,hsx];refine tT rr (hrr rfl) _ ?_;exact aDd
    refine main 10 false false false false false false false false false (aEr Dr) (fun h=>by cases h) rfl _ ?_;exact aDd
   refine nU ?_;refine Z14 _ _ (dW hF ?_);refine cN [3,7,8,9,10,11,12,14,45,46,47,62,63] ?_;refine Z11 _ _ _ bD ⟨i+1,N,rfl,rfl,bD,?_,?_⟩
   ·exact nW.prune ho (by simpa using c4) l1_1
   exact eX
  refine vT ?_;refine Z6 _ _ (dW hF ?_);refine cN [3,7,8,9,10,11,12,45,46,47] ?_;refine Z3 _ _ _ bD ⟨k+1,N,be,rfl,rfl,bD,?_,?_⟩
  ·(have he:i=tr.length:=aV;subst he;exact nW.next ho l1_1)
  exact eX
 refine vT ?_
 try simp only[tC,xF,uE,aBf,↓reduceIte]
 refine⟨rfl,M,best,r0.l,k,rfl,?_,by omega,eL l0_0 hvis.2.2,l0_1⟩;simp (disch:=omega) only[go_sem,seval,hsx]
end
end Go.Sg
namespace Go.Sg
open Go.Proofs
open Go.RowKit
noncomputable def cQc:Code:=Tryz.f136.body.getD .skip
def rkA (a:Pl):Nat:=a 0*125+a 1*25+a 2*5+a 3
theorem cOo {a:Pl} (h: ∀k,a k≤4):rkA a<625:=by
 have:=h 0;have:=h 1;have:=h 2;have:=h 3;unfold rkA;omega
theorem cQa {tr:List bR} (hn:tr.length≤4) {a b:Pl} (ha: ∀k,a k≤4) (hb: ∀k,b k≤4) (h:Gt tr a b):rkA b<rkA a:=by
 obtain⟨p,h1,h2,h3⟩:=h;have:=ha 0;have:=ha 1;have:=ha 2;have:=ha 3;have:=hb 0;have:=hb 1;have:=hb 2;have:=hb 3;have hp:p<4:=by omega
 unfold rkA
 match p,hp with
 |0,_=>omega
 |1,_=>have:=h3 0 eN;omega
 |2,_=>have:=h3 0 eN;have:=h3 1 eN;omega
 |3,_=>have:=h3 0 eN;have:=h3 1 eN;have:=h3 2 eN;omega
theorem cEf:decide ((0:Int)≤ -1)=false:=rfl
theorem cEy:decide ((-1:Int)<0)=true:=rfl
theorem cKz {tr:List bR} {a:Pl} (h:Vp tr a):zrA a tr.length=a:=by
 funext q;unfold zrA;split
 ·rename_i h';exact (h.2 q h').symm
 rfl
theorem bQy (a:Pl) (j:Nat):zrA a (j+1) j=a j:=by unfold zrA;rw[if_neg aV]
theorem cDu (a:Pl) (j:Nat):lK (zrA a (j+1)) j 0=zrA a j:=by
 funext q;unfold lK zrA;by_cases h:q=j
 ·subst h;rw[if_pos rfl,if_pos (bW _)]
 rw[if_neg h];by_cases h2:j≤q
 ·rw[if_pos aV,if_pos h2]
 rw[if_neg aV,if_neg h2]
theorem bSw (a:Pl) (j:Nat):lK (zrA a (j+1)) j (a j+1)=nxA a j:=rfl
theorem cRc {tr:List bR} {a:Pl} {j:Nat} (hj:j<tr.length):Gt tr (nxA a j) a:=⟨j,hj,by simp[nxA,lK],fun q hq=>by unfold nxA lK zrA;rw[if_neg aV,if_neg aV]⟩
theorem bQv (ρ ρ':aN) {d:Nat} (x:DV) (h:d<100000):aPj (set ρ d x) ρ'=set (aPj ρ ρ') d x:=by
 funext s;unfold aPj;rw[aK,aK];by_cases e:s=d
 ·subst e;rw[if_pos h,if_pos rfl,if_pos rfl]
 rw[if_neg e,if_neg e]
theorem bDs (X ρ':aN):aPj (bS X) ρ'=hi ρ':=by
 funext s;unfold aPj hi;split
 ·rename_i h;exact nG X h
 rfl
theorem cGp (R:Nat→DV) (n:Nat) (ρ:aN):hi (reR R n ρ)=hi ρ:=by
 funext s;unfold hi reR;split
 ·rfl
 rfl
theorem aMy (R:Nat→DV) {n s:Nat} (ρ:aN) (h:s<n) (hn:n≤100000):reR R n ρ s=R s:=by unfold reR;rw[if_pos aV,if_pos h]
theorem cRv {O:aN} {M:Mp} {best:Dr} (h10:O 10=.bx (fG best)) (h30:O 30=.mo (esM M)):O=s0 O M best:=by
 funext s;unfold s0;simp only[aK];split
 ·rename_i e;rw[e,h10]
 split
 ·rename_i e;rw[e,h30]
 rfl
structure Fr (O:aN) (tr:List bR) (c:Cl) (kn best:Dr) (M:Mp):Prop where
 h3:O 3=.dp [cL tr]
 h7:O 7=.dp [gY tr c]
 h8:O 8=.dp (fG kn)
 h9:O 9=.bx [.mr 30]
 h10:O 10=.bx (fG best)
 h30:O 30=.mo (esM M)
def KrR (tr:List bR) (c:Cl) (kn:Dr) (O:aN) (at_:Pl) (s':List (Rw Dr)) (ρ':aN):Prop:= ∃(M':Mp) (best':Dr) (fs:List Dr) (k:Nat),s'=rsM M'∧hi ρ'=bS (s0 O M' best')∧fs.length≤k∧k≤4^sA at_∧nW tr c kn at_ M' best' k 0 (fun a e=>a=at_∧e∈fs.drop k)
section
attribute [local go_sem] cJ aCl aLn bQy cDu bSw Nat.reduceBNe gR fI cEf cEy aQs
theorem bKx (O:aN) (tr:List bR) (c:Cl) (kn best0 best:Dr) (M0 M:Mp) (at_:Pl) (ho:Ok tr) (hkn:nD tr c kn) (hfr:Fr O tr c kn best0 M0) (hO:aGu tr c kn at_ M best) (hat:Vp tr at_) (ρ:aN) (hρ:hi ρ=bS (s0 O M best)):
  AW Tryz.prog 106 bAj.1 (fun e1 ρ1=>e1=.normal∧ ∀w1 I1 A1 G1,oL Tryz.prog 106 (Fo fG 191 16 w1 I1 A1 G1) bAj.2 (fun e' s' ρ'=>e'=.normal∧KrR tr c kn O at_ s' ρ') (rsM M) ρ1) (set (reR (fun i=>rdS i (O i)) 106 ρ) 39 (.agg (mT at_))):=by
 have hsx:decide ((0:Int)≤-1)=false:=rfl;have h4:=vp4 ho hat;have hs:sA at_≤16:=by have:=h4 0;have:=h4 1;have:=h4 2;have:=h4 3;unfold sA;omega
 have hr:=aZd O tr c kn best at_ M ho hkn hfr.h9 hO hat hs;refine cM (Le.keepC [3,7,8,9,10,39] _) ?_;have r3:rdS 3 (O 3)=.dp [cL tr]:=by rw[hfr.h3];rfl
 have r7:rdS 7 (O 7)=.dp [gY tr c]:=by rw[hfr.h7];rfl
 have r8:rdS 8 (O 8)=.dp (fG kn):=by rw[hfr.h8];rfl
 have r9:rdS 9 (O 9)=.bp 100009 0:=by rw[hfr.h9];rfl
 have r10:rdS 10 (O 10)=.bp 100010 0:=by rw[hfr.h10];rfl
 have he:keepC [3,7,8,9,10,39] (set (reR (fun i=>rdS i (O i)) 106 ρ) 39 (.agg (mT at_)))=set (set (set (set (set (set (bS (s0 O M best)) 39 (.agg (mT at_))) 10 (.bp 100010 0)) 9 (.bp 100009 0)) 8 (.dp (fG kn))) 7 (.dp [gY tr c])) 3 (.dp [cL tr]):=by
  simp only[keepC,aK,Nat.reduceEqDiff,s7,if_true,aMy _ ρ (show 3<106 by decide) eN,aMy _ ρ (show 7<106 by decide) eN,aMy _ ρ (show 8<106 by decide) eN,aMy _ ρ (show 9<106 by decide) eN,aMy _ ρ (show 10<106 by decide) eN,r3,r7,r8,r9,r10];rw[zN _ _ eN,cGp,hρ]
 rw[he];refine eZ [3,7,8,9,10,39] ?_
 try refine cP rfl ?_
 refine fun w1 I1 A1 G1=>jY (Le.keepC [3,7,8,9,10,11] _) ?_;simp (disch:=omega) only[go_sem,seval,hsx];exact hr w1 I1 A1 G1
end
section
attribute [local go_sem] cJ aCl aLn bQy cDu bSw Nat.reduceBNe gR fI cEf cEy aQs
set_option maxRecDepth 20000 in
theorem aXy (O:aN) (tr:List bR) (c:Cl) (kn best0:Dr) (M0:Mp) (ho:Ok tr) (hkn:nD tr c kn) (hfr:Fr O tr c kn best0 M0) (hO0:aGu tr c kn (fun _=>0) M0 best0): ∀w1 I1 A1 G1 l D rec,rec.params= #[39]→rec.assign=bAj.1→rec.body=bAj.2→rec.state=.ready→rec.pending=none→rec.tmps.size=106→oL Tryz.prog 43 (FO fG 191 16 w1 I1 A1 G1 l D rec (fun i=>rdS i (O i)) 106) cQc (fun e' s' ρ'=>(e'=.ret∨e'=.normal)∧ ∃O',hi ρ'=bS O'∧aKy O O'∧ ∃(M:Mp) (best:Dr),O'=s0 O M best∧nD tr c best∧ ∀f,nD tr c f→True) (rsM M0) (nF O [.v (.func (.yield l) #[] #[]),.dp [gY tr c]]):=by
 have hsx:decide ((0:Int)≤-1)=false:=rfl;have hn:=ho.n;intro w1 I1 A1 G1 l D rec hpar hasg hbody hst hpe hsz;have hF:bIq (FO fG 191 16 w1 I1 A1 G1 l D rec (fun i=>rdS i (O i)) 106):=cIy (fun i _=>aQy _ _)
 try simp only[dU]
 refine dM fun _ Z0=>?_;refine dW hF ?_;refine cN [0,1] ?_;refine Z0 _ _ (mF ?_);refine xD [0,1,3] (fun n sF ρ=> ∃at_,∃M,∃best,n=625-rkA at_∧sF=rsM M∧(aGu tr c kn at_ M best)∧(Vp tr at_)∧ρ=dU (s0 O M best) [(0,.v (.func (.yield l) #[] #[])),(1,.dp [gY tr c]),(3,.bx (mT at_))]) _ ⟨(fun _=>0),M0,best0,rfl,rfl,?_,?_,?_⟩ ?_
 ·exact hO0
 ·exact⟨fun _ _=>nJ _,fun _ _=>rfl⟩
 ·simp (disch:=omega) only[go_sem,seval,hsx]<;>(rw[← cRv hfr.h10 hfr.h30];rfl)
 rintro n sF ρ ⟨at_,M,best,rfl,rfl,l0_0,l0_1,rfl⟩ _ Z1;refine mF ?_;refine dM fun _ Z2=>?_;refine dM fun _ Z3=>?_;refine jY (Le.keepC [0,1,3] _) ?_;refine uF ?_;refine dS hF ?_;refine bV rfl bF bF ?_;refine gE ?_;refine dS hF ?_;refine bV rfl bF bF ?_;refine gE ?_;refine bKw (asg:=bAj.1) (body:=bAj.2) (x:=.agg (mT at_)) (p:=39) (d:=7) (l:=l) (Kr:=KrR tr c kn O at_) rfl rfl rfl eN bF xU (by simp (disch:=omega) only[go_sem,seval,hsx];try trivial) (by simp (disch:=omega) only[go_sem,seval,hsx];try rfl) (bPp _ _) hpar eN hst hpe hsz eN (fun i _=>aQy _ _) hasg hbody (bKx O tr c kn best0 best M0 M at_ ho hkn hfr l0_0 l0_1 _ xU) ?_;rintro s' ρ' ⟨M',best',fs,kk,rfl,hhi,hk1,hk2,hI⟩;simp (disch:=omega) only[bQv,bDs,hhi]
 try simp (disch:=omega) only[go_sem,seval,hsx]
 refine dS hF ?_;refine bV rfl bF bF ?_;refine gE ?_;refine Z3 _ _ (z8 false (by rfl) (rfl) (fun h=>by cases h) (fun _=>?_));refine nU ?_;refine Z2 _ _ (dM fun _ Z4=>?_);refine dW hF ?_;refine cN [0,1,3] ?_;refine Z4 _ _ (dM fun _ Z5=>?_);refine mF ?_;refine xD [0,1,3,4] (fun n sF ρ=> ∃j,n=2*j∧sF=rsM M'∧(j≤tr.length)∧(∀q,j≤q→q<tr.length→at_ q=(tr.getD q default).xAb.length)∧ρ=dU (s0 O M' best') [(0,.v (.func (.yield l) #[] #[])),(1,.dp [gY tr c]),(3,.bx (mT (zrA at_ j))),(4,.v (.int .i64 ((j:Int)-1)))]) _ ⟨tr.length,rfl,rfl,?_,?_,?_⟩ ?_
 ·exact bD
 ·intro q h1 h2;omega
 ·simp (disch:=omega) only[go_sem,seval,hsx]<;>rw[cKz l0_1]
 rintro n sF ρ ⟨j,rfl,rfl,l1_0,l1_1,rfl⟩ _ Z6;rcases j with _|j
 rw[show (((0:Nat):Int)-1)= -1 by rfl]
 rotate_left
 rw[show (((j+1:Nat):Int)-1)=(j:Int) by omega]
 rotate_left
 ·skip
  refine dM fun _ Z7=>?_;refine dM fun _ Z8=>?_;refine dW hF ?_;refine jF [0,1,3,4] [] ?_;refine Z8 _ _ (z8 false (by rfl) (rfl) (fun h=>by cases h) (fun _=>?_));refine vT ?_;refine Z5 _ _ (dM fun _ Z9=>?_);refine dM fun _ Z10=>?_;refine dW hF ?_;refine cN [0,1,3,4] ?_;refine Z10 _ _ (z8 true (by rfl) (rfl) (fun _=>?_) (fun h=>by cases h));refine aWy ?_
  try simp only[uE,xF,tC,aCg,↓reduceIte]
  refine⟨by first|exact .inl rfl|simp,s0 O M' best',?_,cCf O M0 M' best0 best' hfr.h10 hfr.h30,M',best',rfl,hI.last ho hk1 (fun q hq=>l1_1 q (nJ q) hq)⟩;simp (disch:=omega) only[go_sem,seval,hsx]
 skip
 refine dM fun _ Z11=>?_;refine dM fun _ Z12=>?_;refine dW hF ?_;refine jF [0,1,3,4] [] ?_;refine Z12 _ _ (cQ (fun c3=>?_) fun c3=>?_)
 ·refine nU ?_;refine Z11 _ _ (mF ?_);refine dM fun _ Z13=>?_;refine dW hF ?_;refine cN [0,1,3,4] ?_;refine Z13 _ _ (dW hF ?_);refine cN [0,1,3,4] ?_;refine Z6 _ _ _ bD ⟨j,rfl,rfl,bD,?_,?_⟩
  ·(intro q h1 h2;rcases Nat.eq_or_lt_of_le h1 with rfl|h;exact c3;exact l1_1 q h h2)
  exact eX
 refine vT ?_;refine Z5 _ _ (dM fun _ Z14=>?_);refine dM fun _ Z15=>?_;refine dW hF ?_;refine cN [0,1,3,4] ?_;refine Z15 _ _ (z8 false (by rfl) (rfl) (fun h=>by cases h) (fun _=>?_));refine nU ?_;refine Z14 _ _ ?_;have hj:j<tr.length:=by omega
 have hl4:=ho.l j hj;have hlj:=l0_1.1 j hj;have hgt:=cRc (tr:=tr) (a:=at_) hj;have hvn:=cCl ho hj l0_1 (by simpa using c3);have hrk:=cQa ho.n (vp4 ho hvn) (vp4 ho l0_1) hgt;have hrl:=cOo (vp4 ho hvn);refine dW hF ?_;refine cN [0,1,3,4] ?_;refine Z1 _ _ _ bD ⟨nxA at_ j,M',best',rfl,rfl,?_,?_,?_⟩
 ·exact hI.done ho hk1 hk2 hgt (fun a ha hg=>cBr hj ha l0_1 (fun q h1 h2=>l1_1 q h1 h2) hg)
 ·exact hvn
 exact eX
end
end Go.Sg
namespace Go.Sg
open Go.Proofs
open Go.RowKit
theorem cKm {α:Type} {enc:α→List DV} {e:TypeId} {z:Nat} {P:Program} {fn:Func} {O:aN} {R:aN→DV→Prop} {w0:Go.World} {I0:Nat→Prop} {A0:dD} {rs:List (Rw α)} {ρ:aN} (h:rZ P fn O R .ret ρ):
  QS fn.ntmps (Fo enc e z w0 I0 (cG A0) fun _=>False) (bAz P fn O R w0 I0 A0) .ret rs ρ:=fun I A a w hs hd hf=>⟨.inl rfl,I,A,ρ,hs,hf.2.2.2,h,.inl hd⟩
theorem aQv {P:Program} {fn:Func} {O ρ:aN} {R:aN→DV→Prop} {cs:List DV} {s:y9} {e:Int} (hf:fn.results= #[.cell 4 56,.tmp 5]) (h1:hi ρ=bS O) (h2:ρ 4=.bx cs) (h3:eA P 56=some (some cs.length)) (hw:eK (.agg cs) (.agg (mP s))) (h5:ρ 5=vi e)
  (hR:R O (.tup [.agg (mP s),vi e])):rZ P fn O R .ret ρ:=
 ⟨O,.tup [.agg (mP s),vi e],iK h1,fun _=>fR.refl _,fun _ h=>h,by
  rw[hf];refine⟨_,rfl,rfl,fun j v d hv hd=>?_⟩
  match j with
  |0=>
   simp only[List.getElem?_cons_zero,bX] at hv hd;subst hv;subst hd;exact⟨cs,h2,.inl ⟨h3,hw⟩⟩
  |1=>
   simp at hv hd;subst hv;subst hd;exact⟨by rw[h5];rfl,by rw[h5];exact eK.refl _⟩
  |j+2=>simp at hv,hR⟩
theorem cTt (tr:List bR):Vp tr (fun _=>0):=⟨fun _ _=>nJ _,fun _ _=>rfl⟩
theorem cMx:eK (.agg [.v (.slice none 0 0),vi 0]) (.agg (mP default)):=
 eK.aggCons (eK.nilL _) (eK.refl _) rfl
def cTh (t:dC) (tr:List bR) (r:DV):Prop:=(lV t tr≠0∧r=.tup [.agg (mP default),vi (lV t tr)])∨(lV t tr=0∧ ∃best,nD tr (csF t tr) best∧(∀f,nD tr (csF t tr) f→True)∧r=.tup [.agg (mP (scD tr best)),vi 0])
section
attribute [local go_sem] cJ Nat.reduceBNe aCz
theorem s6 (O:aN) (tr:List bR) (c:Cl):aZ Tryz.prog O 86 [gY tr c] (.fn 136 [] [.dp [gY tr c]]):=by
 refine eV Tryz.func86 ?_;refine aB [0] ?_;refine aA fun _ Z1=>mC 1 rfl rfl (by first|rfl|kernel_rfl) ?_;refine bE [1] ?_;refine Z1 _ (aL (dN 2 ?_));refine dX.is (by simp (disch:=omega) only[go_sem,seval];try rfl) rfl rfl
end
section
attribute [local go_sem] cJ Nat.reduceBNe aCz
set_option maxRecDepth 20000 in
theorem aDm (O:aN) (t:dC) (tr:List bR) (hsm:SmT t):iC Tryz.prog O 47 [.agg (dQ t),cL tr] (fun O' r'=>O'=O∧cTh t tr r'):=by
 refine aSa (enc:=fG) (e:=191) (z:=16) Tryz.func47 rfl bF (fun w0 I0 A0=>?_);have hF:=cEn fG 191 16 w0 I0 (cG A0) (fun _=>False);refine wD fun _ Z0=>?_;refine eO hF [0,1] ?_;refine Z0 _ _ (wD fun _ Z1=>?_);refine dM fun _ Z2=>?_;refine gI hF [2,3,4] ?_;refine f9 (oY _ t tr) ?_;refine Z2 _ _ (bI hF [2,3,4,6] ?_);refine cQ (fun c0=>?_) fun c0=>?_
 ·refine bI hF [4,6] ?_;refine aWy ?_
  try simp only[uE,aCg,↓reduceIte]
  refine cKm (aQv (s:=default) (e:=lV t tr) rfl sz (by simp (disch:=omega) only[go_sem,seval];try rfl) bF cMx sz ⟨rfl,.inl ⟨by simpa using c0,rfl⟩⟩)
 refine nU ?_;refine Z1 _ _ (wD fun _ Z5=>?_);have hc0:lV t tr=0:=by simpa using c0
 have ho:=aOj hc0;refine gI hF [2,3,4,5] ?_;refine f9 (bAx (by first|rfl|kernel_rfl) (aGm _ t tr hc0 hsm)) ?_;refine Z5 _ _ (wD fun _ Z6=>?_);refine gI hF [3,4,5,7] ?_;refine kA (tU _ tr (csF t tr) ho) ?_;rintro O2 r2 ⟨rfl,kn,hkn,rfl⟩;refine lL ?_;refine Z6 _ _ (wD fun _ Z7=>?_);refine jY (Le.keepC [3,4,5,7,8] _) ?_;refine uF ?_;refine dS hF ?_;refine bV rfl bF bF ?_;refine lL ?_;refine dS hF ?_;refine bV rfl bF bF ?_;simp (disch:=omega) only[go_sem,seval]
 try refine cP bF ?_
 refine dS hF ?_;refine bV rfl bF bF ?_;refine lL ?_;refine dS hF ?_;refine bV rfl bF bF ?_;refine lL ?_;refine f9 (kS _ tr (csF t tr) ho) ?_;refine dS hF (bEb (e:=191) (z:=16) (by_:=128) (zs:=List.replicate 16 (.int .i64 0)) rfl rfl rfl eN bF bF bF eN eN eN rfl (by simp (disch:=omega) only[go_sem,seval];first|done|(simp[aJf];try simp (disch:=omega) only[go_sem,seval])) ?_);simp (disch:=omega) only[go_sem,seval];refine bNa 34 [bgD tr] eN (by simp (disch:=omega) only[go_sem,seval];try rfl) ?_;intro r hr;simp (disch:=omega) only[go_sem,seval];refine dS hF (bFp (s:=30) (M:=[]) (M1:=[]) (M2:=[]) (a:=fun _=>0) (r:=aEr Dr) (r':=r) (.inr ⟨rfl,rfl,rfl,by simp⟩) ho dH (cTt tr) .nil (.inr rfl) rfl rfl bF sz (by simp (disch:=omega) only[go_sem,seval];try rfl) (by simp (disch:=omega) only[go_sem,seval];try trivial) (by simp (disch:=omega) only[go_sem,seval];try rfl) sz ?_);simp (disch:=omega) only[go_sem,seval];refine dS hF ?_;refine bV rfl bF bF ?_;refine lL ?_;refine dS hF ?_;refine bV rfl bF bF ?_;refine lL ?_;refine dS hF (bIm (s:=9) (m:=30) (c0:=.v (.map none)) rfl rfl rfl bF sz sz bF eN sz ?_);refine lL ?_;refine Z7 _ _ (wD fun _ Z8=>?_);refine eO hF [3,4,5,7,8,9,30] ?_;refine Z8 _ _ (bNi ?_);refine wD fun _ Z9=>?_;refine jY (Le.keepC [3,4,5,7,8,9,10,30] _) ?_;refine dW hF ?_;refine mC 3 rfl rfl (by first|rfl|kernel_rfl) ?_;refine mC 7 rfl rfl (by first|rfl|kernel_rfl) ?_;refine mC 8 rfl rfl (aXz _ _) ?_;simp (disch:=omega) only[go_sem,seval];refine (cS [3,4,5,7,8,9,10,30] bF ?_);refine lL ?_;refine f9 (s6 _ tr (csF t tr)) ?_
 repeat refine cP kN ?_
 refine Z9 _ _ (bBy (Le.keepC [3,4,5,7,8,9,10,30,38] _) ?_);simp (disch:=omega) only[go_sem,seval];refine bIa (f:=136) (caps:=[.dp [gY tr (csF t tr)]]) (cd5:=cQc) (fn5:=Tryz.f136) (K:=fun X O'=> ∃(M:Mp) (best:Dr),O'=s0 X M best∧nD tr (csF t tr) best∧ ∀f,nD tr (csF t tr) f→True) bF sz Tryz.func136 bF rfl rfl bF ?_ ?_
 ·intro w1 I1 A1 G1 l D rec hp ha hb hst hpe hsz;exact aXy _ tr (csF t tr) kn kn [((fun _=>0),r)] ho hkn ⟨by simp (disch:=omega) only[go_sem,seval];try rfl,by simp (disch:=omega) only[go_sem,seval];try rfl,by simp (disch:=omega) only[go_sem,seval];try rfl,by simp (disch:=omega) only[go_sem,seval];try rfl,by simp (disch:=omega) only[go_sem,seval];try rfl,by simp (disch:=omega) only[go_sem,seval];try rfl⟩ (aGu.begin ho hkn hr) w1 I1 A1 G1 l D rec hp ha hb hst hpe hsz
 rintro O' ⟨M,best,rfl,hfull,hmin⟩;refine (cM (Le.keepC [4,5,7,10] _) ?_);have k4: ∀X:aN,s0 X M best 4=X 4:=fun X=>by unfold s0;rw[aK,if_neg eN,aK,if_neg eN]
 have k5: ∀X:aN,s0 X M best 5=X 5:=fun X=>by unfold s0;rw[aK,if_neg eN,aK,if_neg eN]
 have k7: ∀X:aN,s0 X M best 7=X 7:=fun X=>by unfold s0;rw[aK,if_neg eN,aK,if_neg eN]
 have k10: ∀X:aN,s0 X M best 10=.bx (fG best):=fun X=>cEu X M best;have khi: ∀X:aN,hi (s0 X M best)=hi X:=fun X=>by unfold s0;rw[zN _ _ eN,zN _ _ eN]
 simp (disch:=omega) only[keepC,k4,k5,k7,k10,khi];simp (disch:=omega) only[go_sem,seval];refine (aA fun K hK=>?_);refine (cS [4,5,7,10] bF ?_);refine lL ?_;refine f9 (rV _ tr (csF t tr) best ho (hfull.bd' ho)) ?_;refine hK _ ?_;refine (aL ?_);refine⟨.inl rfl,aQv (s:=scD tr best) (e:=0) rfl sz (by simp (disch:=omega) only[go_sem,seval];try rfl) bF (eK.refl _) sz ⟨rfl,.inr ⟨hc0,best,hfull,hmin,rfl⟩⟩⟩
end
end Go.Sg
namespace Go.Sg
open Go.Proofs
def stD (st:List (List Int)):Dr:=fun i j=>(st.getD i default).getD j default
structure bQe (tr:List bR) (st:List (List Int)):Prop where
 l:st.length=tr.length
 r: ∀i,i<tr.length→(st.getD i default).length=(tr.getD i default).xAb.length
 b: ∀i j,i<tr.length→j<(tr.getD i default).xAb.length→duN tr i j≤stD st i j∧stD st i j≤2147483648
theorem bQe.bd {tr:List bR} {st:List (List Int)} (ho:Ok tr) (h:bQe tr st):Bd (stD st):=fun i j=>by
 by_cases h1:i<tr.length∧j<(tr.getD i default).xAb.length
 ·have:=h.b i j h1.1 h1.2;have h2:=(ho.s i j h1.1 h1.2).1;unfold duN at this;omega
 have:stD st i j=0:=by
  unfold stD;by_cases hi:i<tr.length
  ·have hr:=h.r i hi;rw[cA (l:=st.getD i default),fN aV];rfl
  rw[cA (l:=st),fN (by rw[h.l];omega)];rfl
 rw[this];omega
theorem cJi (tr:List bR) (st:List (List Int)) (i j:Nat) (x:Int):x+coJ tr (stD st) i j+((tr.getD i default).xAb.getD j default).xBp*((st.getD i default).getD j default-((tr.getD i default).xAb.getD j default).xBf)=x+coJ tr (stD st) i (j+1):=cDd tr (stD st) i j x
theorem cIq (tr:List bR) (d:Dr) {i:Nat} (hi:i<tr.length):coN tr d (enA tr) i+coJ tr d i (tr.getD i default).xAb.length=coN tr d (enA tr) (i+1):=by
 show _=coN tr d (enA tr) i+coJ tr d i (enA tr i);unfold enA;rw[if_pos hi]
section
attribute [local go_sem] Nat.reduceBNe zG Bool.and_true
set_option maxRecDepth 20000 in
theorem aCe (O:aN) (tr:List bR) (st:List (List Int)) (ho:Ok tr) (hs:bQe tr st):aZ Tryz.prog O 69 [cL tr,wU st] (.tup [vi (coD tr (stD st) (enA tr)),vi 0]):=by
 have hn:=ho.n;have hl:=hs.l;have hbd:=hs.bd ho;refine eV Tryz.func69 ?_;refine aB [0,1] ?_;refine aA fun _ Z1=>aB [0,1] ?_;refine aO (fun c0=>?_) fun c0=>?_
 ·omega
 refine aD (Z1 _ (aA fun _ Z3=>aB [0,1] ?_));refine aI (aX [0,1,22,23,24] (fun n ρ=> ∃i,n=tr.length-i∧(i≤tr.length)∧ρ=dU O [(0,cL tr),(1,wU st),(22,cL tr),(23,vi (tr.length:Nat)),(24,vi (i:Nat))]) _ ⟨0,rfl,?_,?_⟩ ?_)
 ·exact bD
 ·exact dT
 rintro n ρ ⟨i,rfl,l0_0,rfl⟩ _ Z5;refine aB [0,1,22,23,24] ?_;refine aA fun _ Z7=>aO (fun c1=>?_) fun c1=>?_
 ·refine aD (Z7 _ (aA fun _ Z8=>aI (aB [0,1,22,23,24] ?_)));refine aA fun _ Z10=>aA fun _ Z11=>?_;have hri:=hs.r i (by assumption);have hli:=ho.l i (by assumption);refine gJ [0,1,6,7,22,23,24] [] ?_;refine Z11 _ (aO (fun c2=>?_) fun c2=>?_)
  ·omega
  refine aD (Z10 _ (aB [0,1,6,7,22,23,24] ?_));refine aI (aX [0,1,22,23,24,6,7,40,41] (fun n ρ=> ∃j,n=(tr.getD i default).xAb.length-j∧(j≤(tr.getD i default).xAb.length)∧ρ=dU O [(0,cL tr),(1,wU st),(22,cL tr),(23,vi (tr.length:Nat)),(24,vi (i:Nat)),(6,vi (i:Nat)),(7,.bx (kQ (tr.getD i default))),(40,vi ((tr.getD i default).xAb.length:Nat)),(41,vi (j:Nat))]) _ ⟨0,rfl,?_,?_⟩ ?_)
  ·exact bD
  ·exact dT
  rintro n ρ ⟨j,rfl,l1_0,rfl⟩ _ Z13;refine aB [0,1,6,7,22,23,24,40,41] ?_;refine aA fun _ Z15=>aO (fun c3=>?_) fun c3=>?_
  ·refine aD (Z15 _ (aA fun _ Z16=>aI (aB [0,1,6,7,22,23,24,40,41] ?_)));refine aA fun _ Z18=>?_;have hsj:=ho.s i j (by assumption) (by assumption);have hbj:=hs.b i j (by assumption) (by assumption);unfold stD duN at hbj;refine aBi 15 [0,1,6,7,8,22,23,24,40,41] [0,1,6,7,8,22,23,24,40,41,44,45,46,47,48,49,50,51,52,53,54,55,10,9] [] [] [[],[0],[],[0,1,2],[0,1,2,3],[],[],[5,6],[5,6,7],[],[5,6,7,8,9],[5,6,7,8,9,10],[],[0,1,2,3,4,12],[0,1,2,3,4,5,6,7,8,9,10,11,12,13]] [[13],[13],[13],[13],[13],[],[],[],[],[],[],[],[13],[],[]] (fun bQ=>dU O [(0,cL tr),(1,wU st),(6,vi (i:Nat)),(7,.bx (kQ (tr.getD i default))),(8,vi (j:Nat)),(22,cL tr),(23,vi (tr.length:Nat)),(24,vi (i:Nat)),(40,vi ((tr.getD i default).xAb.length:Nat)),(41,vi (j:Nat)),(44,bC (bQ 0) (.bp 7 1)),(45,bC (bQ 1) (aCf (tr.getD i default).xAb)),(46,bC (bQ 2) (vi (j:Nat))),(47,bC (bQ 3) (.dp (pT ((tr.getD i default).xAb.getD j default)))),(48,bC (bQ 4) (.agg (pT ((tr.getD i default).xAb.getD j default)))),(49,bC (bQ 5) (wU st)),(50,bC (bQ 6) (vi (i:Nat))),(51,bC (bQ 7) (.dp [d5 (st.getD i default)])),(52,bC (bQ 8) (d5 (st.getD i default))),(53,bC (bQ 9) (vi (j:Nat))),(54,bC (bQ 10) (.dp [vi ((st.getD i default).getD j default)])),(55,bC (bQ 11) (vi ((st.getD i default).getD j default))),(10,bC (bQ 14) (vi ((st.getD i default).getD j default))),(9,rP (bQ 13) (bQ 12) (.bx (pT ((tr.getD i default).xAb.getD j default))) (.bx [vi 0,vi 0,vi 0,vi 0]))]) (fun iQ hiQ oQ hoQ bQ hbQ KQ hKQ=>?_) ?_
   ·match iQ,hiQ with
    |0,_|1,_|2,_|3,_|4,_|5,_|6,_|7,_|8,_|9,_|10,_|11,_|12,_|13,_|14,_=>
     exact mkp hoQ hbQ hKQ
   refine lL ?_;refine Z18 _ (aB [0,1,6,7,9,10,22,23,24,40,41] ?_);refine aO (fun c4=>?_) fun c4=>?_
   ·omega
   refine aD (Z16 _ (bE [0,1,6,7,22,23,24,40,41] ?_));refine Z13 _ _ bD ⟨j+1,rfl,bD,dT⟩
  refine bA (Z8 _ (bE [0,1,22,23,24] ?_));refine Z5 _ _ bD ⟨i+1,rfl,bD,dT⟩
 refine bA (Z3 _ (aB [0,1] ?_));refine aA fun _ Z21=>aB [0,1,11] ?_;refine aI (aX [1,11,84,85,86] (fun n ρ=> ∃i,n=tr.length-i∧(i≤tr.length)∧ρ=dU O [(1,wU st),(11,vi (coN tr (stD st) (enA tr) i)),(84,cL tr),(85,vi (tr.length:Nat)),(86,vi (i:Nat))]) _ ⟨0,rfl,?_,?_⟩ ?_)
 ·exact bD
 ·simp (disch:=omega) only[go_sem,seval]<;>simp[coN]
 rintro n ρ ⟨i,rfl,l2_0,rfl⟩ _ Z23;refine aB [0,1,11,84,85,86] ?_;refine aA fun _ Z25=>aO (fun c5=>?_) fun c5=>?_
 ·refine aD (Z25 _ (aA fun _ Z26=>aI (aB [0,1,11,84,85,86] ?_)));refine aA fun _ Z28=>?_;have hri:=hs.r i (by assumption);have hli:=ho.l i (by assumption);refine bE [0,1,11,12,13,84,85,86] ?_;refine Z28 _ (aI (aX [1,11,84,85,86,12,13,93,94] (fun n ρ=> ∃j,n=(tr.getD i default).xAb.length-j∧(j≤(tr.getD i default).xAb.length)∧ρ=dU O [(1,wU st),(11,vi (coN tr (stD st) (enA tr) i+coJ tr (stD st) i j)),(84,cL tr),(85,vi (tr.length:Nat)),(86,vi (i:Nat)),(12,vi (i:Nat)),(13,.bx (kQ (tr.getD i default))),(93,vi ((tr.getD i default).xAb.length:Nat)),(94,vi (j:Nat))]) _ ⟨0,rfl,?_,?_⟩ ?_))
  ·exact bD
  ·simp (disch:=omega) only[go_sem,seval]<;>simp[coJ]
  rintro n ρ ⟨j,rfl,l3_0,rfl⟩ _ Z29;refine aB [0,1,11,12,13,84,85,86,93,94] ?_;refine aA fun _ Z31=>aO (fun c6=>?_) fun c6=>?_
  ·refine aD (Z31 _ (aA fun _ Z32=>aI (aB [0,1,11,12,13,84,85,86,93,94] ?_)));refine aA fun _ Z34=>?_;have hsj:=ho.s i j (by assumption) (by assumption);have hbj:=hs.b i j (by assumption) (by assumption);have ht:=bBh ho hbd (j:=j) (by assumption) (by assumption);have hcj:=bFv ho hbd (i:=i) (by assumption) j aV;have hcn:=bGf ho hbd (bMj tr) i aV;unfold weN duN stD at ht;unfold stD duN at hbj;refine aBi 15 [0,1,11,12,13,14,84,85,86,93,94] [1,11,12,13,14,84,85,86,93,94,97,98,99,100,101,102,103,104,105,106,107,108,16,15] [] [] [[],[0],[],[0,1,2],[0,1,2,3],[],[],[5,6],[5,6,7],[],[5,6,7,8,9],[5,6,7,8,9,10],[],[0,1,2,3,4,12],[0,1,2,3,4,5,6,7,8,9,10,11,12,13]] [[13],[13],[13],[13],[13],[],[],[],[],[],[],[],[13],[],[]] (fun bQ=>dU O [(1,wU st),(11,vi (coN tr (stD st) (enA tr) i+coJ tr (stD st) i j)),(12,vi (i:Nat)),(13,.bx (kQ (tr.getD i default))),(14,vi (j:Nat)),(84,cL tr),(85,vi (tr.length:Nat)),(86,vi (i:Nat)),(93,vi ((tr.getD i default).xAb.length:Nat)),(94,vi (j:Nat)),(97,bC (bQ 0) (.bp 13 1)),(98,bC (bQ 1) (aCf (tr.getD i default).xAb)),(99,bC (bQ 2) (vi (j:Nat))),(100,bC (bQ 3) (.dp (pT ((tr.getD i default).xAb.getD j default)))),(101,bC (bQ 4) (.agg (pT ((tr.getD i default).xAb.getD j default)))),(102,bC (bQ 5) (wU st)),(103,bC (bQ 6) (vi (i:Nat))),(104,bC (bQ 7) (.dp [d5 (st.getD i default)])),(105,bC (bQ 8) (d5 (st.getD i default))),(106,bC (bQ 9) (vi (j:Nat))),(107,bC (bQ 10) (.dp [vi ((st.getD i default).getD j default)])),(108,bC (bQ 11) (vi ((st.getD i default).getD j default))),(16,bC (bQ 14) (vi ((st.getD i default).getD j default))),(15,rP (bQ 13) (bQ 12) (.bx (pT ((tr.getD i default).xAb.getD j default))) (.bx [vi 0,vi 0,vi 0,vi 0]))]) (fun iQ hiQ oQ hoQ bQ hbQ KQ hKQ=>?_) ?_
   ·match iQ,hiQ with
    |0,_|1,_|2,_|3,_|4,_|5,_|6,_|7,_|8,_|9,_|10,_|11,_|12,_|13,_|14,_=>
     exact mkp hoQ hbQ hKQ
   refine lL ?_;refine Z34 _ (aA fun _ Z35=>aB [0,1,11,12,13,15,16,84,85,86,93,94] ?_);refine aO (fun c7=>?_) fun c7=>?_
   ·omega
   refine aD (Z35 _ (bE [0,1,11,12,13,15,16,84,85,86,93,94] ?_));refine Z32 _ (bE [0,1,11,12,13,84,85,86,93,94] ?_);refine Z29 _ _ bD ⟨j+1,rfl,bD,?_⟩;simp (disch:=omega) only[go_sem,seval]<;>rw[cJi];rfl
  refine bA (Z26 _ (bE [0,1,11,84,85,86] ?_));refine Z23 _ _ bD ⟨i+1,rfl,bD,?_⟩;simp (disch:=omega) only[go_sem,seval]<;>rw[show j=(tr.getD i default).xAb.length by omega,cIq tr _ aV];rfl
 refine bA (Z21 _ (aB [11] ?_));refine aL (rtu (.cons ?_ (.cons ?_ .nil)))
 ·exact vU (by simp (disch:=omega) only[go_sem,seval]<;>((rw[show i=tr.length by omega];rfl))) rfl rfl
 exact vU sv rfl rfl
end
end Go.Sg
