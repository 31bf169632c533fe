/- Several texts as one. -/
import Derived.Test.YtnpokifaejcbeaaGreatDoorK18
set_option linter.unusedSectionVars false
set_option linter.unusedVariables false
set_option linter.unusedSimpArgs false
set_option maxRecDepth 20000
namespace Go.Sg
open Go.Proofs
abbrev rgF (h : Hd) (F : List aM) : Rg := .row h 68 2 (F.map aY)
abbrev wD (h : Hd) (G : List Int) : Rg := .row h 3 1 (G.map eI)
abbrev rgE (h : Hd) (P : List cC) : Rg := .row h 49 2 (P.map bO)
def flX (r : bE) (hF hG hP : Hd) (a b c : Nat) : List DV := [vs r.fName, vi r.fEntry, vi r.fExit, bN r.fPath, cX r.fPoints, b9 r.fSections, vi r.fApproach, vi r.fLength, bN r.fOver, cX r.fOverPoints, b9 r.fOverSections, hF.sl a, hG.sl b, hP.sl c]
section
variable (r : bE) (hF hG hP h : Hd) (a b c n : Nat)
theorem aEn : (((aZ r).set 11 (.v (.slice none 0 0))).set 12 (.v (.slice none 0 0))).set 13 (.v (.slice none 0 0)) = flX r eU eU eU 0 0 0 := rfl
theorem aFp : iA (fun x => x + 100000) (flX r hF hG hP a b c) = flX r hF hG hP a b c := rfl
theorem aFq : (flX r hF hG hP a b c).length = 14 := rfl
theorem yW : (flX r hF hG hP a b c).take 14 = flX r hF hG hP a b c := rfl
theorem aEf (p : Nat → Bool) : dS p (flX r hF hG hP a b c) = true := rfl
theorem aKz : (flX r hF hG hP a b c).getD 11 .any = hF.sl a := rfl
theorem aLu : (flX r hF hG hP a b c).getD 12 .any = hG.sl b := rfl
theorem aKe : (flX r hF hG hP a b c).getD 13 .any = hP.sl c := rfl
theorem aKq : (flX r hF hG hP a b c).set 11 (h.sl n) = flX r h hG hP n b c := rfl
theorem aLf : (flX r hF hG hP a b c).set 12 (h.sl n) = flX r hF h hP a n c := rfl
theorem aKg : (flX r hF hG hP a b c).set 13 (h.sl n) = flX r hF hG h a b n := rfl
theorem aDu (d1 d2 d3 : DV) : (((flX r hF hG hP a b c).set 11 d1).set 12 d2).set 13 d3 = [vs r.fName, vi r.fEntry, vi r.fExit, bN r.fPath, cX r.fPoints, b9 r.fSections, vi r.fApproach, vi r.fLength, bN r.fOver, cX r.fOverPoints, b9 r.fOverSections, d1, d2, d3] := rfl
theorem aXh : (aZ r).set 3 (bN r.fPath) = aZ r := rfl
theorem aWi : (aZ r).set 4 (cX r.fPoints) = aZ r := rfl
theorem aYk : (aZ r).set 5 (b9 r.fSections) = aZ r := rfl
theorem aYi : (aZ r).set 8 (bN r.fOver) = aZ r := rfl
theorem aVi : (aZ r).set 9 (cX r.fOverPoints) = aZ r := rfl
theorem aLi : (aZ r).set 10 (b9 r.fOverSections) = aZ r := rfl
theorem bIb {rs : List Rg} {F : List aM} {G : List Int} {P : List cC} (h1 : rgF hF F ∈ rs) (h2 : wD hG G ∈ rs) (h3 : rgE hP P ∈ rs) : Lnd rs (.agg (flX r hF hG hP F.length G.length P.length)) (.agg (aZ (wFG r F G P))) :=
 sL.toAgg (.cons (.pure _ rfl) (.cons (.pure _ rfl) (.cons (.pure _ rfl) (.cons (.pure _ rfl) (.cons (.pure _ rfl) (.cons (.pure _ rfl) (.cons (.pure _ rfl) (.cons (.pure _ rfl) (.cons (.pure _ rfl) (.cons (.pure _ rfl) (.cons (.pure _ rfl) (.cons (.row h1 (by simp) (bV.frzL aY F)) (.cons (.row h2 (by simp) (bV.frzL eI G)) (.cons (.row h3 (by simp) (bV.frzL bO P)) .nil))))))))))))))
end
theorem bQs (s : aM) : PlV (.agg (aY s)) := .agg fun d hd => by
 simp only [aY, List.mem_cons, List.not_mem_nil, or_false] at hd
 rcases hd with rfl | rfl <;> exact .v _
theorem bGb (s : aM) (g : Int) (b : Bool) : PlV (.tup [.agg (aY s), vi g, vb b]) := .tup fun d hd => by
 simp only [List.mem_cons, List.not_mem_nil, or_false] at hd
 rcases hd with rfl | rfl | rfl
 ·exact bQs s
 ·exact .v _
 exact .v _
theorem yG {l : aC} {r : bE} {A B : List cC} {j : Nat} (hj : j < B.length) {st : FS} (h : st = x1 l r (A ++ B.take j)) : x1 l r (A ++ B.take (j + 1)) = flA l r st (B.getD j default) := by rw [fP default hj, ← List.append_assoc, aTx, ← h]
theorem aXt {α β : Type} (f : α → β) (l : List α) : (l.map f).take l.length = l.map f := by rw [← List.map_take, List.take_length]
theorem aPh {α β : Type} (f : α → β) (a b : List α) : ((a ++ b).map f).take a.length = a.map f := by rw [← List.map_take, List.take_left]
def aUe : Go.Shelf.Ren := ⟨fun | 4 => 122 | n => n, fun | 22 => 42 | 25 => 85 | n => n, fun | n => n⟩
theorem aCd : Go.Proofs.Lays8.n4 Tryz.prog aUe := {
 mixed := by kernel_rfl
 f4 := ⟨Tryz.f122.name, by decide, Tryz.func122.trans (congrArg some (by kernel_rfl))⟩
 t0 := Tryz.underlying0
 a0 := Tryz.isAgg0
 z0 := Tryz.sizeOf0
 v0 := Tryz.zeroValue0
 t3 := Tryz.underlying3
 a3 := Tryz.isAgg3
 z3 := Tryz.sizeOf3
 v3 := Tryz.zeroValue3
 t4 := Tryz.underlying4
 a4 := Tryz.isAgg4
 z4 := Tryz.sizeOf4
 v4 := Tryz.zeroValue4
 t9 := Tryz.underlying9
 a9 := Tryz.isAgg9
 z9 := Tryz.sizeOf9
 v9 := Tryz.zeroValue9
 t20 := Tryz.underlying20
 a20 := Tryz.isAgg20
 z20 := Tryz.sizeOf20
 v20 := Tryz.zeroValue20
 t22 := Tryz.underlying42
 a22 := Tryz.isAgg42
 z22 := Tryz.sizeOf42
 v22 := Tryz.zeroValue42 }
theorem rX (O : aU) (n : Nat) (hn : 0 < n) (hb : n ≤ 1000000) : aW Tryz.prog O 122 [.v (.slice none 0 0), vi n] (rowL 85 3 bJ []) :=
 s0 aCd rfl rfl (show kU Tryz.prog 42 = some (85, 3, 24) by kernel_rfl) (show fD Tryz.prog 85 = some [.int .i64 0, .int .i64 0, .int .i64 0] by kernel_rfl) (by decide) rfl rfl O n hn (by omega) (by omega)
theorem sV (O : aU) (n : Nat) (hb : n ≤ 1000000) : aW Tryz.prog O 122 [.v (.slice none 0 0), vi n] (rowL 85 3 bJ []) := by
 rcases Nat.eq_zero_or_pos n with h | h
 ·subst h; exact rA aCd rfl rfl O 85 3
 exact rX O n h hb
abbrev aCq (ls : List (List bB)) : DV := encL 1 (fun l => [bN l]) ls
section
attribute [local go_sem] or_self List.drop_zero aDu aEn aFp aFq yW aEf aKz aLu aKe aKq aLf aKg aXh aWi aYk aYi aVi aLi wX
theorem qU (O : aU) (ls : List (List bB)) (hb : ls.flatten.length ≤ 100000) : aW Tryz.prog O 77 [aCq ls] (pE ls.flatten) := by
 refine aO 0 rfl (.sl _ _ _) fun hl => ?_
 refine dT Tryz.func77 ?_
 refine aB [0] ?_
 refine aB [0] ?_
 refine aA fun K2 hK2 => ?_
 refine aB [0, 3] ?_
 refine aK ?_
 refine aX [0, 3, 9, 10, 11] (fun n ρ => ∃ i, ∃ s, n = ls.length - i ∧ (i ≤ ls.length) ∧ (s + (ls.drop i).flatten.length = ls.flatten.length) ∧ ρ = cU O [(0, aCq ls), (3, vi (s : Nat)), (9, aCq ls), (10, vi (ls.length : Nat)), (11, vi (i : Nat))]) _ ⟨0, 0, rfl, ?_, ?_, ?_⟩ ?_
 ·exact bD
 ·simp
 ·exact cD
 rintro n ρ ⟨i, s, rfl, l0_0, l0_1, rfl⟩ K4 hK4
 refine aB [0, 3, 9, 10, 11] ?_
 refine aA fun K6 hK6 => ?_
 refine aS (fun c0 => ?_) fun c0 => ?_
 ·refine aJ ?_
  refine hK6 _ ?_; clear hK6
  refine aA fun K7 hK7 => ?_
  refine aK ?_
  refine aB [0, 3, 9, 10, 11] ?_
  refine aA fun K9 hK9 => ?_
  have hs : s + (ls.getD i default).length + (ls.drop (i + 1)).flatten.length = ls.flatten.length := by rw [← l0_1, bT default c0, List.flatten_cons, List.length_append]; omega
  refine bC [0, 3, 5, 9, 10, 11, 13] ?_
  refine hK9 _ ?_; clear hK9
  refine aB [0, 3, 9, 10, 11] ?_
  refine aS (fun c1 => ?_) fun c1 => ?_
  ·omega
  refine aJ ?_
  refine hK7 _ ?_; clear hK7
  refine bC [0, 3, 9, 10, 11] ?_
  refine hK4 _ _ ?_ ⟨i + 1, s + (ls.getD i default).length, rfl, ?_, ?_, ?_⟩
  ·exact bD
  ·exact bD
  ·exact hs
  exact cD
 refine bA ?_
 refine hK2 _ ?_; clear hK2
 refine aA fun K11 hK11 => ?_
 refine bF [0, 3] ?_
 refine dM (sV _ s (by omega)) ?_
 refine hK11 _ ?_; clear hK11
 refine aA fun K12 hK12 => ?_
 refine aB [0, 6] ?_
 refine aK ?_
 refine aX [6, 25, 26, 27] (fun n ρ => ∃ j, ∃ out, n = ls.length - j ∧ (j ≤ ls.length) ∧ (out ++ (ls.drop j).flatten = ls.flatten) ∧ ρ = cU O [(6, pE out), (25, aCq ls), (26, vi (ls.length : Nat)), (27, vi (j : Nat))]) _ ⟨0, [], rfl, ?_, ?_, ?_⟩ ?_
 ·exact bD
 ·rfl
 ·exact cD
 rintro n ρ ⟨j, out, rfl, l1_0, l1_1, rfl⟩ K14 hK14
 refine aB [0, 6, 25, 26, 27] ?_
 refine aA fun K16 hK16 => ?_
 refine aS (fun c2 => ?_) fun c2 => ?_
 ·refine aJ ?_
  refine hK16 _ ?_; clear hK16
  refine aA fun K17 hK17 => ?_
  refine aK ?_
  refine aB [0, 6, 25, 26, 27] ?_
  have hs : (out ++ ls.getD j default).length ≤ ls.flatten.length := by rw [← l1_1, bT default c2, List.flatten_cons, List.length_append, List.length_append, List.length_append]; omega
  rw [List.length_append] at hs
  refine bC [0, 6, 8, 25, 26, 27, 29] ?_
  refine hK17 _ ?_; clear hK17
  refine bC [0, 6, 25, 26, 27] ?_
  refine hK14 _ _ ?_ ⟨j + 1, out ++ ls.getD j default, rfl, ?_, ?_, ?_⟩
  ·exact bD
  ·exact bD
  ·rw [← l1_1, bT default c2, List.flatten_cons, List.append_assoc]
  exact cD
 refine bA ?_
 refine hK12 _ ?_; clear hK12
 refine aB [6] ?_
 refine aL ?_
 refine b6 2 ?_
 exact cP.ownL rfl (by omega) rfl rfl (by rw [← l1_1, eJ c2]; simp)
end
section
attribute [local go_sem] or_self List.drop_zero aDu aEn aFp aFq yW aEf aKz aLu aKe aKq aLf aKg aXh aWi aYk aYi aVi aLi
theorem xR (O : aU) (x y : aM) : aW Tryz.prog O 80 [.agg (aY x), .agg (aY y)] (vi (stC x y)) := by
 refine dT Tryz.func80 ?_
 refine aB [0, 1] ?_
 refine aA fun K1 hK1 => ?_
 refine e5 [2, 3] [] ?_
 refine cdz (eN _ x.fEl y.fEl) ?_
 refine cdz (eN _ x.fPos y.fPos) ?_
 refine cdz (fR [b9 [kE x.fEl y.fEl, kE x.fPos y.fPos]] (.cons (bV.litL [kE x.fEl y.fEl, kE x.fPos y.fPos] rfl rfl) .nil) (nI _ [kE x.fEl y.fEl, kE x.fPos y.fPos])) ?_
 refine hK1 _ ?_; clear hK1
 refine aL ?_
 refine b6 4 ?_
 exact cP.is (by ((try simp only [go_sem, seval]); try simp (disch := omega) only [go_sem, seval]) <;> (rfl)) rfl rfl
end
theorem bSh (O : aU) (s : Nat) (l : List aM) (hs : O s = nG l) (hb : l.length ≤ 100000) : iH Tryz.prog O 64 [.own s l.length, .fn 80 [] []] fun O' x => O' = set O s (nG (mW l)) ∧ x = .tup [] :=
 pX (enc := fun x => [.int .i64 x.fEl, .int .i64 x.fPos]) (cf := stC) (fun _ => rfl) (fun _ => rfl) (by decide) (fun x v hv => by simp at hv; rcases hv with rfl | rfl <;> rfl) hs (j8 l)
  (fun _ b c w => AnyF.slices_SortFunc_none Tryz.sort64 b c _ w)
  (fun w blk c hH hblk hc => by
   have := AnyQ.slices_SortFunc_total Tryz.sort64 2 Tryz.isAgg68 Tryz.sizeOf68 (fun x : aM => [.int .i64 x.fEl, .int .i64 x.fPos]) (fun _ => rfl) (fun x v hv => by simp at hv; rcases hv with rfl | rfl <;> rfl) stC bHq 80 #[] blk 0 c l.toArray w
    (enters_of Tryz.func80 (by kernel_rfl) rfl) (by simpa using hc) hH hblk (by simp; omega) (fun x y h k => by rw [sS] at h k; exact uL h k)
   rw [sS] at this
   change Calls Tryz.prog 64 _ _ _ at this
   simpa [mW] using this)
  (fun x y => xR _ x y)
section
attribute [local go_sem] or_self List.drop_zero aDu aEn aFp aFq yW aEf aKz aLu aKe aKq aLf aKg aXh aWi aYk aYi aVi aLi List.length_map aXt aPh
set_option maxRecDepth 20000 in
set_option maxHeartbeats 16000000 in
theorem aBd (O : aU) (l : aC) (r : bE) (hv : Vld l) (hJ : (d4 l.fJoints).Nodup) (hnd : ((r.fPath ++ r.fOver).map (·.fEl)).Nodup) (hr : Rtk r) : aW Tryz.prog O 36 [.agg (aI l), .agg (aZ r)] (.agg (aZ (oM l r))) := by
 have hl := hv.few
 have hr1 := hr.pa
 have hr2 := hr.po
 have hr3 := hr.se
 have hr4 := hr.ov
 have hr5 := hr.op
 have hr6 := hr.os
 have hfl2 : [r.fPath, r.fOver].flatten = (r.fPath ++ r.fOver) := by simp
 have hql : (r.fPath ++ r.fOver).length ≤ 200 := by rw [List.length_append]; omega
 refine eV Tryz.func36 rfl (by kernel_rfl) fun w0 I0 A0 => ?_
 have hF := jN w0 I0 (b8 A0) (xG [])
 refine a8 hF [0, 1] ?_
 refine aN fun K1 hK1 => ?_
 refine dW hF [2, 3, 4] ?_
 refine dM (dJ (i7 _ r.fPath (by omega))) ?_
 refine hK1 _ _ ?_; clear hK1
 refine aN fun K2 hK2 => ?_
 refine dW hF [2, 3, 4] ?_
 refine dM (dJ (fJ _ r.fPoints (by omega))) ?_
 refine hK2 _ _ ?_; clear hK2
 refine aN fun K3 hK3 => ?_
 refine dW hF [2, 3, 4] ?_
 refine dM (dJ (gK _ r.fSections (by omega))) ?_
 refine hK3 _ _ ?_; clear hK3
 refine aN fun K4 hK4 => ?_
 refine dW hF [2, 3, 4] ?_
 refine dM (dJ (i7 _ r.fOver (by omega))) ?_
 refine hK4 _ _ ?_; clear hK4
 refine aN fun K5 hK5 => ?_
 refine dW hF [2, 3, 4] ?_
 refine dM (dJ (fJ _ r.fOverPoints (by omega))) ?_
 refine hK5 _ _ ?_; clear hK5
 refine aN fun K6 hK6 => ?_
 refine dW hF [2, 3, 4] ?_
 refine dM (dJ (gK _ r.fOverSections (by omega))) ?_
 refine hK6 _ _ ?_; clear hK6
 refine a8 hF [2, 3, 4] ?_
 refine aN fun K8 hK8 => ?_
 refine aN fun K9 hK9 => ?_
 refine dW hF [2, 3, 4] ?_
 refine dM (fR [aCq [r.fPath, r.fOver]] (.cons (bV.litL [r.fPath, r.fOver] rfl rfl) .nil) (dJ (by rw [← hfl2]; exact qU _ [r.fPath, r.fOver] (by rw [hfl2]; omega)) : aW Tryz.prog _ 77 [aCq [r.fPath, r.fOver]] (bN (r.fPath ++ r.fOver)))) ?_
 refine hK9 _ _ ?_; clear hK9
 refine bI ?_
 refine eL [] [] 49 2 rfl ?_
 refine eL [] [_] 3 1 rfl ?_
 refine eL [] [_, _] 68 2 rfl ?_
 refine dB [4, 2, 3, 44, 45, 46] (fun n sF ρ => ∃ i, ∃ aF, ∃ aG, ∃ aP, ∃ st, n = (r.fPath ++ r.fOver).length - i ∧ sF = [rgF aF st.1, wD aG st.2.1, rgE aP st.2.2] ∧ (i ≤ (r.fPath ++ r.fOver).length) ∧ (st = x1 l r (cJ l ((r.fPath ++ r.fOver).take i))) ∧ ρ = cU O [(4, .bx [vs ⟨#[]⟩, vi 0, vi 0, .v (.slice none 0 0), .v (.slice none 0 0), .v (.slice none 0 0), vi 0, vi 0, .v (.slice none 0 0), .v (.slice none 0 0), .v (.slice none 0 0), .v (.slice none 0 0), .v (.slice none 0 0), .v (.slice none 0 0)]), (2, .bx (aI l)), (3, .bx (flX r aF aG aP st.1.length st.2.1.length st.2.2.length)), (44, bN (r.fPath ++ r.fOver)), (45, vi ((r.fPath ++ r.fOver).length : Nat)), (46, vi (i : Nat))]) _ ⟨0, eU, eU, eU, ([], [], []), rfl, rfl, ?_, ?_, ?_⟩ ?_
 ·exact bD
 ·rfl
 ·exact cD
 rintro n sF ρ ⟨i, aF, aG, aP, st, rfl, rfl, l0_0, l0_1, rfl⟩ K10 hK10
 have hbw := uP l ((r.fPath ++ r.fOver).take i)
 have htk := List.length_take_le i (r.fPath ++ r.fOver)
 have hbx := yF l ((r.fPath ++ r.fOver).getD i default)
 have hfl := aOc l r (cJ l ((r.fPath ++ r.fOver).take i))
 refine a8 hF [2, 3, 4, 44, 45, 46] ?_
 refine aN fun K12 hK12 => ?_
 refine bU (fun c0 => ?_) fun c0 => ?_
 ·refine bG ?_
  refine hK12 _ _ ?_; clear hK12
  refine aN fun K13 hK13 => ?_
  refine bI ?_
  refine a8 hF [2, 3, 4, 44, 45, 46] ?_
  refine aN fun K15 hK15 => ?_
  refine dW hF [2, 3, 4, 6, 44, 45, 46] ?_
  refine dM (w5 _ l ((r.fPath ++ r.fOver).getD i default) hl) ?_
  refine hK15 _ _ ?_; clear hK15
  refine bI ?_
  refine dB [4, 2, 3, 44, 45, 46, 52, 53, 54] (fun n sF ρ => ∃ j, ∃ aF, ∃ aG, ∃ aP, ∃ st, n = (gF l ((r.fPath ++ r.fOver).getD i default)).length - j ∧ sF = [rgF aF st.1, wD aG st.2.1, rgE aP st.2.2] ∧ (j ≤ (gF l ((r.fPath ++ r.fOver).getD i default)).length) ∧ (st = x1 l r (cJ l ((r.fPath ++ r.fOver).take i) ++ (gF l ((r.fPath ++ r.fOver).getD i default)).take j)) ∧ ρ = cU O [(4, .bx [vs ⟨#[]⟩, vi 0, vi 0, .v (.slice none 0 0), .v (.slice none 0 0), .v (.slice none 0 0), vi 0, vi 0, .v (.slice none 0 0), .v (.slice none 0 0), .v (.slice none 0 0), .v (.slice none 0 0), .v (.slice none 0 0), .v (.slice none 0 0)]), (2, .bx (aI l)), (3, .bx (flX r aF aG aP st.1.length st.2.1.length st.2.2.length)), (44, bN (r.fPath ++ r.fOver)), (45, vi ((r.fPath ++ r.fOver).length : Nat)), (46, vi (i : Nat)), (52, jX (gF l ((r.fPath ++ r.fOver).getD i default))), (53, vi ((gF l ((r.fPath ++ r.fOver).getD i default)).length : Nat)), (54, vi (j : Nat))]) _ ⟨0, aF, aG, aP, st, rfl, rfl, ?_, ?_, ?_⟩ ?_
  ·exact bD
  ·(rw [List.take_zero, List.append_nil]; exact l0_1)
  ·exact cD
  rintro n sF ρ ⟨j, aF, aG, aP, st, rfl, rfl, l1_0, l1_1, rfl⟩ K16 hK16
  have hfj := aOc l r (cJ l ((r.fPath ++ r.fOver).take i) ++ (gF l ((r.fPath ++ r.fOver).getD i default)).take j)
  have htj := List.length_take_le j (gF l ((r.fPath ++ r.fOver).getD i default))
  rw [← l1_1, List.length_append] at hfj
  refine a8 hF [2, 3, 4, 44, 45, 46, 52, 53, 54] ?_
  refine aN fun K18 hK18 => ?_
  refine bU (fun c1 => ?_) fun c1 => ?_
  ·refine bG ?_
   refine hK18 _ _ ?_; clear hK18
   refine aN fun K19 hK19 => ?_
   refine bI ?_
   refine a8 hF [2, 3, 4, 44, 45, 46, 52, 53, 54] ?_
   refine aN fun K21 hK21 => ?_
   refine bH (Le.keepC [2, 3, 4, 8, 44, 45, 46, 52, 53, 54] _) ?_
   refine bM ?_
   refine ef hF ?_
   refine ef hF ?_
   refine ef hF ?_
   show fV _ _ _ _ _ _ _ _
   refine aCk (al := [.agg (aI l), .agg (aZ (wFG r st.1 st.2.1 st.2.2)), .agg (bO ((gF l ((r.fPath ++ r.fOver).getD i default)).getD j default))]) rfl rfl rfl (by decide) (by kernel_rfl) (by ((try simp only [go_sem, seval]); try simp (disch := omega) only [go_sem, seval])) (by ((try simp only [go_sem, seval]); try simp (disch := omega) only [go_sem, seval])) (by ((try simp only [go_sem, seval]); try simp (disch := omega) only [go_sem, seval]) <;> rfl) (by kernel_rfl) (.cons (.pure _ rfl) (.cons (bIb r aF aG aP (by simp) (by simp) (by simp)) (.cons (.pure _ rfl) .nil))) (show aW Tryz.prog _ 79 _ (.tup [.agg (aY (jT l r st ((gF l ((r.fPath ++ r.fOver).getD i default)).getD j default)).1), vi (jT l r st ((gF l ((r.fPath ++ r.fOver).getD i default)).getD j default)).2.1, vb (jT l r st ((gF l ((r.fPath ++ r.fOver).getD i default)).getD j default)).2.2]) from xE _ l (wFG r st.1 st.2.1 st.2.2) ((gF l ((r.fPath ++ r.fOver).getD i default)).getD j default) hl) rfl (bGb _ _ _) ?_
   try ((try simp only [go_sem, seval]); try simp (disch := omega) only [go_sem, seval])
   refine ef hF ?_
   refine ef hF ?_
   refine ef hF ?_
   refine ef hF ?_
   refine ef hF ?_
   refine ef hF ?_
   refine ef hF ?_
   refine ef hF ?_
   refine hK21 _ _ ?_; clear hK21
   refine bI ?_
   refine a8 hF [2, 3, 4, 8, 9, 10, 11, 44, 45, 46, 52, 53, 54] ?_
   refine bU (fun c2 => ?_) fun c2 => ?_
   ·refine bH (Le.keepC [2, 3, 4, 8, 44, 45, 46, 52, 53, 54] _) ?_
    refine bM ?_
    refine ef hF ?_
    refine ef hF ?_
    refine ef hF ?_
    refine ef hF ?_
    show fV _ _ _ _ _ _ _ _
    refine dO (s1 := [rgF aF st.1, wD aG st.2.1]) (s2 := []) 70 (by decide) (by ((try simp only [go_sem, seval]); try simp (disch := omega) only [go_sem, seval]) <;> rfl) rfl ?_
    refine ef hF ?_
    show fV _ _ _ _ _ _ _ _
    refine fM (s1 := [rgF aF st.1, wD aG st.2.1]) (s2 := []) (l := (st.2.2 ++ [((gF l ((r.fPath ++ r.fOver).getD i default)).getD j default)]).map bO) 73 (by decide) (by ((try simp only [go_sem, seval]); try simp (disch := omega) only [go_sem, seval]) <;> (first | rfl | (simp; done) | (simp; rfl))) rfl (fun h2 => ?_)
    refine ef hF ?_
    refine ef hF ?_
    refine hK19 _ _ ?_; clear hK19
    refine cH hF [2, 3, 4, 44, 45, 46, 52, 53, 54] ?_
    refine hK16 _ _ _ ?_ ⟨j + 1, aF, aG, h2, (st.1, st.2.1, st.2.2 ++ [((gF l ((r.fPath ++ r.fOver).getD i default)).getD j default)]), rfl, rfl, ?_, ?_, ?_⟩
    ·exact bD
    ·exact bD
    ·(rw [yG c1 l1_1]; unfold flA; rw [if_pos (by simpa using c2)])
    exact cD
   refine a8 hF [2, 3, 4, 9, 10, 44, 45, 46, 52, 53, 54] ?_
   refine bU (fun c3 => ?_) fun c3 => ?_
   ·refine bH (Le.keepC [2, 3, 4, 10, 44, 45, 46, 52, 53, 54] _) ?_
    refine bM ?_
    refine ef hF ?_
    refine ef hF ?_
    refine ef hF ?_
    refine ef hF ?_
    show fV _ _ _ _ _ _ _ _
    refine dO (s1 := [rgF aF st.1]) (s2 := [rgE aP st.2.2]) 79 (by decide) (by ((try simp only [go_sem, seval]); try simp (disch := omega) only [go_sem, seval]) <;> rfl) rfl ?_
    refine ef hF ?_
    show fV _ _ _ _ _ _ _ _
    refine fM (s1 := [rgF aF st.1]) (s2 := [rgE aP st.2.2]) (l := (st.2.1 ++ [(jT l r st ((gF l ((r.fPath ++ r.fOver).getD i default)).getD j default)).2.1]).map eI) 82 (by decide) (by ((try simp only [go_sem, seval]); try simp (disch := omega) only [go_sem, seval]) <;> (first | rfl | (simp; done) | (simp; rfl))) rfl (fun h2 => ?_)
    refine ef hF ?_
    refine ef hF ?_
    refine hK19 _ _ ?_; clear hK19
    refine cH hF [2, 3, 4, 44, 45, 46, 52, 53, 54] ?_
    refine hK16 _ _ _ ?_ ⟨j + 1, aF, h2, aP, (st.1, st.2.1 ++ [(jT l r st ((gF l ((r.fPath ++ r.fOver).getD i default)).getD j default)).2.1], st.2.2), rfl, rfl, ?_, ?_, ?_⟩
    ·exact bD
    ·exact bD
    ·(rw [yG c1 l1_1]; unfold flA; rw [if_neg (by simpa using c2), if_pos (by simpa using c3)])
    exact cD
   refine a8 hF [2, 3, 4, 9, 44, 45, 46, 52, 53, 54] ?_
   refine bU (fun c4 => ?_) fun c4 => ?_
   ·refine bH (Le.keepC [2, 3, 4, 9, 44, 45, 46, 52, 53, 54] _) ?_
    refine bM ?_
    refine ef hF ?_
    refine ef hF ?_
    refine ef hF ?_
    refine ef hF ?_
    show fV _ _ _ _ _ _ _ _
    refine dO (s1 := []) (s2 := [wD aG st.2.1, rgE aP st.2.2]) 89 (by decide) (by ((try simp only [go_sem, seval]); try simp (disch := omega) only [go_sem, seval]) <;> rfl) rfl ?_
    refine ef hF ?_
    show fV _ _ _ _ _ _ _ _
    refine fM (s1 := []) (s2 := [wD aG st.2.1, rgE aP st.2.2]) (l := (st.1 ++ [(jT l r st ((gF l ((r.fPath ++ r.fOver).getD i default)).getD j default)).1]).map aY) 92 (by decide) (by ((try simp only [go_sem, seval]); try simp (disch := omega) only [go_sem, seval]) <;> (first | rfl | (simp; done) | (simp; rfl))) rfl (fun h2 => ?_)
    refine ef hF ?_
    refine ef hF ?_
    refine hK19 _ _ ?_; clear hK19
    refine cH hF [2, 3, 4, 44, 45, 46, 52, 53, 54] ?_
    refine hK16 _ _ _ ?_ ⟨j + 1, h2, aG, aP, (st.1 ++ [(jT l r st ((gF l ((r.fPath ++ r.fOver).getD i default)).getD j default)).1], st.2.1, st.2.2), rfl, rfl, ?_, ?_, ?_⟩
    ·exact bD
    ·exact bD
    ·(rw [yG c1 l1_1]; unfold flA; rw [if_neg (by simpa using c2), if_neg (by simpa using c3), if_pos (fun h => by rw [h] at c4; simp at c4)])
    exact cD
   refine bG ?_
   refine hK19 _ _ ?_; clear hK19
   refine cH hF [2, 3, 4, 44, 45, 46, 52, 53, 54] ?_
   refine hK16 _ _ _ ?_ ⟨j + 1, aF, aG, aP, st, rfl, rfl, ?_, ?_, ?_⟩
   ·exact bD
   ·exact bD
   ·(rw [yG c1 l1_1]; unfold flA; rw [if_neg (by simpa using c2), if_neg (by simpa using c3), if_neg (fun h => h ((fE _ _).2 (by simpa using c4)))])
   exact cD
  have hj2 : (gF l ((r.fPath ++ r.fOver).getD i default)).length ≤ j := (by omega)
  refine dD ?_
  refine hK13 _ _ ?_; clear hK13
  refine cH hF [2, 3, 4, 44, 45, 46] ?_
  refine hK10 _ _ _ ?_ ⟨i + 1, aF, aG, aP, st, rfl, rfl, ?_, ?_, ?_⟩
  ·exact bD
  ·exact bD
  ·(rw [aWc l c0]; rw [List.take_of_length_le hj2] at l1_1; exact l1_1)
  exact cD
 refine dD ?_
 refine hK8 _ _ ?_; clear hK8
 refine aN fun K25 hK25 => ?_
 obtain rfl : i = (r.fPath ++ r.fOver).length := (by omega)
 rw [List.take_length] at l0_1 hfl hbw
 rw [← l0_1] at hfl
 have hlaw := aMg hv hJ hnd
 rw [← l0_1] at hlaw
 have hnb : aGq (mW st.1) := aYq hlaw.1
 have hml := j8 st.1
 refine bH (Le.keepC [3, 4] _) ?_
 refine bM ?_
 refine ef hF ?_
 refine ef hF ?_
 show fV _ _ _ _ _ _ _ _
 refine aCw (s1 := []) (s2 := [wD aG st.2.1, rgE aP st.2.2]) (h0 := aF) (l := st.1.map aY) 97 98 (by decide) (by ((try simp only [go_sem, seval]); try simp (disch := omega) only [go_sem, seval]) <;> rfl) rfl rfl rfl rfl (by decide) (by decide) (by kernel_rfl) (by ((try simp only [go_sem, seval]); try simp (disch := omega) only [go_sem, seval])) (by ((try simp only [go_sem, seval]); try simp (disch := omega) only [go_sem, seval])) (by ((try simp only [go_sem, seval]); try simp (disch := omega) only [go_sem, seval]) <;> rfl) (by kernel_rfl) (bSh _ 97 st.1 (by ((try simp only [go_sem, seval]); try simp (disch := omega) only [go_sem, seval]) <;> rfl) (by omega)) ?_
 rintro O1 r1 ⟨rfl, rfl⟩
 refine ⟨rfl, (mW st.1).map aY, by simp [j8], by ((try simp only [go_sem, seval]); try simp (disch := omega) only [go_sem, seval]) <;> rfl, ?_⟩
 refine lZ ?_
 refine hK25 _ _ ?_; clear hK25
 refine aN fun K26 hK26 => ?_
 refine bH (Le.keepC [3, 4] _) ?_
 refine bM ?_
 refine ef hF ?_
 refine ef hF ?_
 show fV _ _ _ _ _ _ _ _
 refine aDd (s1 := []) (s2 := [wD aG st.2.1, rgE aP st.2.2]) (h0 := aF) (l := (mW st.1).map aY) 100 101 (by decide) (by ((try simp only [go_sem, seval]); try simp (disch := omega) only [go_sem, seval]) <;> first | rfl | (simp [j8, srt]; done)) rfl rfl rfl rfl (by decide) (by decide) (by kernel_rfl) (by ((try simp only [go_sem, seval]); try simp (disch := omega) only [go_sem, seval])) (by ((try simp only [go_sem, seval]); try simp (disch := omega) only [go_sem, seval])) (by ((try simp only [go_sem, seval]); try simp (disch := omega) only [go_sem, seval]) <;> rfl) (by kernel_rfl) (iV _ (mW st.1) 100 (by ((try simp only [go_sem, seval]); try simp (disch := omega) only [go_sem, seval]) <;> rfl) (by omega) hnb) ?_
 rintro O1 r1 ⟨rfl, rfl⟩
 refine ⟨_, (mW st.1).map aY, rfl, by first | (simp; done) | (have := mkI st.2.1; simp; omega), by ((try simp only [go_sem, seval]); try simp (disch := omega) only [go_sem, seval]) <;> rfl, fun h2 => ?_⟩
 try ((try simp only [go_sem, seval]); try simp (disch := omega) only [go_sem, seval])
 refine ef hF ?_
 refine ef hF ?_
 refine hK26 _ _ ?_; clear hK26
 refine aN fun K27 hK27 => ?_
 refine bH (Le.keepC [3, 4] _) ?_
 refine bM ?_
 refine ef hF ?_
 refine ef hF ?_
 show fV _ _ _ _ _ _ _ _
 refine aCw (s1 := [rgF h2 (mW st.1)]) (s2 := [rgE aP st.2.2]) (h0 := aG) (l := st.2.1.map eI) 104 105 (by decide) (by ((try simp only [go_sem, seval]); try simp (disch := omega) only [go_sem, seval]) <;> rfl) rfl rfl rfl rfl (by decide) (by decide) (by kernel_rfl) (by ((try simp only [go_sem, seval]); try simp (disch := omega) only [go_sem, seval])) (by ((try simp only [go_sem, seval]); try simp (disch := omega) only [go_sem, seval])) (by ((try simp only [go_sem, seval]); try simp (disch := omega) only [go_sem, seval]) <;> rfl) (by kernel_rfl) (aJt (s := 104) (l := st.2.1) (by ((try simp only [go_sem, seval]); try simp (disch := omega) only [go_sem, seval]) <;> rfl) Tryz.slices_Sort_int_none (fun blk off cap zs w h1 h2 h3 => Tryz.slices_Sort_int blk off cap zs w h1 h2 h3) (by omega)) ?_
 rintro O1 r1 ⟨rfl, rfl⟩
 refine ⟨rfl, (srt st.2.1).map eI, by simp [j8], by ((try simp only [go_sem, seval]); try simp (disch := omega) only [go_sem, seval]) <;> rfl, ?_⟩
 refine lZ ?_
 refine hK27 _ _ ?_; clear hK27
 refine aN fun K28 hK28 => ?_
 refine bH (Le.keepC [3, 4] _) ?_
 refine bM ?_
 refine ef hF ?_
 refine ef hF ?_
 show fV _ _ _ _ _ _ _ _
 refine aDd (s1 := [rgF h2 (mW st.1)]) (s2 := [rgE aP st.2.2]) (h0 := aG) (l := (srt st.2.1).map eI) 107 108 (by decide) (by ((try simp only [go_sem, seval]); try simp (disch := omega) only [go_sem, seval]) <;> first | rfl | (simp [j8, srt]; done)) rfl rfl rfl rfl (by decide) (by decide) (by kernel_rfl) (by ((try simp only [go_sem, seval]); try simp (disch := omega) only [go_sem, seval])) (by ((try simp only [go_sem, seval]); try simp (disch := omega) only [go_sem, seval])) (by ((try simp only [go_sem, seval]); try simp (disch := omega) only [go_sem, seval]) <;> rfl) (by kernel_rfl) (aBw (s := 107) (l := srt st.2.1) (by ((try simp only [go_sem, seval]); try simp (disch := omega) only [go_sem, seval]) <;> rfl) Tryz.slices_Compact_int_empty (fun blk off cap zs w h1 h2 h3 => Tryz.slices_Compact_int blk off cap zs w h1 h2 h3) (Lib.compact_length_le _)) ?_
 rintro O1 r1 ⟨rfl, rfl⟩
 refine ⟨_, (Lib.compact (srt st.2.1) ++ List.replicate ((srt st.2.1).length - (Lib.compact (srt st.2.1)).length) 0).map eI, rfl, by first | (simp; done) | (have := mkI st.2.1; simp; omega), by ((try simp only [go_sem, seval]); try simp (disch := omega) only [go_sem, seval]) <;> rfl, fun h3 => ?_⟩
 try ((try simp only [go_sem, seval]); try simp (disch := omega) only [go_sem, seval])
 refine ef hF ?_
 refine ef hF ?_
 refine hK28 _ _ ?_; clear hK28
 refine aN fun K29 hK29 => ?_
 refine dA (s1 := []) (s2 := [wD h3 (mk st.2.1), rgE aP st.2.2]) 3 11 (by first | rfl | (((try simp only [go_sem, seval]); try simp (disch := omega) only [go_sem, seval]); done) | (((try simp only [go_sem, seval]); try simp (disch := omega) only [go_sem, seval]); rfl)) (by first | rfl | (rw [List.length_map]; rfl)) rfl (bV.frzL aY (mW st.1)) rfl ?_
 refine dA (s1 := []) (s2 := [rgE aP st.2.2]) 3 12 (by first | rfl | (((try simp only [go_sem, seval]); try simp (disch := omega) only [go_sem, seval]); done) | (((try simp only [go_sem, seval]); try simp (disch := omega) only [go_sem, seval]); rfl)) (by first | rfl | (rw [List.length_map]; rfl)) rfl (bV.frzL eI (mk st.2.1)) rfl ?_
 refine dA (s1 := []) (s2 := []) 3 13 (by first | rfl | (((try simp only [go_sem, seval]); try simp (disch := omega) only [go_sem, seval]); done) | (((try simp only [go_sem, seval]); try simp (disch := omega) only [go_sem, seval]); rfl)) (by first | rfl | (rw [List.length_map]; rfl)) rfl (bV.frzL bO (st.2.2)) rfl ?_
 have hfk : oM l r = wFG r (mW st.1) (mk st.2.1) st.2.2 := by unfold oM; rw [← l0_1, aTw hnb]; show _ = wFG r _ (mk st.2.1) _; rw [show mk st.2.1 = xL st.2.1 from aLn (bVc _) (aMe _) fun x => by rw [bMj, aNs]]
 refine cH hF [3, 4] ?_
 refine hK29 _ _ ?_; clear hK29
 refine cL ?_
 (try simp only [eT, dQ]); rw [hfk]; refine iK 4 46 rfl (by ((try simp only [go_sem, seval]); try simp (disch := omega) only [go_sem, seval])) (by ((try simp only [go_sem, seval]); try simp (disch := omega) only [go_sem, seval]) <;> rfl) (by kernel_rfl) (by rfl)
end
def wA (r : bE) (F : List aM) (G : List Int) (h : Hd) (n : Nat) : List DV := [vs r.fName, vi r.fEntry, vi r.fExit, bN r.fPath, cX r.fPoints, b9 r.fSections, vi r.fApproach, vi r.fLength, bN r.fOver, cX r.fOverPoints, b9 r.fOverSections, cX F, b9 G, h.sl n]
section
variable (r : bE) (F F' : List aM) (G G' : List Int) (h h' : Hd) (n m : Nat)
theorem bAa : iA (fun x => x + 100000) (wA r F G h n) = wA r F G h n := rfl
theorem bDa : (wA r F G h n).length = 14 := rfl
theorem aRv : (wA r F G h n).take 14 = wA r F G h n := rfl
theorem bEn (p : Nat → Bool) : dS p (wA r F G h n) = true := rfl
theorem bMr : (wA r F G h n).getD 11 .any = cX F := rfl
theorem bNe : (wA r F G h n).getD 12 .any = b9 G := rfl
theorem bIt : (wA r F G h n).getD 13 .any = h.sl n := rfl
theorem bNs : (wA r F G h n).set 11 (cX F') = wA r F' G h n := rfl
theorem bKu : (wA r F G h n).set 12 (b9 G') = wA r F G' h n := rfl
theorem lV (d : DV) : (wA r F G h n).set 13 d = [vs r.fName, vi r.fEntry, vi r.fExit, bN r.fPath, cX r.fPoints, b9 r.fSections, vi r.fApproach, vi r.fLength, bN r.fOver, cX r.fOverPoints, b9 r.fOverSections, cX F, b9 G, d] := rfl
theorem bKo : (wA r F G h n).set 13 (h'.sl m) = wA r F G h' m := rfl
end
theorem bVf (r : bE) : mK (flX r eU eU eU 0 0 0) (wA r [] [] eU 0) := .cons (bV.refl _) (.cons (bV.refl _) (.cons (bV.refl _) (.cons (bV.refl _) (.cons (bV.refl _) (.cons (bV.refl _) (.cons (bV.refl _) (.cons (bV.refl _) (.cons (bV.refl _) (.cons (bV.refl _) (.cons (bV.refl _) (.cons (bV.nilL _) (.cons (bV.nilL _) (.cons (bV.refl _) .nil)))))))))))))
theorem bIv (r : bE) : mK (wA r [] [] eU 0) (aZ (wFG r [] [] [])) := .cons (bV.refl _) (.cons (bV.refl _) (.cons (bV.refl _) (.cons (bV.refl _) (.cons (bV.refl _) (.cons (bV.refl _) (.cons (bV.refl _) (.cons (bV.refl _) (.cons (bV.refl _) (.cons (bV.refl _) (.cons (bV.refl _) (.cons (bV.refl _) (.cons (bV.refl _) (.cons (bV.nilL _) .nil)))))))))))))
theorem bJb {rs : List Rg} {h : Hd} {P : List cC} (r : bE) (F : List aM) (G : List Int) (hm : rgE h P ∈ rs) : Lnd rs (.agg (wA r F G h P.length)) (.agg (aZ (wFG r F G P))) :=
 sL.toAgg (.cons (.pure _ rfl) (.cons (.pure _ rfl) (.cons (.pure _ rfl) (.cons (.pure _ rfl) (.cons (.pure _ rfl) (.cons (.pure _ rfl) (.cons (.pure _ rfl) (.cons (.pure _ rfl) (.cons (.pure _ rfl) (.cons (.pure _ rfl) (.cons (.pure _ rfl) (.cons (.pure _ rfl) (.cons (.pure _ rfl) (.cons (.row hm (by simp) (bV.frzL bO P)) .nil))))))))))))))
theorem bYq {r : bE} (h : Rtk r) : Rtk (wFG r [] [] []) := ⟨h.pa, h.po, h.se, h.ov, h.op, h.os, by show ([] : List aM).length ≤ 1000; simp, by show ([] : List Int).length ≤ 1000; simp, by show ([] : List cC).length ≤ 1000; simp⟩
theorem bCh (l : aC) (r : bE) (E : List cC) : (rfF l r E).1.length ≤ E.length ∧ (rfF l r E).2.1.length ≤ E.length ∧ (rfF l r E).2.2.length ≤ E.length := by
 have key : ∀ n (E : List cC), E.length = n → (rfF l r E).1.length ≤ E.length ∧ (rfF l r E).2.1.length ≤ E.length ∧ (rfF l r E).2.2.length ≤ E.length := by
  intro n
  induction n with
  | zero => intro E h; rw [List.length_eq_zero_iff.1 h]; simp [rfF]
  | succ n ih =>
   intro E h
   obtain ⟨Q, e, rfl⟩ : ∃ Q p, E = Q ++ [p] := ⟨E.dropLast, E.getLast (by intro e; rw [e] at h; cases h), (List.dropLast_concat_getLast _).symm⟩
   have h1 := ih Q (by simpa using h)
   rw [aRt, List.length_append, List.length_singleton]
   generalize rfF l r Q = st at h1 ⊢
   unfold rfA
   refine ⟨?_, ?_, ?_⟩
   ·simp only
    split
    ·have : (sO st.1 (jT l r st e).1).length ≤ st.1.length + 1 := by
      unfold sO; split
      ·omega
      simp only [List.length_append, List.length_take, List.length_drop, List.length_singleton]; omega
     omega
    omega
   ·simp only
    split
    ·have h2 := aOu st.2.1
     have h3 := yK (xL st.2.1) (jT l r st e).2.1
     show (kF (xL st.2.1) (jT l r st e).2.1).length ≤ _
     omega
    omega
   simp only
   split
   ·rw [List.length_append, List.length_singleton]; omega
   omega
 exact key _ E rfl
theorem aJc {l : aC} {r : bE} {E : List cC} {i : Nat} (hi : i < E.length) {st : FS} (h : st = rfF l r (E.take i)) {F : List aM} {P : List cC} {G : List Int} (hP : P = if (jT l r st (E.getD i default)).2.2 = false then st.2.2 ++ [E.getD i default] else st.2.2) (hF : F = if (jT l r st (E.getD i default)).1.fPos ≠ 0 then sO st.1 (jT l r st (E.getD i default)).1 else st.1)
  (hG : G = if 0 ≤ (jT l r st (E.getD i default)).2.1 then [(jT l r st (E.getD i default)).2.1].foldl kF (xL st.2.1) else st.2.1) : (F, G, P) = rfF l r (E.take (i + 1)) := by
 rw [fP default hi, aRt, ← h]; unfold rfA; rw [hP, hF, hG]
section
attribute [local go_sem] or_self List.length_map List.drop_zero aEn bAa bDa aRv bEn bMr bNe bIt bNs bKu bKo
set_option maxRecDepth 20000 in
set_option maxHeartbeats 16000000 in
theorem aBc (O : aU) (l : aC) (r : bE) (hv : Vld l) (hr : Rtk r) : aW Tryz.prog O 41 [.agg (aI l), .agg (aZ r)] (.agg (aZ (wFG r (rfF l r (cJ l (r.fPath ++ r.fOver))).1 (rfF l r (cJ l (r.fPath ++ r.fOver))).2.1 (rfF l r (cJ l (r.fPath ++ r.fOver))).2.2))) := by
 have hl := hv.few
 have hr1 := hr.pa
 have hr4 := hr.ov
 have hbw : (cJ l (r.fPath ++ r.fOver)).length ≤ 800 := by have := uP l (r.fPath ++ r.fOver); rw [List.length_append] at this; omega
 refine eV Tryz.func41 rfl (by kernel_rfl) fun w0 I0 A0 => ?_
 have hF := jN w0 I0 (b8 A0) (xG [])
 refine a8 hF [0, 1] ?_
 refine a8 hF [2, 3, 4] ?_
 refine a8 hF [2, 3, 4] ?_
 refine a8 hF [2, 3, 4] ?_
 refine aN fun K4 hK4 => ?_
 refine kB 3 (ds := wA r [] [] eU 0) rfl (by first | rfl | (((try simp only [go_sem, seval]); try simp (disch := omega) only [go_sem, seval]); done) | (((try simp only [go_sem, seval]); try simp (disch := omega) only [go_sem, seval]); rfl)) (bVf r) ?_
 refine dW hF [2, 3, 4] ?_
 refine dM (fR [.agg (aI l), .agg (aZ (wFG r [] [] []))] (.cons (bV.refl _) (.cons (bV.aggL (bIv r)) .nil)) (aAg _ l (wFG r [] [] []) hl (bYq hr))) ?_
 refine hK4 _ _ ?_; clear hK4
 refine aN fun K5 hK5 => ?_
 refine a8 hF [2, 3, 4, 5] ?_
 refine bI ?_
 refine eL [] [] 49 2 rfl ?_
 refine dB [4, 2, 5, 6, 3] (fun n sF ρ => ∃ i, ∃ aP, ∃ st, n = (cJ l (r.fPath ++ r.fOver)).length - i ∧ sF = [rgE aP st.2.2] ∧ (i ≤ (cJ l (r.fPath ++ r.fOver)).length) ∧ (st = rfF l r ((cJ l (r.fPath ++ r.fOver)).take i)) ∧ ρ = cU O [(4, .bx [vs ⟨#[]⟩, vi 0, vi 0, .v (.slice none 0 0), .v (.slice none 0 0), .v (.slice none 0 0), vi 0, vi 0, .v (.slice none 0 0), .v (.slice none 0 0), .v (.slice none 0 0), .v (.slice none 0 0), .v (.slice none 0 0), .v (.slice none 0 0)]), (2, .bx (aI l)), (5, jX (cJ l (r.fPath ++ r.fOver))), (6, vi (i : Nat)), (3, .bx (wA r st.1 st.2.1 aP st.2.2.length))]) _ ⟨0, eU, ([], [], []), rfl, rfl, ?_, ?_, ?_⟩ ?_
 ·exact bD
 ·rfl
 ·exact cD
 rintro n sF ρ ⟨i, aP, st, rfl, rfl, l0_0, l0_1, rfl⟩ K7 hK7
 have hrl := bCh l r ((cJ l (r.fPath ++ r.fOver)).take i)
 have htl := List.length_take_le i (cJ l (r.fPath ++ r.fOver))
 rw [← l0_1] at hrl
 refine aN fun K8 hK8 => ?_
 refine a8 hF [2, 3, 4, 5, 6] ?_
 refine bU (fun c0 => ?_) fun c0 => ?_
 ·refine bG ?_
  refine hK8 _ _ ?_; clear hK8
  refine aN fun K10 hK10 => ?_
  refine bI ?_
  refine aN fun K11 hK11 => ?_
  refine l4 15 [2, 3, 4, 5, 6] [4, 2, 3, 5, 6, 23, 24, 25, 26, 27, 28, 29, 22, 30, 31, 32, 8, 9, 7] [[], [], [], [], [2, 3], [2, 3, 4], [0, 1, 2, 3, 4, 5], [0, 1, 2, 3, 4, 5, 6], [0, 1, 2, 3, 4, 5, 6, 7], [0, 1, 2, 3, 4, 5, 6, 7], [0, 1, 2, 3, 4, 5, 6, 7], [], [0, 1, 2, 3, 4, 5, 6, 7, 8, 11], [0, 1, 2, 3, 4, 5, 6, 7, 8, 9, 11, 12], [0, 1, 2, 3, 4, 5, 6, 7, 8, 9, 10, 11, 12, 13]] [[12], [12], [12], [12], [12], [12], [12], [12], [12], [], [], [12], [], [], []] (fun (_ : Unit) bQ => cU O [(4, .bx [vs ⟨#[]⟩, vi 0, vi 0, .v (.slice none 0 0), .v (.slice none 0 0), .v (.slice none 0 0), vi 0, vi 0, .v (.slice none 0 0), .v (.slice none 0 0), .v (.slice none 0 0), .v (.slice none 0 0), .v (.slice none 0 0), .v (.slice none 0 0)]), (2, .bx (aI l)), (3, .bx (wA r st.1 st.2.1 aP st.2.2.length)), (5, jX (cJ l (r.fPath ++ r.fOver))), (6, vi (i : Nat)), (23, aV (bQ 0) (.agg (aI l))), (24, aV (bQ 1) (.agg (wA r st.1 st.2.1 aP st.2.2.length))), (25, aV (bQ 2) (jX (cJ l (r.fPath ++ r.fOver)))), (26, aV (bQ 3) (vi (i : Nat))), (27, aV (bQ 4) (.dp (bO ((cJ l (r.fPath ++ r.fOver)).getD i default)))), (28, aV (bQ 5) (.agg (bO ((cJ l (r.fPath ++ r.fOver)).getD i default)))), (29, aV (bQ 6) (.tup [.agg (aY (jT l r st ((cJ l (r.fPath ++ r.fOver)).getD i default)).1), vi (jT l r st ((cJ l (r.fPath ++ r.fOver)).getD i default)).2.1, vb (jT l r st ((cJ l (r.fPath ++ r.fOver)).getD i default)).2.2])), (22, aV (bQ 7) (.tup [.agg (aY (jT l r st ((cJ l (r.fPath ++ r.fOver)).getD i default)).1), vi (jT l r st ((cJ l (r.fPath ++ r.fOver)).getD i default)).2.1, vb (jT l r st ((cJ l (r.fPath ++ r.fOver)).getD i default)).2.2])), (30, aV (bQ 8) (.agg (aY (jT l r st ((cJ l (r.fPath ++ r.fOver)).getD i default)).1))), (31, aV (bQ 9) (vi (jT l r st ((cJ l (r.fPath ++ r.fOver)).getD i default)).2.1)), (32, aV (bQ 10) (vb (jT l r st ((cJ l (r.fPath ++ r.fOver)).getD i default)).2.2)), (8, aV (bQ 13) (vi (jT l r st ((cJ l (r.fPath ++ r.fOver)).getD i default)).2.1)), (9, aV (bQ 14) (vb (jT l r st ((cJ l (r.fPath ++ r.fOver)).getD i default)).2.2)), (7, hU (bQ 12) (bQ 11) (.bx (aY (jT l r st ((cJ l (r.fPath ++ r.fOver)).getD i default)).1)) (.bx [vi 0, vi 0]))]) (fun (_ : Unit) bQ => [rgE aP st.2.2]) () hF (fun iQ hiQ oQ hoQ gg bQ hbQ KQ hKQ => ?_) (fun gg => ?_)
  ·match iQ, hiQ with
   | 0, _ | 1, _ | 2, _ | 3, _ | 4, _ | 5, _ | 7, _ | 8, _ | 9, _ | 10, _ | 11, _ | 12, _ | 13, _ | 14, _ =>
    exact mfp hF hoQ hbQ (hKQ ())
   | 6, _ =>
    obtain rfl := Option.some.inj hoQ
    simp only [oS, hD, iB, List.getD_cons_succ, List.getD_cons_zero, List.getD_nil, and_true, true_and] at hbQ
    show fV _ _ _ _ _ _ _ _
    refine aCk (al := [.agg (aI l), .agg (aZ (wFG r st.1 st.2.1 st.2.2)), .agg (bO ((cJ l (r.fPath ++ r.fOver)).getD i default))]) rfl rfl rfl (by decide) (by kernel_rfl) (by ((try simp only [go_sem, seval, hbQ]); try simp (disch := omega) only [go_sem, seval, hbQ])) (by ((try simp only [go_sem, seval, hbQ]); try simp (disch := omega) only [go_sem, seval, hbQ])) (by ((try simp only [go_sem, seval, hbQ]); try simp (disch := omega) only [go_sem, seval, hbQ]) <;> rfl) (by kernel_rfl) (.cons (.pure _ rfl) (.cons (bJb r st.1 st.2.1 (by simp)) (.cons (.pure _ rfl) .nil))) (show aW Tryz.prog _ 91 _ (.tup [.agg (aY (jT l r st ((cJ l (r.fPath ++ r.fOver)).getD i default)).1), vi (jT l r st ((cJ l (r.fPath ++ r.fOver)).getD i default)).2.1, vb (jT l r st ((cJ l (r.fPath ++ r.fOver)).getD i default)).2.2]) from xM _ l (wFG r st.1 st.2.1 st.2.2) ((cJ l (r.fPath ++ r.fOver)).getD i default) hv) rfl (bGb _ _ _) ?_
    try ((try simp only [go_sem, seval, hbQ]); try simp (disch := omega) only [go_sem, seval, hbQ])
    refine hKQ () _ _ ?_ ?_
    ·first | rfl | (((try simp only [go_sem, seval, hbQ]); try simp (disch := omega) only [go_sem, seval, hbQ]); done) | (((try simp only [go_sem, seval, hbQ]); try simp (disch := omega) only [go_sem, seval, hbQ]) <;> rfl)
    ((try simp only [go_sem, seval, hbQ]); try simp (disch := omega) only [go_sem, seval, hbQ]) <;> first | rfl | simp
  refine lZ ?_
  refine hK11 _ _ ?_; clear hK11
  refine y3 [4, 2, 5, 6, 3, 7, 8] (fun sF ρ => ∃ h4, ∃ P1, sF = [rgE h4 P1] ∧ (P1 = if (jT l r st ((cJ l (r.fPath ++ r.fOver)).getD i default)).2.2 = false then st.2.2 ++ [((cJ l (r.fPath ++ r.fOver)).getD i default)] else st.2.2) ∧ ρ = cU O [(4, .bx [vs ⟨#[]⟩, vi 0, vi 0, .v (.slice none 0 0), .v (.slice none 0 0), .v (.slice none 0 0), vi 0, vi 0, .v (.slice none 0 0), .v (.slice none 0 0), .v (.slice none 0 0), .v (.slice none 0 0), .v (.slice none 0 0), .v (.slice none 0 0)]), (2, .bx (aI l)), (5, jX (cJ l (r.fPath ++ r.fOver))), (6, vi (i : Nat)), (3, .bx (wA r st.1 st.2.1 h4 P1.length)), (7, .bx (aY (jT l r st ((cJ l (r.fPath ++ r.fOver)).getD i default)).1)), (8, vi (jT l r st ((cJ l (r.fPath ++ r.fOver)).getD i default)).2.1)]) (fun K12 hK12 => ?_) ?_
  ·skip
   refine a8 hF [2, 3, 4, 5, 6, 7, 8, 9] ?_
   refine bU (fun c1 => ?_) fun c1 => ?_
   ·refine l4 10 [2, 3, 4, 5, 6, 7, 8] [4, 2, 5, 6, 7, 8, 35, 37, 38, 39, 40, 41, 42, 43, 3, 36] [[], [0], [], [], [2, 3], [2, 3, 4], [2, 3, 4, 5], [0, 1, 2, 3, 4, 5, 6], [0, 1, 2, 3, 4, 5, 6, 7], [0, 1, 2, 3, 4, 5, 6, 7, 8]] [[1, 7, 9], [7, 9], [7, 9], [7, 9], [7, 9], [7, 9], [7, 9], [9], [9], []] (fun (hx : Hd) bQ => cU O [(4, .bx [vs ⟨#[]⟩, vi 0, vi 0, .v (.slice none 0 0), .v (.slice none 0 0), .v (.slice none 0 0), vi 0, vi 0, .v (.slice none 0 0), .v (.slice none 0 0), .v (.slice none 0 0), .v (.slice none 0 0), .v (.slice none 0 0), .v (.slice none 0 0)]), (2, .bx (aI l)), (5, jX (cJ l (r.fPath ++ r.fOver))), (6, vi (i : Nat)), (7, .bx (aY (jT l r st ((cJ l (r.fPath ++ r.fOver)).getD i default)).1)), (8, vi (jT l r st ((cJ l (r.fPath ++ r.fOver)).getD i default)).2.1), (35, aV (bQ 0) (.bp 3 13)), (37, aV (bQ 2) (jX (cJ l (r.fPath ++ r.fOver)))), (38, aV (bQ 3) (vi (i : Nat))), (39, aV (bQ 4) (.dp (bO ((cJ l (r.fPath ++ r.fOver)).getD i default)))), (40, aV (bQ 5) (.agg (bO ((cJ l (r.fPath ++ r.fOver)).getD i default)))), (41, aV (bQ 6) (.sl 2 1 (fun i_ => [bO ((cJ l (r.fPath ++ r.fOver)).getD i default)].getD i_ []))), (42, aV (bQ 7) (hx.sl (st.2.2 ++ [((cJ l (r.fPath ++ r.fOver)).getD i default)]).length)), (43, aV (bQ 8) (.bp 3 13)), (3, hU (bQ 9) true (.bx (wA r st.1 st.2.1 hx (st.2.2 ++ [((cJ l (r.fPath ++ r.fOver)).getD i default)]).length)) (.bx (wA r st.1 st.2.1 aP st.2.2.length))), (36, (cond (bQ 7) (.any) (cond (bQ 1) (aP.sl st.2.2.length) (.any))))]) (fun (hx : Hd) bQ => (cond (bQ 7) [rgE hx (st.2.2 ++ [((cJ l (r.fPath ++ r.fOver)).getD i default)])] [rgE aP st.2.2])) ⟨none, none, 0⟩ hF (fun iQ hiQ oQ hoQ hx bQ hbQ KQ hKQ => ?_) (fun hx => ?_)
    ·match iQ, hiQ with
     | 0, _ | 1, _ | 2, _ | 3, _ | 4, _ | 5, _ | 6, _ | 8, _ | 9, _ =>
      exact mfp hF hoQ hbQ (hKQ hx)
     | 7, _ =>
      obtain rfl := Option.some.inj hoQ
      simp only [oS, hD, iB, List.getD_cons_succ, List.getD_cons_zero, List.getD_nil, and_true, true_and] at hbQ
      rw [hbQ.1]
      simp only [cond_false]
      show fV _ _ _ _ _ _ _ _
      refine dO (s1 := []) (s2 := []) 36 (by decide) (by ((try simp only [go_sem, seval, hbQ]); try simp (disch := omega) only [go_sem, seval, hbQ]) <;> rfl) rfl ?_
      refine gM [] [] 49 2 ((st.2.2 ++ [((cJ l (r.fPath ++ r.fOver)).getD i default)]).map bO) 42 (by decide) ?_
      show fV _ _ _ _ _ _ _ _
      refine dY hF ?_
      refine cM rfl (by kernel_rfl) (by kernel_rfl) ?_
      ((try simp only [go_sem, seval, hbQ]); try simp (disch := omega) only [go_sem, seval, hbQ])
      repeat refine And.intro bS ?_
      refine ⟨rfl, by ((try simp only [go_sem, seval, hbQ]); try simp (disch := omega) only [go_sem, seval, hbQ]) <;> (first | rfl | (simp; done) | (simp; rfl)), fun hx => ?_⟩
      try ((try simp only [go_sem, seval, hbQ]); try simp (disch := omega) only [go_sem, seval, hbQ])
      refine hKQ hx _ _ ?_ ?_
      ·first | rfl | (((try simp only [go_sem, seval, hbQ]); try simp (disch := omega) only [go_sem, seval, hbQ]); done) | (((try simp only [go_sem, seval, hbQ]); try simp (disch := omega) only [go_sem, seval, hbQ]) <;> rfl)
      ((try simp only [go_sem, seval, hbQ]); try simp (disch := omega) only [go_sem, seval, hbQ]) <;> first | rfl | simp
    refine lZ ?_
    refine hK12 _ _ ⟨hx, st.2.2 ++ [((cJ l (r.fPath ++ r.fOver)).getD i default)], rfl, ?_, ?_⟩
    ·rw [if_pos (by simpa using c1)]
    exact cD
   refine bG ?_
   refine hK12 _ _ ⟨aP, st.2.2, rfl, ?_, ?_⟩
   ·rw [if_neg (by simpa using c1)]
   exact cD
  rintro sF ρ ⟨h4, P1, rfl, j11_0, rfl⟩
  refine y3 [4, 2, 5, 6, 3, 8] (fun sF ρ => ∃ F1, sF = [rgE h4 P1] ∧ (F1 = if (jT l r st ((cJ l (r.fPath ++ r.fOver)).getD i default)).1.fPos ≠ 0 then sO st.1 (jT l r st ((cJ l (r.fPath ++ r.fOver)).getD i default)).1 else st.1) ∧ ρ = cU O [(4, .bx [vs ⟨#[]⟩, vi 0, vi 0, .v (.slice none 0 0), .v (.slice none 0 0), .v (.slice none 0 0), vi 0, vi 0, .v (.slice none 0 0), .v (.slice none 0 0), .v (.slice none 0 0), .v (.slice none 0 0), .v (.slice none 0 0), .v (.slice none 0 0)]), (2, .bx (aI l)), (5, jX (cJ l (r.fPath ++ r.fOver))), (6, vi (i : Nat)), (3, .bx (wA r F1 st.2.1 h4 P1.length)), (8, vi (jT l r st ((cJ l (r.fPath ++ r.fOver)).getD i default)).2.1)]) (fun K14 hK14 => ?_) ?_
  ·skip
   refine a8 hF [2, 3, 4, 5, 6, 7, 8] ?_
   refine bU (fun c2 => ?_) fun c2 => ?_
   ·refine dW hF [2, 3, 4, 5, 6, 7, 8] ?_
    refine dM (aEb _ st.1 (jT l r st ((cJ l (r.fPath ++ r.fOver)).getD i default)).1 (by omega)) ?_
    refine hK14 _ _ ⟨sO st.1 (jT l r st ((cJ l (r.fPath ++ r.fOver)).getD i default)).1, rfl, ?_, ?_⟩
    ·rw [if_pos (by simpa using c2)]
    exact cD
   refine bG ?_
   refine hK14 _ _ ⟨st.1, rfl, ?_, ?_⟩
   ·rw [if_neg (by simpa using c2)]
   exact cD
  rintro sF ρ ⟨F1, rfl, j13_0, rfl⟩
  refine a8 hF [2, 3, 4, 5, 6, 8] ?_
  refine bU (fun c3 => ?_) fun c3 => ?_
  ·refine dW hF [2, 3, 4, 5, 6, 8] ?_
   refine dM (fR [b9 st.2.1, b9 [(jT l r st ((cJ l (r.fPath ++ r.fOver)).getD i default)).2.1]] (.cons (bV.refl _) (.cons (bV.litL [(jT l r st ((cJ l (r.fPath ++ r.fOver)).getD i default)).2.1] rfl rfl) .nil)) (zF _ st.2.1 [(jT l r st ((cJ l (r.fPath ++ r.fOver)).getD i default)).2.1] (by omega) (by simp))) ?_
   refine hK10 _ _ ?_; clear hK10
   refine cH hF [2, 3, 4, 5, 6] ?_
   refine hK7 _ _ _ ?_ ⟨i + 1, h4, (F1, [(jT l r st ((cJ l (r.fPath ++ r.fOver)).getD i default)).2.1].foldl kF (xL st.2.1), P1), rfl, rfl, ?_, ?_, ?_⟩
   ·exact bD
   ·exact bD
   ·exact aJc c0 l0_1 j11_0 j13_0 (by rw [if_pos (by simpa using c3)])
   exact cD
  refine bG ?_
  refine hK10 _ _ ?_; clear hK10
  refine cH hF [2, 3, 4, 5, 6] ?_
  refine hK7 _ _ _ ?_ ⟨i + 1, h4, (F1, st.2.1, P1), rfl, rfl, ?_, ?_, ?_⟩
  ·exact bD
  ·exact bD
  ·exact aJc c0 l0_1 j11_0 j13_0 (by rw [if_neg (by simpa using c3)])
  exact cD
 refine dD ?_
 refine hK5 _ _ ?_; clear hK5
 refine aN fun K17 hK17 => ?_
 obtain rfl : i = (cJ l (r.fPath ++ r.fOver)).length := (by omega)
 rw [List.take_length] at l0_1
 refine dA (s1 := []) (s2 := []) 3 13 (by first | rfl | (((try simp only [go_sem, seval, lV]); try simp (disch := omega) only [go_sem, seval, lV]); done) | (((try simp only [go_sem, seval, lV]); try simp (disch := omega) only [go_sem, seval, lV]); rfl)) (by first | rfl | (rw [List.length_map]; rfl)) rfl (bV.frzL bO st.2.2) rfl ?_
 rw [lV]
 refine cH hF [3, 4] ?_
 refine hK17 _ _ ?_; clear hK17
 refine cL ?_
 (try simp only [eT, dQ]); rw [← l0_1]; refine iK 4 46 rfl (by ((try simp only [go_sem, seval, lV]); try simp (disch := omega) only [go_sem, seval, lV])) (by ((try simp only [go_sem, seval, lV]); try simp (disch := omega) only [go_sem, seval, lV]) <;> rfl) (by kernel_rfl) (by rfl)
end
end Go.Sg
