/- Several texts as one. -/
import Derived.Test.YtnpokifaejcbeaaGreatDoorF15
set_option linter.unusedSectionVars false
set_option linter.unusedVariables false
set_option linter.unusedSimpArgs false
set_option maxRecDepth 20000
namespace Go.Sg
open Go.Proofs
abbrev rgF (h : Hd) (F : List aN) : Rg := .row h 68 2 (F.map a7)
abbrev yD (h : Hd) (G : List Int) : Rg := .row h 3 1 (G.map eI)
abbrev rgE (h : Hd) (P : List cG) : Rg := .row h 49 2 (P.map cE)
def flX (r : a8) (hF hG hP : Hd) (a b c : Nat) : List DV := [vs r.fName, vi r.fEntry, vi r.fExit, b8 r.fPath, fU r.fPoints, dL r.fSections, vi r.fApproach, vi r.fLength, b8 r.fOver, fU r.fOverPoints, dL r.fOverSections, hF.sl a, hG.sl b, hP.sl c]
section
variable (r : a8) (hF hG hP h : Hd) (a b c n : Nat)
theorem aEr : (((bB r).set 11 (.v (.slice none 0 0))).set 12 (.v (.slice none 0 0))).set 13 (.v (.slice none 0 0)) = flX r jC jC jC 0 0 0 := rfl
theorem aFc : gT (fun x => x + 100000) (flX r hF hG hP a b c) = flX r hF hG hP a b c := rfl
theorem aFj : (flX r hF hG hP a b c).length = 14 := rfl
theorem x0 : (flX r hF hG hP a b c).take 14 = flX r hF hG hP a b c := rfl
theorem aEs (p : Nat → Bool) : dF p (flX r hF hG hP a b c) = true := rfl
theorem aJj : (flX r hF hG hP a b c).getD 11 .any = hF.sl a := rfl
theorem aKf : (flX r hF hG hP a b c).getD 12 .any = hG.sl b := rfl
theorem aLe : (flX r hF hG hP a b c).getD 13 .any = hP.sl c := rfl
theorem aJu : (flX r hF hG hP a b c).set 11 (h.sl n) = flX r h hG hP n b c := rfl
theorem aJi : (flX r hF hG hP a b c).set 12 (h.sl n) = flX r hF h hP a n c := rfl
theorem aKa : (flX r hF hG hP a b c).set 13 (h.sl n) = flX r hF hG h a b n := rfl
theorem aFp (d1 d2 d3 : DV) : (((flX r hF hG hP a b c).set 11 d1).set 12 d2).set 13 d3 = [vs r.fName, vi r.fEntry, vi r.fExit, b8 r.fPath, fU r.fPoints, dL r.fSections, vi r.fApproach, vi r.fLength, b8 r.fOver, fU r.fOverPoints, dL r.fOverSections, d1, d2, d3] := rfl
theorem aRv : (bB r).set 3 (b8 r.fPath) = bB r := rfl
theorem aXt : (bB r).set 4 (fU r.fPoints) = bB r := rfl
theorem aTx : (bB r).set 5 (dL r.fSections) = bB r := rfl
theorem aSw : (bB r).set 8 (b8 r.fOver) = bB r := rfl
theorem aUm : (bB r).set 9 (fU r.fOverPoints) = bB r := rfl
theorem aKm : (bB r).set 10 (dL r.fOverSections) = bB r := rfl
theorem bLo {rs : List Rg} {F : List aN} {G : List Int} {P : List cG} (h1 : rgF hF F ∈ rs) (h2 : yD hG G ∈ rs) (h3 : rgE hP P ∈ rs) : Lnd rs (.agg (flX r hF hG hP F.length G.length P.length)) (.agg (bB (wFG r F G P))) :=
 wT.toAgg (.cons (.pure _ rfl) (.cons (.pure _ rfl) (.cons (.pure _ rfl) (.cons (.pure _ rfl) (.cons (.pure _ rfl) (.cons (.pure _ rfl) (.cons (.pure _ rfl) (.cons (.pure _ rfl) (.cons (.pure _ rfl) (.cons (.pure _ rfl) (.cons (.pure _ rfl) (.cons (.row h1 (by simp) (dI.frzL a7 F)) (.cons (.row h2 (by simp) (dI.frzL eI G)) (.cons (.row h3 (by simp) (dI.frzL cE P)) .nil))))))))))))))
end
theorem bOq (s : aN) : PlV (.agg (a7 s)) := .agg fun d hd => by
 simp only [a7, List.mem_cons, List.not_mem_nil, or_false] at hd
 rcases hd with rfl | rfl <;> exact .v _
theorem bOy (s : aN) (g : Int) (b : Bool) : PlV (.tup [.agg (a7 s), vi g, vb b]) := .tup fun d hd => by
 simp only [List.mem_cons, List.not_mem_nil, or_false] at hd
 rcases hd with rfl | rfl | rfl
 ·exact bOq s
 ·exact .v _
 exact .v _
theorem xM {l : aB} {r : a8} {A B : List cG} {j : Nat} (hj : j < B.length) {st : FS} (h : st = qC l r (A ++ B.take j)) : qC l r (A ++ B.take (j + 1)) = flA l r st (B.getD j default) := by rw [fV default hj, ← List.append_assoc, aNb, ← h]
theorem aRq {α β : Type} (f : α → β) (l : List α) : (l.map f).take l.length = l.map f := by rw [← List.map_take, List.take_length]
theorem aPp {α β : Type} (f : α → β) (a b : List α) : ((a ++ b).map f).take a.length = a.map f := by rw [← List.map_take, List.take_left]
def aXs : Go.Shelf.Ren := ⟨fun | 4 => 122 | n => n, fun | 22 => 42 | 25 => 85 | n => n, fun | n => n⟩
theorem aBh : Go.Proofs.Lays8.n4 Tryz.prog aXs := {
 mixed := by kernel_rfl
 f4 := ⟨Tryz.f122.name, by decide, Tryz.func122.trans (congrArg some (by kernel_rfl))⟩
 t0 := Tryz.underlying0
 a0 := Tryz.isAgg0
 z0 := Tryz.sizeOf0
 v0 := Tryz.zeroValue0
 t3 := Tryz.underlying3
 a3 := Tryz.isAgg3
 z3 := Tryz.sizeOf3
 v3 := Tryz.zeroValue3
 t4 := Tryz.underlying4
 a4 := Tryz.isAgg4
 z4 := Tryz.sizeOf4
 v4 := Tryz.zeroValue4
 t9 := Tryz.underlying9
 a9 := Tryz.isAgg9
 z9 := Tryz.sizeOf9
 v9 := Tryz.zeroValue9
 t20 := Tryz.underlying20
 a20 := Tryz.isAgg20
 z20 := Tryz.sizeOf20
 v20 := Tryz.zeroValue20
 t22 := Tryz.underlying42
 a22 := Tryz.isAgg42
 z22 := Tryz.sizeOf42
 v22 := Tryz.zeroValue42 }
theorem qT (O : aS) (n : Nat) (hn : 0 < n) (hb : n ≤ 1000000) : aY Tryz.prog O 122 [.v (.slice none 0 0), vi n] (rowL 85 3 bO []) :=
 rW aBh rfl rfl (show kH Tryz.prog 42 = some (85, 3, 24) by kernel_rfl) (show eM Tryz.prog 85 = some [.int .i64 0, .int .i64 0, .int .i64 0] by kernel_rfl) (by decide) rfl rfl O n hn (by omega) (by omega)
theorem rO (O : aS) (n : Nat) (hb : n ≤ 1000000) : aY Tryz.prog O 122 [.v (.slice none 0 0), vi n] (rowL 85 3 bO []) := by
 rcases Nat.eq_zero_or_pos n with h | h
 ·subst h; exact pH aBh rfl rfl O 85 3
 exact qT O n h hb
abbrev aBn (ls : List (List aW)) : DV := encL 1 (fun l => [b8 l]) ls
section
attribute [local go_sem] or_self List.drop_zero aFp aEr aFc aFj x0 aEs aJj aKf aLe aJu aJi aKa aRv aXt aTx aSw aUm aKm zI
theorem pV (O : aS) (ls : List (List aW)) (hb : ls.flatten.length ≤ 100000) : aY Tryz.prog O 77 [aBn ls] (oY ls.flatten) := by
 refine aU 0 rfl (.sl _ _ _) fun hl => ?_
 refine eE Tryz.func77 ?_
 refine aC [0] ?_
 refine aC [0] ?_
 refine aA fun K2 hK2 => ?_
 refine aC [0, 3] ?_
 refine aL ?_
 refine aZ [0, 3, 9, 10, 11] (fun n ρ => ∃ i, ∃ s, n = ls.length - i ∧ (i ≤ ls.length) ∧ (s + (ls.drop i).flatten.length = ls.flatten.length) ∧ ρ = dU O [(0, aBn ls), (3, vi (s : Nat)), (9, aBn ls), (10, vi (ls.length : Nat)), (11, vi (i : Nat))]) _ ⟨0, 0, rfl, ?_, ?_, ?_⟩ ?_
 ·exact bI
 ·simp
 ·exact dC
 rintro n ρ ⟨i, s, rfl, l0_0, l0_1, rfl⟩ K4 hK4
 refine aC [0, 3, 9, 10, 11] ?_
 refine aA fun K6 hK6 => ?_
 refine aV (fun c0 => ?_) fun c0 => ?_
 ·refine aJ ?_
  refine hK6 _ ?_; clear hK6
  refine aA fun K7 hK7 => ?_
  refine aL ?_
  refine aC [0, 3, 9, 10, 11] ?_
  refine aA fun K9 hK9 => ?_
  have hs : s + (ls.getD i default).length + (ls.drop (i + 1)).flatten.length = ls.flatten.length := by rw [← l0_1, bV default c0, List.flatten_cons, List.length_append]; omega
  refine bE [0, 3, 5, 9, 10, 11, 13] ?_
  refine hK9 _ ?_; clear hK9
  refine aC [0, 3, 9, 10, 11] ?_
  refine aV (fun c1 => ?_) fun c1 => ?_
  ·omega
  refine aJ ?_
  refine hK7 _ ?_; clear hK7
  refine bE [0, 3, 9, 10, 11] ?_
  refine hK4 _ _ ?_ ⟨i + 1, s + (ls.getD i default).length, rfl, ?_, ?_, ?_⟩
  ·exact bI
  ·exact bI
  ·exact hs
  exact dC
 refine bA ?_
 refine hK2 _ ?_; clear hK2
 refine aA fun K11 hK11 => ?_
 refine bL [0, 3] ?_
 refine eL (rO _ s (by omega)) ?_
 refine hK11 _ ?_; clear hK11
 refine aA fun K12 hK12 => ?_
 refine aC [0, 6] ?_
 refine aL ?_
 refine aZ [6, 25, 26, 27] (fun n ρ => ∃ j, ∃ out, n = ls.length - j ∧ (j ≤ ls.length) ∧ (out ++ (ls.drop j).flatten = ls.flatten) ∧ ρ = dU O [(6, oY out), (25, aBn ls), (26, vi (ls.length : Nat)), (27, vi (j : Nat))]) _ ⟨0, [], rfl, ?_, ?_, ?_⟩ ?_
 ·exact bI
 ·rfl
 ·exact dC
 rintro n ρ ⟨j, out, rfl, l1_0, l1_1, rfl⟩ K14 hK14
 refine aC [0, 6, 25, 26, 27] ?_
 refine aA fun K16 hK16 => ?_
 refine aV (fun c2 => ?_) fun c2 => ?_
 ·refine aJ ?_
  refine hK16 _ ?_; clear hK16
  refine aA fun K17 hK17 => ?_
  refine aL ?_
  refine aC [0, 6, 25, 26, 27] ?_
  have hs : (out ++ ls.getD j default).length ≤ ls.flatten.length := by rw [← l1_1, bV default c2, List.flatten_cons, List.length_append, List.length_append, List.length_append]; omega
  rw [List.length_append] at hs
  refine bE [0, 6, 8, 25, 26, 27, 29] ?_
  refine hK17 _ ?_; clear hK17
  refine bE [0, 6, 25, 26, 27] ?_
  refine hK14 _ _ ?_ ⟨j + 1, out ++ ls.getD j default, rfl, ?_, ?_, ?_⟩
  ·exact bI
  ·exact bI
  ·rw [← l1_1, bV default c2, List.flatten_cons, List.append_assoc]
  exact dC
 refine bA ?_
 refine hK12 _ ?_; clear hK12
 refine aC [6] ?_
 refine aM ?_
 refine cW 2 ?_
 exact dE.ownL rfl (by omega) rfl rfl (by rw [← l1_1, eN c2]; simp)
end
section
attribute [local go_sem] or_self List.drop_zero aFp aEr aFc aFj x0 aEs aJj aKf aLe aJu aJi aKa aRv aXt aTx aSw aUm aKm
theorem wQ (O : aS) (x y : aN) : aY Tryz.prog O 80 [.agg (a7 x), .agg (a7 y)] (vi (stC x y)) := by
 refine eE Tryz.func80 ?_
 refine aC [0, 1] ?_
 refine aA fun K1 hK1 => ?_
 refine gY [2, 3] [] ?_
 refine cdz (d6 _ x.fEl y.fEl) ?_
 refine cdz (d6 _ x.fPos y.fPos) ?_
 refine cdz (gG [dL [j5 x.fEl y.fEl, j5 x.fPos y.fPos]] (.cons (dI.litL [j5 x.fEl y.fEl, j5 x.fPos y.fPos] rfl rfl) .nil) (m6 _ [j5 x.fEl y.fEl, j5 x.fPos y.fPos])) ?_
 refine hK1 _ ?_; clear hK1
 refine aM ?_
 refine cW 4 ?_
 exact dE.is (by ((try simp only [go_sem, seval]); try simp (disch := omega) only [go_sem, seval]) <;> (rfl)) rfl rfl
end
theorem bQh (O : aS) (s : Nat) (l : List aN) (hs : O s = r9 l) (hb : l.length ≤ 100000) : iC Tryz.prog O 64 [.own s l.length, .fn 80 [] []] fun O' x => O' = set O s (r9 (mK l)) ∧ x = .tup [] :=
 pI (enc := fun x => [.int .i64 x.fEl, .int .i64 x.fPos]) (cf := stC) (fun _ => rfl) (fun _ => rfl) (by decide) (fun x v hv => by simp at hv; rcases hv with rfl | rfl <;> rfl) hs (jT l)
  (fun _ b c w => AnyF.slices_SortFunc_none Tryz.sort64 b c _ w)
  (fun w blk c hH hblk hc => by
   have := AnyQ.slices_SortFunc_total Tryz.sort64 2 Tryz.isAgg68 Tryz.sizeOf68 (fun x : aN => [.int .i64 x.fEl, .int .i64 x.fPos]) (fun _ => rfl) (fun x v hv => by simp at hv; rcases hv with rfl | rfl <;> rfl) stC bGh 80 #[] blk 0 c l.toArray w
    (enters_of Tryz.func80 (by kernel_rfl) rfl) (by simpa using hc) hH hblk (by simp; omega) (fun x y h k => by rw [sG] at h k; exact xR h k)
   rw [sG] at this
   change Calls Tryz.prog 64 _ _ _ at this
   simpa [mK] using this)
  (fun x y => wQ _ x y)
section
attribute [local go_sem] or_self List.drop_zero aFp aEr aFc aFj x0 aEs aJj aKf aLe aJu aJi aKa aRv aXt aTx aSw aUm aKm List.length_map aRq aPp
set_option maxRecDepth 20000 in
set_option maxHeartbeats 16000000 in
theorem aAk (O : aS) (l : aB) (r : a8) (hv : Vld l) (hJ : (eQ l.fJoints).Nodup) (hnd : ((r.fPath ++ r.fOver).map (·.fEl)).Nodup) (hr : Rtk r) : aY Tryz.prog O 36 [.agg (aK l), .agg (bB r)] (.agg (bB (wI l r))) := by
 have hl := hv.few
 have hr1 := hr.pa
 have hr2 := hr.po
 have hr3 := hr.se
 have hr4 := hr.ov
 have hr5 := hr.op
 have hr6 := hr.os
 have hfl2 : [r.fPath, r.fOver].flatten = (r.fPath ++ r.fOver) := by simp
 have hql : (r.fPath ++ r.fOver).length ≤ 200 := by rw [List.length_append]; omega
 refine iL Tryz.func36 rfl (by kernel_rfl) fun w0 I0 A0 => ?_
 have hF := mW w0 I0 (b6 A0) (GOf [])
 refine bD hF [0, 1] ?_
 refine aT fun K1 hK1 => ?_
 refine e9 hF [2, 3, 4] ?_
 refine eL (dG (iV _ r.fPath (by omega))) ?_
 refine hK1 _ _ ?_; clear hK1
 refine aT fun K2 hK2 => ?_
 refine e9 hF [2, 3, 4] ?_
 refine eL (dG (eY _ r.fPoints (by omega))) ?_
 refine hK2 _ _ ?_; clear hK2
 refine aT fun K3 hK3 => ?_
 refine e9 hF [2, 3, 4] ?_
 refine eL (dG (gD _ r.fSections (by omega))) ?_
 refine hK3 _ _ ?_; clear hK3
 refine aT fun K4 hK4 => ?_
 refine e9 hF [2, 3, 4] ?_
 refine eL (dG (iV _ r.fOver (by omega))) ?_
 refine hK4 _ _ ?_; clear hK4
 refine aT fun K5 hK5 => ?_
 refine e9 hF [2, 3, 4] ?_
 refine eL (dG (eY _ r.fOverPoints (by omega))) ?_
 refine hK5 _ _ ?_; clear hK5
 refine aT fun K6 hK6 => ?_
 refine e9 hF [2, 3, 4] ?_
 refine eL (dG (gD _ r.fOverSections (by omega))) ?_
 refine hK6 _ _ ?_; clear hK6
 refine bD hF [2, 3, 4] ?_
 refine aT fun K8 hK8 => ?_
 refine aT fun K9 hK9 => ?_
 refine e9 hF [2, 3, 4] ?_
 refine eL (gG [aBn [r.fPath, r.fOver]] (.cons (dI.litL [r.fPath, r.fOver] rfl rfl) .nil) (dG (by rw [← hfl2]; exact pV _ [r.fPath, r.fOver] (by rw [hfl2]; omega)) : aY Tryz.prog _ 77 [aBn [r.fPath, r.fOver]] (b8 (r.fPath ++ r.fOver)))) ?_
 refine hK9 _ _ ?_; clear hK9
 refine bR ?_
 refine hU [] [] 49 2 rfl ?_
 refine hU [] [_] 3 1 rfl ?_
 refine hU [] [_, _] 68 2 rfl ?_
 refine dV [4, 2, 3, 44, 45, 46] (fun n sF ρ => ∃ i, ∃ aF, ∃ aG, ∃ aP, ∃ st, n = (r.fPath ++ r.fOver).length - i ∧ sF = [rgF aF st.1, yD aG st.2.1, rgE aP st.2.2] ∧ (i ≤ (r.fPath ++ r.fOver).length) ∧ (st = qC l r (j7 l ((r.fPath ++ r.fOver).take i))) ∧ ρ = dU O [(4, .bx [vs ⟨#[]⟩, vi 0, vi 0, .v (.slice none 0 0), .v (.slice none 0 0), .v (.slice none 0 0), vi 0, vi 0, .v (.slice none 0 0), .v (.slice none 0 0), .v (.slice none 0 0), .v (.slice none 0 0), .v (.slice none 0 0), .v (.slice none 0 0)]), (2, .bx (aK l)), (3, .bx (flX r aF aG aP st.1.length st.2.1.length st.2.2.length)), (44, b8 (r.fPath ++ r.fOver)), (45, vi ((r.fPath ++ r.fOver).length : Nat)), (46, vi (i : Nat))]) _ ⟨0, jC, jC, jC, ([], [], []), rfl, rfl, ?_, ?_, ?_⟩ ?_
 ·exact bI
 ·rfl
 ·exact dC
 rintro n sF ρ ⟨i, aF, aG, aP, st, rfl, rfl, l0_0, l0_1, rfl⟩ K10 hK10
 have hbw := aRd l ((r.fPath ++ r.fOver).take i)
 have htk := List.length_take_le i (r.fPath ++ r.fOver)
 have hbx := aLt l ((r.fPath ++ r.fOver).getD i default)
 have hfl := aEe l r (j7 l ((r.fPath ++ r.fOver).take i))
 refine bD hF [2, 3, 4, 44, 45, 46] ?_
 refine aT fun K12 hK12 => ?_
 refine cJ (fun c0 => ?_) fun c0 => ?_
 ·refine bN ?_
  refine hK12 _ _ ?_; clear hK12
  refine aT fun K13 hK13 => ?_
  refine bR ?_
  refine bD hF [2, 3, 4, 44, 45, 46] ?_
  refine aT fun K15 hK15 => ?_
  refine e9 hF [2, 3, 4, 6, 44, 45, 46] ?_
  refine eL (wZ _ l ((r.fPath ++ r.fOver).getD i default) hl) ?_
  refine hK15 _ _ ?_; clear hK15
  refine bR ?_
  refine dV [4, 2, 3, 44, 45, 46, 52, 53, 54] (fun n sF ρ => ∃ j, ∃ aF, ∃ aG, ∃ aP, ∃ st, n = (hD l ((r.fPath ++ r.fOver).getD i default)).length - j ∧ sF = [rgF aF st.1, yD aG st.2.1, rgE aP st.2.2] ∧ (j ≤ (hD l ((r.fPath ++ r.fOver).getD i default)).length) ∧ (st = qC l r (j7 l ((r.fPath ++ r.fOver).take i) ++ (hD l ((r.fPath ++ r.fOver).getD i default)).take j)) ∧ ρ = dU O [(4, .bx [vs ⟨#[]⟩, vi 0, vi 0, .v (.slice none 0 0), .v (.slice none 0 0), .v (.slice none 0 0), vi 0, vi 0, .v (.slice none 0 0), .v (.slice none 0 0), .v (.slice none 0 0), .v (.slice none 0 0), .v (.slice none 0 0), .v (.slice none 0 0)]), (2, .bx (aK l)), (3, .bx (flX r aF aG aP st.1.length st.2.1.length st.2.2.length)), (44, b8 (r.fPath ++ r.fOver)), (45, vi ((r.fPath ++ r.fOver).length : Nat)), (46, vi (i : Nat)), (52, aHp (hD l ((r.fPath ++ r.fOver).getD i default))), (53, vi ((hD l ((r.fPath ++ r.fOver).getD i default)).length : Nat)), (54, vi (j : Nat))]) _ ⟨0, aF, aG, aP, st, rfl, rfl, ?_, ?_, ?_⟩ ?_
  ·exact bI
  ·(rw [List.take_zero, List.append_nil]; exact l0_1)
  ·exact dC
  rintro n sF ρ ⟨j, aF, aG, aP, st, rfl, rfl, l1_0, l1_1, rfl⟩ K16 hK16
  have hfj := aEe l r (j7 l ((r.fPath ++ r.fOver).take i) ++ (hD l ((r.fPath ++ r.fOver).getD i default)).take j)
  have htj := List.length_take_le j (hD l ((r.fPath ++ r.fOver).getD i default))
  rw [← l1_1, List.length_append] at hfj
  refine bD hF [2, 3, 4, 44, 45, 46, 52, 53, 54] ?_
  refine aT fun K18 hK18 => ?_
  refine cJ (fun c1 => ?_) fun c1 => ?_
  ·refine bN ?_
   refine hK18 _ _ ?_; clear hK18
   refine aT fun K19 hK19 => ?_
   refine bR ?_
   refine bD hF [2, 3, 4, 44, 45, 46, 52, 53, 54] ?_
   refine aT fun K21 hK21 => ?_
   refine bK (Le.keepC [2, 3, 4, 8, 44, 45, 46, 52, 53, 54] _) ?_
   refine bM ?_
   refine ef hF ?_
   refine ef hF ?_
   refine ef hF ?_
   show gN _ _ _ _ _ _ _ _
   refine aOt (al := [.agg (aK l), .agg (bB (wFG r st.1 st.2.1 st.2.2)), .agg (cE ((hD l ((r.fPath ++ r.fOver).getD i default)).getD j default))]) rfl rfl rfl (by decide) (by kernel_rfl) (by ((try simp only [go_sem, seval]); try simp (disch := omega) only [go_sem, seval])) (by ((try simp only [go_sem, seval]); try simp (disch := omega) only [go_sem, seval])) (by ((try simp only [go_sem, seval]); try simp (disch := omega) only [go_sem, seval]) <;> rfl) (by kernel_rfl) (.cons (.pure _ rfl) (.cons (bLo r aF aG aP (by simp) (by simp) (by simp)) (.cons (.pure _ rfl) .nil))) (show aY Tryz.prog _ 79 _ (.tup [.agg (a7 (vN l r st ((hD l ((r.fPath ++ r.fOver).getD i default)).getD j default)).1), vi (vN l r st ((hD l ((r.fPath ++ r.fOver).getD i default)).getD j default)).2.1, vb (vN l r st ((hD l ((r.fPath ++ r.fOver).getD i default)).getD j default)).2.2]) from wE _ l (wFG r st.1 st.2.1 st.2.2) ((hD l ((r.fPath ++ r.fOver).getD i default)).getD j default) hl) rfl (bOy _ _ _) ?_
   try ((try simp only [go_sem, seval]); try simp (disch := omega) only [go_sem, seval])
   refine ef hF ?_
   refine ef hF ?_
   refine ef hF ?_
   refine ef hF ?_
   refine ef hF ?_
   refine ef hF ?_
   refine ef hF ?_
   refine ef hF ?_
   refine hK21 _ _ ?_; clear hK21
   refine bR ?_
   refine bD hF [2, 3, 4, 8, 9, 10, 11, 44, 45, 46, 52, 53, 54] ?_
   refine cJ (fun c2 => ?_) fun c2 => ?_
   ·refine bK (Le.keepC [2, 3, 4, 8, 44, 45, 46, 52, 53, 54] _) ?_
    refine bM ?_
    refine ef hF ?_
    refine ef hF ?_
    refine ef hF ?_
    refine ef hF ?_
    show gN _ _ _ _ _ _ _ _
    refine fY (s1 := [rgF aF st.1, yD aG st.2.1]) (s2 := []) 70 (by decide) (by ((try simp only [go_sem, seval]); try simp (disch := omega) only [go_sem, seval]) <;> rfl) rfl ?_
    refine ef hF ?_
    show gN _ _ _ _ _ _ _ _
    refine jL (s1 := [rgF aF st.1, yD aG st.2.1]) (s2 := []) (l := (st.2.2 ++ [((hD l ((r.fPath ++ r.fOver).getD i default)).getD j default)]).map cE) 73 (by decide) (by ((try simp only [go_sem, seval]); try simp (disch := omega) only [go_sem, seval]) <;> (first | rfl | (simp; done) | (simp; rfl))) rfl (fun h2 => ?_)
    refine ef hF ?_
    refine ef hF ?_
    refine hK19 _ _ ?_; clear hK19
    refine dS hF [2, 3, 4, 44, 45, 46, 52, 53, 54] ?_
    refine hK16 _ _ _ ?_ ⟨j + 1, aF, aG, h2, (st.1, st.2.1, st.2.2 ++ [((hD l ((r.fPath ++ r.fOver).getD i default)).getD j default)]), rfl, rfl, ?_, ?_, ?_⟩
    ·exact bI
    ·exact bI
    ·(rw [xM c1 l1_1]; unfold flA; rw [if_pos (by simpa using c2)])
    exact dC
   refine bD hF [2, 3, 4, 9, 10, 44, 45, 46, 52, 53, 54] ?_
   refine cJ (fun c3 => ?_) fun c3 => ?_
   ·refine bK (Le.keepC [2, 3, 4, 10, 44, 45, 46, 52, 53, 54] _) ?_
    refine bM ?_
    refine ef hF ?_
    refine ef hF ?_
    refine ef hF ?_
    refine ef hF ?_
    show gN _ _ _ _ _ _ _ _
    refine fY (s1 := [rgF aF st.1]) (s2 := [rgE aP st.2.2]) 79 (by decide) (by ((try simp only [go_sem, seval]); try simp (disch := omega) only [go_sem, seval]) <;> rfl) rfl ?_
    refine ef hF ?_
    show gN _ _ _ _ _ _ _ _
    refine jL (s1 := [rgF aF st.1]) (s2 := [rgE aP st.2.2]) (l := (st.2.1 ++ [(vN l r st ((hD l ((r.fPath ++ r.fOver).getD i default)).getD j default)).2.1]).map eI) 82 (by decide) (by ((try simp only [go_sem, seval]); try simp (disch := omega) only [go_sem, seval]) <;> (first | rfl | (simp; done) | (simp; rfl))) rfl (fun h2 => ?_)
    refine ef hF ?_
    refine ef hF ?_
    refine hK19 _ _ ?_; clear hK19
    refine dS hF [2, 3, 4, 44, 45, 46, 52, 53, 54] ?_
    refine hK16 _ _ _ ?_ ⟨j + 1, aF, h2, aP, (st.1, st.2.1 ++ [(vN l r st ((hD l ((r.fPath ++ r.fOver).getD i default)).getD j default)).2.1], st.2.2), rfl, rfl, ?_, ?_, ?_⟩
    ·exact bI
    ·exact bI
    ·(rw [xM c1 l1_1]; unfold flA; rw [if_neg (by simpa using c2), if_pos (by simpa using c3)])
    exact dC
   refine bD hF [2, 3, 4, 9, 44, 45, 46, 52, 53, 54] ?_
   refine cJ (fun c4 => ?_) fun c4 => ?_
   ·refine bK (Le.keepC [2, 3, 4, 9, 44, 45, 46, 52, 53, 54] _) ?_
    refine bM ?_
    refine ef hF ?_
    refine ef hF ?_
    refine ef hF ?_
    refine ef hF ?_
    show gN _ _ _ _ _ _ _ _
    refine fY (s1 := []) (s2 := [yD aG st.2.1, rgE aP st.2.2]) 89 (by decide) (by ((try simp only [go_sem, seval]); try simp (disch := omega) only [go_sem, seval]) <;> rfl) rfl ?_
    refine ef hF ?_
    show gN _ _ _ _ _ _ _ _
    refine jL (s1 := []) (s2 := [yD aG st.2.1, rgE aP st.2.2]) (l := (st.1 ++ [(vN l r st ((hD l ((r.fPath ++ r.fOver).getD i default)).getD j default)).1]).map a7) 92 (by decide) (by ((try simp only [go_sem, seval]); try simp (disch := omega) only [go_sem, seval]) <;> (first | rfl | (simp; done) | (simp; rfl))) rfl (fun h2 => ?_)
    refine ef hF ?_
    refine ef hF ?_
    refine hK19 _ _ ?_; clear hK19
    refine dS hF [2, 3, 4, 44, 45, 46, 52, 53, 54] ?_
    refine hK16 _ _ _ ?_ ⟨j + 1, h2, aG, aP, (st.1 ++ [(vN l r st ((hD l ((r.fPath ++ r.fOver).getD i default)).getD j default)).1], st.2.1, st.2.2), rfl, rfl, ?_, ?_, ?_⟩
    ·exact bI
    ·exact bI
    ·(rw [xM c1 l1_1]; unfold flA; rw [if_neg (by simpa using c2), if_neg (by simpa using c3), if_pos (fun h => by rw [h] at c4; simp at c4)])
    exact dC
   refine bN ?_
   refine hK19 _ _ ?_; clear hK19
   refine dS hF [2, 3, 4, 44, 45, 46, 52, 53, 54] ?_
   refine hK16 _ _ _ ?_ ⟨j + 1, aF, aG, aP, st, rfl, rfl, ?_, ?_, ?_⟩
   ·exact bI
   ·exact bI
   ·(rw [xM c1 l1_1]; unfold flA; rw [if_neg (by simpa using c2), if_neg (by simpa using c3), if_neg (fun h => h ((fQ _ _).2 (by simpa using c4)))])
   exact dC
  have hj2 : (hD l ((r.fPath ++ r.fOver).getD i default)).length ≤ j := (by omega)
  refine eB ?_
  refine hK13 _ _ ?_; clear hK13
  refine dS hF [2, 3, 4, 44, 45, 46] ?_
  refine hK10 _ _ _ ?_ ⟨i + 1, aF, aG, aP, st, rfl, rfl, ?_, ?_, ?_⟩
  ·exact bI
  ·exact bI
  ·(rw [bKu l c0]; rw [List.take_of_length_le hj2] at l1_1; exact l1_1)
  exact dC
 refine eB ?_
 refine hK8 _ _ ?_; clear hK8
 refine aT fun K25 hK25 => ?_
 obtain rfl : i = (r.fPath ++ r.fOver).length := (by omega)
 rw [List.take_length] at l0_1 hfl hbw
 rw [← l0_1] at hfl
 have hlaw := aNl hv hJ hnd
 rw [← l0_1] at hlaw
 have hnb : aGo (mK st.1) := aSr hlaw.1
 have hml := jT st.1
 refine bK (Le.keepC [3, 4] _) ?_
 refine bM ?_
 refine ef hF ?_
 refine ef hF ?_
 show gN _ _ _ _ _ _ _ _
 refine aBk (s1 := []) (s2 := [yD aG st.2.1, rgE aP st.2.2]) (h0 := aF) (l := st.1.map a7) 97 98 (by decide) (by ((try simp only [go_sem, seval]); try simp (disch := omega) only [go_sem, seval]) <;> rfl) rfl rfl rfl rfl (by decide) (by decide) (by kernel_rfl) (by ((try simp only [go_sem, seval]); try simp (disch := omega) only [go_sem, seval])) (by ((try simp only [go_sem, seval]); try simp (disch := omega) only [go_sem, seval])) (by ((try simp only [go_sem, seval]); try simp (disch := omega) only [go_sem, seval]) <;> rfl) (by kernel_rfl) (bQh _ 97 st.1 (by ((try simp only [go_sem, seval]); try simp (disch := omega) only [go_sem, seval]) <;> rfl) (by omega)) ?_
 rintro O1 r1 ⟨rfl, rfl⟩
 refine ⟨rfl, (mK st.1).map a7, by simp [jT], by ((try simp only [go_sem, seval]); try simp (disch := omega) only [go_sem, seval]) <;> rfl, ?_⟩
 refine rF ?_
 refine hK25 _ _ ?_; clear hK25
 refine aT fun K26 hK26 => ?_
 refine bK (Le.keepC [3, 4] _) ?_
 refine bM ?_
 refine ef hF ?_
 refine ef hF ?_
 show gN _ _ _ _ _ _ _ _
 refine aBt (s1 := []) (s2 := [yD aG st.2.1, rgE aP st.2.2]) (h0 := aF) (l := (mK st.1).map a7) 100 101 (by decide) (by ((try simp only [go_sem, seval]); try simp (disch := omega) only [go_sem, seval]) <;> first | rfl | (simp [jT, srt]; done)) rfl rfl rfl rfl (by decide) (by decide) (by kernel_rfl) (by ((try simp only [go_sem, seval]); try simp (disch := omega) only [go_sem, seval])) (by ((try simp only [go_sem, seval]); try simp (disch := omega) only [go_sem, seval])) (by ((try simp only [go_sem, seval]); try simp (disch := omega) only [go_sem, seval]) <;> rfl) (by kernel_rfl) (iO _ (mK st.1) 100 (by ((try simp only [go_sem, seval]); try simp (disch := omega) only [go_sem, seval]) <;> rfl) (by omega) hnb) ?_
 rintro O1 r1 ⟨rfl, rfl⟩
 refine ⟨_, (mK st.1).map a7, rfl, by first | (simp; done) | (have := mkI st.2.1; simp; omega), by ((try simp only [go_sem, seval]); try simp (disch := omega) only [go_sem, seval]) <;> rfl, fun h2 => ?_⟩
 try ((try simp only [go_sem, seval]); try simp (disch := omega) only [go_sem, seval])
 refine ef hF ?_
 refine ef hF ?_
 refine hK26 _ _ ?_; clear hK26
 refine aT fun K27 hK27 => ?_
 refine bK (Le.keepC [3, 4] _) ?_
 refine bM ?_
 refine ef hF ?_
 refine ef hF ?_
 show gN _ _ _ _ _ _ _ _
 refine aBk (s1 := [rgF h2 (mK st.1)]) (s2 := [rgE aP st.2.2]) (h0 := aG) (l := st.2.1.map eI) 104 105 (by decide) (by ((try simp only [go_sem, seval]); try simp (disch := omega) only [go_sem, seval]) <;> rfl) rfl rfl rfl rfl (by decide) (by decide) (by kernel_rfl) (by ((try simp only [go_sem, seval]); try simp (disch := omega) only [go_sem, seval])) (by ((try simp only [go_sem, seval]); try simp (disch := omega) only [go_sem, seval])) (by ((try simp only [go_sem, seval]); try simp (disch := omega) only [go_sem, seval]) <;> rfl) (by kernel_rfl) (aIw (s := 104) (l := st.2.1) (by ((try simp only [go_sem, seval]); try simp (disch := omega) only [go_sem, seval]) <;> rfl) Tryz.slices_Sort_int_none (fun blk off cap zs w h1 h2 h3 => Tryz.slices_Sort_int blk off cap zs w h1 h2 h3) (by omega)) ?_
 rintro O1 r1 ⟨rfl, rfl⟩
 refine ⟨rfl, (srt st.2.1).map eI, by simp [jT], by ((try simp only [go_sem, seval]); try simp (disch := omega) only [go_sem, seval]) <;> rfl, ?_⟩
 refine rF ?_
 refine hK27 _ _ ?_; clear hK27
 refine aT fun K28 hK28 => ?_
 refine bK (Le.keepC [3, 4] _) ?_
 refine bM ?_
 refine ef hF ?_
 refine ef hF ?_
 show gN _ _ _ _ _ _ _ _
 refine aBt (s1 := [rgF h2 (mK st.1)]) (s2 := [rgE aP st.2.2]) (h0 := aG) (l := (srt st.2.1).map eI) 107 108 (by decide) (by ((try simp only [go_sem, seval]); try simp (disch := omega) only [go_sem, seval]) <;> first | rfl | (simp [jT, srt]; done)) rfl rfl rfl rfl (by decide) (by decide) (by kernel_rfl) (by ((try simp only [go_sem, seval]); try simp (disch := omega) only [go_sem, seval])) (by ((try simp only [go_sem, seval]); try simp (disch := omega) only [go_sem, seval])) (by ((try simp only [go_sem, seval]); try simp (disch := omega) only [go_sem, seval]) <;> rfl) (by kernel_rfl) (aBa (s := 107) (l := srt st.2.1) (by ((try simp only [go_sem, seval]); try simp (disch := omega) only [go_sem, seval]) <;> rfl) Tryz.slices_Compact_int_empty (fun blk off cap zs w h1 h2 h3 => Tryz.slices_Compact_int blk off cap zs w h1 h2 h3) (Lib.compact_length_le _)) ?_
 rintro O1 r1 ⟨rfl, rfl⟩
 refine ⟨_, (Lib.compact (srt st.2.1) ++ List.replicate ((srt st.2.1).length - (Lib.compact (srt st.2.1)).length) 0).map eI, rfl, by first | (simp; done) | (have := mkI st.2.1; simp; omega), by ((try simp only [go_sem, seval]); try simp (disch := omega) only [go_sem, seval]) <;> rfl, fun h3 => ?_⟩
 try ((try simp only [go_sem, seval]); try simp (disch := omega) only [go_sem, seval])
 refine ef hF ?_
 refine ef hF ?_
 refine hK28 _ _ ?_; clear hK28
 refine aT fun K29 hK29 => ?_
 refine f0 (s1 := []) (s2 := [yD h3 (mk st.2.1), rgE aP st.2.2]) 3 11 (by first | rfl | (((try simp only [go_sem, seval]); try simp (disch := omega) only [go_sem, seval]); done) | (((try simp only [go_sem, seval]); try simp (disch := omega) only [go_sem, seval]); rfl)) (by first | rfl | (rw [List.length_map]; rfl)) rfl (dI.frzL a7 (mK st.1)) rfl ?_
 refine f0 (s1 := []) (s2 := [rgE aP st.2.2]) 3 12 (by first | rfl | (((try simp only [go_sem, seval]); try simp (disch := omega) only [go_sem, seval]); done) | (((try simp only [go_sem, seval]); try simp (disch := omega) only [go_sem, seval]); rfl)) (by first | rfl | (rw [List.length_map]; rfl)) rfl (dI.frzL eI (mk st.2.1)) rfl ?_
 refine f0 (s1 := []) (s2 := []) 3 13 (by first | rfl | (((try simp only [go_sem, seval]); try simp (disch := omega) only [go_sem, seval]); done) | (((try simp only [go_sem, seval]); try simp (disch := omega) only [go_sem, seval]); rfl)) (by first | rfl | (rw [List.length_map]; rfl)) rfl (dI.frzL cE (st.2.2)) rfl ?_
 have hfk : wI l r = wFG r (mK st.1) (mk st.2.1) st.2.2 := by unfold wI; rw [← l0_1, aSs hnb]; show _ = wFG r _ (mk st.2.1) _; rw [show mk st.2.1 = mkR st.2.1 from aKq (bOi _) (aKd _) fun x => by rw [bNg, aMu]]
 refine dS hF [3, 4] ?_
 refine hK29 _ _ ?_; clear hK29
 refine dD ?_
 (try simp only [fR, eC]); rw [hfk]; refine nU 4 46 rfl (by ((try simp only [go_sem, seval]); try simp (disch := omega) only [go_sem, seval])) (by ((try simp only [go_sem, seval]); try simp (disch := omega) only [go_sem, seval]) <;> rfl) (by kernel_rfl) (by rfl)
end
end Go.Sg
namespace Go.Sg
open Go.Proofs
def rfX (r : a8) (F : List aN) (G : List Int) (h : Hd) (n : Nat) : List DV := [vs r.fName, vi r.fEntry, vi r.fExit, b8 r.fPath, fU r.fPoints, dL r.fSections, vi r.fApproach, vi r.fLength, b8 r.fOver, fU r.fOverPoints, dL r.fOverSections, fU F, dL G, h.sl n]
section
variable (r : a8) (F F' : List aN) (G G' : List Int) (h h' : Hd) (n m : Nat)
theorem bBa : gT (fun x => x + 100000) (rfX r F G h n) = rfX r F G h n := rfl
theorem bDm : (rfX r F G h n).length = 14 := rfl
theorem aUt : (rfX r F G h n).take 14 = rfX r F G h n := rfl
theorem aZy (p : Nat → Bool) : dF p (rfX r F G h n) = true := rfl
theorem bHp : (rfX r F G h n).getD 11 .any = fU F := rfl
theorem bJn : (rfX r F G h n).getD 12 .any = dL G := rfl
theorem bKk : (rfX r F G h n).getD 13 .any = h.sl n := rfl
theorem bIj : (rfX r F G h n).set 11 (fU F') = rfX r F' G h n := rfl
theorem bGf : (rfX r F G h n).set 12 (dL G') = rfX r F G' h n := rfl
theorem bHx : (rfX r F G h n).set 13 (h'.sl m) = rfX r F G h' m := rfl
end
section
attribute [local go_sem] or_self List.length_map List.drop_zero aEr bBa bDm aUt aZy bHp bJn bKk bIj bGf bHx
end
end Go.Sg
namespace Go.Sg
open Go.Proofs
abbrev rgR (h : Hd) (R : List a8) : Rg := .row h 46 14 (R.map bB)
def y4 (l : aB) (a b c : DV) : List DV := [a, b, c, vi (l.fSections.length : Nat), vi (l.fSignals.length : Nat)]
section
variable (l : aB) (a b c d : DV) (h : Hd) (n : Nat)
theorem aNf : (y4 l a b c).length = 5 := rfl
theorem aGm : (y4 l a b c).take 5 = y4 l a b c := rfl
theorem aSm : (y4 l a b c).getD 0 .any = a := rfl
theorem aUv : (y4 l a b c).getD 1 .any = b := rfl
theorem aTn : (y4 l a b c).getD 2 .any = c := rfl
theorem aJt : (y4 l a b c).set 0 d = y4 l d b c := rfl
theorem aJn : (y4 l a b c).set 1 d = y4 l a d c := rfl
theorem aKk : (y4 l a b c).set 2 d = y4 l a b d := rfl
end
theorem aMe {l : aB} {a b c : DV} (ha : qL (fun x => x + 100000) a = a) (hb : qL (fun x => x + 100000) b = b) (hc : qL (fun x => x + 100000) c = c) : gT (fun x => x + 100000) (y4 l a b c) = y4 l a b c := by
 unfold y4; simp only [gT, ha, hb, hc]; rfl
theorem aMp {l : aB} {a b c : DV} (p : Nat → Bool) : dF p (y4 l a b c) = (d7 p a && (d7 p b && d7 p c)) := by
 unfold y4; simp [dF, d7]
theorem aZx (l : aB) : (d8 l).length ≤ l.fElements.length := pQ l _
section
attribute [local go_sem] or_self List.drop_zero List.length_map aNf aGm aSm aUv aTn aJt aJn aKk aMe aMp
set_option maxRecDepth 20000 in
set_option maxHeartbeats 16000000 in
theorem mA (O : aS) (l : aB) (hl : eK l) : aY Tryz.prog O 11 [.agg (aK l)] (.tup [.agg (dK (bC l)), vi (dP l (cN gP l)).2]) := by
 have hl4 := hl.sg
 have hl5 := hl.el
 have hl6 := hl.sec
 have hal := xH l
 have hpt := aZx l
 refine iL Tryz.func11 rfl (by kernel_rfl) fun w0 I0 A0 => ?_
 have hF := mW w0 I0 (b6 A0) (GOf [])
 refine bD hF [0] ?_
 refine aT fun K1 hK1 => ?_
 refine e9 hF [1, 2] ?_
 refine eL (aFm _ l (cN gP l) hl (fun hc O i hi => aAj O l i hi hl (pT hc).2.1 (bHh hc) (aXv (aCw hl hc).1)) (aVg l)) ?_
 refine hK1 _ _ ?_; clear hK1
 refine aT fun K2 hK2 => ?_
 refine bD hF [1, 2, 4, 5, 11, 13] ?_
 refine cJ (fun c0 => ?_) fun c0 => ?_
 ·have her : ¬ (dP l (cN gP l)).2 = 0 := (by simpa using c0)
  refine bD hF [2, 5] ?_
  refine sV 2 (ds := dK ⟨[], [], [], 0, 0⟩) rfl (by first | rfl | (((try simp only [go_sem, seval]); try simp (disch := omega) only [go_sem, seval]); done) | (((try simp only [go_sem, seval]); try simp (disch := omega) only [go_sem, seval]); rfl)) (.cons (dI.nilL _) (.cons (dI.nilL _) (.cons (dI.nilL _) (.cons (dI.refl _) (.cons (dI.refl _) .nil))))) ?_
  refine dD ?_
  (try simp only [fR, eC]); rw [bEs her]; refine aEh rfl (by ((try simp only [go_sem, seval]); try simp (disch := omega) only [go_sem, seval])) (.cons (roC (by ((try simp only [go_sem, seval]); try simp (disch := omega) only [go_sem, seval]) <;> rfl) (by ((try simp only [go_sem, seval]); try simp (disch := omega) only [go_sem, seval]) <;> rfl) (by kernel_rfl) (by first | rfl | (((try simp only [go_sem, seval]); try simp (disch := omega) only [go_sem, seval])))) (.cons (mC (by ((try simp only [go_sem, seval]); try simp (disch := omega) only [go_sem, seval]) <;> rfl) rfl rfl) .nil))
 have her : (dP l (cN gP l)).2 = 0 := (by simpa using c0)
 have hck := sZ her
 have hes := (pT hck).2.1
 obtain ⟨hv, hJ⟩ := aCw hl hck
 refine bN ?_
 refine hK2 _ _ ?_; clear hK2
 refine bD hF [1, 2, 4, 11, 13] ?_
 refine aT fun K6 hK6 => ?_
 refine bD hF [1, 2, 4, 6, 11, 13] ?_
 refine bR ?_
 refine hU [] [] 46 14 rfl ?_
 refine dV [1, 2, 6, 27, 28, 29] (fun n sF ρ => ∃ i, ∃ aR, ∃ R, n = (dP l (cN gP l)).1.length - i ∧ sF = [rgR aR R] ∧ (i ≤ (dP l (cN gP l)).1.length) ∧ (R = ((dP l (cN gP l)).1.take i).map (lX l)) ∧ ρ = dU O [(1, .bx (aK l)), (2, .bx [.v (.slice none 0 0), .v (.slice none 0 0), .v (.slice none 0 0), vi 0, vi 0]), (6, .bx (y4 l (aR.sl R.length) (.v (.slice none 0 0)) (.v (.slice none 0 0)))), (27, iM (dP l (cN gP l)).1), (28, vi ((dP l (cN gP l)).1.length : Nat)), (29, vi (i : Nat))]) _ ⟨0, jC, [], rfl, rfl, ?_, ?_, ?_⟩ ?_
 ·exact bI
 ·rfl
 ·exact dC
 rintro n sF ρ ⟨i, aR, R, rfl, rfl, l0_0, l0_1, rfl⟩ K8 hK8
 have hRl : R.length ≤ i := by rw [l0_1, List.length_map]; exact List.length_take_le _ _
 refine bD hF [1, 2, 4, 6, 11, 13, 27, 28, 29] ?_
 refine aT fun K10 hK10 => ?_
 refine cJ (fun c1 => ?_) fun c1 => ?_
 ·have hok := aNk (l := l) (dR c1)
  have hrk := hok.rtk
  have hrO := hok.rtkO
  have hnd := hok.nodup
  refine bN ?_
  refine hK10 _ _ ?_; clear hK10
  refine aT fun K11 hK11 => ?_
  refine bR ?_
  refine bD hF [1, 2, 4, 6, 11, 13, 27, 28, 29] ?_
  refine aEu 11 [1, 2, 4, 6, 8, 11, 13, 27, 28, 29] [1, 2, 8, 27, 28, 29, 33, 35, 36, 37, 38, 39, 40, 41, 42, 6, 34] [[], [0], [], [], [], [3, 4], [2, 3, 4, 5], [2, 3, 4, 5, 6], [0, 1, 2, 3, 4, 5, 6, 7], [0, 1, 2, 3, 4, 5, 6, 7, 8], [0, 1, 2, 3, 4, 5, 6, 7, 8, 9]] [[1, 8, 10], [8, 10], [8, 10], [8, 10], [8, 10], [8, 10], [8, 10], [8, 10], [10], [10], []] (fun (hx : Hd) bQ => dU O [(1, .bx (aK l)), (2, .bx [.v (.slice none 0 0), .v (.slice none 0 0), .v (.slice none 0 0), vi 0, vi 0]), (8, .bx (bB ((dP l (cN gP l)).1.getD i default))), (27, iM (dP l (cN gP l)).1), (28, vi ((dP l (cN gP l)).1.length : Nat)), (29, vi (i : Nat)), (33, bJ (bQ 0) (.bp 6 0)), (35, bJ (bQ 2) (.agg (aK l))), (36, bJ (bQ 3) (.agg (aK l))), (37, bJ (bQ 4) (.agg (bB ((dP l (cN gP l)).1.getD i default)))), (38, bJ (bQ 5) (.agg (bB (zY l ((dP l (cN gP l)).1.getD i default))))), (39, bJ (bQ 6) (.agg (bB (wI l (zY l ((dP l (cN gP l)).1.getD i default)))))), (40, bJ (bQ 7) (.sl 14 1 (fun i_ => [bB (wI l (zY l ((dP l (cN gP l)).1.getD i default)))].getD i_ []))), (41, bJ (bQ 8) (hx.sl (R ++ [(wI l (zY l ((dP l (cN gP l)).1.getD i default)))]).length)), (42, bJ (bQ 9) (.bp 6 0)), (6, pD (bQ 10) true (.bx (y4 l (hx.sl (R ++ [(wI l (zY l ((dP l (cN gP l)).1.getD i default)))]).length) (.v (.slice none 0 0)) (.v (.slice none 0 0)))) (.bx (y4 l (aR.sl R.length) (.v (.slice none 0 0)) (.v (.slice none 0 0))))), (34, (cond (bQ 8) (.any) (cond (bQ 1) (aR.sl R.length) (.any))))]) (fun (hx : Hd) bQ => (cond (bQ 8) [rgR hx (R ++ [(wI l (zY l ((dP l (cN gP l)).1.getD i default)))])] [rgR aR R])) ⟨none, none, 0⟩ hF (fun iQ hiQ oQ hoQ hx bQ hbQ KQ hKQ => ?_) (fun hx => ?_)
  ·match iQ, hiQ with
   | 0, _ | 1, _ | 2, _ | 3, _ | 4, _ | 7, _ | 9, _ | 10, _ =>
    exact mfp hF hoQ hbQ (hKQ hx)
   | 5, _ =>
    exact mfc hF hoQ hbQ (hKQ hx) (w5 _ l ((dP l (cN gP l)).1.getD i default) hl hes hrk)
   | 6, _ =>
    exact mfc hF hoQ hbQ (hKQ hx) (aAk _ l (zY l ((dP l (cN gP l)).1.getD i default)) hv hJ hnd hrO)
   | 8, _ =>
    obtain rfl := Option.some.inj hoQ
    simp only [sO, j0, j8, List.getD_cons_succ, List.getD_cons_zero, List.getD_nil, and_true, true_and] at hbQ
    rw [hbQ.1]
    simp only [cond_false]
    show gN _ _ _ _ _ _ _ _
    refine fY (s1 := []) (s2 := []) 34 (by decide) (by ((try simp only [go_sem, seval, hbQ]); try simp (disch := omega) only [go_sem, seval, hbQ]) <;> rfl) rfl ?_
    refine oI [] [] 46 14 ((R ++ [(wI l (zY l ((dP l (cN gP l)).1.getD i default)))]).map bB) 41 (by decide) ?_
    show gN _ _ _ _ _ _ _ _
    refine dT hF ?_
    refine cS rfl (by kernel_rfl) (by kernel_rfl) ?_
    ((try simp only [go_sem, seval, hbQ]); try simp (disch := omega) only [go_sem, seval, hbQ])
    repeat refine And.intro bS ?_
    refine ⟨rfl, by ((try simp only [go_sem, seval, hbQ]); try simp (disch := omega) only [go_sem, seval, hbQ]) <;> (first | rfl | (simp; done) | (simp; rfl)), fun hx => ?_⟩
    try ((try simp only [go_sem, seval, hbQ]); try simp (disch := omega) only [go_sem, seval, hbQ])
    refine hKQ hx _ _ ?_ ?_
    ·first | rfl | (((try simp only [go_sem, seval, hbQ]); try simp (disch := omega) only [go_sem, seval, hbQ]); done) | (((try simp only [go_sem, seval, hbQ]); try simp (disch := omega) only [go_sem, seval, hbQ]) <;> rfl)
    ((try simp only [go_sem, seval, hbQ]); try simp (disch := omega) only [go_sem, seval, hbQ]) <;> first | rfl | simp
  refine rF ?_
  refine hK11 _ _ ?_; clear hK11
  refine dS hF [1, 2, 4, 6, 11, 13, 27, 28, 29] ?_
  refine hK8 _ _ _ ?_ ⟨i + 1, hx, R ++ [(wI l (zY l ((dP l (cN gP l)).1.getD i default)))], rfl, rfl, ?_, ?_, ?_⟩
  ·exact bI
  ·exact bI
  ·rw [l0_1, fV default c1, List.map_append]; rfl
  exact dC
 refine eB ?_
 refine hK6 _ _ ?_; clear hK6
 refine aT fun K13 hK13 => ?_
 refine aT fun K14 hK14 => ?_
 obtain rfl : i = (dP l (cN gP l)).1.length := (by omega)
 rw [List.take_length] at l0_1
 refine e9 hF [1, 2, 6] ?_
 refine eL (u7 _ l hl) ?_
 refine hK14 _ _ ?_; clear hK14
 refine bR ?_
 refine hU [rgR aR R] [] 3 1 rfl ?_
 refine hU [rgR aR R] [_] 3 1 rfl ?_
 refine dV [1, 2, 6, 45, 46, 47] (fun n sF ρ => ∃ j, ∃ aP, ∃ aH, ∃ A, ∃ B, n = (d8 l).length - j ∧ sF = [rgR aR R, yD aP A, yD aH B] ∧ (j ≤ (d8 l).length) ∧ (A = (d8 l).take j) ∧ (B = ((d8 l).take j).map (bU l)) ∧ ρ = dU O [(1, .bx (aK l)), (2, .bx [.v (.slice none 0 0), .v (.slice none 0 0), .v (.slice none 0 0), vi 0, vi 0]), (6, .bx (y4 l (aR.sl R.length) (aP.sl A.length) (aH.sl B.length))), (45, dL (d8 l)), (46, vi ((d8 l).length : Nat)), (47, vi (j : Nat))]) _ ⟨0, jC, jC, [], [], rfl, rfl, ?_, ?_, ?_, ?_⟩ ?_
 ·exact bI
 ·rfl
 ·rfl
 ·exact dC
 rintro n sF ρ ⟨j, aP, aH, A, B, rfl, rfl, l1_0, l1_1, l1_2, rfl⟩ K15 hK15
 have hAl : A.length ≤ j := by rw [l1_1]; exact List.length_take_le _ _
 have hBl : B.length ≤ j := by rw [l1_2, List.length_map]; exact List.length_take_le _ _
 refine bD hF [1, 2, 6, 45, 46, 47] ?_
 refine aT fun K17 hK17 => ?_
 refine cJ (fun c2 => ?_) fun c2 => ?_
 ·refine bN ?_
  refine hK17 _ _ ?_; clear hK17
  refine aT fun K18 hK18 => ?_
  refine bR ?_
  refine bD hF [1, 2, 6, 45, 46, 47] ?_
  refine aT fun K20 hK20 => ?_
  refine bK (Le.keepC [1, 2, 6, 10, 45, 46, 47] _) ?_
  refine bM ?_
  refine ef hF ?_
  refine ef hF ?_
  refine ef hF ?_
  refine ef hF ?_
  show gN _ _ _ _ _ _ _ _
  refine fY (s1 := [rgR aR R]) (s2 := [yD aH B]) 52 (by decide) (by ((try simp only [go_sem, seval]); try simp (disch := omega) only [go_sem, seval]) <;> rfl) rfl ?_
  refine ef hF ?_
  show gN _ _ _ _ _ _ _ _
  refine jL (s1 := [rgR aR R]) (s2 := [yD aH B]) (l := (A ++ [((d8 l).getD j default)]).map eI) 55 (by decide) (by ((try simp only [go_sem, seval]); try simp (disch := omega) only [go_sem, seval]) <;> (first | rfl | (simp; done) | (simp; rfl))) rfl (fun h2 => ?_)
  refine ef hF ?_
  refine ef hF ?_
  refine hK20 _ _ ?_; clear hK20
  refine aEu 9 [1, 2, 6, 10, 45, 46, 47] [1, 2, 10, 45, 46, 47, 57, 59, 60, 61, 62, 63, 64, 6, 58] [[], [0], [], [], [2, 3], [2, 3, 4], [0, 1, 2, 3, 4, 5], [0, 1, 2, 3, 4, 5, 6], [0, 1, 2, 3, 4, 5, 6, 7]] [[1, 6, 8], [6, 8], [6, 8], [6, 8], [6, 8], [6, 8], [8], [8], []] (fun (hx : Hd) bQ => dU O [(1, .bx (aK l)), (2, .bx [.v (.slice none 0 0), .v (.slice none 0 0), .v (.slice none 0 0), vi 0, vi 0]), (10, vi ((d8 l).getD j default)), (45, dL (d8 l)), (46, vi ((d8 l).length : Nat)), (47, vi (j : Nat)), (57, bJ (bQ 0) (.bp 6 2)), (59, bJ (bQ 2) (.agg (aK l))), (60, bJ (bQ 3) (vi ((d8 l).getD j default))), (61, bJ (bQ 4) (vi (bU l ((d8 l).getD j default)))), (62, bJ (bQ 5) (.sl 1 1 (fun i_ => [[vi (bU l ((d8 l).getD j default))]].getD i_ []))), (63, bJ (bQ 6) (hx.sl (B ++ [bU l ((d8 l).getD j default)]).length)), (64, bJ (bQ 7) (.bp 6 2)), (6, pD (bQ 8) true (.bx (y4 l (aR.sl R.length) (h2.sl (A ++ [((d8 l).getD j default)]).length) (hx.sl (B ++ [bU l ((d8 l).getD j default)]).length))) (.bx (y4 l (aR.sl R.length) (h2.sl (A ++ [((d8 l).getD j default)]).length) (aH.sl B.length)))), (58, (cond (bQ 6) (.any) (cond (bQ 1) (aH.sl B.length) (.any))))]) (fun (hx : Hd) bQ => (cond (bQ 6) [rgR aR R, yD h2 (A ++ [((d8 l).getD j default)]), yD hx (B ++ [bU l ((d8 l).getD j default)])] [rgR aR R, yD h2 (A ++ [((d8 l).getD j default)]), yD aH B])) ⟨none, none, 0⟩ hF (fun iQ hiQ oQ hoQ hx bQ hbQ KQ hKQ => ?_) (fun hx => ?_)
  ·match iQ, hiQ with
   | 0, _ | 1, _ | 2, _ | 3, _ | 5, _ | 7, _ | 8, _ =>
    exact mfp hF hoQ hbQ (hKQ hx)
   | 4, _ =>
    exact mfc hF hoQ hbQ (hKQ hx) (dH _ l ((d8 l).getD j default))
   | 6, _ =>
    obtain rfl := Option.some.inj hoQ
    simp only [sO, j0, j8, List.getD_cons_succ, List.getD_cons_zero, List.getD_nil, and_true, true_and] at hbQ
    rw [hbQ.1]
    simp only [cond_false]
    show gN _ _ _ _ _ _ _ _
    refine fY (s1 := [rgR aR R, yD h2 (A ++ [((d8 l).getD j default)])]) (s2 := []) 58 (by decide) (by ((try simp only [go_sem, seval, hbQ]); try simp (disch := omega) only [go_sem, seval, hbQ]) <;> rfl) rfl ?_
    refine oI [rgR aR R, yD h2 (A ++ [((d8 l).getD j default)])] [] 3 1 ((B ++ [bU l ((d8 l).getD j default)]).map eI) 63 (by decide) ?_
    show gN _ _ _ _ _ _ _ _
    refine dT hF ?_
    refine cS rfl (by kernel_rfl) (by kernel_rfl) ?_
    ((try simp only [go_sem, seval, hbQ]); try simp (disch := omega) only [go_sem, seval, hbQ])
    repeat refine And.intro bS ?_
    refine ⟨rfl, by ((try simp only [go_sem, seval, hbQ]); try simp (disch := omega) only [go_sem, seval, hbQ]) <;> (first | rfl | (simp; done) | (simp; rfl)), fun hx => ?_⟩
    try ((try simp only [go_sem, seval, hbQ]); try simp (disch := omega) only [go_sem, seval, hbQ])
    refine hKQ hx _ _ ?_ ?_
    ·first | rfl | (((try simp only [go_sem, seval, hbQ]); try simp (disch := omega) only [go_sem, seval, hbQ]); done) | (((try simp only [go_sem, seval, hbQ]); try simp (disch := omega) only [go_sem, seval, hbQ]) <;> rfl)
    ((try simp only [go_sem, seval, hbQ]); try simp (disch := omega) only [go_sem, seval, hbQ]) <;> first | rfl | simp
  refine rF ?_
  refine hK18 _ _ ?_; clear hK18
  refine dS hF [1, 2, 6, 45, 46, 47] ?_
  refine hK15 _ _ _ ?_ ⟨j + 1, h2, hx, A ++ [((d8 l).getD j default)], B ++ [bU l ((d8 l).getD j default)], rfl, rfl, ?_, ?_, ?_, ?_⟩
  ·exact bI
  ·exact bI
  ·rw [l1_1, fV default c2]
  ·rw [l1_2, fV default c2, List.map_append]; rfl
  exact dC
 refine eB ?_
 refine hK13 _ _ ?_; clear hK13
 refine aT fun K21 hK21 => ?_
 obtain rfl : j = (d8 l).length := (by omega)
 rw [List.take_length] at l1_1 l1_2
 refine f0 (s1 := []) (s2 := [yD aP A, yD aH B]) 6 0 (by first | rfl | (((try simp only [go_sem, seval]); try simp (disch := omega) only [go_sem, seval]); done) | (((try simp only [go_sem, seval]); try simp (disch := omega) only [go_sem, seval]); rfl)) (by first | rfl | (((try simp only [go_sem, seval]); try simp (disch := omega) only [go_sem, seval]); done) | (((try simp only [go_sem, seval]); try simp (disch := omega) only [go_sem, seval]); rfl)) rfl (dI.frzL bB (R)) rfl ?_
 rw [aJt]
 refine f0 (s1 := []) (s2 := [yD aH B]) 6 1 (by first | rfl | (((try simp only [go_sem, seval]); try simp (disch := omega) only [go_sem, seval]); done) | (((try simp only [go_sem, seval]); try simp (disch := omega) only [go_sem, seval]); rfl)) (by first | rfl | (((try simp only [go_sem, seval]); try simp (disch := omega) only [go_sem, seval]); done) | (((try simp only [go_sem, seval]); try simp (disch := omega) only [go_sem, seval]); rfl)) rfl (dI.frzL eI (A)) rfl ?_
 rw [aJn]
 refine f0 (s1 := []) (s2 := []) 6 2 (by first | rfl | (((try simp only [go_sem, seval]); try simp (disch := omega) only [go_sem, seval]); done) | (((try simp only [go_sem, seval]); try simp (disch := omega) only [go_sem, seval]); rfl)) (by first | rfl | (((try simp only [go_sem, seval]); try simp (disch := omega) only [go_sem, seval]); done) | (((try simp only [go_sem, seval]); try simp (disch := omega) only [go_sem, seval]); rfl)) rfl (dI.frzL eI (B)) rfl ?_
 rw [aKk]
 have htT := tH her
 rw [← l0_1, ← l1_2] at htT
 rw [← l1_1] at htT
 refine dS hF [2, 6] ?_
 refine hK21 _ _ ?_; clear hK21
 refine dD ?_
 (try simp only [fR, eC]); rw [htT, her]; refine aEh rfl (by ((try simp only [go_sem, seval]); try simp (disch := omega) only [go_sem, seval])) (.cons (roC (by ((try simp only [go_sem, seval]); try simp (disch := omega) only [go_sem, seval]) <;> rfl) (by ((try simp only [go_sem, seval]); try simp (disch := omega) only [go_sem, seval]) <;> rfl) (by kernel_rfl) (by first | rfl | (((try simp only [go_sem, seval]); try simp (disch := omega) only [go_sem, seval])))) (.cons (mC (by ((try simp only [go_sem, seval]); try simp (disch := omega) only [go_sem, seval]) <;> rfl) rfl rfl) .nil))
end
end Go.Sg
namespace Go.Sg
open Go.Proofs
section
attribute [local go_sem] or_self List.drop_zero List.length_map aNf aGm aSm aUv aTn aJt aJn aKk aMe aMp
end
end Go.Sg
namespace Go.Sg
open Go.Proofs
def nmA (i : Nat) : ByteArray := [(⟨#[97]⟩ : ByteArray), ⟨#[98]⟩, ⟨#[99]⟩].getD i default
def elA (i : Nat) : jD := ⟨nmA i, 1, 20000, 0, 3000, 0, (i : Nat)⟩
def L0 : aB := ⟨⟨#[108, 105, 110, 101]⟩, [⟨#[120]⟩, ⟨#[121]⟩, ⟨#[122]⟩], (List.range 3).map elA, [⟨⟨0, 1⟩, ⟨1, 0⟩⟩, ⟨⟨1, 1⟩, ⟨2, 0⟩⟩], [⟨⟨#[115, 49]⟩, ⟨0, 1⟩, 0⟩, ⟨⟨#[115, 50]⟩, ⟨1, 1⟩, 0⟩], []⟩
theorem bKl : eK L0 := ⟨by decide, by decide, by decide, by decide, by decide, fun n hn x hx => by
 have h : (cF L0).all (fun n => n.all fun x => decide (x.size ≤ 140737488355328)) = true := by kernel_rfl
 exact of_decide_eq_true (List.all_eq_true.1 (List.all_eq_true.1 h n hn) x hx)⟩
theorem bRl : (dP L0 (cN gP L0)).2 = 0 := by kernel_rfl
theorem aUq : (bC L0).fRoutes.length = 2 := by kernel_rfl
theorem bHu : (bC L0).fSections = 3 := by kernel_rfl
theorem bMo : (bC L0).fSignals = 2 := by kernel_rfl
theorem bBv : z7 (bC L0) = true := by kernel_rfl
theorem bFq : wN (bC L0) ⟨#[115, 50, 45, 101, 110, 100]⟩ (bC L0).fRoutes.length = 1 := by kernel_rfl
theorem bKq : chk (bC L0) = 0 := by kernel_rfl
def sQ : List aN := [⟨3, 1⟩, ⟨7, 2⟩, ⟨3, 1⟩, ⟨5, 2⟩]
theorem bLg : dQ sQ = [⟨3, 1⟩, ⟨5, 2⟩, ⟨7, 2⟩] := sB (tX _) (by unfold Asc; decide) fun x => by
 rw [jA]; unfold sQ
 simp only [List.mem_cons, List.not_mem_nil, or_false]
 grind
end Go.Sg
namespace Go.Sg
open Go.Proofs
abbrev bXc (h : Hd) (E : List jD) : Rg := .row h 91 7 (E.map fN)
def lnX (a b c d : DV) : List DV := [vs ⟨#[108, 105, 110, 101]⟩, .sl 1 3 (fun i_ => [[vs ⟨#[120]⟩], [vs ⟨#[121]⟩], [vs ⟨#[122]⟩]].getD i_ []), a, b, c, d]
section
variable (a b c d e : DV)
theorem bBz : (lnX a b c d).length = 6 := rfl
theorem aVm : (lnX a b c d).take 6 = lnX a b c d := rfl
theorem bNk : (lnX a b c d).getD 2 .any = a := rfl
theorem bIb : (lnX a b c d).getD 3 .any = b := rfl
theorem bLj : (lnX a b c d).getD 4 .any = c := rfl
theorem aSz : (lnX a b c d).set 2 e = lnX e b c d := rfl
theorem bJr : (lnX a b c d).set 3 e = lnX a e c d := rfl
theorem bGo : (lnX a b c d).set 4 e = lnX a b e d := rfl
end
def bJc : Nat → List DV := fun i => [[vs ⟨#[97]⟩], [vs ⟨#[98]⟩], [vs ⟨#[99]⟩]].getD i []
theorem bLc {i : Nat} (h : i < 3) : (bJc i).getD 0 .any = vs (nmA i) := by
 have : i = 0 ∨ i = 1 ∨ i = 2 := by omega
 rcases this with rfl | rfl | rfl <;> rfl
theorem bJu {i : Nat} (h : i < 3) : (bJc i).length = 1 := by
 have : i = 0 ∨ i = 1 ∨ i = 2 := by omega
 rcases this with rfl | rfl | rfl <;> rfl
theorem aYj {a b c d : DV} (ha : qL (fun x => x + 100000) a = a) (hb : qL (fun x => x + 100000) b = b) (hc : qL (fun x => x + 100000) c = c) (hd : qL (fun x => x + 100000) d = d) : gT (fun x => x + 100000) (lnX a b c d) = lnX a b c d := by
 unfold lnX; simp only [gT, ha, hb, hc, hd]; rfl
theorem bCz {a b c d : DV} (p : Nat → Bool) : dF p (lnX a b c d) = (d7 p a && (d7 p b && (d7 p c && d7 p d))) := by
 unfold lnX; simp [dF, d7]
section
attribute [local go_sem] or_self List.drop_zero List.length_map bBz aVm bNk bIb bLj aSz bJr bGo aYj bCz bLc bJu
set_option maxRecDepth 20000 in
set_option maxHeartbeats 8000000 in
theorem aAt (O : aS)  : aY Tryz.prog O 34 [] (.agg (aK L0)) := by
 refine iL Tryz.func34 rfl (by kernel_rfl) fun w0 I0 A0 => ?_
 have hF := mW w0 I0 (b6 A0) (GOf [])
 refine bD hF [] ?_
 refine bD hF [0] ?_
 refine aT fun K2 hK2 => ?_
 refine bD hF [0, 1] ?_
 refine bR ?_
 refine hU [] [] 91 7 rfl ?_
 refine dV [0, 1, 6, 7, 8] (fun n sF ρ => ∃ i, ∃ aE, ∃ E, n = 3 - i ∧ sF = [bXc aE E] ∧ (i ≤ 3) ∧ (E = (List.range i).map elA) ∧ ρ = dU O [(0, .bx [vs ⟨#[]⟩, .v (.slice none 0 0), .v (.slice none 0 0), .v (.slice none 0 0), .v (.slice none 0 0), .v (.slice none 0 0)]), (1, .bx (lnX (aE.sl E.length) (.v (.slice none 0 0)) (.v (.slice none 0 0)) (.v (.slice none 0 0)))), (6, .sl 1 3 bJc), (7, vi 3), (8, vi (i : Nat))]) _ ⟨0, jC, [], rfl, rfl, ?_, ?_, ?_⟩ ?_
 ·exact bI
 ·rfl
 ·exact dC
 rintro n sF ρ ⟨i, aE, E, rfl, rfl, l0_0, l0_1, rfl⟩ K4 hK4
 have hEl : E.length = i := by rw [l0_1, List.length_map, List.length_range]
 refine bD hF [0, 1, 6, 7, 8] ?_
 refine aT fun K6 hK6 => ?_
 refine cJ (fun c0 => ?_) fun c0 => ?_
 ·have hi3 : i < 3 := (by omega)
  refine bN ?_
  refine hK6 _ _ ?_; clear hK6
  refine aT fun K7 hK7 => ?_
  refine bR ?_
  refine bD hF [0, 1, 6, 7, 8] ?_
  refine bK (Le.keepC [0, 1, 2, 3, 6, 7, 8, 11] _) ?_
  refine bM ?_
  refine ef hF ?_
  refine ef hF ?_
  refine ef hF ?_
  refine ef hF ?_
  refine ef hF ?_
  refine ef hF ?_
  show gN _ _ _ _ _ _ _ _
  refine fY (s1 := []) (s2 := []) 14 (by decide) (by ((try simp only [go_sem, seval]); try simp (disch := omega) only [go_sem, seval]) <;> rfl) rfl ?_
  refine ef hF ?_
  show gN _ _ _ _ _ _ _ _
  refine jL (s1 := []) (s2 := []) (l := (E ++ [elA i]).map fN) 19 (by decide) (by ((try simp only [go_sem, seval]); try simp (disch := omega) only [go_sem, seval]) <;> (first | rfl | (simp [fN, elA]; done) | (simp [fN, elA]; rfl))) rfl (fun hx => ?_)
  refine ef hF ?_
  refine ef hF ?_
  refine hK7 _ _ ?_; clear hK7
  refine dS hF [0, 1, 6, 7, 8] ?_
  refine hK4 _ _ _ ?_ ⟨i + 1, hx, E ++ [elA i], rfl, rfl, ?_, ?_, ?_⟩
  ·exact bI
  ·exact bI
  ·rw [l0_1, List.range_succ, List.map_append]; rfl
  exact dC
 refine eB ?_
 refine hK2 _ _ ?_; clear hK2
 refine aT fun K9 hK9 => ?_
 obtain rfl : i = 3 := (by omega)
 refine f0 (s1 := []) (s2 := []) 1 2 (by first | rfl | (((try simp only [go_sem, seval, seval]); try simp (disch := omega) only [go_sem, seval, seval]); done) | (((try simp only [go_sem, seval, seval]); try simp (disch := omega) only [go_sem, seval, seval]); rfl)) (by first | rfl | (((try simp only [go_sem, seval, seval]); try simp (disch := omega) only [go_sem, seval, seval]); done) | (((try simp only [go_sem, seval, seval]); try simp (disch := omega) only [go_sem, seval, seval]); rfl)) rfl (dI.frzL fN E) rfl ?_
 rw [aSz]
 refine dS hF [0, 1] ?_
 refine hK9 _ _ ?_; clear hK9
 refine bD hF [0, 1] ?_
 refine aT fun K11 hK11 => ?_
 refine sV 1 (ds := aK L0) rfl (by first | rfl | (((try simp only [go_sem, seval, seval]); try simp (disch := omega) only [go_sem, seval, seval]); done) | (((try simp only [go_sem, seval, seval]); try simp (disch := omega) only [go_sem, seval, seval]); rfl)) (.cons (dI.refl _) (.cons (dI.litL L0.fSections rfl rfl) (.cons (by rw [l0_1]; exact dI.refl _) (.cons (dI.litL L0.fJoints rfl rfl) (.cons (dI.litL L0.fSignals rfl rfl) (.cons (dI.nilL _) .nil)))))) ?_
 refine dS hF [0, 1] ?_
 refine hK11 _ _ ?_; clear hK11
 refine dD ?_
 (try simp only [fR, eC]); refine nU 0 28 rfl (by ((try simp only [go_sem, seval, seval]); try simp (disch := omega) only [go_sem, seval, seval])) (by ((try simp only [go_sem, seval, seval]); try simp (disch := omega) only [go_sem, seval, seval]) <;> rfl) (by kernel_rfl) (by rfl)
end
end Go.Sg
namespace Go.Sg
open Go.Proofs
def rtQ : a8 := ⟨⟨#[]⟩, 0, 0, [], [⟨3, 1⟩, ⟨7, 2⟩], [], 0, 0, [], [], [], [⟨3, 1⟩, ⟨5, 2⟩], [], []⟩
def sQ3 : List aN := [⟨3, 1⟩, ⟨5, 2⟩, ⟨7, 2⟩]
theorem bJw : mZ [vs ⟨#[]⟩, vi 0, vi 0, .v (.slice none 0 0), .sl 2 2 (fun i => [a7 ⟨3, 1⟩, a7 ⟨7, 2⟩].getD i []), .v (.slice none 0 0), vi 0, vi 0, .v (.slice none 0 0), .v (.slice none 0 0), .v (.slice none 0 0), .sl 2 2 (fun i => [a7 ⟨3, 1⟩, a7 ⟨5, 2⟩].getD i []), .v (.slice none 0 0), .v (.slice none 0 0)] (bB rtQ) :=
 .cons (dI.refl _) (.cons (dI.refl _) (.cons (dI.refl _) (.cons (dI.nilL _) (.cons (dI.litL rtQ.fPoints rfl rfl) (.cons (dI.nilL _) (.cons (dI.refl _) (.cons (dI.refl _) (.cons (dI.nilL _) (.cons (dI.nilL _) (.cons (dI.nilL _) (.cons (dI.litL rtQ.fFlank rfl rfl) (.cons (dI.nilL _) (.cons (dI.nilL _) .nil)))))))))))))
set_option maxHeartbeats 4000000 in
theorem yK (O : aS)  : aY Tryz.prog O 10 [] (vb true) := by
 refine eE Tryz.func10 ?_
 refine aC [] ?_
 refine aA fun K1 hK1 => ?_
 refine bL [] ?_
 refine eL (aAt _) ?_
 refine eL (mA _ L0 bKl) ?_
 refine hK1 _ ?_; clear hK1
 refine aA fun K2 hK2 => ?_
 refine bL [1, 2] ?_
 refine eL (gG [.agg (bB rtQ)] (.cons (dI.aggL bJw) .nil) (mU _ rtQ (by decide))) ?_
 refine hK2 _ ?_; clear hK2
 refine aA fun K3 hK3 => ?_
 refine bL [1, 2, 3] ?_
 refine lB (fun g0 => rK _ (bC L0) ⟨#[115, 50, 45, 101, 110, 100]⟩) ?_
 refine lB (fun g1 => pF _ (bC L0) bBv) ?_
 refine lB (fun g2 => gG [kI (dQ (gJ rtQ)), kI sQ3] (.cons (dI.refl _) (.cons (dI.litL sQ3 rfl rfl) .nil)) (o6 _ (dQ (gJ rtQ)) sQ3)) ?_
 refine hK3 _ ?_; clear hK3
 refine aM ?_
 refine cW 0 ?_
 refine xb ?_
 ((rw [bRl, aUq, bHu, bMo]; have h := bFq; rw [aUq] at h; simp [h, bKq, show dQ (gJ rtQ) = sQ3 from bLg]))
theorem l0 (O : aS) : aY Tryz.prog O 10 [] (vb true) := yK O
end Go.Sg
namespace Go.Sg
open Go.Proofs
def aZg (l : aB) : Bool := decide (l.fSections.length ≤ 60) && decide (l.fElements.length ≤ 60) && decide (l.fJoints.length ≤ 100) && decide (l.fSignals.length ≤ 60) && decide (l.fBalises.length ≤ 60)
theorem aRe {l : aB} (h : aZg l = true) (hok : uF l) : eK l := by
 unfold aZg at h
 simp only [Bool.and_eq_true, decide_eq_true_eq] at h
 obtain ⟨⟨⟨⟨h1, h2⟩, h3⟩, h4⟩, h5⟩ := h
 obtain ⟨k1, k2, k3, k4, k5, k6⟩ := hok
 refine ⟨h1, h2, h3, h4, h5, fun n hn x hx => ?_⟩
 unfold cF at hn
 simp only [List.mem_cons, List.not_mem_nil, or_false] at hn
 rcases hn with rfl | rfl | rfl | rfl
 ·rw [List.mem_singleton.1 hx]; exact k1
 ·exact k2.1 x hx
 ·obtain ⟨e, he, rfl⟩ := List.mem_map.1 hx; exact (k3.1 e he).1
 obtain ⟨e, he, rfl⟩ := List.mem_map.1 hx; exact (k5.1 e he).1
theorem t1 (O : aS) (l : aB) : aY Tryz.prog O 9 [.agg (aK l)] (vb (aZg l)) := by
 refine aU 0 rfl (.agg (d := mB l.fSections) (by simp [aK]) (.sl _ _ _)) fun hs1 => ?_
 refine aU 0 rfl (.agg (d := j9 l.fElements) (by simp [aK]) (.sl _ _ _)) fun hs2 => ?_
 refine aU 0 rfl (.agg (d := aGb l.fJoints) (by simp [aK]) (.sl _ _ _)) fun hs3 => ?_
 refine aU 0 rfl (.agg (d := jU l.fSignals) (by simp [aK]) (.sl _ _ _)) fun hs4 => ?_
 refine aU 0 rfl (.agg (d := aGy l.fBalises) (by simp [aK]) (.sl _ _ _)) fun hs5 => ?_
 refine eE Tryz.func9 ?_
 refine aC [0] ?_
 refine aC [1] ?_
 refine aM ?_
 refine cW 2 ?_
 refine xb ?_
 (first | rfl | (unfold aZg; simp; done))
end Go.Sg
