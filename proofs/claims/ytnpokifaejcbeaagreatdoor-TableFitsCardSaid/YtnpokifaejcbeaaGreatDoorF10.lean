/- Several texts as one. -/
import Derived.Test.YtnpokifaejcbeaaGreatDoorF9
import Derived.Recover
import Derived.Shelf.SlSortCmp.NoneTotal
set_option linter.unusedSectionVars false
set_option linter.unusedVariables false
set_option linter.unusedSimpArgs false
set_option maxRecDepth 20000
namespace Go.Proofs
open Go.Shelf
def Tryz.sort64_ren : Go.Shelf.Ren := ⟨fun | 6 => 64 | 15 => 106 | 14 => 105 | 28 => 165 | 29 => 166 | 20 => 157 | 21 => 158 | 22 => 159 | 23 => 160 | 24 => 161 | 25 => 162 | 26 => 163 | 27 => 164 | 46 => 204 | 47 => 205 | 48 => 206 | 49 => 207 | 50 => 208 | 57 => 217 | n => n, fun | 22 => 43 | 24 => 68 | 25 => 97 | 3 => 3 | 39 => 131 | 0 => 0 | 53 => 170 | 55 => 172 | 4 => 4 | 46 => 164 | 45 => 163 | 50 => 125 | 5 => 5 | 9 => 9 | 66 => 208 | 70 => 212 | 76 => 218 | 77 => 219 | n => n, fun | n => n⟩
theorem Tryz.sort64 : Go.Proofs.SlLaysF0.n6 Tryz.prog Tryz.sort64_ren := {
 mixed := by kernel_rfl
 f6 := ⟨Tryz.f64.name, by decide, Tryz.func64.trans (congrArg some (by kernel_rfl))⟩
 f14 := ⟨Tryz.f105.name, by decide, Tryz.func105.trans (congrArg some (by kernel_rfl))⟩
 f15 := Tryz.func106.trans (congrArg some (by kernel_rfl))
 f20 := ⟨Tryz.f157.name, by decide, Tryz.func157.trans (congrArg some (by kernel_rfl))⟩
 f21 := ⟨Tryz.f158.name, by decide, Tryz.func158.trans (congrArg some (by kernel_rfl))⟩
 f22 := ⟨Tryz.f159.name, by decide, Tryz.func159.trans (congrArg some (by kernel_rfl))⟩
 f23 := ⟨Tryz.f160.name, by decide, Tryz.func160.trans (congrArg some (by kernel_rfl))⟩
 f24 := ⟨Tryz.f161.name, by decide, Tryz.func161.trans (congrArg some (by kernel_rfl))⟩
 f25 := ⟨Tryz.f162.name, by decide, Tryz.func162.trans (congrArg some (by kernel_rfl))⟩
 f26 := ⟨Tryz.f163.name, by decide, Tryz.func163.trans (congrArg some (by kernel_rfl))⟩
 f27 := ⟨Tryz.f164.name, by decide, Tryz.func164.trans (congrArg some (by kernel_rfl))⟩
 f28 := Tryz.func165.trans (congrArg some (by kernel_rfl))
 f29 := Tryz.func166.trans (congrArg some (by kernel_rfl))
 f46 := ⟨Tryz.f204.name, by decide, Tryz.func204.trans (congrArg some (by kernel_rfl))⟩
 f47 := Tryz.func205.trans (congrArg some (by kernel_rfl))
 f48 := Tryz.func206.trans (congrArg some (by kernel_rfl))
 f49 := ⟨Tryz.f207.name, by decide, Tryz.func207.trans (congrArg some (by kernel_rfl))⟩
 f50 := ⟨Tryz.f208.name, by decide, Tryz.func208.trans (congrArg some (by kernel_rfl))⟩
 f57 := ⟨Tryz.f217.name, by decide, Tryz.func217.trans (congrArg some (by kernel_rfl))⟩
 t0 := Tryz.underlying0
 a0 := Tryz.isAgg0
 z0 := Tryz.sizeOf0
 v0 := Tryz.zeroValue0
 t3 := Tryz.underlying3
 a3 := Tryz.isAgg3
 z3 := Tryz.sizeOf3
 v3 := Tryz.zeroValue3
 t4 := Tryz.underlying4
 a4 := Tryz.isAgg4
 z4 := Tryz.sizeOf4
 v4 := Tryz.zeroValue4
 t5 := Tryz.underlying5
 a5 := Tryz.isAgg5
 z5 := Tryz.sizeOf5
 v5 := Tryz.zeroValue5
 t9 := Tryz.underlying9
 a9 := Tryz.isAgg9
 z9 := Tryz.sizeOf9
 v9 := Tryz.zeroValue9
 t22 := Tryz.underlying43
 a22 := Tryz.isAgg43
 z22 := Tryz.sizeOf43
 v22 := Tryz.zeroValue43
 t25 := Tryz.underlying97
 a25 := Tryz.isAgg97
 z25 := Tryz.sizeOf97
 v25 := Tryz.zeroValue97
 t39 := Tryz.underlying131
 a39 := Tryz.isAgg131
 z39 := Tryz.sizeOf131
 v39 := Tryz.zeroValue131
 t45 := Tryz.underlying163
 a45 := Tryz.isAgg163
 z45 := Tryz.sizeOf163
 v45 := Tryz.zeroValue163
 t46 := Tryz.underlying164
 a46 := Tryz.isAgg164
 z46 := Tryz.sizeOf164
 v46 := Tryz.zeroValue164
 t50 := Tryz.underlying125
 a50 := Tryz.isAgg125
 z50 := Tryz.sizeOf125
 v50 := Tryz.zeroValue125
 t53 := Tryz.underlying170
 a53 := Tryz.isAgg170
 z53 := Tryz.sizeOf170
 v53 := Tryz.zeroValue170
 t55 := Tryz.underlying172
 a55 := Tryz.isAgg172
 z55 := Tryz.sizeOf172
 v55 := Tryz.zeroValue172
 t66 := Tryz.underlying208
 a66 := Tryz.isAgg208
 z66 := Tryz.sizeOf208
 v66 := Tryz.zeroValue208
 t70 := Tryz.underlying212
 a70 := Tryz.isAgg212
 z70 := Tryz.sizeOf212
 v70 := Tryz.zeroValue212
 t76 := Tryz.underlying218
 a76 := Tryz.isAgg218
 z76 := Tryz.sizeOf218
 v76 := Tryz.zeroValue218
 t77 := Tryz.underlying219
 a77 := Tryz.isAgg219
 z77 := Tryz.sizeOf219
 v77 := Tryz.zeroValue219 }
end Go.Proofs
namespace Go.Sg
open Go.Proofs
def j5 (a b : Int) : Int := if a < b then -1 else if b < a then 1 else 0
def orI : List Int → Int
 | [] => 0
 | x :: l => if x = 0 then orI l else x
abbrev aBi (ls : List (List aN)) : DV := encL 1 (fun l => [kI l]) ls
abbrev aPn (l : List aN) : DV := rowL 68 2 a7 l
def stC (x y : aN) : Int := orI [j5 x.fEl y.fEl, j5 x.fPos y.fPos]
def aVu : Go.Shelf.Ren := ⟨fun | 4 => 104 | n => n, fun | 22 => 43 | 25 => 68 | n => n, fun | n => n⟩
theorem aCf : Go.Proofs.Lays8.n4 Tryz.prog aVu := {
 mixed := by kernel_rfl
 f4 := ⟨Tryz.f104.name, by decide, Tryz.func104.trans (congrArg some (by kernel_rfl))⟩
 t0 := Tryz.underlying0
 a0 := Tryz.isAgg0
 z0 := Tryz.sizeOf0
 v0 := Tryz.zeroValue0
 t3 := Tryz.underlying3
 a3 := Tryz.isAgg3
 z3 := Tryz.sizeOf3
 v3 := Tryz.zeroValue3
 t4 := Tryz.underlying4
 a4 := Tryz.isAgg4
 z4 := Tryz.sizeOf4
 v4 := Tryz.zeroValue4
 t9 := Tryz.underlying9
 a9 := Tryz.isAgg9
 z9 := Tryz.sizeOf9
 v9 := Tryz.zeroValue9
 t20 := Tryz.underlying20
 a20 := Tryz.isAgg20
 z20 := Tryz.sizeOf20
 v20 := Tryz.zeroValue20
 t22 := Tryz.underlying43
 a22 := Tryz.isAgg43
 z22 := Tryz.sizeOf43
 v22 := Tryz.zeroValue43 }
theorem oE (O : aS) (n : Nat) (hn : 0 < n) (hb : n ≤ 1000000) : aY Tryz.prog O 104 [.v (.slice none 0 0), vi n] (rowL 68 2 a7 []) :=
 rW aCf rfl rfl (show kH Tryz.prog 43 = some (68, 2, 16) by kernel_rfl) (show eM Tryz.prog 68 = some [.int .i64 0, .int .i64 0] by kernel_rfl) (by decide) rfl rfl O n hn (by omega) (by omega)
theorem o7 (O : aS) (n : Nat) (hb : n ≤ 1000000) : aY Tryz.prog O 104 [.v (.slice none 0 0), vi n] (rowL 68 2 a7 []) := by
 rcases Nat.eq_zero_or_pos n with h | h
 ·subst h; exact pH aCf rfl rfl O 68 2
 exact oE O n h hb
section
attribute [local go_sem] zI
theorem nV (O : aS) (ls : List (List aN)) (hb : ls.flatten.length ≤ 100000) : aY Tryz.prog O 63 [aBi ls] (aPn ls.flatten) := by
 refine aU 0 rfl (.sl _ _ _) fun hl => ?_
 refine eE Tryz.func63 ?_
 refine aC [0] ?_
 refine aC [0] ?_
 refine aA fun K2 hK2 => ?_
 refine aC [0, 3] ?_
 refine aL ?_
 refine aZ [0, 3, 9, 10, 11] (fun n ρ => ∃ i, ∃ s, n = ls.length - i ∧ (i ≤ ls.length) ∧ (s + (ls.drop i).flatten.length = ls.flatten.length) ∧ ρ = dU O [(0, aBi ls), (3, vi (s : Nat)), (9, aBi ls), (10, vi (ls.length : Nat)), (11, vi (i : Nat))]) _ ⟨0, 0, rfl, ?_, ?_, ?_⟩ ?_
 ·exact bI
 ·simp
 ·exact dC
 rintro n ρ ⟨i, s, rfl, l0_0, l0_1, rfl⟩ K4 hK4
 refine aC [0, 3, 9, 10, 11] ?_
 refine aA fun K6 hK6 => ?_
 refine aV (fun c0 => ?_) fun c0 => ?_
 ·refine aJ ?_
  refine hK6 _ ?_; clear hK6
  refine aA fun K7 hK7 => ?_
  refine aL ?_
  refine aC [0, 3, 9, 10, 11] ?_
  refine aA fun K9 hK9 => ?_
  have hs : s + (ls.getD i default).length + (ls.drop (i + 1)).flatten.length = ls.flatten.length := by rw [← l0_1, bV default c0, List.flatten_cons, List.length_append]; omega
  refine bE [0, 3, 5, 9, 10, 11, 13] ?_
  refine hK9 _ ?_; clear hK9
  refine aC [0, 3, 9, 10, 11] ?_
  refine aV (fun c1 => ?_) fun c1 => ?_
  ·omega
  refine aJ ?_
  refine hK7 _ ?_; clear hK7
  refine bE [0, 3, 9, 10, 11] ?_
  refine hK4 _ _ ?_ ⟨i + 1, s + (ls.getD i default).length, rfl, ?_, ?_, ?_⟩
  ·exact bI
  ·exact bI
  ·exact hs
  exact dC
 refine bA ?_
 refine hK2 _ ?_; clear hK2
 refine aA fun K11 hK11 => ?_
 refine bL [0, 3] ?_
 refine eL (o7 _ s (by omega)) ?_
 refine hK11 _ ?_; clear hK11
 refine aA fun K12 hK12 => ?_
 refine aC [0, 6] ?_
 refine aL ?_
 refine aZ [6, 25, 26, 27] (fun n ρ => ∃ j, ∃ out, n = ls.length - j ∧ (j ≤ ls.length) ∧ (out ++ (ls.drop j).flatten = ls.flatten) ∧ ρ = dU O [(6, aPn out), (25, aBi ls), (26, vi (ls.length : Nat)), (27, vi (j : Nat))]) _ ⟨0, [], rfl, ?_, ?_, ?_⟩ ?_
 ·exact bI
 ·rfl
 ·exact dC
 rintro n ρ ⟨j, out, rfl, l1_0, l1_1, rfl⟩ K14 hK14
 refine aC [0, 6, 25, 26, 27] ?_
 refine aA fun K16 hK16 => ?_
 refine aV (fun c2 => ?_) fun c2 => ?_
 ·refine aJ ?_
  refine hK16 _ ?_; clear hK16
  refine aA fun K17 hK17 => ?_
  refine aL ?_
  refine aC [0, 6, 25, 26, 27] ?_
  have hs : (out ++ ls.getD j default).length ≤ ls.flatten.length := by rw [← l1_1, bV default c2, List.flatten_cons, List.length_append, List.length_append, List.length_append]; omega
  rw [List.length_append] at hs
  refine bE [0, 6, 8, 25, 26, 27, 29] ?_
  refine hK17 _ ?_; clear hK17
  refine bE [0, 6, 25, 26, 27] ?_
  refine hK14 _ _ ?_ ⟨j + 1, out ++ ls.getD j default, rfl, ?_, ?_, ?_⟩
  ·exact bI
  ·exact bI
  ·rw [← l1_1, bV default c2, List.flatten_cons, List.append_assoc]
  exact dC
 refine bA ?_
 refine hK12 _ ?_; clear hK12
 refine aC [6] ?_
 refine aM ?_
 refine cW 2 ?_
 exact dE.ownL rfl (by omega) rfl rfl (by rw [← l1_1, eN c2]; simp)
end
theorem nP (O : aS) (a : Int) : aY Tryz.prog O 107 [vi a] (vb false) := by
 refine eE Tryz.func107 ?_
 refine aC [0] ?_
 refine aC [0] ?_
 refine aM ?_
 refine cW 2 ?_
 exact xd
theorem d6 (O : aS) (a b : Int) : aY Tryz.prog O 67 [vi a, vi b] (vi (j5 a b)) := by
 refine eE Tryz.func67 ?_
 refine aC [0, 1] ?_
 refine aA fun K1 hK1 => ?_
 refine bL [0, 1] ?_
 refine eL (nP _ _) ?_
 refine hK1 _ ?_; clear hK1
 refine aA fun K2 hK2 => ?_
 refine bL [0, 1, 5] ?_
 refine eL (nP _ _) ?_
 refine hK2 _ ?_; clear hK2
 refine aA fun K3 hK3 => ?_
 refine aC [0, 1, 5, 6] ?_
 refine qI false (by rfl) (rfl) (fun h => by cases h) (fun _ => ?_)
 refine aJ ?_
 refine hK3 _ ?_; clear hK3
 refine aA fun K5 hK5 => ?_
 refine aC [0, 1, 6] ?_
 refine qI false (by rfl) (rfl) (fun h => by cases h) (fun _ => ?_)
 refine aJ ?_
 refine hK5 _ ?_; clear hK5
 refine aA fun K7 hK7 => ?_
 refine aC [0, 1] ?_
 refine aV (fun c2 => ?_) fun c2 => ?_
 ·refine aC [] ?_
  refine aM ?_
  refine cW 4 ?_
  exact dE.is (by simp (disch := omega) only [go_sem, seval] <;> (simp only [j5]; split <;> first | rfl | (split <;> first | rfl | omega) | omega)) rfl rfl
 refine aJ ?_
 refine hK7 _ ?_; clear hK7
 refine aA fun K10 hK10 => ?_
 refine aC [0, 1] ?_
 refine aV (fun c3 => ?_) fun c3 => ?_
 ·refine aC [] ?_
  refine aM ?_
  refine cW 4 ?_
  exact dE.is (by simp (disch := omega) only [go_sem, seval] <;> (simp only [j5]; split <;> first | rfl | (split <;> first | rfl | omega) | omega)) rfl rfl
 refine aJ ?_
 refine hK10 _ ?_; clear hK10
 refine aC [] ?_
 refine aM ?_
 refine cW 4 ?_
 exact dE.is (by simp (disch := omega) only [go_sem, seval] <;> (simp only [j5]; split <;> first | rfl | (split <;> first | rfl | omega) | omega)) rfl rfl
theorem m6 (O : aS) (l : List Int) : aY Tryz.prog O 66 [dL l] (vi (orI l)) := by
 refine aU 0 rfl (.sl _ _ _) fun hl => ?_
 refine eE Tryz.func66 ?_
 refine aC [0] ?_
 refine aC [0] ?_
 refine aA fun K2 hK2 => ?_
 refine aC [0, 3] ?_
 refine aL ?_
 refine aZ [3, 6, 7, 8] (fun n ρ => ∃ i, n = l.length - i ∧ (i ≤ l.length) ∧ (orI l = orI (l.drop i)) ∧ ρ = dU O [(3, vi 0), (6, dL l), (7, vi (l.length : Nat)), (8, vi (i : Nat))]) _ ⟨0, rfl, ?_, ?_, ?_⟩ ?_
 ·exact bI
 ·rfl
 ·exact dC
 rintro n ρ ⟨i, rfl, l0_0, l0_1, rfl⟩ K4 hK4
 refine aC [0, 3, 6, 7, 8] ?_
 refine aA fun K6 hK6 => ?_
 refine aV (fun c0 => ?_) fun c0 => ?_
 ·refine aJ ?_
  refine hK6 _ ?_; clear hK6
  refine aA fun K7 hK7 => ?_
  refine aL ?_
  refine aC [0, 3, 6, 7, 8] ?_
  refine aC [0, 3, 5, 6, 7, 8] ?_
  refine aV (fun c1 => ?_) fun c1 => ?_
  ·refine aC [5] ?_
   refine aM ?_
   refine cW 2 ?_
   exact dE.is (by simp (disch := omega) only [go_sem, seval] <;> (rw [l0_1, bV default c0, orI, if_neg c1])) rfl rfl
  refine aJ ?_
  refine hK7 _ ?_; clear hK7
  refine bE [0, 3, 6, 7, 8] ?_
  refine hK4 _ _ ?_ ⟨i + 1, rfl, ?_, ?_, ?_⟩
  ·exact bI
  ·exact bI
  ·rw [l0_1, bV default c0, orI, if_pos c1]
  exact dC
 refine bA ?_
 refine hK2 _ ?_; clear hK2
 refine aC [3] ?_
 refine aM ?_
 refine cW 2 ?_
 exact dE.is (by simp (disch := omega) only [go_sem, seval] <;> (rw [l0_1, eN c0]; rfl)) rfl rfl
theorem qQ (O : aS) (x y : aN) : aY Tryz.prog O 65 [.agg (a7 x), .agg (a7 y)] (vi (stC x y)) := by
 refine eE Tryz.func65 ?_
 refine aC [0, 1] ?_
 refine aA fun K1 hK1 => ?_
 refine gY [2, 3] [] ?_
 refine cdz (d6 _ x.fEl y.fEl) ?_
 refine cdz (d6 _ x.fPos y.fPos) ?_
 refine cdz (gG [dL [j5 x.fEl y.fEl, j5 x.fPos y.fPos]] (.cons (dI.litL [j5 x.fEl y.fEl, j5 x.fPos y.fPos] rfl rfl) .nil) (m6 _ [j5 x.fEl y.fEl, j5 x.fPos y.fPos])) ?_
 refine hK1 _ ?_; clear hK1
 refine aM ?_
 refine cW 4 ?_
 exact dE.is (by simp (disch := omega) only [go_sem, seval] <;> (rfl)) rfl rfl
theorem aUy (a b : Int) : j5 a b = 0 ↔ a = b := by unfold j5; split; omega; split <;> omega
theorem aWc (a b : Int) : j5 a b < 0 ↔ a < b := by unfold j5; split; omega; split <;> omega
theorem sG : ltOf stC = uN := by
 funext x y
 rw [Bool.eq_iff_iff, gU]
 unfold ltOf stC
 rw [decide_eq_true_eq, orI, orI, orI]
 have h1 := aUy x.fEl y.fEl
 have h2 := aWc x.fEl y.fEl
 have h3 := aUy x.fPos y.fPos
 have h4 := aWc x.fPos y.fPos
 split
 ·split <;> omega
 omega
theorem bGh : Go.Sort.SWO (ltOf stC) := by
 rw [sG]
 refine ⟨xK, fun x y z h k => aKb h k, fun x y z h k => ?_⟩
 rw [← Bool.not_eq_true, gU] at *
 omega
theorem bPi (O : aS) (s : Nat) (l : List aN) (hs : O s = aPn l) (hb : l.length ≤ 100000) : iC Tryz.prog O 64 [.own s l.length, .fn 65 [] []] fun O' x => O' = set O s (aPn (mK l)) ∧ x = .tup [] :=
 pI (enc := fun x => [.int .i64 x.fEl, .int .i64 x.fPos]) (cf := stC) (fun _ => rfl) (fun _ => rfl) (by decide) (fun x v hv => by simp at hv; rcases hv with rfl | rfl <;> rfl) hs (jT l)
  (fun _ b c w => AnyF.slices_SortFunc_none Tryz.sort64 b c _ w)
  (fun w blk c hH hblk hc => by
   have := AnyQ.slices_SortFunc_total Tryz.sort64 2 Tryz.isAgg68 Tryz.sizeOf68 (fun x : aN => [.int .i64 x.fEl, .int .i64 x.fPos]) (fun _ => rfl) (fun x v hv => by simp at hv; rcases hv with rfl | rfl <;> rfl) stC bGh 65 #[] blk 0 c l.toArray w
    (enters_of Tryz.func65 (by kernel_rfl) rfl) (by simpa using hc) hH hblk (by simp; omega) (fun x y h k => by rw [sG] at h k; exact xR h k)
   rw [sG] at this
   change Calls Tryz.prog 64 _ _ _ at this
   simpa [mK] using this)
  (fun x y => qQ _ x y)
set_option maxHeartbeats 2000000 in
theorem mU (O : aS) (r : a8) (hb : (gJ r).length ≤ 240) : aY Tryz.prog O 30 [.agg (bB r)] (kI (dQ (gJ r))) := by
 have hm := jT (gJ r)
 have hfl : [r.fPoints, r.fOverPoints, r.fFlank].flatten = (gJ r) := by simp [gJ]
 refine eE Tryz.func30 ?_
 refine aC [0] ?_
 refine aA fun K1 hK1 => ?_
 refine bL [1] ?_
 refine eL (gG [aBi [r.fPoints, r.fOverPoints, r.fFlank]] (.cons (dI.litL [r.fPoints, r.fOverPoints, r.fFlank] rfl rfl) .nil) (by rw [← hfl]; exact nV _ [r.fPoints, r.fOverPoints, r.fFlank] (by rw [hfl]; omega) : aY Tryz.prog _ 63 [aBi [r.fPoints, r.fOverPoints, r.fFlank]] (aPn (gJ r)))) ?_
 refine hK1 _ ?_; clear hK1
 refine aA fun K2 hK2 => ?_
 refine bL [3] ?_
 refine ⟨_, bPi _ 3 (gJ r) rfl (by omega), ?_⟩; rintro O1 r1 ⟨rfl, rfl⟩
 refine rF ?_
 refine hK2 _ ?_; clear hK2
 refine aC [3] ?_
 refine aA fun K4 hK4 => ?_
 refine aA fun K5 hK5 => ?_
 refine fG 3 (mK (gJ r)) rfl rfl ?_
 refine gZ 4 68 2 a7 rfl rfl ?_
 refine bE [3, 4] ?_
 refine hK5 _ ?_; clear hK5
 refine aL ?_
 refine aZ [3, 4, 17, 18, 19] (fun n ρ => ∃ i, n = (mK (gJ r)).length - i ∧ (i ≤ (mK (gJ r)).length) ∧ ρ = dU O [(3, kI (mK (gJ r))), (4, aPn (ddS (mK (gJ r)) i)), (17, kI (mK (gJ r))), (18, vi ((mK (gJ r)).length : Nat)), (19, vi (i : Nat))]) _ ⟨0, rfl, ?_, ?_⟩ ?_
 ·exact bI
 ·exact dC
 rintro n ρ ⟨i, rfl, l0_0, rfl⟩ K6 hK6
 have hdl := aFh (mK (gJ r)) i
 refine aC [3, 4, 17, 18, 19] ?_
 refine aA fun K8 hK8 => ?_
 refine aV (fun c0 => ?_) fun c0 => ?_
 ·refine aJ ?_
  refine hK8 _ ?_; clear hK8
  refine aA fun K9 hK9 => ?_
  refine aL ?_
  refine aC [3, 4, 17, 18, 19] ?_
  refine aA fun K11 hK11 => ?_
  refine gY [3, 4, 5, 6, 17, 18, 19] [] ?_
  refine hK11 _ ?_; clear hK11
  refine aV (fun c1 => ?_) fun c1 => ?_
  ·have hc : i = 0 ∨ wL (mK (gJ r)) i ≠ wL (mK (gJ r)) (i - 1) := (by rcases c1 with h | h; exact .inl h; right; intro he; have he := (fQ _ _).1 he; rcases h with h | h; exact h he.1; exact h he.2)
   refine bE [3, 4, 6, 17, 18, 19] ?_
   refine hK9 _ ?_; clear hK9
   refine bE [3, 4, 17, 18, 19] ?_
   refine hK6 _ _ ?_ ⟨i + 1, rfl, ?_, ?_⟩
   ·exact bI
   ·exact bI
   simp (disch := omega) only [go_sem, seval] <;> (rw [ddS, if_pos hc]; first | rfl | simp)
  have hc : ¬ (i = 0 ∨ wL (mK (gJ r)) i ≠ wL (mK (gJ r)) (i - 1)) := (by rintro (h | h); exact c1.1 h; exact h ((fQ _ _).2 c1.2))
  refine aJ ?_
  refine hK9 _ ?_; clear hK9
  refine bE [3, 4, 17, 18, 19] ?_
  refine hK6 _ _ ?_ ⟨i + 1, rfl, ?_, ?_⟩
  ·exact bI
  ·exact bI
  simp (disch := omega) only [go_sem, seval] <;> (rw [ddS, if_neg hc, List.append_nil]; rfl)
 refine bA ?_
 refine hK4 _ ?_; clear hK4
 refine aA fun K12 hK12 => ?_
 refine fG 4 _ rfl rfl ?_
 refine bE [4] ?_
 refine hK12 _ ?_; clear hK12
 refine aM ?_
 refine cW 2 ?_
 exact dE.encL rfl (by rw [show i = (mK (gJ r)).length by omega]; rfl)
end Go.Sg
namespace Go.Sg
open Go.Proofs
theorem rS (O : aS) (x y : aN) : aY Tryz.prog O 135 [.agg (a7 x), .agg (a7 y)] (vi (stC x y)) := by
 refine eE Tryz.func135 ?_
 refine aC [0, 1] ?_
 refine aA fun K1 hK1 => ?_
 refine gY [2, 3] [] ?_
 refine cdz (d6 _ x.fEl y.fEl) ?_
 refine cdz (d6 _ x.fPos y.fPos) ?_
 refine cdz (gG [dL [j5 x.fEl y.fEl, j5 x.fPos y.fPos]] (.cons (dI.litL [j5 x.fEl y.fEl, j5 x.fPos y.fPos] rfl rfl) .nil) (m6 _ [j5 x.fEl y.fEl, j5 x.fPos y.fPos])) ?_
 refine hK1 _ ?_; clear hK1
 refine aM ?_
 refine cW 4 ?_
 exact dE.is (by simp (disch := omega) only [go_sem, seval] <;> (rfl)) rfl rfl
theorem bPj (O : aS) (s : Nat) (l : List aN) (hs : O s = r9 l) (hb : l.length ≤ 100000) : iC Tryz.prog O 64 [.own s l.length, .fn 135 [] []] fun O' x => O' = set O s (r9 (mK l)) ∧ x = .tup [] :=
 pI (enc := fun x => [.int .i64 x.fEl, .int .i64 x.fPos]) (cf := stC) (fun _ => rfl) (fun _ => rfl) (by decide) (fun x v hv => by simp at hv; rcases hv with rfl | rfl <;> rfl) hs (jT l)
  (fun _ b c w => AnyF.slices_SortFunc_none Tryz.sort64 b c _ w)
  (fun w blk c hH hblk hc => by
   have := AnyQ.slices_SortFunc_total Tryz.sort64 2 Tryz.isAgg68 Tryz.sizeOf68 (fun x : aN => [.int .i64 x.fEl, .int .i64 x.fPos]) (fun _ => rfl) (fun x v hv => by simp at hv; rcases hv with rfl | rfl <;> rfl) stC bGh 135 #[] blk 0 c l.toArray w
    (enters_of Tryz.func135 (by kernel_rfl) rfl) (by simpa using hc) hH hblk (by simp; omega) (fun x y h k => by rw [sG] at h k; exact xR h k)
   rw [sG] at this
   change Calls Tryz.prog 64 _ _ _ at this
   simpa [mK] using this)
  (fun x y => rS _ x y)
end Go.Sg
namespace Go.Sg
open Go.Proofs
def aHw (l : aB) (s : aW) : List aN := if (lE l s).2 = true ∧ (e5 l s.fEl.toNat).fKind = 2 then [⟨s.fEl, (lE l s).1⟩] else []
def sI (l : aB) (q : List aW) : List aN := q.flatMap (aHw l)
def tI (l : aB) (q : List aW) : List aN := dQ (sI l q)
theorem aQt (l : aB) {q : List aW} {i : Nat} (h : i < q.length) : sI l (q.take (i + 1)) = sI l (q.take i) ++ aHw l (q.getD i default) := by
 rw [fV default h]; unfold sI; rw [List.flatMap_append]; simp
theorem aVc (l : aB) (s : aW) : (aHw l s).length ≤ 1 := by unfold aHw; split <;> simp
theorem uH (l : aB) (q : List aW) : (sI l q).length ≤ q.length := by
 unfold sI
 induction q with
 | nil => simp
 | cons a q ih => rw [List.flatMap_cons, List.length_append, List.length_cons]; have := aVc l a; omega
theorem aAg {l : aB} {s : aW} (h : (lE l s).2 = true) : 0 ≤ s.fEl ∧ s.fEl < (l.fElements.length : Int) := by
 cases he : lH l s.fEl with
 | true => exact f7.1 he
 | false => rw [u5 he] at h; cases h
theorem aMi (l : aB) (q : List aW) : ((sI l q).map (·.fEl)).Sublist (q.map (·.fEl)) := by
 unfold sI
 induction q with
 | nil => exact .slnil
 | cons a q ih =>
  rw [List.flatMap_cons, List.map_append, List.map_cons]
  unfold aHw
  split
  ·exact ih.cons_cons _
  exact ih.cons _
theorem aSr {a : List aN} (h : (a.map (·.fEl)).Nodup) : aGo (mK a) := fun i h0 hi e => by
 have hp : ((mK a).map (·.fEl)).Nodup := ((List.mergeSort_perm a _).map _).nodup_iff.2 h
 have := List.pairwise_iff_getElem.1 hp (i - 1) i (by rw [List.length_map]; omega) (by rw [List.length_map]; exact hi) (by omega)
 rw [List.getElem_map, List.getElem_map] at this
 rw [List.getD_eq_getElem?_getD, List.getD_eq_getElem?_getD, List.getElem?_eq_getElem hi, List.getElem?_eq_getElem (show i - 1 < (mK a).length by omega)] at e
 simp only [Option.getD_some] at e
 exact this (by rw [e])
theorem aUe {s : List aN} (h : aGo s) : ∀ n, n ≤ s.length → ddS s n = s.take n
 | 0, _ => by simp [ddS]
 | n + 1, hn => by
  have hc : n = 0 ∨ wL s n ≠ wL s (n - 1) := by
   rcases Nat.eq_zero_or_pos n with h0 | h0
   ·exact .inl h0
   exact .inr (h n h0 (by omega))
  unfold ddS
  rw [if_pos hc, aUe h n (by omega), fV default (show n < s.length by omega)]
theorem aSs {a : List aN} (h : aGo (mK a)) : mK a = dQ a := by
 unfold dQ; rw [aUe h _ (Nat.le_refl _), List.take_length]
theorem xQ (a : List aN) : (dQ a).length ≤ a.length := by
 unfold dQ
 have := aFh (mK a) (mK a).length
 rw [jT] at this ⊢
 exact this
set_option maxHeartbeats 4000000 in
theorem wO (O : aS) (l : aB) (q : List aW) (hl : eK l) (hq : q.length ≤ 100) (hnd : (q.map (·.fEl)).Nodup) : aY Tryz.prog O 86 [.agg (aK l), b8 q] (r9 (tI l q)) := by
 have hl1 := hl.sec
 have hl2 := hl.el
 have hl3 := hl.jo
 have hl4 := hl.sg
 have hl5 := hl.bl
 have hN : aGo (mK (sI l q)) := aSr (hnd.sublist (aMi l q))
 have hml := jT (sI l q)
 have hrl3 := uH l q
 refine aU 0 rfl (.agg (d := j9 l.fElements) (by simp [aK]) (.sl _ _ _)) fun he => ?_
 refine aU 1 rfl (.sl _ _ _) fun hql => ?_
 refine eE Tryz.func86 ?_
 refine aC [0, 1] ?_
 refine aC [1, 2] ?_
 refine aA fun K2 hK2 => ?_
 refine aC [1, 2, 5] ?_
 refine aL ?_
 refine gZ 5 68 2 a7 rfl rfl ?_
 refine aZ [2, 5, 10, 11, 12] (fun n ρ => ∃ i, n = q.length - i ∧ (i ≤ q.length) ∧ ρ = dU O [(2, .bx (aK l)), (5, r9 (sI l (q.take i))), (10, b8 q), (11, vi (q.length : Nat)), (12, vi (i : Nat))]) _ ⟨0, rfl, ?_, ?_⟩ ?_
 ·exact bI
 ·exact dC
 rintro n ρ ⟨i, rfl, l0_0, rfl⟩ K4 hK4
 have hrl := uH l (q.take i)
 have hrl2 := List.length_take_le i q
 have hrl3 := uH l q
 refine aC [1, 2, 5, 10, 11, 12] ?_
 refine aA fun K6 hK6 => ?_
 refine aV (fun c0 => ?_) fun c0 => ?_
 ·refine aJ ?_
  refine hK6 _ ?_; clear hK6
  refine aA fun K7 hK7 => ?_
  refine aL ?_
  refine aC [1, 2, 5, 10, 11, 12] ?_
  refine aA fun K9 hK9 => ?_
  refine bL [1, 2, 5, 7, 10, 11, 12] ?_
  refine eL (vI _ l (q.getD i default) hl) ?_
  refine hK9 _ ?_; clear hK9
  refine aA fun K10 hK10 => ?_
  refine aX [1, 2, 5, 7, 8, 9, 10, 11, 12] (by kernel_rfl) ?_
  simp (disch := omega) only [go_sem, seval]
  repeat refine And.intro (by first | (intro h; exact ⟨h, aAg h⟩) | exact bS) ?_
  refine hK10 _ ?_; clear hK10
  refine aV (fun c1 => ?_) fun c1 => ?_
  ·have hcc : (lE l (q.getD i default)).2 = true ∧ (e5 l (q.getD i default).fEl.toNat).fKind = 2 := (by simpa using c1)
   refine bE [1, 2, 5, 7, 8, 10, 11, 12] ?_
   refine hK7 _ ?_; clear hK7
   refine bE [1, 2, 5, 10, 11, 12] ?_
   refine hK4 _ _ ?_ ⟨i + 1, rfl, ?_, ?_⟩
   ·exact bI
   ·exact bI
   simp (disch := omega) only [go_sem, seval] <;> (rw [aQt l c0, aHw, if_pos hcc, List.map_append]; rfl)
  have hcc : ¬ ((lE l (q.getD i default)).2 = true ∧ (e5 l (q.getD i default).fEl.toNat).fKind = 2) := (by have c9 : (lE l (q.getD i default)).2 = false ∨ ¬ (e5 l (q.getD i default).fEl.toNat).fKind = 2 := (by simpa using c1); rintro ⟨h1, h2⟩; rcases c9 with h | h; rw [h1] at h; cases h; exact h h2)
  refine aJ ?_
  refine hK7 _ ?_; clear hK7
  refine bE [1, 2, 5, 10, 11, 12] ?_
  refine hK4 _ _ ?_ ⟨i + 1, rfl, ?_, ?_⟩
  ·exact bI
  ·exact bI
  simp (disch := omega) only [go_sem, seval] <;> (rw [aQt l c0, aHw, if_neg hcc, List.append_nil]; rfl)
 refine bA ?_
 refine hK2 _ ?_; clear hK2
 refine aA fun K11 hK11 => ?_
 rw [List.take_of_length_le c0]
 refine bL [5] ?_
 refine ⟨_, bPj _ 5 (sI l q) rfl (by omega), ?_⟩; rintro O1 r1 ⟨rfl, rfl⟩
 refine rF ?_
 refine hK11 _ ?_; clear hK11
 refine aA fun K12 hK12 => ?_
 refine bL [5] ?_
 refine eL (iO _ (mK (sI l q)) 5 (by rfl) (by omega) hN) ?_
 refine hK12 _ ?_; clear hK12
 refine aM ?_
 refine cW 4 ?_
 exact dE.ownL rfl (by omega) rfl rfl (by exact aSs hN)
theorem nT (O : aS) (l : aB) (q : List aW) (hl : eK l) (hq : q.length ≤ 100) (hnd : (q.map (·.fEl)).Nodup) : aY Tryz.prog O 86 [.agg (aK l), b8 q] (fU (tI l q)) := dG (wO O l q hl hq hnd)
end Go.Sg
namespace Go.Sg
open Go.Proofs
def exS (l : aB) (r : a8) : jF × Bool := if r.fExit < 0 ∨ (l.fSignals.length : Int) ≤ r.fExit then (default, false) else (l.fSignals.getD r.fExit.toNat default, true)
theorem bEv {l : aB} {r : a8} (h : r.fExit < 0 ∨ (l.fSignals.length : Int) ≤ r.fExit) : exS l r = (default, false) := by unfold exS; rw [if_pos h]
theorem bFb {l : aB} {r : a8} (h : ¬ (r.fExit < 0 ∨ (l.fSignals.length : Int) ≤ r.fExit)) : exS l r = (l.fSignals.getD r.fExit.toNat default, true) := by unfold exS; rw [if_neg h]
def aGg (l : aB) (s : aW) : Int := iU l ⟨s.fEl, s.fOut⟩
theorem aIc {n k : Nat} (h : n ≤ 1000) (hk : k ≤ 10) : n + k ≤ maxLen := by unfold maxLen; omega
theorem y0 {n k m : Nat} (h : n ≤ 1000) (hk : k ≤ 10) (hm : m ≤ 1000) : n + k + m ≤ maxLen := by unfold maxLen; omega
def iE (l : aB) (s : aW) : Bool := decide (0 ≤ aGg l s) || !(bG l s).2
set_option maxHeartbeats 2000000 in
theorem o9 (O : aS) (l : aB) (r : a8) : aY Tryz.prog O 128 [.agg (aK l), .agg (bB r)] (.tup [.agg (gA (exS l r).1), vb (exS l r).2]) := by
 refine aU 0 rfl (.agg (d := jU l.fSignals) (by simp [aK]) (.sl _ _ _)) fun hsl => ?_
 refine eE Tryz.func128 ?_
 refine aC [0, 1] ?_
 refine aA fun K1 hK1 => ?_
 refine aC [2, 3, 4] ?_
 refine aV (fun c0 => ?_) fun c0 => ?_
 ·refine aC [4] ?_
  refine aM ?_
  refine xD (.cons ?_ (.cons ?_ .nil))
  ·exact roC (by simp (disch := omega) only [go_sem, seval] <;> rfl) (by simp (disch := omega) only [go_sem, seval] <;> ((rw [bEv c0]; try rfl))) (by kernel_rfl) (by first | rfl | (simp (disch := omega) only [go_sem, seval]))
  exact mC (by simp (disch := omega) only [go_sem, seval] <;> ((rw [bEv c0]; try rfl))) rfl rfl
 refine aJ ?_
 refine hK1 _ ?_; clear hK1
 refine aC [2, 3, 4] ?_
 refine aM ?_
 refine xD (.cons ?_ (.cons ?_ .nil))
 ·exact roC (by simp (disch := omega) only [go_sem, seval] <;> rfl) (by simp (disch := omega) only [go_sem, seval] <;> ((rw [bFb (by omega)]))) (by kernel_rfl) (by first | rfl | (simp (disch := omega) only [go_sem, seval]))
 exact mC (by simp (disch := omega) only [go_sem, seval] <;> ((rw [bFb (by omega)]))) rfl rfl
end Go.Sg
namespace Go.Sg
open Go.Proofs
abbrev gI (q : List aW) : aW := q.getD (q.length - 1) default
def n0 (l : aB) : Nat → cG → List aW → List (List aW)
 | 0, _, _ => []
 | n + 1, a, q => if q.length = 12 ∨ kQ l q a.fEl = false then [] else (cQ l a).flatMap fun s => if iE l s = true then [q ++ [s]] else n0 l n (bG l s).1 (q ++ [s])
theorem aCh : ∀ {L : List Pas} {k i : Int} {p : Pas}, p ∈ L → p.k = k → p.i = i → (jK L k i p.o).2 = true
 | [], _, _, _, h, _, _ => by cases h
 | x :: L, k, i, p, h, hk, hi => by
  unfold jK
  split
  ·rfl
  rename_i hn
  rcases List.mem_cons.1 h with rfl | h
  ·exact absurd ⟨hk, hi, rfl⟩ hn
  exact aCh h hk hi
theorem aQg {k i o : Int} (h : o ∈ cV k i) : (cT k i o).2 = true := by
 unfold cV mI at h
 obtain ⟨p, hp, rfl⟩ := List.mem_map.1 h
 rw [List.mem_filter] at hp
 have := of_decide_eq_true hp.2
 rw [← qK]
 exact aCh hp.1 this.1 this.2
theorem oJ {l : aB} {a : cG} {s : aW} (h : s ∈ cQ l a) : s.fEl = a.fEl ∧ s.fIn = a.fSide ∧ (lE l s).2 = true ∧ lH l a.fEl = true := by
 cases he : lH l a.fEl with
 | false => rw [aLl he] at h; cases h
 | true =>
  rw [aMl he] at h
  obtain ⟨o, ho, rfl⟩ := List.mem_map.1 h
  refine ⟨rfl, rfl, ?_, rfl⟩
  rw [oD he]
  exact aQg ho
theorem aUc (k i : Int) : (cV k i).length ≤ 2 := by
 unfold cV mI
 rw [List.length_map]
 have hk : k = 1 ∨ k = 2 ∨ k = 3 ∨ (k ≠ 1 ∧ k ≠ 2 ∧ k ≠ 3) := by omega
 have hi : i = 0 ∨ i = 1 ∨ i = 2 ∨ i = 3 ∨ (i ≠ 0 ∧ i ≠ 1 ∧ i ≠ 2 ∧ i ≠ 3) := by omega
 rcases hk with rfl | rfl | rfl | ⟨h1, h2, h3⟩
 ·rcases hi with rfl | rfl | rfl | rfl | ⟨q0, q1, q2, q3⟩ <;> first | decide | (simp [f9, List.filter_cons, Ne.symm q0, Ne.symm q1, Ne.symm q2, Ne.symm q3])
 ·rcases hi with rfl | rfl | rfl | rfl | ⟨q0, q1, q2, q3⟩ <;> first | decide | (simp [f9, List.filter_cons, Ne.symm q0, Ne.symm q1, Ne.symm q2, Ne.symm q3])
 ·rcases hi with rfl | rfl | rfl | rfl | ⟨q0, q1, q2, q3⟩ <;> first | decide | (simp [f9, List.filter_cons, Ne.symm q0, Ne.symm q1, Ne.symm q2, Ne.symm q3])
 simp [f9, List.filter_cons, Ne.symm h1, Ne.symm h2, Ne.symm h3]
theorem oF (l : aB) (a : cG) : (cQ l a).length ≤ 2 := by
 unfold cQ; split
 ·rw [List.length_map]; exact aUc _ _
 simp
theorem tA {α β : Type} {f : α → List β} {c : Nat} : ∀ {L : List α}, (∀ x ∈ L, (f x).length ≤ c) → (L.flatMap f).length ≤ L.length * c
 | [], _ => by simp
 | a :: L, h => by
  rw [List.flatMap_cons, List.length_append, List.length_cons, Nat.succ_mul]
  have h1 := h a (by simp)
  have h2 := tA (L := L) fun x hx => h x (by simp [hx])
  omega
theorem xB (l : aB) : ∀ (n : Nat) (a : cG) (q : List aW), (n0 l n a q).length ≤ 2 ^ n
 | 0, _, _ => by simp [n0]
 | n + 1, a, q => by
  unfold n0
  split
  ·simp
  refine Nat.le_trans (tA (c := 2 ^ n) fun s _ => ?_) ?_
  ·split
   ·simp; exact Nat.one_le_two_pow
   exact xB l n _ _
  rw [Nat.pow_succ, Nat.mul_comm]
  exact Nat.mul_le_mul_left _ (oF l a)
theorem fF (q : List aW) (s : aW) : gI (q ++ [s]) = s := by
 unfold gI; simp [List.getD_eq_getElem?_getD]
theorem l2 (q : List aW) (s : aW) : jS (q ++ [s]) q.length = s := by
 unfold jS; simp [List.getD_eq_getElem?_getD]
theorem gB {q : List aW} {i : Nat} (s : aW) (h : i < q.length) : jS (q ++ [s]) i = jS q i := by
 unfold jS; rw [List.getD_eq_getElem?_getD, List.getD_eq_getElem?_getD, List.getElem?_append_left h]
theorem tL {l : aB} : ∀ {n : Nat} {a : cG} {q p : List aW}, q.length ≤ 12 → (q.map (·.fEl)).Nodup → p ∈ n0 l n a q → 0 < p.length ∧ p.length ≤ 12 ∧ (p.map (·.fEl)).Nodup ∧ iE l (gI p) = true
 | 0, _, _, _, _, _, h => by cases h
 | n + 1, a, q, p, hq, hn, h => by
  unfold n0 at h
  split at h
  ·cases h
  rename_i hc
  obtain ⟨s, hs, hp⟩ := List.mem_flatMap.1 h
  have hlt : q.length < 12 := by omega
  have ho : kQ l q a.fEl = true := by
   cases hx : kQ l q a.fEl with
   | true => rfl
   | false => exact absurd (.inr hx) hc
  have hn2 : ((q ++ [s]).map (·.fEl)).Nodup := by
   rw [List.map_append, List.nodup_append]
   refine ⟨hn, by simp, fun x hx y hy e => ?_⟩
   simp only [List.map_cons, List.map_nil, List.mem_singleton] at hy
   rw [(oJ hs).1] at hy
   obtain ⟨t, ht, hte⟩ := List.mem_map.1 hx
   obtain ⟨i, hi, rfl⟩ := List.mem_iff_getElem.1 ht
   unfold kQ at ho
   have := List.all_eq_true.1 ho i (by simpa using hi)
   unfold yE at this
   simp only [Bool.and_eq_true, decide_eq_true_eq] at this
   apply this.1
   rw [List.getD_eq_getElem?_getD, List.getElem?_eq_getElem hi]
   simp only [Option.getD_some]
   rw [hte, e, hy]
  split at hp
  ·rename_i he
   rw [List.mem_singleton.1 hp]
   exact ⟨by simp, by simp; omega, hn2, by rw [fF]; exact he⟩
  exact tL (by simp; omega) hn2 hp
abbrev mY (l : aB) (q : List aW) (i : Nat) : Int := bU l (jS q i).fEl
theorem aDv {l : aB} {e : Int} (h : lH l e = true) : bU l e = (e5 l e.toNat).fSection := by
 unfold bU; rw [if_pos (f7.1 h)]
theorem t6 {l : aB} {q : List aW} (hex : ∀ i, i < q.length → lH l (jS q i).fEl = true) : ∀ n, n ≤ q.length → ∀ x, x ∈ eW l (q.take n) ↔ ∃ i, i < n ∧ mY l q i = x
 | 0, _, x => by simp [eW]
 | n + 1, h, x => by
  have ih := t6 hex n (by omega) x
  have he := hex n (by omega)
  rw [rT l (by omega)]
  unfold kN
  rw [if_pos he]
  have hs : (e5 l (q.getD n default).fEl.toNat).fSection = mY l q n := (aDv he).symm
  rw [hs]
  have key : (x ∈ aDt (eW l (q.take n)) (mY l q n)) ↔ x ∈ eW l (q.take n) ∨ x = mY l q n := by
   unfold aDt
   split
   ·rename_i hm
    constructor
    ·exact .inl
    rintro (h | rfl)
    ·exact h
    exact hm
   simp
  rw [key, ih]
  constructor
  ·rintro (⟨i, hi, rfl⟩ | rfl)
   ·exact ⟨i, by omega, rfl⟩
   exact ⟨n, by omega, rfl⟩
  rintro ⟨i, hi, rfl⟩
  rcases Nat.lt_or_eq_of_le (Nat.le_of_lt_succ hi) with h | rfl
  ·exact .inl ⟨i, h, rfl⟩
  exact .inr rfl
def aQj (l : aB) (q : List aW) (n : Nat) : Prop := ∀ m, m < n → 0 < m → mY l q m ≠ mY l q (m - 1) → ∀ j, j < m → mY l q j ≠ mY l q m
theorem uE {l : aB} {q : List aW} (hex : ∀ i, i < q.length → lH l (jS q i).fEl = true) : ∀ n, n ≤ q.length → (eW l (q.take n)).length ≤ wU l q n ∧ (wU l q n = (eW l (q.take n)).length ↔ aQj l q n)
 | 0, _ => by
  refine ⟨by simp [eW], ?_⟩
  constructor
  ·intro _ m hm; omega
  intro _; simp [eW, wU]
 | n + 1, h => by
  obtain ⟨ih1, ih2⟩ := uE hex n (by omega)
  have he := hex n (by omega)
  have hm := t6 hex n (by omega) (mY l q n)
  rw [rT l (by omega)]
  unfold kN
  rw [if_pos he]
  have hs : (e5 l (q.getD n default).fEl.toNat).fSection = mY l q n := (aDv he).symm
  rw [hs]
  have hcon : aQj l q (n + 1) ↔ aQj l q n ∧ (0 < n → mY l q n ≠ mY l q (n - 1) → ∀ j, j < n → mY l q j ≠ mY l q n) := by
   constructor
   ·exact fun h => ⟨fun m hm => h m (by omega), fun h0 => h n (by omega) h0⟩
   rintro ⟨h1, h2⟩ m hm h0
   rcases Nat.lt_or_eq_of_le (Nat.le_of_lt_succ hm) with h | rfl
   ·exact h1 m h h0
   exact h2 h0
  rw [hcon, ← ih2, show wU l q (n + 1) = wU l q n + (if n = 0 ∨ bU l (jS q n).fEl ≠ bU l (jS q (n - 1)).fEl then 1 else 0) from rfl]
  unfold aDt
  by_cases hc : n = 0 ∨ bU l (jS q n).fEl ≠ bU l (jS q (n - 1)).fEl
  ·rw [if_pos hc]
   split
   ·rename_i hin
    refine ⟨by omega, ?_⟩
    constructor
    ·intro hx; omega
    rintro ⟨_, h2⟩
    obtain ⟨j, hj, hje⟩ := hm.1 hin
    rcases hc with h0 | h0
    ·omega
    exact absurd hje (h2 (by omega) h0 j hj)
   rename_i hin
   rw [List.length_append, List.length_singleton]
   refine ⟨by omega, ?_⟩
   constructor
   ·intro hx
    exact ⟨by omega, fun _ _ j hj hje => hin (hm.2 ⟨j, hj, hje⟩)⟩
   rintro ⟨h1, _⟩; omega
  rw [if_neg hc]
  simp only [not_or, Classical.not_not] at hc
  have hin : mY l q n ∈ eW l (q.take n) := hm.2 ⟨n - 1, by omega, hc.2.symm⟩
  rw [if_pos hin]
  refine ⟨by omega, ?_⟩
  constructor
  ·intro hx; exact ⟨by omega, fun _ h2 => absurd hc.2 h2⟩
  rintro ⟨h1, _⟩; omega
theorem aXh {l : aB} {q : List aW} (s : aW) {i : Nat} (h : i < q.length) : oG l (q ++ [s]) i = oG l q i := by
 unfold oG yA
 rw [gB s h]
 have h1 : ∀ k, k < i → neN (q ++ [s]) i k = neN q i k := fun k hk => by unfold neN; rw [gB s h, gB s (by omega)]
 have h2 : (List.range i).all (neN (q ++ [s]) i) = (List.range i).all (neN q i) := by
  rw [Bool.eq_iff_iff, List.all_eq_true, List.all_eq_true]
  constructor
  ·intro hx k hk; rw [← h1 k (by simpa using hk)]; exact hx k hk
  intro hx k hk; rw [h1 k (by simpa using hk)]; exact hx k hk
 rw [h2]
 by_cases h0 : i = 0
 ·subst h0; simp
 rw [gB s (show i - 1 < q.length by omega)]
def bEp (l : aB) (f a : cG) (q : List aW) : Prop := (q = [] ∧ a = f) ∨ (0 < q.length ∧ yH l f q = true ∧ bG l (gI q) = (a, true))
theorem kM {l : aB} {f : cG} {q : List aW} : yH l f q = true ↔ ((0 < q.length ∧ q.length ≤ 12) ∧ (jS q 0).fEl = f.fEl ∧ (jS q 0).fIn = f.fSide) ∧ (∀ i, i < q.length → oG l q i = true) ∧ wU l q q.length = (eW l q).length := by
 unfold yH bQr y5
 simp only [Bool.and_eq_true, decide_eq_true_eq, List.all_eq_true, List.mem_range]
 constructor
 ·rintro ⟨⟨h1, _, h2⟩, h3⟩; exact ⟨h1, h2, h3⟩
 rintro ⟨h1, h2, h3⟩; exact ⟨⟨h1, ⟨h1.1.1, by omega⟩, h2⟩, h3⟩
theorem aGd {l : aB} {f a : cG} {q : List aW} {s : aW} (hinv : bEp l f a q) (hs : s ∈ cQ l a) : yH l f (q ++ [s]) = true ↔ q.length < 12 ∧ kQ l q a.fEl = true := by
 obtain ⟨hs1, hs2, hs3, hs4⟩ := oJ hs
 have hes : lH l s.fEl = true := by rw [hs1]; exact hs4
 rcases hinv with ⟨rfl, rfl⟩ | ⟨h0, hfit, hnx⟩
 ·rw [List.nil_append, kM]
  refine ⟨fun _ => ⟨by simp, rfl⟩, fun _ => ⟨⟨by simp, hs1, hs2⟩, fun i hi => ?_, ?_⟩⟩
  ·simp at hi; subst hi
   unfold oG yA
   rw [show jS [s] 0 = s from rfl, hs3]; rfl
  show wU l [s] 1 = _
  rw [bJh]
  unfold eW
  rw [List.foldl_cons, List.foldl_nil]
  unfold kN aDt
  rw [if_pos hes]; simp
 obtain ⟨⟨q1, q2, q3⟩, q4, q5⟩ := kM.1 hfit
 have hexq : ∀ i, i < q.length → lH l (jS q i).fEl = true := fun i hi => by
  have := q4 i hi
  unfold oG yA at this
  simp only [Bool.and_eq_true] at this
  exact f7.2 (aAg this.1.1)
 have hlast : jS q (q.length - 1) = gI q := rfl
 have hvl : oG l (q ++ [s]) q.length = true ↔ ∀ k, k < q.length → (jS q k).fEl ≠ a.fEl := by
  unfold oG yA
  rw [l2, hs3, gB s (show q.length - 1 < q.length by omega), hlast, hnx, decide_eq_false (show ¬ q.length = 0 by omega), decide_eq_true ((dO _ _).2 ⟨hs1.symm, hs2.symm⟩ : (a : cG) = ⟨s.fEl, s.fIn⟩)]
  simp only [Bool.or_true, Bool.and_true, Bool.true_and, Bool.false_or, List.all_eq_true, List.mem_range]
  constructor
  ·intro h k hk
   have := h k hk
   unfold neN at this
   rw [l2, gB s hk, hs1] at this
   exact of_decide_eq_true this
  intro h k hk
  unfold neN
  rw [l2, gB s hk, hs1]
  exact decide_eq_true (h k hk)
 have hcon : aQj l q q.length := ((uE hexq q.length (Nat.le_refl _)).2).1 (by rw [List.take_length]; exact q5)
 have hexs : ∀ i, i < (q ++ [s]).length → lH l (jS (q ++ [s]) i).fEl = true := fun i hi => by
  simp only [List.length_append, List.length_singleton] at hi
  rcases Nat.lt_or_eq_of_le (Nat.le_of_lt_succ hi) with h | rfl
  ·rw [gB s h]; exact hexq i h
  rw [l2]; exact hes
 have hlen : (q ++ [s]).length = q.length + 1 := by simp
 have hsec : wU l (q ++ [s]) (q ++ [s]).length = (eW l (q ++ [s])).length ↔ (bU l a.fEl ≠ mY l q (q.length - 1) → ∀ j, j < q.length → mY l q j ≠ bU l a.fEl) := by
  have := (uE hexs (q ++ [s]).length (Nat.le_refl _)).2
  rw [List.take_length] at this
  rw [this, hlen]
  have hsn : ∀ i, i < q.length → mY l (q ++ [s]) i = mY l q i := fun i hi => by unfold mY; rw [gB s hi]
  have hsl : mY l (q ++ [s]) q.length = bU l a.fEl := by unfold mY; rw [l2, hs1]
  constructor
  ·intro h hne j hj
   have := h q.length (by omega) h0 (by rw [hsl, hsn _ (by omega)]; exact hne) j hj
   rw [hsl, hsn j hj] at this
   exact this
  intro h m hm hm0 hne j hj
  rcases Nat.lt_or_eq_of_le (Nat.le_of_lt_succ hm) with hm | rfl
  ·rw [hsn m hm, hsn (m - 1) (by omega)] at hne
   rw [hsn m hm, hsn j (by omega)]
   exact hcon m hm hm0 hne j hj
  rw [hsl, hsn _ (by omega)] at hne
  rw [hsl, hsn j hj]
  exact h hne j hj
 have hop : kQ l q a.fEl = true ↔ (∀ k, k < q.length → (jS q k).fEl ≠ a.fEl) ∧ ∀ i, i < q.length → 0 < i → mY l q (i - 1) = bU l a.fEl → mY l q i = bU l a.fEl := by
  unfold kQ
  simp only [List.all_eq_true, List.mem_range]
  constructor
  ·intro h
   refine ⟨fun k hk => ?_, fun i hi hi0 he => ?_⟩
   ·have := h k hk
    unfold yE at this
    simp only [Bool.and_eq_true, decide_eq_true_eq] at this
    exact this.1
   have := h i hi
   unfold yE at this
   simp only [Bool.and_eq_true, decide_eq_true_eq, Bool.not_eq_true', Bool.and_eq_false_iff, decide_eq_false_iff_not] at this
   rcases this.2 with h | h | h
   ·omega
   ·exact absurd he h
   exact Classical.not_not.1 h
  rintro ⟨h1, h2⟩ i hi
  refine aXf (h1 i hi) ?_
  rintro ⟨⟨g1, g2⟩, g3⟩
  exact g3 (h2 i hi g1 g2)
 rw [kM, hop]
 constructor
 ·rintro ⟨⟨⟨_, g1⟩, _⟩, g2, g3⟩
  rw [hlen] at g1
  have hne := hvl.1 (g2 q.length (by omega))
  refine ⟨by omega, hne, fun i hi hi0 he => Classical.byContradiction fun hx => ?_⟩
  have hsc := hsec.1 g3
  by_cases hL : bU l a.fEl = mY l q (q.length - 1)
  ·-- the first place behind i where the section is the old one again
   have hex : ∃ m, i < m ∧ m < q.length ∧ mY l q m = bU l a.fEl := by
    refine ⟨q.length - 1, ?_, by omega, hL.symm⟩
    rcases Nat.lt_or_eq_of_le (show i ≤ q.length - 1 by omega) with h | h
    ·exact h
    exact absurd (by rw [h]; exact hL.symm) hx
   have : ∃ m, (i < m ∧ m < q.length ∧ mY l q m = bU l a.fEl) ∧ ∀ k, k < m → ¬ (i < k ∧ k < q.length ∧ mY l q k = bU l a.fEl) := by
    obtain ⟨m, hm⟩ := hex
    induction m using Nat.strongRecOn with
    | _ m ih =>
     by_cases hk : ∃ k, k < m ∧ (i < k ∧ k < q.length ∧ mY l q k = bU l a.fEl)
     ·obtain ⟨k, hk1, hk2⟩ := hk
      exact ih k hk1 hk2
     exact ⟨m, hm, fun k hk1 hk2 => hk ⟨k, hk1, hk2⟩⟩
   obtain ⟨m, ⟨m1, m2, m3⟩, m4⟩ := this
   have hpre : mY l q (m - 1) ≠ bU l a.fEl := by
    rcases Nat.lt_or_eq_of_le (show i ≤ m - 1 by omega) with h | h
    ·exact fun e => m4 (m - 1) (by omega) ⟨h, by omega, e⟩
    rw [← h]; exact hx
   exact hcon m m2 (by omega) (by rw [m3]; exact Ne.symm hpre) (i - 1) (by omega) (by rw [he, m3])
  exact hsc hL (i - 1) (by omega) he
 rintro ⟨g1, g2, g3⟩
 refine ⟨⟨⟨by omega, by omega⟩, ?_⟩, fun i hi => ?_, hsec.2 fun hne j hj he => ?_⟩
 ·rw [gB s h0]; exact ⟨q2, q3⟩
 ·rw [hlen] at hi
  rcases Nat.lt_or_eq_of_le (Nat.le_of_lt_succ hi) with h | rfl
  ·rw [aXh s h]; exact q4 i h
  exact hvl.2 g2
 have : ∀ d, j + d < q.length → mY l q (j + d) = bU l a.fEl := fun d => by
  induction d with
  | zero => intro _; exact he
  | succ d ih => intro hd; exact g3 (j + (d + 1)) hd (by omega) (by rw [show j + (d + 1) - 1 = j + d by omega]; exact ih (by omega))
 have h1 := this (q.length - 1 - j) (by omega)
 rw [show j + (q.length - 1 - j) = q.length - 1 by omega] at h1
 exact hne h1.symm
theorem vA {l : aB} {s : aW} (h : ¬ iE l s = true) : bG l s = ((bG l s).1, true) := by
 unfold iE at h
 simp only [Bool.or_eq_true, Bool.not_eq_true', not_or, Bool.not_eq_false] at h
 exact Prod.ext rfl h.2
end Go.Sg
namespace Go.Sg
open Go.RowKit
open Go.Rv (FR)
abbrev aCt (t : TypeId) (v : Value) : List PanicEntry := [{ v := .iface t v, recovered := false }]
def vU (P : Program) (O : aS) (f : FuncId) (args : List DV) (r : Option DV) : Prop :=
 ∀ (w : World) (I : Nat → Prop) (A : cO) (vals : Array Value), gK w I A O → vals.size = args.length → (∀ (j : Nat) (d : DV) (u : Value), args[j]? = some d → vals[j]? = some u → bH w I A d u) →
  Calls P f vals w fun e w' => ∃ I', gK w' I' A O ∧ eA w I A w' I' A ∧ ((∃ r' v, r = some r' ∧ e = .returned v ∧ lD w w' I' A r' v) ∨ (r = none ∧ ∃ t v, e = .panicked (aCt t v)))
theorem vU.pcall {P : Program} {O : aS} {f : FuncId} {args : List DV} {r : DV} (h : vU P O f args (some r)) : aY P O f args r := fun w I A vals h1 h2 h3 =>
 (h w I A vals h1 h2 h3).mono fun e w' ⟨I', k1, k2, k3⟩ => by
  rcases k3 with ⟨r', v, k3, k4, k5⟩ | ⟨k3, _⟩
  ·cases k3; exact ⟨v, I', O, r, k4, k1, fun _ => dW.refl _, fun _ h => h, k2, k5, rfl, rfl⟩
  cases k3
def bAx (P : Program) (fn : Func) (O : aS) (r : Option DV) : Exit → aS → Prop
 | .ret, ρ | .normal, ρ => ∃ r', r = some r' ∧ hi ρ = bT O ∧ lO P ρ fn.results.toList r'
 | .panic ch, ρ => r = none ∧ hi ρ = bT O ∧ ∃ t v, ch = aCt t v
 | _, _ => False
section
variable {P : Program}
theorem eA.callee {w w' : World} {I I' : Nat → Prop} {A A' : cO} (k3 : eA w I (b6 A) w' I' A') : eA w I A w' I' A :=
 ⟨k3.os, k3.tape, k3.output, k3.size, k3.imm, fun g hg hA => by
  obtain ⟨e1, e2, e3⟩ := k3.old g hg fun s c hs => by
   unfold b6 at hs
   split at hs
   ·cases hs
   exact hA _ _ hs
  exact ⟨e1, e2, hA⟩, fun s g c hA _ hs => ⟨s, c, hs, hA⟩, fun _ _ => rfl⟩
theorem b9.callee {nt : Nat} {w : World} {I : Nat → Prop} {A A' : cO} {ρ O : aS} {a : Act} (k1 : b9 nt w I A' ρ a) (hA : ∀ s, 100000 ≤ s → A' s = b6 A s) (hinj : ∀ s t g c c', A s = some (some g, c) → A t = some (some g, c') → s = t) (h : ∀ s, ρ (s + 100000) = sh (O s)) : gK w I A O := by
 have hA' : ∀ s, A' (s + 100000) = A s := fun s => by rw [hA _ (by omega), gL]
 have hfun : (fun s => A' (s + 100000)) = A := funext hA'
 refine ⟨fun s => ?_, hinj, fun s g c hA => k1.osim.sep (s + 100000) g c ((hA' s).trans hA), k1.osim.imm⟩
 have := k1.osim.own (s + 100000)
 rw [h] at this
 have := this.outof (s := s) rfl
 rwa [hfun] at this
theorem vV {f : FuncId} {fn : Func} {c : Code} {O : aS} {args : List DV} {r : Option DV} (hf : P.funcs[f]? = some fn) (hb : fn.body = some c)
  (hn : (decide (args.length ≤ fn.ntmps) && decide (fn.ntmps ≤ 100000) && fn.results.toList.all (fun v => match v with | .tmp t => decide (t < fn.ntmps) | .cell t _ => decide (t < fn.ntmps))) = true)
  (h : AW P fn.ntmps c (bAx P fn O r) (lA O args)) : vU P O f args r := by
 intro w I A vals hO hl hv
 simp only [Bool.and_eq_true, decide_eq_true_eq] at hn
 obtain ⟨⟨hn1, hn2⟩, hn3⟩ := hn
 refine calls_of_wp hf hb (wp_mono (wpIn_wide.1 (Go.Rv.qH ▸ h none [] I (b6 A) _ w (b9.enter hO hl hn1 hn2 hv) rfl)) ?_)
 intro e a' w' ⟨I', A', ρ', k1, k2, k3, k4⟩
 have fin : (∃ r', r = some r' ∧ hi ρ' = bT O ∧ lO P ρ' fn.results.toList r') → ∃ v, (results fn a'.tmps).run P w' = .ok v w' ∧ ∃ I', gK w' I' A O ∧ eA w I A w' I' A ∧ ((∃ r' v', r = some r' ∧ Ending.returned v = .returned v' ∧ lD w w' I' A r' v') ∨ (r = none ∧ ∃ t v', Ending.returned v = .panicked (aCt t v'))) := by
  rintro ⟨r', rfl, hh, hr⟩
  obtain ⟨v, r1, r2⟩ := aDq k1 k3 hn3 hr
  exact ⟨v, r1, I', k1.callee k3.outA hO.inj (jJ hh), k3.callee, .inl ⟨r', v, rfl, rfl, r2⟩⟩
 cases e with
 | normal => exact ⟨k2, fin k4⟩
 | ret => exact ⟨k2, fin k4⟩
 | panic ch =>
  obtain ⟨rfl, hh, t, v, rfl⟩ := k4
  exact ⟨k2, I', k1.callee k3.outA hO.inj (jJ hh), k3.callee, .inr ⟨rfl, t, v, rfl⟩⟩
 | _ => exact k4.elim
variable {nt : Nat} {ρ : aS} {ops : Array Oper}
def uS (P : Program) (nt : Nat) (ops : Array Oper) (o : Oper) (K Kp : aS → Prop) (ρ : aS) : Prop :=
 ∀ (ro : Option Nat) (ds : List Deferred) I A a w, b9 nt w I A ρ a → a.defers = ds → ∀ (next : Act → World → Prop) (Q' : Exit → Act → World → Prop),
  (∀ I' A' a' w' ρ', b9 nt w' I' A' ρ' a' → a'.defers = ds → eA w I A w' I' A' → K ρ' → next a' w') →
  (∀ I' A' a' w' ρ' t v, b9 nt w' I' A' ρ' a' → a'.defers = ds → eA w I A w' I' A' → Kp ρ' → Q' (.panic (aCt t v)) a' w') →
  if Region.wanted o (yielded ops a.tmps) = true then o.wpIn (FR ro) 0 P a w next Q' else (∀ f, o.about P w a.eval = some f → (FR ro).fn f) ∧ next (a.put o.dst undef) w
def RWX (P : Program) (nt : Nat) (ops : Array Oper) (k kp : aS → Prop) : List Oper → aS → Prop
 | [], ρ => k ρ
 | o :: os, ρ => uS P nt ops o (RWX P nt ops k kp os) kp ρ
theorem iF {o : Oper} {K Kp : aS → Prop} (h : OW P nt ops o K ρ) : uS P nt ops o K Kp ρ := fun ro ds I A a w hs hd next Q' hn _ => h ro ds I A a w hs hd next Q' hn
theorem aCl {ro : Option Nat} {ds : List Deferred} {k kp : aS → Prop} {Q' : Exit → Act → World → Prop} : ∀ (l : List Oper) (ρ : aS) (I : Nat → Prop) (A : cO) (a : Act) (w : World), RWX P nt ops k kp l ρ → b9 nt w I A ρ a → a.defers = ds →
  (∀ I' A' a' w' ρ', b9 nt w' I' A' ρ' a' → a'.defers = ds → eA w I A w' I' A' → k ρ' → Q' .normal a' w') →
  (∀ I' A' a' w' ρ' t v, b9 nt w' I' A' ρ' a' → a'.defers = ds → eA w I A w' I' A' → kp ρ' → Q' (.panic (aCt t v)) a' w') → wpListIn (FR ro) 0 P ops Q' l a w
 | [], ρ, I, A, a, w, h, hs, hd, hk, _ => hk I A a w ρ hs hd (eA.refl _ _ _) h
 | o :: l, ρ, I, A, a, w, h, hs, hd, hk, hp => by
  refine wpListIn_step fun K hK => h ro ds I A a w hs hd K Q' (fun I' A' a' w' ρ' h1 h2 h3 h4 => hK _ _ ?_) hp
  exact aCl l ρ' I' A' a' w' h4 h1 h2 (fun I2 A2 a2 w2 ρ2 k1 k2 k3 k4 => hk I2 A2 a2 w2 ρ2 k1 k2 (h3.trans k3) k4) fun I2 A2 a2 w2 ρ2 t v k1 k2 k3 k4 => hp I2 A2 a2 w2 ρ2 t v k1 k2 (h3.trans k3) k4
theorem kF {id : Nat} {l : List Oper} {Q : Exit → aS → Prop} (h : RWX P nt l.toArray (Q .normal) (fun ρ => ∀ t v, Q (.panic (aCt t v)) ρ) l ρ) : AW P nt (.region id l.toArray false) Q ρ := by
 intro ro ds I A a w hs hd
 exact wpIn_region_lit (aCl l ρ I A a w h hs hd (fun I' A' a' w' ρ' h1 h2 h3 h4 => ⟨I', A', ρ', h1, h2, h3, h4⟩) fun I' A' a' w' ρ' t v h1 h2 h3 h4 => ⟨I', A', ρ', h1, h2, h3, h4 t v⟩)
theorem s0 {o : Oper} {K : aS → Prop} {t : TypeId} {x : Operand} {d : Nat} (hop : o.op = .makeInterface t x) (hg : o.guard = none) (hdst : o.dst = some d) (hd : d < nt) (ho : dA nt o = true) (hx : gd (ev ρ x)) (hi : ((P.underlying t).map fun u => match u with | .interface _ => true | _ => false) = some false) (hK : K (set ρ d (.iface t (un (ev ρ x))))) : OW P nt ops o K ρ :=
 eZ hg fun I A a w hs => by
  have hr := hs.opd x (bF ho (x := x) (by simp [hop, Op.operands])) hx
  have h2 := bH.iface A t _ _ hr
  refine ⟨.iface t (a.eval x), w, I, A, _, ?_, hs.putV (o := o) (v := .iface t (un (ev ρ x))) (by unfold eO; rw [hdst]; simpa using hd) h2, eA.refl _ _ _, ?_⟩
  ·have hrun : (Go.Instr.makeInterface t (a.eval x)).run P w = .ok (.iface t (a.eval x)) w := by
    unfold Go.Instr.makeInterface
    cases hu : P.underlying t with
    | none => rw [hu] at hi; cases hi
    | some u =>
     rw [hu] at hi
     simp only [Option.map_some, Option.some.injEq] at hi
     rw [Sem.run_bind, run_underlying hu, Result.andThen_ok]
     cases u <;> first | rfl | (cases hi)
   simp [execOp, hop, hrun]
  rw [hdst]; exact hK
theorem qO {o : Oper} {K Kp : aS → Prop} {x : Operand} (hop : o.op = .panic x) (hg : o.guard = none) (ho : dA nt o = true) {t : TypeId} {d : DV} (hx : ev ρ x = .iface t d) (hK : Kp ρ) : uS P nt ops o K Kp ρ := by
 intro ro ds I A a w hs hdf next Q' _ hp
 rw [if_pos (by simp [Region.wanted, hg])]
 have hr := hs.opd x (bF ho (x := x) (by simp [hop, Op.operands])) (by rw [hx]; trivial)
 rw [hx] at hr
 generalize hv : a.eval x = v at hr
 have hr : bH w I A (.iface t d) v := hr
 cases hr with
 | iface _ _ _ u hu =>
  have h1 : (execOp a.eval o).run P w = .halt (.panic (.iface t u)) w := by
   have h2 : (Go.Instr.panic (a.eval x)).run P w = .halt (.panic (.iface t u)) w := by rw [hv]; rfl
   simp only [execOp, hop, Sem.run_bind, Sem.run_map, Functor.map, h2, Result.andThen]
  refine ⟨fun f hf => ?_, ?_⟩
  ·simp [Oper.about, hop] at hf
  have h3 : (o.semAt (FR ro).round a.eval).run P w = .halt (.panic (.iface t u)) w := by
   have : o.semAt (FR ro).round a.eval = execOp a.eval o := by
    cases ro with
    | none => exact Oper.semAt_none a.eval o
    | some l => exact Oper.semAt_some l a.eval o fun c hc => by rw [hop] at hc; cases hc
   rw [this]; exact h1
  rw [h3, Oper.uponIn_panic]
  exact hp I A a w ρ t u hs hdf (eA.refl _ _ _) hK
theorem aCc {o : Oper} {K Kp : aS → Prop} {fv : Operand} {args : Array Operand} {ts : Array TypeId} {d : Nat} (hop : o.op = .call ⟨.value fv, args, ts⟩) (hg : o.guard = none) (hdst : o.dst = some d) (hd : d < nt)
  (ho : dA nt o = true) (hgf : gd (ev ρ fv)) (hga : ∀ x ∈ args.toList, gd (ev ρ x)) {f : FuncId} {l : List DV} (hc : callee (un (ev ρ fv)) (args.toList.map fun x => un (ev ρ x)) = some (f, l)) (hb : aQ P f = true)
  (h : vU P ρ f l none) (hK : Kp ρ) : uS P nt ops o K Kp ρ := by
 intro ro ds I A a w hs hdf next Q' hn hp
 obtain ⟨vals, h1, h2, h3⟩ := jN hs hop ho hgf hga hc hb
 rw [if_pos (by simp [Region.wanted, hg])]
 refine nI h1 ?_
 refine (h w I A vals hs.osim h2 h3).mono ?_
 rintro e w' ⟨I', k1, k2, k3⟩
 rcases k3 with ⟨r', v, k3, _⟩ | ⟨_, t, v, rfl⟩
 ·cases k3
 exact hp I' A a w' ρ t v (hs.called k1 (fun _ => dW.refl _) (fun _ h => h) k2) hdf k2 hK
end
end Go.Sg
namespace Go.Sg
open Go.RowKit
open Go.Rv (FR)
section
variable {P : Program} {nt : Nat}
theorem b9.below {w : World} {I : Nat → Prop} {A : cO} {ρ : aS} {a : Act} (hs : b9 nt w I A ρ a) {ρ' : aS} (h1 : ∀ i, i < 100000 → ρ' i = .any ∨ (i < nt ∧ (∃ cs, ρ i = .bx cs) ∧ ρ' i = .bp (i + 100000) 0)) (h2 : ∀ s, ρ' (s + 100000) = sh (ρ s)) : b9 nt w I (b6 A) ρ' a := by
 refine ⟨⟨fun s => ?_, fun s t g c c' e1 e2 => ?_, fun s g c h => ?_, hs.osim.imm⟩, hs.size, hs.bound, fun i hi => ?_, fun s h => ?_⟩
 ·by_cases h : s < 100000
  ·rcases h1 s h with e | ⟨_, _, e⟩ <;> rw [e] <;> trivial
  obtain ⟨t, rfl⟩ : ∃ t, s = t + 100000 := ⟨s - 100000, by omega⟩
  rw [h2]; exact (hs.osim.own t).into rfl
 ·unfold b6 at e1 e2
  split at e1 <;> split at e2 <;> first | cases e1 | cases e2 | skip
  have := hs.osim.inj _ _ g c c' e1 e2
  omega
 ·unfold b6 at h
  split at h
  ·cases h
  exact hs.osim.sep _ g c h
 ·rcases h1 i (Nat.lt_of_lt_of_le hi hs.bound) with e | ⟨_, ⟨cs, hc⟩, e⟩
  ·rw [e]; exact .any _ _
  have := hs.slot i hi
  rw [hc] at this
  obtain ⟨g, c, k1, k2⟩ := this
  rw [e, k2]
  exact bH.bp _ _ _ g c ((gL A i).trans k1)
 obtain ⟨t, rfl⟩ : ∃ t, s = t + 100000 := ⟨s - 100000, by omega⟩
 rw [h2]; exact aHe _
theorem b9.above {w : World} {I : Nat → Prop} {A A' : cO} {ρ' O τ : aS} {a : Act} (hs : b9 nt w I A' ρ' a) (hA : ∀ s, 100000 ≤ s → A' s = b6 A s) (hinj : ∀ s t g c c', A s = some (some g, c) → A t = some (some g, c') → s = t) (h : ∀ s, ρ' (s + 100000) = sh (O s))
  (h1 : ∀ i, i < 100000 → τ i = .any ∨ ∃ cs, O i = .bx cs ∧ τ i = .bx cs ∧ ρ' i = .bp (i + 100000) 0) (h2 : ∀ i, 100000 ≤ i → τ i = O i) (ho : ∀ i, 100000 ≤ i → cM (O i)) : b9 nt w I A τ a := by
 have hO : gK w I A O := hs.callee hA hinj h
 refine ⟨⟨fun s => ?_, hO.inj, hO.sep, hO.imm⟩, hs.size, hs.bound, fun i hi => ?_, fun s hs' => by rw [h2 s hs']; exact ho s hs'⟩
 ·by_cases hs' : s < 100000
  ·rcases h1 s hs' with e | ⟨cs, e1, e2, _⟩
   ·rw [e]; trivial
   rw [e2, ← e1]; exact hO.own s
  rw [h2 s (by omega)]; exact hO.own s
 rcases h1 i (Nat.lt_of_lt_of_le hi hs.bound) with e | ⟨cs, e1, e2, e3⟩
 ·rw [e]; exact .any _ _
 have := hs.slot i hi
 rw [e3] at this
 rw [e2]
 generalize a.tmps.getD i undef = x at this ⊢
 have this : bH w I A' (.bp (i + 100000) 0) x := this
 cases this with
 | bp _ _ _ g c hg => exact ⟨g, c, by rw [hA _ (by omega), gL] at hg; exact hg, rfl⟩
def wX (O : aS) (y6 y7 y8 : List DV) : aS := set (set (set O 6 (.bx y6)) 7 (.bx y7)) 8 (.bx y8)
theorem aDb {O : aS} {y6 y7 y8 : List DV} {s : Nat} (h6 : s ≠ 6) (h7 : s ≠ 7) (h8 : s ≠ 8) : wX O y6 y7 y8 s = O s := by
 unfold wX; rw [aO, if_neg h8, aO, if_neg h7, aO, if_neg h6]
def mL (O : aS) : aS := fun i => if i < 100000 then (if i = 6 ∨ i = 7 ∨ i = 8 then O i else .any) else O i
theorem aHi {q0 q1 : Oper} {id : Nat} {Q : Exit → Act → List Frame → World → Prop} {a : Act} {cs : List Frame} {w : World} {ts : Array TypeId} {d0 d1 : Nat} (hq0 : q0.op = .call ⟨.builtin .recover, #[], ts⟩) (hg0 : q0.guard = none) (hd0 : q0.dst = some d0) (hg1 : q1.guard = none) (hd1 : q1.dst = some d1)
  {v : Value} {cs' : List Frame} {b : Value} (hr : (recoverD cs = some (v, cs')) ∨ (recoverD cs = none ∧ v = .nilIface ∧ cs' = cs))
  (h1 : (execOp (a.put (some d0) v).eval q1).run P w = .ok (.value b) w) (h : Q .normal ((a.put (some d0) v).put (some d1) b) cs' w) : (Code.region id [q0, q1].toArray false).wpS P Q a cs w := by
 refine wpS_region ?_
 show wpOpsS P _ Q [0, 1] a cs w
 have hrun : (execOp a.eval q0).run P w = .ok .recover w := by simp [execOp, hq0, resolve, invoke, builtin]
 have e0 : ([q0, q1].toArray)[0]? = some q0 := rfl
 have e1 : ([q0, q1].toArray)[1]? = some q1 := rfl
 unfold wpOpsS
 simp only [e0]
 rw [if_pos (by simp [Region.wanted, hg0]), hrun]
 have key : wpOpsS P [q0, q1].toArray Q [1] (a.put q0.dst v) cs' w := by
  unfold wpOpsS
  simp only [e1]
  rw [if_pos (by simp [Region.wanted, hg1]), hd0, h1]
  simp only [Oper.upon]
  unfold wpOpsS
  rw [hd1]; exact h
 rcases hr with hr | ⟨hr, rfl, rfl⟩
 ·simp only [hr]; exact key
 simp only [hr]; exact key
theorem tG {f g : FuncId} {fn fg : Func} {c0 c2 cR : Code} {i1 i2 : Nat} {o1 o2 q0 q1 : Oper} {ts ts2 : Array TypeId} {O : aS} {args : List DV} {ρ1 ρ2 : aS} {r : DV} {x6 x7 x8 y6 y7 y8 : List DV}
  (hf : P.funcs[f]? = some fn) (hb : fn.body = some (.seq c0 (.seq (.region i1 [o1, o2].toArray false) c2)))
  (hn : (decide (args.length ≤ fn.ntmps) && decide (fn.ntmps ≤ 100000) && decide (9 < fn.ntmps) && fn.results.toList.all (fun v => match v with | .tmp t => decide (t < fn.ntmps) | .cell t _ => decide (t < fn.ntmps))) = true)
  (ho1 : o1.op = .makeFunc (.func g) #[] #[.tmp 6, .tmp 7, .tmp 8]) (hg1 : o1.guard = none) (hd1 : o1.dst = some 9) (ho2 : o2.op = .defer ⟨.value (.tmp 9), #[], ts⟩) (hg2 : o2.guard = none) (hd2 : o2.dst = none)
  (hg : P.funcs[g]? = some fg) (hgb : fg.body = some (.seq (.region i2 [q0, q1].toArray false) (.cond (.tmp 4) cR .skip))) (hgn : fg.ntmps = 6) (hgr : fg.results = #[]) (hgh : aQ P g = true)
  (hq0 : q0.op = .call ⟨.builtin .recover, #[], ts2⟩) (hqg0 : q0.guard = none) (hqd0 : q0.dst = some 3) (hqg1 : q1.guard = none) (hqd1 : q1.dst = some 4)
  (hT : ∀ (a : Act) (w : World) u v, a.eval (.tmp 3) = .iface u v → (execOp a.eval q1).run P w = .ok (.value (.bool true)) w) (hN : ∀ (a : Act) (w : World), a.eval (.tmp 3) = .nilIface → (execOp a.eval q1).run P w = .ok (.value (.bool false)) w)
  (h0 : AW P fn.ntmps c0 (fun e ρ => e = .normal ∧ Le ρ ρ1) (lA O args)) (hO1 : hi ρ1 = bT O) (h16 : ∃ cs, ρ1 6 = .bx cs) (h17 : ∃ cs, ρ1 7 = .bx cs) (h18 : ∃ cs, ρ1 8 = .bx cs)
  (hv1 : ∀ i, i < 100000 → ρ2 i = .any ∨ (i < fn.ntmps ∧ (∃ cs, ρ1 i = .bx cs) ∧ ρ2 i = .bp (i + 100000) 0)) (hv2 : ∀ s, ρ2 (s + 100000) = sh (ρ1 s)) (h29 : ρ2 9 = .any) (hy6 : cM (.bx y6)) (hy7 : cM (.bx y7)) (hy8 : cM (.bx y8))
  (h2 : AW P fn.ntmps c2 (fun e ρ => ∃ O2, (∀ s, ρ (s + 100000) = sh (O2 s)) ∧ hi O2 = bT O ∧ ρ 6 = .bp 100006 0 ∧ ρ 7 = .bp 100007 0 ∧ ρ 8 = .bp 100008 0 ∧ O2 6 = .bx x6 ∧ O2 7 = .bx x7 ∧ O2 8 = .bx x8 ∧
   ((e = .ret ∧ lO P (mL O2) fn.results.toList r) ∨ ((∃ t v, e = .panic (aCt t v)) ∧ x6.length = y6.length ∧ x7.length = y7.length ∧ x8.length = y8.length ∧ lO P (mL (wX O2 y6 y7 y8)) fn.results.toList r))) ρ2)
  (hR : ∀ O2 : aS, O2 6 = .bx x6 → O2 7 = .bx x7 → O2 8 = .bx x8 → AW P 6 cR (fun e ρ => e = .normal ∧ ∀ s, ρ (s + 100000) = sh (wX O2 y6 y7 y8 s)) (lA O2 [.bp 6 0, .bp 7 0, .bp 8 0])) : aY P O f args r := by
 intro w I A vals hO hl hv
 simp only [Bool.and_eq_true, decide_eq_true_eq] at hn
 obtain ⟨⟨⟨hn1, hn2⟩, hn9⟩, hn3⟩ := hn
 have fin : ∀ {w1 w3 : World} {I1 I3 : Nat → Prop} {A1 : cO} {τ : aS} {a : Act}, b9 fn.ntmps w3 I3 A1 τ a → eA w I (b6 A) w3 I3 A1 → hi τ = bT O → lO P τ fn.results.toList r →
   ∃ v, (results fn a.tmps).run P w3 = .ok v w3 ∧ ∃ v' I' O' r', Ending.returned v = .returned v' ∧ gK w3 I' A O' ∧ (∀ s, dW (O s) (O' s)) ∧ (∀ s, cM (O s) → cM (O' s)) ∧ eA w I A w3 I' A ∧ lD w w3 I' A r' v' ∧ O' = O ∧ r' = r := by
  intro w1 w3 I1 I3 A1 τ a k1 k3 hh hr
  obtain ⟨v, r1, r2⟩ := aDq k1 k3 hn3 hr
  exact ⟨v, r1, v, I3, O, r, rfl, k1.callee k3.outA hO.inj (jJ hh), fun _ => dW.refl _, fun _ h => h, k3.callee, r2, rfl, rfl⟩
 refine calls_of_wp_defers hf hb (wpIn_wide.1 (Go.Rv.qH ▸ (?_ : (Code.seq c0 (.seq (.region i1 [o1, o2].toArray false) c2)).wpIn (FR none) 0 P _ _ _)))
 refine wpIn_seq (wpIn_mono (h0 none [] I (b6 A) _ w (b9.enter hO hl hn1 hn2 hv) rfl) ?_)
 rintro e a1 w1 ⟨I1, A1, ρ, k1, k2, k3, rfl, hle⟩
 replace k1 := k1.weaken hle
 have b1 := k1.below hv1 hv2
 have hbox : ∀ i, i < fn.ntmps → (∃ cs, ρ1 i = .bx cs) → ∃ g c, A1 i = some (some g, c) ∧ a1.tmps.getD i undef = .pointer (some ⟨g, 0, none⟩) := fun i hi ⟨cs, hc⟩ => by
  have := k1.slot i hi; rw [hc] at this; exact this
 obtain ⟨g6, c6, p6, v6⟩ := hbox 6 (by omega) h16
 obtain ⟨g7, c7, p7, v7⟩ := hbox 7 (by omega) h17
 obtain ⟨g8, c8, p8, v8⟩ := hbox 8 (by omega) h18
 have hfun : (execOp a1.eval o1).run P w1 = .ok (.value (.func (.func g) #[] #[.pointer (some ⟨g6, 0, none⟩), .pointer (some ⟨g7, 0, none⟩), .pointer (some ⟨g8, 0, none⟩)])) w1 := by
  have e6 : a1.eval (.tmp 6) = .pointer (some ⟨g6, 0, none⟩) := v6
  have e7 : a1.eval (.tmp 7) = .pointer (some ⟨g7, 0, none⟩) := v7
  have e8 : a1.eval (.tmp 8) = .pointer (some ⟨g8, 0, none⟩) := v8
  simp [execOp, ho1, Instr.makeFunc]
  exact ⟨e6, e7, e8⟩
 generalize hvs : (#[.pointer (some ⟨g6, 0, none⟩), .pointer (some ⟨g7, 0, none⟩), .pointer (some ⟨g8, 0, none⟩)] : Array Value) = vs at hfun
 refine wpIn_seq (wpIn_region_lit (l := [o1, o2]) ?_)
 refine wpListIn_step fun K hK => ?_
 rw [if_pos (by simp [Region.wanted, hg1])]
 refine nK hfun (hK _ _ ?_)
 refine wpListIn_step fun K2 hK2 => ?_
 rw [if_pos (by simp [Region.wanted, hg2])]
 refine ⟨fun _ _ => trivial, ?_⟩
 have hnt : a1.tmps.size = fn.ntmps := k1.size
 have hrun : (o2.semAt (FR none).round (a1.put o1.dst (.func (.func g) #[] vs)).eval).run P w1 = .ok (.defer { target := .fn (.func g) vs, args := #[] }) w1 := by
  show (execOp (a1.put o1.dst (.func (.func g) #[] vs)).eval o2).run P w1 = _
  have hev : (a1.put o1.dst (.func (.func g) #[] vs)).eval (.tmp 9) = .func (.func g) #[] vs := by
   rw [hd1]
   show (a1.tmps.setIfInBounds 9 _).getD 9 undef = _
   simp [Array.getD_eq_getD_getElem?, Array.getElem?_setIfInBounds, hnt, hn9]
  simp [execOp, ho2, resolve, hev, Deferred.ofValue]
 rw [hrun, Oper.uponIn_defer, hd2]
 refine hK2 _ _ (wpListIn_nil ?_)
 have b2 := b1.put (d := 9) (v := .any) (x := .func (.func g) #[] vs) hn9 (.any _ _) trivial
 have hset : set ρ2 9 .any = ρ2 := by
  funext s; rw [aO]; split
  ·rename_i e; rw [e, h29]
  rfl
 rw [hset] at b2
 have hdef1 : (a1.put o1.dst (.func (.func g) #[] vs)).defers = [] := by rw [d4]; exact k2
 show c2.wpIn (FR none) 0 P _ _ w1
 refine wpIn_mono (h2 none [{ target := .fn (.func g) vs, args := #[] }] I1 (b6 A1) _ w1 (by rw [hd1]; exact ⟨b2.osim, b2.size, b2.bound, b2.slot, b2.out⟩) (by show _ :: (a1.put o1.dst (.func (.func g) #[] vs)).defers = _; rw [hdef1])) ?_
 rintro e a2 w2 ⟨I2, A2, ρ', m1, m2, m3, O2, n1, n2, n6, n7, n8, n9, n10, n11, hcase⟩
 have hO2 : gK w2 I2 A1 O2 := m1.callee m3.outA k1.osim.inj n1
 have hE2 : eA w1 I1 A1 w2 I2 A1 := m3.callee
 have hE : eA w I (b6 A) w2 I2 A1 := k3.trans hE2
 have hhi : ∀ (Z : aS), hi Z = bT O → ∀ i, 100000 ≤ i → Z i = bT O i := fun Z hZ i hi' => by
  have := congrFun hZ i
  unfold Sg.hi at this
  rwa [if_neg (by omega)] at this
 have hout : ∀ (Z : aS), hi Z = bT O → ∀ i, 100000 ≤ i → cM (Z i) := fun Z hZ i hi' => by rw [hhi Z hZ i hi']; exact aBg O i hi'
 have h3hi : ∀ (Z : aS), hi Z = bT O → hi (mL Z) = bT O := fun Z hZ => by
  rw [← hZ]; funext i; unfold Sg.hi mL; split
  ·rfl
  rfl
 have hτ : b9 fn.ntmps w2 I2 A1 (mL O2) a2 := m1.above m3.outA k1.osim.inj n1 (fun i hi' => by
   unfold mL
   rw [if_pos hi']
   split
   ·rename_i h
    right
    rcases h with rfl | rfl | rfl
    ·exact ⟨_, n9, n9, n6⟩
    ·exact ⟨_, n10, n10, n7⟩
    exact ⟨_, n11, n11, n8⟩
   exact .inl rfl) (fun i hi' => by unfold mL; rw [if_neg (by omega)]) (hout O2 n2)
 have hinv : (invoke (.fn (.func g) vs) #[]).run P w2 = .ok (.enter g vs) w2 := by
  have hcf : (callFunc g vs).run P w2 = .ok (.enter g vs) w2 := by
   unfold aQ at hgh
   rw [hg] at hgh
   simp only [Bool.and_eq_true, Bool.not_eq_true'] at hgh
   have hn : fg.body.isNone = false := by rw [hgb]; rfl
   simp only [callFunc, Sem.run_bind, run_program, Result.andThen_ok, hg, hgh.2, hn, Bool.false_eq_true, if_false, Sem.run_pure]
  simp [invoke, hcf]
 have hsz : vs.size = 3 := by rw [← hvs]; rfl
 have hargs : ∀ (j : Nat) (d : DV) (u : Value), ([.bp 6 0, .bp 7 0, .bp 8 0] : List DV)[j]? = some d → vs[j]? = some u → bH w2 I2 A1 d u := fun j d u hd hu => by
  rw [← hvs] at hu
  match j, hd, hu with
  | 0, hd, hu => cases hd; cases hu; exact .bp _ _ _ g6 c6 p6
  | 1, hd, hu => cases hd; cases hu; exact .bp _ _ _ g7 c7 p7
  | 2, hd, hu => cases hd; cases hu; exact .bp _ _ _ g8 c8 p8
 have hstart : ∀ (x y : Value), b9 6 w2 I2 (b6 A1) (lA O2 [.bp 6 0, .bp 7 0, .bp 8 0]) ((({ tmps := vs ++ Array.replicate (6 - vs.size) undef, defers := [] } : Act).put (some 3) x).put (some 4) y) := fun x y => by
  have h := b9.enter (nt := 6) hO2 (args := [.bp 6 0, .bp 7 0, .bp 8 0]) (vals := vs) hsz (by decide) (by decide) hargs
  have h := (h.put (d := 3) (v := .any) (x := x) (by decide) (.any _ _) trivial).put (d := 4) (v := .any) (x := y) (by decide) (.any _ _) trivial
  have he : set (set (lA O2 [.bp 6 0, .bp 7 0, .bp 8 0]) 3 .any) 4 .any = lA O2 [.bp 6 0, .bp 7 0, .bp 8 0] := by
   funext s
   rw [aO, aO]
   split
   ·rename_i e; subst e; rfl
   split
   ·rename_i e; subst e; rfl
   rfl
  rwa [he] at h
 have hsz6 : (vs ++ Array.replicate (6 - vs.size) undef).size = 6 := by simp [hsz]
 have hev3 : ∀ x : Value, (({ tmps := vs ++ Array.replicate (6 - vs.size) undef, defers := [] } : Act).put (some 3) x).eval (.tmp 3) = x := fun x => by
  show ((vs ++ Array.replicate (6 - vs.size) undef).setIfInBounds 3 x).getD 3 undef = x
  simp only [Array.getD_eq_getD_getElem?, Array.getElem?_setIfInBounds, hsz6]; rfl
 have hev4 : ∀ x y : Value, ((({ tmps := vs ++ Array.replicate (6 - vs.size) undef, defers := [] } : Act).put (some 3) x).put (some 4) y).eval (.tmp 4) = y := fun x y => by
  show (((vs ++ Array.replicate (6 - vs.size) undef).setIfInBounds 3 x).setIfInBounds 4 y).getD 4 undef = y
  simp only [Array.getD_eq_getD_getElem?, Array.getElem?_setIfInBounds, Array.size_setIfInBounds, hsz6]; rfl
 have hres : ∀ (a : Act) (w : World), (results fg a.tmps).run P w = .ok (.tuple #[]) w := fun a w => by simp [results, hgr]
 rcases hcase with ⟨rfl, hr⟩ | ⟨⟨t, v, rfl⟩, l6, l7, l8, hr⟩
 ·show Leaves P fn a2.tmps _ a2.defers .returning w2
  rw [m2]
  refine leaves_cons (by simp) hinv ?_
  rw [hgn.symm] at hev3 hev4
  refine callsD_of_wpS hg hgb fun c₀ cs hu => wpS_seq ?_
  have hc0 : ({ c₀ with mode := .returning } : Frame) = c₀ := by rw [← hu]
  refine aHi hq0 hqg0 hqd0 hqg1 hqd1 (v := .nilIface) (cs' := c₀ :: cs) (b := .bool false) (.inr ⟨by simp [recoverD, hu], rfl, rfl⟩) (hN _ _ (hev3 _)) ?_
  refine wpS_cond (t := false) (hev4 _ _) (wpS_of_wp (wp_skip ?_))
  refine ⟨rfl, .returning, by rw [hc0], _, hres _ _, ?_⟩
  exact fin (w1 := w1) (I1 := I1) hτ hE (h3hi O2 n2) hr
 show Leaves P fn a2.tmps _ a2.defers (.panicking (aCt t v)) w2
 rw [m2]
 refine leaves_cons (by simp) hinv ?_
 refine callsD_of_wpS hg hgb fun c₀ cs hu => wpS_seq ?_
 rw [hgn]
 refine aHi hq0 hqg0 hqd0 hqg1 hqd1 (v := .iface t v) (cs' := { c₀ with mode := .panicking [{ v := .iface t v, recovered := true }] } :: cs) (b := .bool true) (.inl (by simp [recoverD, hu])) (hT _ _ t v (hev3 _)) ?_
 refine wpS_cond (t := true) (hev4 _ _) (wpS_of_wp ?_)
 refine wp_mono (wpIn_wide.1 (Go.Rv.qH ▸ hR O2 n9 n10 n11 none [] I2 (b6 A1) _ w2 (hstart _ _) rfl)) ?_
 rintro e a3 w3 ⟨I3, A3, ρ3, j1, j2, j3, rfl, j4⟩
 have hO3 : gK w3 I3 A1 (wX O2 y6 y7 y8) := j1.callee j3.outA k1.osim.inj j4
 have hE3 : eA w2 I2 A1 w3 I3 A1 := j3.callee
 have hhi3 : hi (wX O2 y6 y7 y8) = bT O := by
  rw [← n2]; funext i; unfold Sg.hi; split
  ·rfl
  exact aDb (by omega) (by omega) (by omega)
 have hO3' : gK w3 I3 A1 (mL (wX O2 y6 y7 y8)) := ⟨fun s => by
  unfold mL; split
  ·split
   ·exact hO3.own s
   trivial
  exact hO3.own s, hO3.inj, hO3.sep, hO3.imm⟩
 have hfr : ∀ s, dW (mL O2 s) (mL (wX O2 y6 y7 y8) s) := fun s => by
  unfold mL
  split
  ·split
   ·rename_i h
    rcases h with rfl | rfl | rfl
    ·rw [n9]; exact l6
    ·rw [n10]; exact l7
    rw [n11]; exact l8
   exact dW.refl _
  rw [aDb (by omega) (by omega) (by omega)]; exact dW.refl _
 have hio : ∀ s, cM (mL O2 s) → cM (mL (wX O2 y6 y7 y8) s) := fun s hs => by
  unfold mL at hs ⊢
  split
  ·split
   ·rename_i h
    rcases h with rfl | rfl | rfl
    ·exact hy6
    ·exact hy7
    exact hy8
   rfl
  rw [if_neg (by assumption)] at hs
  rw [aDb (by omega) (by omega) (by omega)]; exact hs
 have hτ3 : b9 fn.ntmps w3 I3 A1 (mL (wX O2 y6 y7 y8)) a2 := hτ.called hO3' hfr hio hE3
 refine ⟨j2, .panicking [{ v := .iface t v, recovered := true }], rfl, _, hres _ _, ?_⟩
 show Leaves P fn a2.tmps _ [] (settle (.panicking [{ v := .iface t v, recovered := true }])) w3
 exact fin (w1 := w1) (I1 := I1) hτ3 (hE.trans hE3) (h3hi _ hhi3) hr
end
end Go.Sg
