/- Contract of the program's Settings. Printed by genw.py. -/
import Derived.Test.YtnpokifaejcbeaaGreatDoorSgObl
import Derived.Test.YtnpokifaejcbeaaGreatDoorT10
import Derived.Test.YtnpokifaejcbeaaGreatDoorSgSort
import Derived.Test.YtnpokifaejcbeaaGreatDoorLay64
import Derived.Shelf.SlSortCmp.NoneTotal
set_option linter.unusedVariables false
set_option linter.unusedSimpArgs false
set_option maxRecDepth 8000
namespace Go.Sg
open Go.Proofs
def cmpI (a b : Int) : Int := if a < b then -1 else if b < a then 1 else 0
def orI : List Int → Int
  | [] => 0
  | x :: l => if x = 0 then orI l else x
abbrev encLS (ls : List (List Setting)) : DV := encL 1 (fun l => [encS l]) ls
abbrev rowS (l : List Setting) : DV := rowL 68 2 eSetting l
def stC (x y : Setting) : Int := orI [cmpI x.fEl y.fEl, cmpI x.fPos y.fPos]

def growRenS : Go.Shelf.Ren := ⟨fun | 4 => 104 | n => n, fun | 22 => 43 | 25 => 68 | n => n, fun | n => n⟩
theorem growLaysS : Go.Proofs.Lays8.n4 Tryz.prog growRenS := {
  mixed := by kernel_rfl
  f4 := ⟨Tryz.f104.name, by decide, Tryz.func104.trans (congrArg some (by kernel_rfl))⟩
  t0 := Tryz.underlying0
  a0 := Tryz.isAgg0
  z0 := Tryz.sizeOf0
  v0 := Tryz.zeroValue0
  t3 := Tryz.underlying3
  a3 := Tryz.isAgg3
  z3 := Tryz.sizeOf3
  v3 := Tryz.zeroValue3
  t4 := Tryz.underlying4
  a4 := Tryz.isAgg4
  z4 := Tryz.sizeOf4
  v4 := Tryz.zeroValue4
  t9 := Tryz.underlying9
  a9 := Tryz.isAgg9
  z9 := Tryz.sizeOf9
  v9 := Tryz.zeroValue9
  t20 := Tryz.underlying20
  a20 := Tryz.isAgg20
  z20 := Tryz.sizeOf20
  v20 := Tryz.zeroValue20
  t22 := Tryz.underlying43
  a22 := Tryz.isAgg43
  z22 := Tryz.sizeOf43
  v22 := Tryz.zeroValue43 }
theorem slices_Grow_Setting_ok (O : Env) (n : Nat) (hn : 0 < n) (hb : n ≤ 1000000) : PCall Tryz.prog O 104 [.v (.slice none 0 0), vi n] (rowL 68 2 eSetting []) :=
  pcall_grow growLaysS rfl rfl (show slE Tryz.prog 43 = some (68, 2, 16) by kernel_rfl) (show zcOf Tryz.prog 68 = some [.int .i64 0, .int .i64 0] by kernel_rfl) (by decide) rfl rfl O n hn (by omega) (by omega)
theorem slices_Grow_Setting_r (O : Env) (n : Nat) (hb : n ≤ 1000000) : PCall Tryz.prog O 104 [.v (.slice none 0 0), vi n] (rowL 68 2 eSetting []) := by
  rcases Nat.eq_zero_or_pos n with h | h
  · subst h; exact pcall_grow0 growLaysS rfl rfl O 68 2
  · exact slices_Grow_Setting_ok O n h hb

theorem slices_Concat_Setting_r (O : Env) (ls : List (List Setting)) (hb : ls.flatten.length ≤ 100000) : PCall Tryz.prog O 63 [encLS ls] (rowS ls.flatten) := by
  -- slices.Concat[[]signalling/api.Setting,signalling/api.Setting]
  refine pcall_has 0 rfl (.sl _ _ _) fun hl => ?_
  refine pcall_of_aw Tryz.func63 rfl (by kernel_rfl) ?_
  refine aw_seq fun K0 hK0 => ?_
  refine aw_reg [0] (by kernel_rfl) ?_
  simp (disch := omega) only [go_sem, ↓reduceIte, Nat.reduceEqDiff, Nat.reduceLT, Nat.reduceLeDiff, Nat.reduceAdd, Nat.reduceSub, Nat.reduceMul, reduceCtorEq, Int.reduceToNat, Int.reduceNeg, i64id]
  repeat refine And.intro obl ?_
  refine hK0 _ ?_; clear hK0
  refine aw_seq fun K1 hK1 => ?_
  refine aw_reg [0] (by kernel_rfl) ?_
  simp (disch := omega) only [go_sem, ↓reduceIte, Nat.reduceEqDiff, Nat.reduceLT, Nat.reduceLeDiff, Nat.reduceAdd, Nat.reduceSub, Nat.reduceMul, reduceCtorEq, Int.reduceToNat, Int.reduceNeg, i64id]
  repeat refine And.intro obl ?_
  refine hK1 _ ?_; clear hK1
  refine aw_seq fun K2 hK2 => ?_
  refine aw_seq fun K3 hK3 => ?_
  refine aw_reg [0, 3] (by kernel_rfl) ?_
  simp (disch := omega) only [go_sem, ↓reduceIte, Nat.reduceEqDiff, Nat.reduceLT, Nat.reduceLeDiff, Nat.reduceAdd, Nat.reduceSub, Nat.reduceMul, reduceCtorEq, Int.reduceToNat, Int.reduceNeg, i64id]
  repeat refine And.intro obl ?_
  refine hK3 _ ?_; clear hK3
  refine aw_block ?_
  refine aw_loopK [0, 3, 9, 10, 11] (fun n ρ => ∃ i, ∃ s, n = ls.length - i ∧ (i ≤ ls.length) ∧ (s + (ls.drop i).flatten.length = ls.flatten.length) ∧ ρ = mkE O [(0, encLS ls), (3, vi (s : Nat)), (9, encLS ls), (10, vi (ls.length : Nat)), (11, vi (i : Nat))]) _ ⟨0, 0, rfl, ?_, ?_, ?_⟩ ?_
  · exact dfl
  · simp
  · simp (disch := omega) only [go_sem, ↓reduceIte, Nat.reduceEqDiff, Nat.reduceLT, Nat.reduceLeDiff, Nat.reduceAdd, Nat.reduceSub, Nat.reduceMul, reduceCtorEq, Int.reduceToNat, Int.reduceNeg, i64id] <;> first | rfl | omega | simp | simp_all
  rintro n ρ ⟨i, s, rfl, l0_0, l0_1, rfl⟩ K4 hK4
  refine aw_seq fun K5 hK5 => ?_
  refine aw_reg [0, 3, 9, 10, 11] (by kernel_rfl) ?_
  simp (disch := omega) only [go_sem, ↓reduceIte, Nat.reduceEqDiff, Nat.reduceLT, Nat.reduceLeDiff, Nat.reduceAdd, Nat.reduceSub, Nat.reduceMul, reduceCtorEq, Int.reduceToNat, Int.reduceNeg, i64id]
  repeat refine And.intro obl ?_
  refine hK5 _ ?_; clear hK5
  refine aw_seq fun K6 hK6 => ?_
  refine aw_cond _ (by rfl) (rfl) (fun c0 => ?_) (fun c0 => ?_)
  · try simp only [push_cast] at c0
    refine aw_skip ?_
    refine hK6 _ ?_; clear hK6
    refine aw_seq fun K7 hK7 => ?_
    refine aw_block ?_
    refine aw_seq fun K8 hK8 => ?_
    refine aw_reg [0, 3, 9, 10, 11] (by kernel_rfl) ?_
    simp (disch := omega) only [go_sem, ↓reduceIte, Nat.reduceEqDiff, Nat.reduceLT, Nat.reduceLeDiff, Nat.reduceAdd, Nat.reduceSub, Nat.reduceMul, reduceCtorEq, Int.reduceToNat, Int.reduceNeg, i64id]
    repeat refine And.intro obl ?_
    refine hK8 _ ?_; clear hK8
    refine aw_seq fun K9 hK9 => ?_
    have hs : s + (ls.getD i default).length + (ls.drop (i + 1)).flatten.length = ls.flatten.length := by rw [← l0_1, dropD default c0, List.flatten_cons, List.length_append]; omega
    refine aw_reg [0, 3, 5, 9, 10, 11, 13] (by kernel_rfl) ?_
    simp (disch := omega) only [go_sem, ↓reduceIte, Nat.reduceEqDiff, Nat.reduceLT, Nat.reduceLeDiff, Nat.reduceAdd, Nat.reduceSub, Nat.reduceMul, reduceCtorEq, Int.reduceToNat, Int.reduceNeg, i64id]
    repeat refine And.intro obl ?_
    refine hK9 _ ?_; clear hK9
    refine aw_seq fun K10 hK10 => ?_
    refine aw_reg [0, 3, 9, 10, 11] (by kernel_rfl) ?_
    simp (disch := omega) only [go_sem, ↓reduceIte, Nat.reduceEqDiff, Nat.reduceLT, Nat.reduceLeDiff, Nat.reduceAdd, Nat.reduceSub, Nat.reduceMul, reduceCtorEq, Int.reduceToNat, Int.reduceNeg, i64id]
    repeat refine And.intro obl ?_
    refine hK10 _ ?_; clear hK10
    refine aw_cond _ (by rfl) (rfl) (fun c1 => ?_) (fun c1 => ?_)
    · try simp only [push_cast] at c1
      omega
    · try simp only [push_cast] at c1
      refine aw_skip ?_
      refine hK7 _ ?_; clear hK7
      refine aw_reg [0, 3, 9, 10, 11] (by kernel_rfl) ?_
      simp (disch := omega) only [go_sem, ↓reduceIte, Nat.reduceEqDiff, Nat.reduceLT, Nat.reduceLeDiff, Nat.reduceAdd, Nat.reduceSub, Nat.reduceMul, reduceCtorEq, Int.reduceToNat, Int.reduceNeg, i64id]
      repeat refine And.intro obl ?_
      refine hK4 _ _ ?_ ⟨i + 1, s + (ls.getD i default).length, rfl, ?_, ?_, ?_⟩
      · exact dfl
      · exact dfl
      · exact hs
      · simp (disch := omega) only [go_sem, ↓reduceIte, Nat.reduceEqDiff, Nat.reduceLT, Nat.reduceLeDiff, Nat.reduceAdd, Nat.reduceSub, Nat.reduceMul, reduceCtorEq, Int.reduceToNat, Int.reduceNeg, i64id] <;> first | rfl | omega | simp | simp_all
  · try simp only [push_cast] at c0
    refine aw_exit ?_
    refine hK2 _ ?_; clear hK2
    refine aw_seq fun K11 hK11 => ?_
    refine aw_reg [0, 3] (by kernel_rfl) ?_
    simp (disch := omega) only [go_sem, ↓reduceIte, Nat.reduceEqDiff, Nat.reduceLT, Nat.reduceLeDiff, Nat.reduceAdd, Nat.reduceSub, Nat.reduceMul, reduceCtorEq, Int.reduceToNat, Int.reduceNeg, i64id]
    repeat refine And.intro obl ?_
    refine callG_of _ (slices_Grow_Setting_r _ s (by omega)) ?_
    simp (disch := omega) only [go_sem, ↓reduceIte, Nat.reduceEqDiff, Nat.reduceLT, Nat.reduceLeDiff, Nat.reduceAdd, Nat.reduceSub, Nat.reduceMul, reduceCtorEq, Int.reduceToNat, Int.reduceNeg, i64id]
    repeat refine And.intro obl ?_
    refine hK11 _ ?_; clear hK11
    refine aw_seq fun K12 hK12 => ?_
    refine aw_seq fun K13 hK13 => ?_
    refine aw_reg [0, 6] (by kernel_rfl) ?_
    simp (disch := omega) only [go_sem, ↓reduceIte, Nat.reduceEqDiff, Nat.reduceLT, Nat.reduceLeDiff, Nat.reduceAdd, Nat.reduceSub, Nat.reduceMul, reduceCtorEq, Int.reduceToNat, Int.reduceNeg, i64id]
    repeat refine And.intro obl ?_
    refine hK13 _ ?_; clear hK13
    refine aw_block ?_
    refine aw_loopK [6, 25, 26, 27] (fun n ρ => ∃ j, ∃ out, n = ls.length - j ∧ (j ≤ ls.length) ∧ (out ++ (ls.drop j).flatten = ls.flatten) ∧ ρ = mkE O [(6, rowS out), (25, encLS ls), (26, vi (ls.length : Nat)), (27, vi (j : Nat))]) _ ⟨0, [], rfl, ?_, ?_, ?_⟩ ?_
    · exact dfl
    · rfl
    · simp (disch := omega) only [go_sem, ↓reduceIte, Nat.reduceEqDiff, Nat.reduceLT, Nat.reduceLeDiff, Nat.reduceAdd, Nat.reduceSub, Nat.reduceMul, reduceCtorEq, Int.reduceToNat, Int.reduceNeg, i64id] <;> first | rfl | omega | simp | simp_all
    rintro n ρ ⟨j, out, rfl, l1_0, l1_1, rfl⟩ K14 hK14
    refine aw_seq fun K15 hK15 => ?_
    refine aw_reg [0, 6, 25, 26, 27] (by kernel_rfl) ?_
    simp (disch := omega) only [go_sem, ↓reduceIte, Nat.reduceEqDiff, Nat.reduceLT, Nat.reduceLeDiff, Nat.reduceAdd, Nat.reduceSub, Nat.reduceMul, reduceCtorEq, Int.reduceToNat, Int.reduceNeg, i64id]
    repeat refine And.intro obl ?_
    refine hK15 _ ?_; clear hK15
    refine aw_seq fun K16 hK16 => ?_
    refine aw_cond _ (by rfl) (rfl) (fun c2 => ?_) (fun c2 => ?_)
    · try simp only [push_cast] at c2
      refine aw_skip ?_
      refine hK16 _ ?_; clear hK16
      refine aw_seq fun K17 hK17 => ?_
      refine aw_block ?_
      refine aw_seq fun K18 hK18 => ?_
      refine aw_reg [0, 6, 25, 26, 27] (by kernel_rfl) ?_
      simp (disch := omega) only [go_sem, ↓reduceIte, Nat.reduceEqDiff, Nat.reduceLT, Nat.reduceLeDiff, Nat.reduceAdd, Nat.reduceSub, Nat.reduceMul, reduceCtorEq, Int.reduceToNat, Int.reduceNeg, i64id]
      repeat refine And.intro obl ?_
      refine hK18 _ ?_; clear hK18
      have hs : (out ++ ls.getD j default).length ≤ ls.flatten.length := by rw [← l1_1, dropD default c2, List.flatten_cons, List.length_append, List.length_append, List.length_append]; omega
      rw [List.length_append] at hs
      refine aw_reg [0, 6, 8, 25, 26, 27, 29] (by kernel_rfl) ?_
      simp (disch := omega) only [go_sem, ↓reduceIte, Nat.reduceEqDiff, Nat.reduceLT, Nat.reduceLeDiff, Nat.reduceAdd, Nat.reduceSub, Nat.reduceMul, reduceCtorEq, Int.reduceToNat, Int.reduceNeg, i64id]
      repeat refine And.intro obl ?_
      refine hK17 _ ?_; clear hK17
      refine aw_reg [0, 6, 25, 26, 27] (by kernel_rfl) ?_
      simp (disch := omega) only [go_sem, ↓reduceIte, Nat.reduceEqDiff, Nat.reduceLT, Nat.reduceLeDiff, Nat.reduceAdd, Nat.reduceSub, Nat.reduceMul, reduceCtorEq, Int.reduceToNat, Int.reduceNeg, i64id]
      repeat refine And.intro obl ?_
      refine hK14 _ _ ?_ ⟨j + 1, out ++ ls.getD j default, rfl, ?_, ?_, ?_⟩
      · exact dfl
      · exact dfl
      · rw [← l1_1, dropD default c2, List.flatten_cons, List.append_assoc]
      · simp (disch := omega) only [go_sem, ↓reduceIte, Nat.reduceEqDiff, Nat.reduceLT, Nat.reduceLeDiff, Nat.reduceAdd, Nat.reduceSub, Nat.reduceMul, reduceCtorEq, Int.reduceToNat, Int.reduceNeg, i64id] <;> first | rfl | omega | simp | simp_all
    · try simp only [push_cast] at c2
      refine aw_exit ?_
      refine hK12 _ ?_; clear hK12
      refine aw_seq fun K19 hK19 => ?_
      refine aw_reg [6] (by kernel_rfl) ?_
      simp (disch := omega) only [go_sem, ↓reduceIte, Nat.reduceEqDiff, Nat.reduceLT, Nat.reduceLeDiff, Nat.reduceAdd, Nat.reduceSub, Nat.reduceMul, reduceCtorEq, Int.reduceToNat, Int.reduceNeg, i64id]
      repeat refine And.intro obl ?_
      refine hK19 _ ?_; clear hK19
      refine aw_ret ?_
      refine ret_tmp 2 rfl (by simp (disch := omega) only [go_sem, ↓reduceIte, Nat.reduceEqDiff, Nat.reduceLT, Nat.reduceLeDiff, Nat.reduceAdd, Nat.reduceSub, Nat.reduceMul, reduceCtorEq, Int.reduceToNat, Int.reduceNeg, i64id]) ?_
      exact Exp.ownL rfl (by omega) rfl rfl (by rw [← l1_1, dropE c2]; simp)

theorem cmp_isNaN_int_ok (O : Env) (a : Int) : PCall Tryz.prog O 107 [vi a] (vb false) := by
  -- cmp.isNaN[int]
  refine pcall_of_aw Tryz.func107 rfl (by kernel_rfl) ?_
  refine aw_seq fun K0 hK0 => ?_
  refine aw_reg [0] (by kernel_rfl) ?_
  simp (disch := omega) only [go_sem, ↓reduceIte, Nat.reduceEqDiff, Nat.reduceLT, Nat.reduceLeDiff, Nat.reduceAdd, Nat.reduceSub, Nat.reduceMul, reduceCtorEq, Int.reduceToNat, Int.reduceNeg]
  repeat refine And.intro obl ?_
  refine hK0 _ ?_; clear hK0
  refine aw_seq fun K1 hK1 => ?_
  refine aw_reg [0] (by kernel_rfl) ?_
  simp (disch := omega) only [go_sem, ↓reduceIte, Nat.reduceEqDiff, Nat.reduceLT, Nat.reduceLeDiff, Nat.reduceAdd, Nat.reduceSub, Nat.reduceMul, reduceCtorEq, Int.reduceToNat, Int.reduceNeg]
  repeat refine And.intro obl ?_
  refine hK1 _ ?_; clear hK1
  refine aw_ret ?_
  refine ret_tmp 2 rfl (by simp (disch := omega) only [go_sem, ↓reduceIte, Nat.reduceEqDiff, Nat.reduceLT, Nat.reduceLeDiff, Nat.reduceAdd, Nat.reduceSub, Nat.reduceMul, reduceCtorEq, Int.reduceToNat, Int.reduceNeg]) ?_
  exact Exp.is (by simp (disch := omega) only [go_sem, ↓reduceIte, Nat.reduceEqDiff, Nat.reduceLT, Nat.reduceLeDiff, Nat.reduceAdd, Nat.reduceSub, Nat.reduceMul, reduceCtorEq, Int.reduceToNat, Int.reduceNeg] <;> refine congrArg vb ?_ <;> (simp)) rfl rfl

theorem cmp_Compare_int_ok (O : Env) (a b : Int) : PCall Tryz.prog O 67 [vi a, vi b] (vi (cmpI a b)) := by
  -- cmp.Compare[int]
  refine pcall_of_aw Tryz.func67 rfl (by kernel_rfl) ?_
  refine aw_seq fun K0 hK0 => ?_
  refine aw_reg [0, 1] (by kernel_rfl) ?_
  simp (disch := omega) only [go_sem, ↓reduceIte, Nat.reduceEqDiff, Nat.reduceLT, Nat.reduceLeDiff, Nat.reduceAdd, Nat.reduceSub, Nat.reduceMul, reduceCtorEq, Int.reduceToNat, Int.reduceNeg]
  repeat refine And.intro obl ?_
  refine hK0 _ ?_; clear hK0
  refine aw_seq fun K1 hK1 => ?_
  refine aw_reg [0, 1] (by kernel_rfl) ?_
  simp (disch := omega) only [go_sem, ↓reduceIte, Nat.reduceEqDiff, Nat.reduceLT, Nat.reduceLeDiff, Nat.reduceAdd, Nat.reduceSub, Nat.reduceMul, reduceCtorEq, Int.reduceToNat, Int.reduceNeg]
  repeat refine And.intro obl ?_
  refine callG_of _ (cmp_isNaN_int_ok _ _) ?_
  simp (disch := omega) only [go_sem, ↓reduceIte, Nat.reduceEqDiff, Nat.reduceLT, Nat.reduceLeDiff, Nat.reduceAdd, Nat.reduceSub, Nat.reduceMul, reduceCtorEq, Int.reduceToNat, Int.reduceNeg]
  repeat refine And.intro obl ?_
  refine hK1 _ ?_; clear hK1
  refine aw_seq fun K2 hK2 => ?_
  refine aw_reg [0, 1, 5] (by kernel_rfl) ?_
  simp (disch := omega) only [go_sem, ↓reduceIte, Nat.reduceEqDiff, Nat.reduceLT, Nat.reduceLeDiff, Nat.reduceAdd, Nat.reduceSub, Nat.reduceMul, reduceCtorEq, Int.reduceToNat, Int.reduceNeg]
  repeat refine And.intro obl ?_
  refine callG_of _ (cmp_isNaN_int_ok _ _) ?_
  simp (disch := omega) only [go_sem, ↓reduceIte, Nat.reduceEqDiff, Nat.reduceLT, Nat.reduceLeDiff, Nat.reduceAdd, Nat.reduceSub, Nat.reduceMul, reduceCtorEq, Int.reduceToNat, Int.reduceNeg]
  repeat refine And.intro obl ?_
  refine hK2 _ ?_; clear hK2
  refine aw_seq fun K3 hK3 => ?_
  refine aw_seq fun K4 hK4 => ?_
  refine aw_reg [0, 1, 5, 6] (by kernel_rfl) ?_
  simp (disch := omega) only [go_sem, ↓reduceIte, Nat.reduceEqDiff, Nat.reduceLT, Nat.reduceLeDiff, Nat.reduceAdd, Nat.reduceSub, Nat.reduceMul, reduceCtorEq, Int.reduceToNat, Int.reduceNeg]
  repeat refine And.intro obl ?_
  refine hK4 _ ?_; clear hK4
  refine aw_cond false (by rfl) (rfl) (fun h => by cases h) (fun _ => ?_)
  refine aw_skip ?_
  refine hK3 _ ?_; clear hK3
  refine aw_seq fun K5 hK5 => ?_
  refine aw_seq fun K6 hK6 => ?_
  refine aw_reg [0, 1, 6] (by kernel_rfl) ?_
  simp (disch := omega) only [go_sem, ↓reduceIte, Nat.reduceEqDiff, Nat.reduceLT, Nat.reduceLeDiff, Nat.reduceAdd, Nat.reduceSub, Nat.reduceMul, reduceCtorEq, Int.reduceToNat, Int.reduceNeg]
  repeat refine And.intro obl ?_
  refine hK6 _ ?_; clear hK6
  refine aw_cond false (by rfl) (rfl) (fun h => by cases h) (fun _ => ?_)
  refine aw_skip ?_
  refine hK5 _ ?_; clear hK5
  refine aw_seq fun K7 hK7 => ?_
  refine aw_seq fun K8 hK8 => ?_
  refine aw_reg [0, 1] (by kernel_rfl) ?_
  simp (disch := omega) only [go_sem, ↓reduceIte, Nat.reduceEqDiff, Nat.reduceLT, Nat.reduceLeDiff, Nat.reduceAdd, Nat.reduceSub, Nat.reduceMul, reduceCtorEq, Int.reduceToNat, Int.reduceNeg]
  repeat refine And.intro obl ?_
  refine hK8 _ ?_; clear hK8
  refine aw_cond _ (by rfl) (rfl) (fun c2 => ?_) (fun c2 => ?_)
  · try simp only [push_cast] at c2
    refine aw_seq fun K9 hK9 => ?_
    refine aw_reg [] (by kernel_rfl) ?_
    simp (disch := omega) only [go_sem, ↓reduceIte, Nat.reduceEqDiff, Nat.reduceLT, Nat.reduceLeDiff, Nat.reduceAdd, Nat.reduceSub, Nat.reduceMul, reduceCtorEq, Int.reduceToNat, Int.reduceNeg]
    repeat refine And.intro obl ?_
    refine hK9 _ ?_; clear hK9
    refine aw_ret ?_
    refine ret_tmp 4 rfl (by simp (disch := omega) only [go_sem, ↓reduceIte, Nat.reduceEqDiff, Nat.reduceLT, Nat.reduceLeDiff, Nat.reduceAdd, Nat.reduceSub, Nat.reduceMul, reduceCtorEq, Int.reduceToNat, Int.reduceNeg]) ?_
    exact Exp.is (by simp (disch := omega) only [go_sem, ↓reduceIte, Nat.reduceEqDiff, Nat.reduceLT, Nat.reduceLeDiff, Nat.reduceAdd, Nat.reduceSub, Nat.reduceMul, reduceCtorEq, Int.reduceToNat, Int.reduceNeg] <;> (simp only [cmpI]; split <;> first | rfl | (split <;> first | rfl | omega) | omega)) rfl rfl
  · try simp only [push_cast] at c2
    refine aw_skip ?_
    refine hK7 _ ?_; clear hK7
    refine aw_seq fun K10 hK10 => ?_
    refine aw_seq fun K11 hK11 => ?_
    refine aw_reg [0, 1] (by kernel_rfl) ?_
    simp (disch := omega) only [go_sem, ↓reduceIte, Nat.reduceEqDiff, Nat.reduceLT, Nat.reduceLeDiff, Nat.reduceAdd, Nat.reduceSub, Nat.reduceMul, reduceCtorEq, Int.reduceToNat, Int.reduceNeg]
    repeat refine And.intro obl ?_
    refine hK11 _ ?_; clear hK11
    refine aw_cond _ (by rfl) (rfl) (fun c3 => ?_) (fun c3 => ?_)
    · try simp only [push_cast] at c3
      refine aw_seq fun K12 hK12 => ?_
      refine aw_reg [] (by kernel_rfl) ?_
      simp (disch := omega) only [go_sem, ↓reduceIte, Nat.reduceEqDiff, Nat.reduceLT, Nat.reduceLeDiff, Nat.reduceAdd, Nat.reduceSub, Nat.reduceMul, reduceCtorEq, Int.reduceToNat, Int.reduceNeg]
      repeat refine And.intro obl ?_
      refine hK12 _ ?_; clear hK12
      refine aw_ret ?_
      refine ret_tmp 4 rfl (by simp (disch := omega) only [go_sem, ↓reduceIte, Nat.reduceEqDiff, Nat.reduceLT, Nat.reduceLeDiff, Nat.reduceAdd, Nat.reduceSub, Nat.reduceMul, reduceCtorEq, Int.reduceToNat, Int.reduceNeg]) ?_
      exact Exp.is (by simp (disch := omega) only [go_sem, ↓reduceIte, Nat.reduceEqDiff, Nat.reduceLT, Nat.reduceLeDiff, Nat.reduceAdd, Nat.reduceSub, Nat.reduceMul, reduceCtorEq, Int.reduceToNat, Int.reduceNeg] <;> (simp only [cmpI]; split <;> first | rfl | (split <;> first | rfl | omega) | omega)) rfl rfl
    · try simp only [push_cast] at c3
      refine aw_skip ?_
      refine hK10 _ ?_; clear hK10
      refine aw_seq fun K13 hK13 => ?_
      refine aw_reg [] (by kernel_rfl) ?_
      simp (disch := omega) only [go_sem, ↓reduceIte, Nat.reduceEqDiff, Nat.reduceLT, Nat.reduceLeDiff, Nat.reduceAdd, Nat.reduceSub, Nat.reduceMul, reduceCtorEq, Int.reduceToNat, Int.reduceNeg]
      repeat refine And.intro obl ?_
      refine hK13 _ ?_; clear hK13
      refine aw_ret ?_
      refine ret_tmp 4 rfl (by simp (disch := omega) only [go_sem, ↓reduceIte, Nat.reduceEqDiff, Nat.reduceLT, Nat.reduceLeDiff, Nat.reduceAdd, Nat.reduceSub, Nat.reduceMul, reduceCtorEq, Int.reduceToNat, Int.reduceNeg]) ?_
      exact Exp.is (by simp (disch := omega) only [go_sem, ↓reduceIte, Nat.reduceEqDiff, Nat.reduceLT, Nat.reduceLeDiff, Nat.reduceAdd, Nat.reduceSub, Nat.reduceMul, reduceCtorEq, Int.reduceToNat, Int.reduceNeg] <;> (simp only [cmpI]; split <;> first | rfl | (split <;> first | rfl | omega) | omega)) rfl rfl

theorem cmp_Or_int_ok (O : Env) (l : List Int) : PCall Tryz.prog O 66 [encI l] (vi (orI l)) := by
  -- cmp.Or[int]
  refine pcall_has 0 rfl (.sl _ _ _) fun hl => ?_
  refine pcall_of_aw Tryz.func66 rfl (by kernel_rfl) ?_
  refine aw_seq fun K0 hK0 => ?_
  refine aw_reg [0] (by kernel_rfl) ?_
  simp (disch := omega) only [go_sem, ↓reduceIte, Nat.reduceEqDiff, Nat.reduceLT, Nat.reduceLeDiff, Nat.reduceAdd, Nat.reduceSub, Nat.reduceMul, reduceCtorEq, Int.reduceToNat, Int.reduceNeg]
  repeat refine And.intro obl ?_
  refine hK0 _ ?_; clear hK0
  refine aw_seq fun K1 hK1 => ?_
  refine aw_reg [0] (by kernel_rfl) ?_
  simp (disch := omega) only [go_sem, ↓reduceIte, Nat.reduceEqDiff, Nat.reduceLT, Nat.reduceLeDiff, Nat.reduceAdd, Nat.reduceSub, Nat.reduceMul, reduceCtorEq, Int.reduceToNat, Int.reduceNeg]
  repeat refine And.intro obl ?_
  refine hK1 _ ?_; clear hK1
  refine aw_seq fun K2 hK2 => ?_
  refine aw_seq fun K3 hK3 => ?_
  refine aw_reg [0, 3] (by kernel_rfl) ?_
  simp (disch := omega) only [go_sem, ↓reduceIte, Nat.reduceEqDiff, Nat.reduceLT, Nat.reduceLeDiff, Nat.reduceAdd, Nat.reduceSub, Nat.reduceMul, reduceCtorEq, Int.reduceToNat, Int.reduceNeg]
  repeat refine And.intro obl ?_
  refine hK3 _ ?_; clear hK3
  refine aw_block ?_
  refine aw_loopK [3, 6, 7, 8] (fun n ρ => ∃ i, n = l.length - i ∧ (i ≤ l.length) ∧ (orI l = orI (l.drop i)) ∧ ρ = mkE O [(3, vi 0), (6, encI l), (7, vi (l.length : Nat)), (8, vi (i : Nat))]) _ ⟨0, rfl, ?_, ?_, ?_⟩ ?_
  · exact dfl
  · rfl
  · simp (disch := omega) only [go_sem, ↓reduceIte, Nat.reduceEqDiff, Nat.reduceLT, Nat.reduceLeDiff, Nat.reduceAdd, Nat.reduceSub, Nat.reduceMul, reduceCtorEq, Int.reduceToNat, Int.reduceNeg] <;> first | rfl | omega | simp | simp_all
  rintro n ρ ⟨i, rfl, l0_0, l0_1, rfl⟩ K4 hK4
  refine aw_seq fun K5 hK5 => ?_
  refine aw_reg [0, 3, 6, 7, 8] (by kernel_rfl) ?_
  simp (disch := omega) only [go_sem, ↓reduceIte, Nat.reduceEqDiff, Nat.reduceLT, Nat.reduceLeDiff, Nat.reduceAdd, Nat.reduceSub, Nat.reduceMul, reduceCtorEq, Int.reduceToNat, Int.reduceNeg]
  repeat refine And.intro obl ?_
  refine hK5 _ ?_; clear hK5
  refine aw_seq fun K6 hK6 => ?_
  refine aw_cond _ (by rfl) (rfl) (fun c0 => ?_) (fun c0 => ?_)
  · try simp only [push_cast] at c0
    refine aw_skip ?_
    refine hK6 _ ?_; clear hK6
    refine aw_seq fun K7 hK7 => ?_
    refine aw_block ?_
    refine aw_seq fun K8 hK8 => ?_
    refine aw_reg [0, 3, 6, 7, 8] (by kernel_rfl) ?_
    simp (disch := omega) only [go_sem, ↓reduceIte, Nat.reduceEqDiff, Nat.reduceLT, Nat.reduceLeDiff, Nat.reduceAdd, Nat.reduceSub, Nat.reduceMul, reduceCtorEq, Int.reduceToNat, Int.reduceNeg]
    repeat refine And.intro obl ?_
    refine hK8 _ ?_; clear hK8
    refine aw_seq fun K9 hK9 => ?_
    refine aw_reg [0, 3, 5, 6, 7, 8] (by kernel_rfl) ?_
    simp (disch := omega) only [go_sem, ↓reduceIte, Nat.reduceEqDiff, Nat.reduceLT, Nat.reduceLeDiff, Nat.reduceAdd, Nat.reduceSub, Nat.reduceMul, reduceCtorEq, Int.reduceToNat, Int.reduceNeg]
    repeat refine And.intro obl ?_
    refine hK9 _ ?_; clear hK9
    refine aw_cond _ (by rfl) (rfl) (fun c1 => ?_) (fun c1 => ?_)
    · try simp only [push_cast] at c1
      refine aw_seq fun K10 hK10 => ?_
      refine aw_reg [5] (by kernel_rfl) ?_
      simp (disch := omega) only [go_sem, ↓reduceIte, Nat.reduceEqDiff, Nat.reduceLT, Nat.reduceLeDiff, Nat.reduceAdd, Nat.reduceSub, Nat.reduceMul, reduceCtorEq, Int.reduceToNat, Int.reduceNeg]
      repeat refine And.intro obl ?_
      refine hK10 _ ?_; clear hK10
      refine aw_ret ?_
      refine ret_tmp 2 rfl (by simp (disch := omega) only [go_sem, ↓reduceIte, Nat.reduceEqDiff, Nat.reduceLT, Nat.reduceLeDiff, Nat.reduceAdd, Nat.reduceSub, Nat.reduceMul, reduceCtorEq, Int.reduceToNat, Int.reduceNeg]) ?_
      exact Exp.is (by simp (disch := omega) only [go_sem, ↓reduceIte, Nat.reduceEqDiff, Nat.reduceLT, Nat.reduceLeDiff, Nat.reduceAdd, Nat.reduceSub, Nat.reduceMul, reduceCtorEq, Int.reduceToNat, Int.reduceNeg] <;> (rw [l0_1, dropD default c0, orI, if_neg c1])) rfl rfl
    · try simp only [push_cast] at c1
      refine aw_skip ?_
      refine hK7 _ ?_; clear hK7
      refine aw_reg [0, 3, 6, 7, 8] (by kernel_rfl) ?_
      simp (disch := omega) only [go_sem, ↓reduceIte, Nat.reduceEqDiff, Nat.reduceLT, Nat.reduceLeDiff, Nat.reduceAdd, Nat.reduceSub, Nat.reduceMul, reduceCtorEq, Int.reduceToNat, Int.reduceNeg]
      repeat refine And.intro obl ?_
      refine hK4 _ _ ?_ ⟨i + 1, rfl, ?_, ?_, ?_⟩
      · exact dfl
      · exact dfl
      · rw [l0_1, dropD default c0, orI, if_pos c1]
      · simp (disch := omega) only [go_sem, ↓reduceIte, Nat.reduceEqDiff, Nat.reduceLT, Nat.reduceLeDiff, Nat.reduceAdd, Nat.reduceSub, Nat.reduceMul, reduceCtorEq, Int.reduceToNat, Int.reduceNeg] <;> first | rfl | omega | simp | simp_all
  · try simp only [push_cast] at c0
    refine aw_exit ?_
    refine hK2 _ ?_; clear hK2
    refine aw_seq fun K11 hK11 => ?_
    refine aw_reg [3] (by kernel_rfl) ?_
    simp (disch := omega) only [go_sem, ↓reduceIte, Nat.reduceEqDiff, Nat.reduceLT, Nat.reduceLeDiff, Nat.reduceAdd, Nat.reduceSub, Nat.reduceMul, reduceCtorEq, Int.reduceToNat, Int.reduceNeg]
    repeat refine And.intro obl ?_
    refine hK11 _ ?_; clear hK11
    refine aw_ret ?_
    refine ret_tmp 2 rfl (by simp (disch := omega) only [go_sem, ↓reduceIte, Nat.reduceEqDiff, Nat.reduceLT, Nat.reduceLeDiff, Nat.reduceAdd, Nat.reduceSub, Nat.reduceMul, reduceCtorEq, Int.reduceToNat, Int.reduceNeg]) ?_
    exact Exp.is (by simp (disch := omega) only [go_sem, ↓reduceIte, Nat.reduceEqDiff, Nat.reduceLT, Nat.reduceLeDiff, Nat.reduceAdd, Nat.reduceSub, Nat.reduceMul, reduceCtorEq, Int.reduceToNat, Int.reduceNeg] <;> (rw [l0_1, dropE c0]; rfl)) rfl rfl

theorem table_Settings_1_ok (O : Env) (x y : Setting) : PCall Tryz.prog O 65 [.agg (eSetting x), .agg (eSetting y)] (vi (stC x y)) := by
  -- signalling/table.Settings$1
  refine pcall_of_aw Tryz.func65 rfl (by kernel_rfl) ?_
  refine aw_seq fun K0 hK0 => ?_
  refine aw_reg [0, 1] (by kernel_rfl) ?_
  simp (disch := omega) only [go_sem, ↓reduceIte, Nat.reduceEqDiff, Nat.reduceLT, Nat.reduceLeDiff, Nat.reduceAdd, Nat.reduceSub, Nat.reduceMul, reduceCtorEq, Int.reduceToNat, Int.reduceNeg]
  repeat refine And.intro obl ?_
  refine hK0 _ ?_; clear hK0
  refine aw_seq fun K1 hK1 => ?_
  refine aw_regDc [2, 3] [] mixed (by kernel_rfl) ?_
  simp (disch := omega) only [go_sem, ↓reduceIte, Nat.reduceEqDiff, Nat.reduceLT, Nat.reduceLeDiff, Nat.reduceAdd, Nat.reduceSub, Nat.reduceMul, reduceCtorEq, Int.reduceToNat, Int.reduceNeg]
  repeat refine And.intro obl ?_
  refine callD_to (cmp_Compare_int_ok _ x.fEl y.fEl) ?_ ?_
  · rfl
  simp (disch := omega) only [go_sem, ↓reduceIte, Nat.reduceEqDiff, Nat.reduceLT, Nat.reduceLeDiff, Nat.reduceAdd, Nat.reduceSub, Nat.reduceMul, reduceCtorEq, Int.reduceToNat, Int.reduceNeg]
  repeat refine And.intro obl ?_
  refine callD_to (cmp_Compare_int_ok _ x.fPos y.fPos) ?_ ?_
  · rfl
  simp (disch := omega) only [go_sem, ↓reduceIte, Nat.reduceEqDiff, Nat.reduceLT, Nat.reduceLeDiff, Nat.reduceAdd, Nat.reduceSub, Nat.reduceMul, reduceCtorEq, Int.reduceToNat, Int.reduceNeg]
  repeat refine And.intro obl ?_
  refine callD_to (pcall_args [encI [cmpI x.fEl y.fEl, cmpI x.fPos y.fPos]] (.cons (RWk.litL [cmpI x.fEl y.fEl, cmpI x.fPos y.fPos] rfl rfl) .nil) (cmp_Or_int_ok _ [cmpI x.fEl y.fEl, cmpI x.fPos y.fPos])) ?_ ?_
  · rfl
  simp (disch := omega) only [go_sem, ↓reduceIte, Nat.reduceEqDiff, Nat.reduceLT, Nat.reduceLeDiff, Nat.reduceAdd, Nat.reduceSub, Nat.reduceMul, reduceCtorEq, Int.reduceToNat, Int.reduceNeg]
  repeat refine And.intro obl ?_
  refine hK1 _ ?_; clear hK1
  refine aw_ret ?_
  refine ret_tmp 4 rfl (by simp (disch := omega) only [go_sem, ↓reduceIte, Nat.reduceEqDiff, Nat.reduceLT, Nat.reduceLeDiff, Nat.reduceAdd, Nat.reduceSub, Nat.reduceMul, reduceCtorEq, Int.reduceToNat, Int.reduceNeg]) ?_
  exact Exp.is (by simp (disch := omega) only [go_sem, ↓reduceIte, Nat.reduceEqDiff, Nat.reduceLT, Nat.reduceLeDiff, Nat.reduceAdd, Nat.reduceSub, Nat.reduceMul, reduceCtorEq, Int.reduceToNat, Int.reduceNeg] <;> (rfl)) rfl rfl

theorem cmpI_0 (a b : Int) : cmpI a b = 0 ↔ a = b := by unfold cmpI; split; omega; split <;> omega
theorem cmpI_n (a b : Int) : cmpI a b < 0 ↔ a < b := by unfold cmpI; split; omega; split <;> omega
theorem stC_lt : ltOf stC = sLt := by
  funext x y
  rw [Bool.eq_iff_iff, sLt_iff]
  unfold ltOf stC
  rw [decide_eq_true_eq, orI, orI, orI]
  have h1 := cmpI_0 x.fEl y.fEl
  have h2 := cmpI_n x.fEl y.fEl
  have h3 := cmpI_0 x.fPos y.fPos
  have h4 := cmpI_n x.fPos y.fPos
  split
  · split <;> omega
  · omega
theorem swoS : Go.Sort.SWO (ltOf stC) := by
  rw [stC_lt]
  refine ⟨sLt_irr, fun x y z h k => sLt_tr h k, fun x y z h k => ?_⟩
  rw [← Bool.not_eq_true, sLt_iff] at *
  omega
theorem sortS (O : Env) (s : Nat) (l : List Setting) (hs : O s = rowS l) (hb : l.length ≤ 100000) : ECall Tryz.prog O 64 [.own s l.length, .fn 65 [] []] fun O' x => O' = set O s (rowS (msS l)) ∧ x = .tup [] :=
  ecall_sortK (enc := fun x => [.int .i64 x.fEl, .int .i64 x.fPos]) (cf := stC) (fun _ => rfl) (fun _ => rfl) (by decide) (fun x v hv => by simp at hv; rcases hv with rfl | rfl <;> rfl) hs (msS_len l)
    (fun _ b c w => AnyF.slices_SortFunc_none Tryz.sort64 b c _ w)
    (fun w blk c hH hblk hc => by
      have := AnyQ.slices_SortFunc_total Tryz.sort64 2 Tryz.isAgg68 Tryz.sizeOf68 (fun x : Setting => [.int .i64 x.fEl, .int .i64 x.fPos]) (fun _ => rfl) (fun x v hv => by simp at hv; rcases hv with rfl | rfl <;> rfl) stC swoS 65 #[] blk 0 c l.toArray w
        (enters_of Tryz.func65 (by kernel_rfl) rfl) (by simpa using hc) hH hblk (by simp; omega) (fun x y h k => by rw [stC_lt] at h k; exact sLt_tri h k)
      rw [stC_lt] at this
      change Calls Tryz.prog 64 _ _ _ at this
      simpa [msS] using this)
    (fun x y => table_Settings_1_ok _ x y)

set_option maxHeartbeats 2000000 in
theorem table_Settings_ok (O : Env) (r : Route) (hb : (sgsR r).length ≤ 240) : PCall Tryz.prog O 30 [.agg (eRoute r)] (encS (srtS (sgsR r))) := by
  -- signalling/table.Settings
  have hm := msS_len (sgsR r)
  have hfl : [r.fPoints, r.fOverPoints, r.fFlank].flatten = (sgsR r) := by simp [sgsR]
  refine pcall_of_aw Tryz.func30 rfl (by kernel_rfl) ?_
  refine aw_seq fun K0 hK0 => ?_
  refine aw_reg [0] (by kernel_rfl) ?_
  simp (disch := omega) only [go_sem, ↓reduceIte, Nat.reduceEqDiff, Nat.reduceLT, Nat.reduceLeDiff, Nat.reduceAdd, Nat.reduceSub, Nat.reduceMul, reduceCtorEq, Int.reduceToNat, Int.reduceNeg]
  repeat refine And.intro obl ?_
  refine hK0 _ ?_; clear hK0
  refine aw_seq fun K1 hK1 => ?_
  refine aw_reg [1] (by kernel_rfl) ?_
  simp (disch := omega) only [go_sem, ↓reduceIte, Nat.reduceEqDiff, Nat.reduceLT, Nat.reduceLeDiff, Nat.reduceAdd, Nat.reduceSub, Nat.reduceMul, reduceCtorEq, Int.reduceToNat, Int.reduceNeg]
  repeat refine And.intro obl ?_
  refine callG_of _ (pcall_args [encLS [r.fPoints, r.fOverPoints, r.fFlank]] (.cons (RWk.litL [r.fPoints, r.fOverPoints, r.fFlank] rfl rfl) .nil) (by rw [← hfl]; exact slices_Concat_Setting_r _ [r.fPoints, r.fOverPoints, r.fFlank] (by rw [hfl]; omega) : PCall Tryz.prog _ 63 [encLS [r.fPoints, r.fOverPoints, r.fFlank]] (rowS (sgsR r)))) ?_
  simp (disch := omega) only [go_sem, ↓reduceIte, Nat.reduceEqDiff, Nat.reduceLT, Nat.reduceLeDiff, Nat.reduceAdd, Nat.reduceSub, Nat.reduceMul, reduceCtorEq, Int.reduceToNat, Int.reduceNeg]
  repeat refine And.intro obl ?_
  refine hK1 _ ?_; clear hK1
  refine aw_seq fun K2 hK2 => ?_
  refine aw_reg [3] (by kernel_rfl) ?_
  simp (disch := omega) only [go_sem, ↓reduceIte, Nat.reduceEqDiff, Nat.reduceLT, Nat.reduceLeDiff, Nat.reduceAdd, Nat.reduceSub, Nat.reduceMul, reduceCtorEq, Int.reduceToNat, Int.reduceNeg]
  repeat refine And.intro obl ?_
  refine ⟨_, sortS _ 3 (sgsR r) rfl (by omega), ?_⟩; rintro O1 r1 ⟨rfl, rfl⟩
  simp (disch := omega) only [go_sem, ↓reduceIte, Nat.reduceEqDiff, Nat.reduceLT, Nat.reduceLeDiff, Nat.reduceAdd, Nat.reduceSub, Nat.reduceMul, reduceCtorEq, Int.reduceToNat, Int.reduceNeg]
  repeat refine And.intro obl ?_
  refine hK2 _ ?_; clear hK2
  refine aw_seq fun K3 hK3 => ?_
  refine aw_reg [3] (by kernel_rfl) ?_
  simp (disch := omega) only [go_sem, ↓reduceIte, Nat.reduceEqDiff, Nat.reduceLT, Nat.reduceLeDiff, Nat.reduceAdd, Nat.reduceSub, Nat.reduceMul, reduceCtorEq, Int.reduceToNat, Int.reduceNeg]
  repeat refine And.intro obl ?_
  refine hK3 _ ?_; clear hK3
  refine aw_seq fun K4 hK4 => ?_
  refine aw_seq fun K5 hK5 => ?_
  refine aw_frzL 3 (msS (sgsR r)) rfl rfl ?_
  refine aw_nilR 4 68 2 eSetting rfl rfl ?_
  refine aw_reg [3, 4] (by kernel_rfl) ?_
  simp (disch := omega) only [go_sem, ↓reduceIte, Nat.reduceEqDiff, Nat.reduceLT, Nat.reduceLeDiff, Nat.reduceAdd, Nat.reduceSub, Nat.reduceMul, reduceCtorEq, Int.reduceToNat, Int.reduceNeg]
  repeat refine And.intro obl ?_
  refine hK5 _ ?_; clear hK5
  refine aw_block ?_
  refine aw_loopK [3, 4, 17, 18, 19] (fun n ρ => ∃ i, n = (msS (sgsR r)).length - i ∧ (i ≤ (msS (sgsR r)).length) ∧ ρ = mkE O [(3, encS (msS (sgsR r))), (4, rowS (ddS (msS (sgsR r)) i)), (17, encS (msS (sgsR r))), (18, vi ((msS (sgsR r)).length : Nat)), (19, vi (i : Nat))]) _ ⟨0, rfl, ?_, ?_⟩ ?_
  · exact dfl
  · simp (disch := omega) only [go_sem, ↓reduceIte, Nat.reduceEqDiff, Nat.reduceLT, Nat.reduceLeDiff, Nat.reduceAdd, Nat.reduceSub, Nat.reduceMul, reduceCtorEq, Int.reduceToNat, Int.reduceNeg] <;> first | rfl | omega | simp | simp_all
  rintro n ρ ⟨i, rfl, l0_0, rfl⟩ K6 hK6
  have hdl := ddS_len (msS (sgsR r)) i
  refine aw_seq fun K7 hK7 => ?_
  refine aw_reg [3, 4, 17, 18, 19] (by kernel_rfl) ?_
  simp (disch := omega) only [go_sem, ↓reduceIte, Nat.reduceEqDiff, Nat.reduceLT, Nat.reduceLeDiff, Nat.reduceAdd, Nat.reduceSub, Nat.reduceMul, reduceCtorEq, Int.reduceToNat, Int.reduceNeg]
  repeat refine And.intro obl ?_
  refine hK7 _ ?_; clear hK7
  refine aw_seq fun K8 hK8 => ?_
  refine aw_cond _ (by rfl) (rfl) (fun c0 => ?_) (fun c0 => ?_)
  · try simp only [push_cast] at c0
    refine aw_skip ?_
    refine hK8 _ ?_; clear hK8
    refine aw_seq fun K9 hK9 => ?_
    refine aw_block ?_
    refine aw_seq fun K10 hK10 => ?_
    refine aw_reg [3, 4, 17, 18, 19] (by kernel_rfl) ?_
    simp (disch := omega) only [go_sem, ↓reduceIte, Nat.reduceEqDiff, Nat.reduceLT, Nat.reduceLeDiff, Nat.reduceAdd, Nat.reduceSub, Nat.reduceMul, reduceCtorEq, Int.reduceToNat, Int.reduceNeg]
    repeat refine And.intro obl ?_
    refine hK10 _ ?_; clear hK10
    refine aw_seq fun K11 hK11 => ?_
    refine aw_regDc [3, 4, 5, 6, 17, 18, 19] [] mixed (by kernel_rfl) ?_
    simp (disch := omega) only [go_sem, ↓reduceIte, Nat.reduceEqDiff, Nat.reduceLT, Nat.reduceLeDiff, Nat.reduceAdd, Nat.reduceSub, Nat.reduceMul, reduceCtorEq, Int.reduceToNat, Int.reduceNeg]
    repeat refine And.intro obl ?_
    refine hK11 _ ?_; clear hK11
    refine aw_cond _ (by rfl) (rfl) (fun c1 => ?_) (fun c1 => ?_)
    · try simp only [push_cast] at c1
      have hc : i = 0 ∨ stN (msS (sgsR r)) i ≠ stN (msS (sgsR r)) (i - 1) := (by rcases c1 with h | h; exact .inl h; right; intro he; have he := (extSetting _ _).1 he; rcases h with h | h; exact h he.1; exact h he.2)
      refine aw_reg [3, 4, 6, 17, 18, 19] (by kernel_rfl) ?_
      simp (disch := omega) only [go_sem, ↓reduceIte, Nat.reduceEqDiff, Nat.reduceLT, Nat.reduceLeDiff, Nat.reduceAdd, Nat.reduceSub, Nat.reduceMul, reduceCtorEq, Int.reduceToNat, Int.reduceNeg]
      repeat refine And.intro obl ?_
      refine hK9 _ ?_; clear hK9
      refine aw_reg [3, 4, 17, 18, 19] (by kernel_rfl) ?_
      simp (disch := omega) only [go_sem, ↓reduceIte, Nat.reduceEqDiff, Nat.reduceLT, Nat.reduceLeDiff, Nat.reduceAdd, Nat.reduceSub, Nat.reduceMul, reduceCtorEq, Int.reduceToNat, Int.reduceNeg]
      repeat refine And.intro obl ?_
      refine hK6 _ _ ?_ ⟨i + 1, rfl, ?_, ?_⟩
      · exact dfl
      · exact dfl
      · simp (disch := omega) only [go_sem, ↓reduceIte, Nat.reduceEqDiff, Nat.reduceLT, Nat.reduceLeDiff, Nat.reduceAdd, Nat.reduceSub, Nat.reduceMul, reduceCtorEq, Int.reduceToNat, Int.reduceNeg] <;> (rw [ddS, if_pos hc]; first | rfl | simp)
    · try simp only [push_cast] at c1
      have hc : ¬ (i = 0 ∨ stN (msS (sgsR r)) i ≠ stN (msS (sgsR r)) (i - 1)) := (by rintro (h | h); exact c1.1 h; exact h ((extSetting _ _).2 c1.2))
      refine aw_skip ?_
      refine hK9 _ ?_; clear hK9
      refine aw_reg [3, 4, 17, 18, 19] (by kernel_rfl) ?_
      simp (disch := omega) only [go_sem, ↓reduceIte, Nat.reduceEqDiff, Nat.reduceLT, Nat.reduceLeDiff, Nat.reduceAdd, Nat.reduceSub, Nat.reduceMul, reduceCtorEq, Int.reduceToNat, Int.reduceNeg]
      repeat refine And.intro obl ?_
      refine hK6 _ _ ?_ ⟨i + 1, rfl, ?_, ?_⟩
      · exact dfl
      · exact dfl
      · simp (disch := omega) only [go_sem, ↓reduceIte, Nat.reduceEqDiff, Nat.reduceLT, Nat.reduceLeDiff, Nat.reduceAdd, Nat.reduceSub, Nat.reduceMul, reduceCtorEq, Int.reduceToNat, Int.reduceNeg] <;> (rw [ddS, if_neg hc, List.append_nil]; rfl)
  · try simp only [push_cast] at c0
    refine aw_exit ?_
    refine hK4 _ ?_; clear hK4
    refine aw_seq fun K12 hK12 => ?_
    refine aw_frzL 4 _ rfl rfl ?_
    refine aw_reg [4] (by kernel_rfl) ?_
    simp (disch := omega) only [go_sem, ↓reduceIte, Nat.reduceEqDiff, Nat.reduceLT, Nat.reduceLeDiff, Nat.reduceAdd, Nat.reduceSub, Nat.reduceMul, reduceCtorEq, Int.reduceToNat, Int.reduceNeg]
    repeat refine And.intro obl ?_
    refine hK12 _ ?_; clear hK12
    refine aw_ret ?_
    refine ret_tmp 2 rfl (by simp (disch := omega) only [go_sem, ↓reduceIte, Nat.reduceEqDiff, Nat.reduceLT, Nat.reduceLeDiff, Nat.reduceAdd, Nat.reduceSub, Nat.reduceMul, reduceCtorEq, Int.reduceToNat, Int.reduceNeg]) ?_
    exact Exp.encL rfl (by rw [show i = (msS (sgsR r)).length by omega]; rfl)

end Go.Sg
