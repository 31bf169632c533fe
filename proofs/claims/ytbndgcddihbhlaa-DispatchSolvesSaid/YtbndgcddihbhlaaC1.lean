/- Contracts of the package conflict and its reference, first part. Printed by genw.py. -/
import Derived.Test.YtbndgcddihbhlaaSgB
import Derived.Test.YtbndgcddihbhlaaSt
import Derived.Test.YtbndgcddihbhlaaCore
import Derived.Test.YtbndgcddihbhlaaPl
import Derived.Test.YtbndgcddihbhlaaSgGrow
set_option linter.unusedVariables false
set_option linter.unusedSimpArgs false
set_option maxRecDepth 8000
namespace Go.Sg
open Go.Proofs
def growRen : Go.Shelf.Ren := ⟨fun | 4 => 72 | n => n, fun | 22 => 47 | 25 => 113 | n => n, fun | n => n⟩
theorem growLays : Go.Proofs.Lays8.n4 Try.prog growRen := {
  mixed := by kernel_rfl
  f4 := ⟨Try.f72.name, by decide, Try.func72.trans (congrArg some (by kernel_rfl))⟩
  t0 := Try.underlying0
  a0 := Try.isAgg0
  z0 := Try.sizeOf0
  v0 := Try.zeroValue0
  t3 := Try.underlying3
  a3 := Try.isAgg3
  z3 := Try.sizeOf3
  v3 := Try.zeroValue3
  t4 := Try.underlying4
  a4 := Try.isAgg4
  z4 := Try.sizeOf4
  v4 := Try.zeroValue4
  t9 := Try.underlying9
  a9 := Try.isAgg9
  z9 := Try.sizeOf9
  v9 := Try.zeroValue9
  t20 := Try.underlying20
  a20 := Try.isAgg20
  z20 := Try.sizeOf20
  v20 := Try.zeroValue20
  t22 := Try.underlying47
  a22 := Try.isAgg47
  z22 := Try.sizeOf47
  v22 := Try.zeroValue47 }
abbrev encS (l : List Setting) : DV := encL 2 eSetting l
abbrev rowS (l : List Setting) : DV := rowL 113 2 eSetting l
theorem slices_Grow_Setting_ok (O : Env) (n : Nat) (hn : 0 < n) (hb : n ≤ 1000000) : PCall Try.prog O 72 [.v (.slice none 0 0), vi n] (rowS []) :=
  pcall_grow growLays rfl rfl (show slE Try.prog 47 = some (113, 2, 16) by kernel_rfl) (show zcOf Try.prog 113 = some [.int .i64 0, .int .i64 0] by kernel_rfl) (by decide) rfl rfl O n hn (by omega) (by omega)
theorem slices_Grow_Setting_r (O : Env) (n : Nat) (hb : n ≤ 1000000) : PCall Try.prog O 72 [.v (.slice none 0 0), vi n] (rowS []) := by
  rcases Nat.eq_zero_or_pos n with h | h
  · subst h; exact pcall_grow0 growLays rfl rfl O 113 2
  · exact slices_Grow_Setting_ok O n h hb
abbrev encLS (ls : List (List Setting)) : DV := encL 1 (fun l => [encS l]) ls
theorem slices_Concat_Setting_r (O : Env) (ls : List (List Setting)) (hb : ls.flatten.length ≤ 100000) : PCall Try.prog O 66 [encLS ls] (rowS ls.flatten) := by
  refine pcall_has 0 rfl (.sl _ _ _) fun hl => ?_
  refine pcall_of_aw Try.func66 rfl (by kernel_rfl) ?_
  refine aw_seq fun K0 hK0 => ?_
  refine aw_reg [0] (by kernel_rfl) ?_
  simp (disch := omega) only [go_sem, seval, i64id]
  repeat refine And.intro obl ?_
  refine hK0 _ ?_; clear hK0
  refine aw_seq fun K1 hK1 => ?_
  refine aw_reg [0] (by kernel_rfl) ?_
  simp (disch := omega) only [go_sem, seval, i64id]
  repeat refine And.intro obl ?_
  refine hK1 _ ?_; clear hK1
  refine aw_seq fun K2 hK2 => ?_
  refine aw_seq fun K3 hK3 => ?_
  refine aw_reg [0, 3] (by kernel_rfl) ?_
  simp (disch := omega) only [go_sem, seval, i64id]
  repeat refine And.intro obl ?_
  refine hK3 _ ?_; clear hK3
  refine aw_block ?_
  refine aw_loopK [0, 3, 9, 10, 11] (fun n ρ => ∃ i, ∃ s, n = ls.length - i ∧ (i ≤ ls.length) ∧ (s + (ls.drop i).flatten.length = ls.flatten.length) ∧ ρ = mkE O [(0, encLS ls), (3, vi (s : Nat)), (9, encLS ls), (10, vi (ls.length : Nat)), (11, vi (i : Nat))]) _ ⟨0, 0, rfl, ?_, ?_, ?_⟩ ?_
  · exact dfl
  · simp
  · simp (disch := omega) only [go_sem, seval, i64id] <;> first | rfl | omega | simp | simp_all
  rintro n ρ ⟨i, s, rfl, l0_0, l0_1, rfl⟩ K4 hK4
  refine aw_seq fun K5 hK5 => ?_
  refine aw_reg [0, 3, 9, 10, 11] (by kernel_rfl) ?_
  simp (disch := omega) only [go_sem, seval, i64id]
  repeat refine And.intro obl ?_
  refine hK5 _ ?_; clear hK5
  refine aw_seq fun K6 hK6 => ?_
  refine aw_cond _ (by rfl) (rfl) (fun c0 => ?_) (fun c0 => ?_)
  · try simp only [push_cast] at c0
    refine aw_skip ?_
    refine hK6 _ ?_; clear hK6
    refine aw_seq fun K7 hK7 => ?_
    refine aw_block ?_
    refine aw_seq fun K8 hK8 => ?_
    refine aw_reg [0, 3, 9, 10, 11] (by kernel_rfl) ?_
    simp (disch := omega) only [go_sem, seval, i64id]
    repeat refine And.intro obl ?_
    refine hK8 _ ?_; clear hK8
    refine aw_seq fun K9 hK9 => ?_
    have hs : s + (ls.getD i default).length + (ls.drop (i + 1)).flatten.length = ls.flatten.length := by rw [← l0_1, dropD default c0, List.flatten_cons, List.length_append]; omega
    refine aw_reg [0, 3, 5, 9, 10, 11, 13] (by kernel_rfl) ?_
    simp (disch := omega) only [go_sem, seval, i64id]
    repeat refine And.intro obl ?_
    refine hK9 _ ?_; clear hK9
    refine aw_seq fun K10 hK10 => ?_
    refine aw_reg [0, 3, 9, 10, 11] (by kernel_rfl) ?_
    simp (disch := omega) only [go_sem, seval, i64id]
    repeat refine And.intro obl ?_
    refine hK10 _ ?_; clear hK10
    refine aw_cond _ (by rfl) (rfl) (fun c1 => ?_) (fun c1 => ?_)
    · try simp only [push_cast] at c1
      omega
    · try simp only [push_cast] at c1
      refine aw_skip ?_
      refine hK7 _ ?_; clear hK7
      refine aw_reg [0, 3, 9, 10, 11] (by kernel_rfl) ?_
      simp (disch := omega) only [go_sem, seval, i64id]
      repeat refine And.intro obl ?_
      refine hK4 _ _ ?_ ⟨i + 1, s + (ls.getD i default).length, rfl, ?_, ?_, ?_⟩
      · exact dfl
      · exact dfl
      · exact hs
      · simp (disch := omega) only [go_sem, seval, i64id] <;> first | rfl | omega | simp | simp_all
  · try simp only [push_cast] at c0
    refine aw_exit ?_
    refine hK2 _ ?_; clear hK2
    refine aw_seq fun K11 hK11 => ?_
    refine aw_reg [0, 3] (by kernel_rfl) ?_
    simp (disch := omega) only [go_sem, seval, i64id]
    repeat refine And.intro obl ?_
    refine callG_of _ (slices_Grow_Setting_r _ s (by omega)) ?_
    simp (disch := omega) only [go_sem, seval, i64id]
    repeat refine And.intro obl ?_
    refine hK11 _ ?_; clear hK11
    refine aw_seq fun K12 hK12 => ?_
    refine aw_seq fun K13 hK13 => ?_
    refine aw_reg [0, 6] (by kernel_rfl) ?_
    simp (disch := omega) only [go_sem, seval, i64id]
    repeat refine And.intro obl ?_
    refine hK13 _ ?_; clear hK13
    refine aw_block ?_
    refine aw_loopK [6, 25, 26, 27] (fun n ρ => ∃ j, ∃ out, n = ls.length - j ∧ (j ≤ ls.length) ∧ (out ++ (ls.drop j).flatten = ls.flatten) ∧ ρ = mkE O [(6, rowS out), (25, encLS ls), (26, vi (ls.length : Nat)), (27, vi (j : Nat))]) _ ⟨0, [], rfl, ?_, ?_, ?_⟩ ?_
    · exact dfl
    · rfl
    · simp (disch := omega) only [go_sem, seval, i64id] <;> first | rfl | omega | simp | simp_all
    rintro n ρ ⟨j, out, rfl, l1_0, l1_1, rfl⟩ K14 hK14
    refine aw_seq fun K15 hK15 => ?_
    refine aw_reg [0, 6, 25, 26, 27] (by kernel_rfl) ?_
    simp (disch := omega) only [go_sem, seval, i64id]
    repeat refine And.intro obl ?_
    refine hK15 _ ?_; clear hK15
    refine aw_seq fun K16 hK16 => ?_
    refine aw_cond _ (by rfl) (rfl) (fun c2 => ?_) (fun c2 => ?_)
    · try simp only [push_cast] at c2
      refine aw_skip ?_
      refine hK16 _ ?_; clear hK16
      refine aw_seq fun K17 hK17 => ?_
      refine aw_block ?_
      refine aw_seq fun K18 hK18 => ?_
      refine aw_reg [0, 6, 25, 26, 27] (by kernel_rfl) ?_
      simp (disch := omega) only [go_sem, seval, i64id]
      repeat refine And.intro obl ?_
      refine hK18 _ ?_; clear hK18
      have hs : (out ++ ls.getD j default).length ≤ ls.flatten.length := by rw [← l1_1, dropD default c2, List.flatten_cons, List.length_append, List.length_append, List.length_append]; omega
      rw [List.length_append] at hs
      refine aw_reg [0, 6, 8, 25, 26, 27, 29] (by kernel_rfl) ?_
      simp (disch := omega) only [go_sem, seval, i64id]
      repeat refine And.intro obl ?_
      refine hK17 _ ?_; clear hK17
      refine aw_reg [0, 6, 25, 26, 27] (by kernel_rfl) ?_
      simp (disch := omega) only [go_sem, seval, i64id]
      repeat refine And.intro obl ?_
      refine hK14 _ _ ?_ ⟨j + 1, out ++ ls.getD j default, rfl, ?_, ?_, ?_⟩
      · exact dfl
      · exact dfl
      · rw [← l1_1, dropD default c2, List.flatten_cons, List.append_assoc]
      · simp (disch := omega) only [go_sem, seval, i64id] <;> first | rfl | omega | simp | simp_all
    · try simp only [push_cast] at c2
      refine aw_exit ?_
      refine hK12 _ ?_; clear hK12
      refine aw_seq fun K19 hK19 => ?_
      refine aw_reg [6] (by kernel_rfl) ?_
      simp (disch := omega) only [go_sem, seval, i64id]
      repeat refine And.intro obl ?_
      refine hK19 _ ?_; clear hK19
      refine aw_ret ?_
      refine ret_tmp 2 rfl (by simp (disch := omega) only [go_sem, seval, i64id]) ?_
      exact Exp.ownL rfl (by omega) rfl rfl (by rw [← l1_1, dropE c2]; simp)
theorem slices_Concat_Setting_ok (O : Env) (ls : List (List Setting)) (hb : ls.flatten.length ≤ 100000) : PCall Try.prog O 66 [encLS ls] (encS ls.flatten) := pcall_encL (slices_Concat_Setting_r O ls hb)
def okS (s : Setting) (b : List Setting) : Bool := b.all fun t => !(s.fEl == t.fEl && s.fPos != t.fPos)
def agrB (a b : List Setting) : Bool := a.all fun s => okS s b
theorem agrN {p q : Setting} (h : ¬ p.fEl = q.fEl ∨ p.fPos = q.fPos) : (p.fEl == q.fEl && p.fPos != q.fPos) = false := by rcases h with h | h <;> simp [h]
theorem agr_cons (s : Setting) (a b : List Setting) : agrB (s :: a) b = (okS s b && agrB a b) := rfl
theorem okS_cons (s t : Setting) (b : List Setting) : okS s (t :: b) = (!(s.fEl == t.fEl && s.fPos != t.fPos) && okS s b) := rfl
theorem conflict_Agree_ok (O : Env) (a b : List Setting) : PCall Try.prog O 65 [encS a, encS b] (vb (agrB a b)) := by
  refine pcall_has 0 rfl (.sl _ _ _) fun ha => ?_
  refine pcall_has 1 rfl (.sl _ _ _) fun hb => ?_
  refine pcall_of_aw Try.func65 rfl (by kernel_rfl) ?_
  refine aw_seq fun K0 hK0 => ?_
  refine aw_reg [0, 1] (by kernel_rfl) ?_
  simp (disch := omega) only [go_sem, seval]
  repeat refine And.intro obl ?_
  refine hK0 _ ?_; clear hK0
  refine aw_seq fun K1 hK1 => ?_
  refine aw_seq fun K2 hK2 => ?_
  refine aw_reg [0, 1] (by kernel_rfl) ?_
  simp (disch := omega) only [go_sem, seval]
  repeat refine And.intro obl ?_
  refine hK2 _ ?_; clear hK2
  refine aw_block ?_
  refine aw_loopK [1, 9, 10, 11] (fun n ρ => ∃ i, n = a.length - i ∧ (i ≤ a.length) ∧ (agrB a b = agrB (a.drop i) b) ∧ ρ = mkE O [(1, encS b), (9, encS a), (10, vi (a.length : Nat)), (11, vi (i : Nat))]) _ ⟨0, rfl, ?_, ?_, ?_⟩ ?_
  · exact dfl
  · rfl
  · simp (disch := omega) only [go_sem, seval] <;> first | rfl | omega | simp | simp_all
  rintro n ρ ⟨i, rfl, l0_0, l0_1, rfl⟩ K3 hK3
  refine aw_seq fun K4 hK4 => ?_
  refine aw_reg [0, 1, 9, 10, 11] (by kernel_rfl) ?_
  simp (disch := omega) only [go_sem, seval]
  repeat refine And.intro obl ?_
  refine hK4 _ ?_; clear hK4
  refine aw_seq fun K5 hK5 => ?_
  refine aw_cond _ (by rfl) (rfl) (fun c0 => ?_) (fun c0 => ?_)
  · try simp only [push_cast] at c0
    refine aw_skip ?_
    refine hK5 _ ?_; clear hK5
    refine aw_seq fun K6 hK6 => ?_
    refine aw_block ?_
    refine aw_seq fun K7 hK7 => ?_
    refine aw_reg [0, 1, 9, 10, 11] (by kernel_rfl) ?_
    simp (disch := omega) only [go_sem, seval]
    repeat refine And.intro obl ?_
    refine hK7 _ ?_; clear hK7
    refine aw_seq fun K8 hK8 => ?_
    refine aw_reg [0, 1, 6, 9, 10, 11] (by kernel_rfl) ?_
    simp (disch := omega) only [go_sem, seval]
    repeat refine And.intro obl ?_
    refine hK8 _ ?_; clear hK8
    refine aw_block ?_
    refine aw_loopK [1, 9, 10, 11, 6, 15, 16, 17] (fun n ρ => ∃ j, n = b.length - j ∧ (j ≤ b.length) ∧ (okS (a.getD i default) b = okS (a.getD i default) (b.drop j)) ∧ ρ = mkE O [(1, encS b), (9, encS a), (10, vi (a.length : Nat)), (11, vi (i : Nat)), (6, .bx (eSetting (a.getD i default))), (15, encS b), (16, vi (b.length : Nat)), (17, vi (j : Nat))]) _ ⟨0, rfl, ?_, ?_, ?_⟩ ?_
    · exact dfl
    · rfl
    · simp (disch := omega) only [go_sem, seval] <;> first | rfl | omega | simp | simp_all
    rintro n ρ ⟨j, rfl, l1_0, l1_1, rfl⟩ K9 hK9
    refine aw_seq fun K10 hK10 => ?_
    refine aw_reg [0, 1, 6, 9, 10, 11, 15, 16, 17] (by kernel_rfl) ?_
    simp (disch := omega) only [go_sem, seval]
    repeat refine And.intro obl ?_
    refine hK10 _ ?_; clear hK10
    refine aw_seq fun K11 hK11 => ?_
    refine aw_cond _ (by rfl) (rfl) (fun c1 => ?_) (fun c1 => ?_)
    · try simp only [push_cast] at c1
      refine aw_skip ?_
      refine hK11 _ ?_; clear hK11
      refine aw_seq fun K12 hK12 => ?_
      refine aw_block ?_
      refine aw_seq fun K13 hK13 => ?_
      refine aw_reg [0, 1, 6, 9, 10, 11, 15, 16, 17] (by kernel_rfl) ?_
      simp (disch := omega) only [go_sem, seval]
      repeat refine And.intro obl ?_
      refine hK13 _ ?_; clear hK13
      refine aw_seq fun K14 hK14 => ?_
      refine aw_reg [0, 1, 6, 8, 9, 10, 11, 15, 16, 17] (by kernel_rfl) ?_
      simp (disch := omega) only [go_sem, seval]
      repeat refine And.intro obl ?_
      refine hK14 _ ?_; clear hK14
      refine aw_cond ((a.getD i default).fEl == (b.getD j default).fEl && (a.getD i default).fPos != (b.getD j default).fPos) (by rfl) (rfl) (fun c2 => ?_) (fun c2 => ?_)
      · try simp only [push_cast] at c2
        refine aw_seq fun K15 hK15 => ?_
        refine aw_reg [] (by kernel_rfl) ?_
        simp (disch := omega) only [go_sem, seval]
        repeat refine And.intro obl ?_
        refine hK15 _ ?_; clear hK15
        refine aw_ret ?_
        refine ret_tmp 4 rfl (by simp (disch := omega) only [go_sem, seval]) ?_
        exact Exp.is (by simp (disch := omega) only [go_sem, seval] <;> refine congrArg vb ?_ <;> (rw [l0_1, dropD default c0, agr_cons, l1_1, dropD default c1, okS_cons, show ((a.getD i default).fEl == (b.getD j default).fEl && (a.getD i default).fPos != (b.getD j default).fPos) = true by simpa using c2]; rfl)) rfl rfl
      · try simp only [push_cast] at c2
        refine aw_skip ?_
        refine hK12 _ ?_; clear hK12
        refine aw_reg [0, 1, 6, 9, 10, 11, 15, 16, 17] (by kernel_rfl) ?_
        simp (disch := omega) only [go_sem, seval]
        repeat refine And.intro obl ?_
        refine hK9 _ _ ?_ ⟨j + 1, rfl, ?_, ?_, ?_⟩
        · exact dfl
        · exact dfl
        · rw [l1_1, dropD default c1, okS_cons, agrN c2]; rfl
        · simp (disch := omega) only [go_sem, seval] <;> first | rfl | omega | simp | simp_all
    · try simp only [push_cast] at c1
      refine aw_exit ?_
      refine hK6 _ ?_; clear hK6
      refine aw_reg [0, 1, 9, 10, 11] (by kernel_rfl) ?_
      simp (disch := omega) only [go_sem, seval]
      repeat refine And.intro obl ?_
      refine hK3 _ _ ?_ ⟨i + 1, rfl, ?_, ?_, ?_⟩
      · exact dfl
      · exact dfl
      · rw [l0_1, dropD default c0, agr_cons, l1_1, dropE c1]; rfl
      · simp (disch := omega) only [go_sem, seval] <;> first | rfl | omega | simp | simp_all
  · try simp only [push_cast] at c0
    refine aw_exit ?_
    refine hK1 _ ?_; clear hK1
    refine aw_seq fun K16 hK16 => ?_
    refine aw_reg [] (by kernel_rfl) ?_
    simp (disch := omega) only [go_sem, seval]
    repeat refine And.intro obl ?_
    refine hK16 _ ?_; clear hK16
    refine aw_ret ?_
    refine ret_tmp 4 rfl (by simp (disch := omega) only [go_sem, seval]) ?_
    exact Exp.is (by simp (disch := omega) only [go_sem, seval] <;> refine congrArg vb ?_ <;> (rw [l0_1, dropE c0]; rfl)) rfl rfl
theorem ref15_Agree_ok (O : Env) (a b : List Setting) : PCall Try.prog O 74 [encS a, encS b] (vb (agrB a b)) := by
  refine pcall_has 0 rfl (.sl _ _ _) fun ha => ?_
  refine pcall_has 1 rfl (.sl _ _ _) fun hb => ?_
  refine pcall_of_aw Try.func74 rfl (by kernel_rfl) ?_
  refine aw_seq fun K0 hK0 => ?_
  refine aw_reg [0, 1] (by kernel_rfl) ?_
  simp (disch := omega) only [go_sem, seval]
  repeat refine And.intro obl ?_
  refine hK0 _ ?_; clear hK0
  refine aw_seq fun K1 hK1 => ?_
  refine aw_seq fun K2 hK2 => ?_
  refine aw_reg [0, 1] (by kernel_rfl) ?_
  simp (disch := omega) only [go_sem, seval]
  repeat refine And.intro obl ?_
  refine hK2 _ ?_; clear hK2
  refine aw_block ?_
  refine aw_loopK [0, 1, 5] (fun n ρ => ∃ i, n = a.length - i ∧ (i ≤ a.length) ∧ (agrB a b = agrB (a.drop i) b) ∧ ρ = mkE O [(0, encS a), (1, encS b), (5, vi (i : Nat))]) _ ⟨0, rfl, ?_, ?_, ?_⟩ ?_
  · exact dfl
  · rfl
  · simp (disch := omega) only [go_sem, seval] <;> first | rfl | omega | simp | simp_all
  rintro n ρ ⟨i, rfl, l0_0, l0_1, rfl⟩ K3 hK3
  refine aw_seq fun K4 hK4 => ?_
  refine aw_seq fun K5 hK5 => ?_
  refine aw_reg [0, 1, 5] (by kernel_rfl) ?_
  simp (disch := omega) only [go_sem, seval]
  repeat refine And.intro obl ?_
  refine hK5 _ ?_; clear hK5
  refine aw_cond _ (by rfl) (rfl) (fun c0 => ?_) (fun c0 => ?_)
  · try simp only [push_cast] at c0
    refine aw_skip ?_
    refine hK4 _ ?_; clear hK4
    refine aw_seq fun K6 hK6 => ?_
    refine aw_block ?_
    refine aw_seq fun K7 hK7 => ?_
    refine aw_reg [0, 1, 5] (by kernel_rfl) ?_
    simp (disch := omega) only [go_sem, seval]
    repeat refine And.intro obl ?_
    refine hK7 _ ?_; clear hK7
    refine aw_block ?_
    refine aw_loopK [0, 1, 5, 6] (fun n ρ => ∃ j, n = b.length - j ∧ (j ≤ b.length) ∧ (okS (a.getD i default) b = okS (a.getD i default) (b.drop j)) ∧ ρ = mkE O [(0, encS a), (1, encS b), (5, vi (i : Nat)), (6, vi (j : Nat))]) _ ⟨0, rfl, ?_, ?_, ?_⟩ ?_
    · exact dfl
    · rfl
    · simp (disch := omega) only [go_sem, seval] <;> first | rfl | omega | simp | simp_all
    rintro n ρ ⟨j, rfl, l1_0, l1_1, rfl⟩ K8 hK8
    refine aw_seq fun K9 hK9 => ?_
    refine aw_seq fun K10 hK10 => ?_
    refine aw_reg [0, 1, 5, 6] (by kernel_rfl) ?_
    simp (disch := omega) only [go_sem, seval]
    repeat refine And.intro obl ?_
    refine hK10 _ ?_; clear hK10
    refine aw_cond _ (by rfl) (rfl) (fun c1 => ?_) (fun c1 => ?_)
    · try simp only [push_cast] at c1
      refine aw_skip ?_
      refine hK9 _ ?_; clear hK9
      refine aw_seq fun K11 hK11 => ?_
      refine aw_block ?_
      refine aw_seq fun K12 hK12 => ?_
      refine aw_regDc [0, 1, 5, 6] [] mixed (by kernel_rfl) ?_
      simp (disch := omega) only [go_sem, seval]
      repeat refine And.intro obl ?_
      refine hK12 _ ?_; clear hK12
      refine aw_cond ((a.getD i default).fEl == (b.getD j default).fEl && (a.getD i default).fPos != (b.getD j default).fPos) (by rfl) (rfl) (fun c2 => ?_) (fun c2 => ?_)
      · try simp only [push_cast] at c2
        refine aw_seq fun K13 hK13 => ?_
        refine aw_reg [] (by kernel_rfl) ?_
        simp (disch := omega) only [go_sem, seval]
        repeat refine And.intro obl ?_
        refine hK13 _ ?_; clear hK13
        refine aw_ret ?_
        refine ret_tmp 4 rfl (by simp (disch := omega) only [go_sem, seval]) ?_
        exact Exp.is (by simp (disch := omega) only [go_sem, seval] <;> refine congrArg vb ?_ <;> (rw [l0_1, dropD default c0, agr_cons, l1_1, dropD default c1, okS_cons, show ((a.getD i default).fEl == (b.getD j default).fEl && (a.getD i default).fPos != (b.getD j default).fPos) = true by simpa using c2]; rfl)) rfl rfl
      · try simp only [push_cast] at c2
        refine aw_skip ?_
        refine hK11 _ ?_; clear hK11
        refine aw_reg [0, 1, 5, 6] (by kernel_rfl) ?_
        simp (disch := omega) only [go_sem, seval]
        repeat refine And.intro obl ?_
        refine hK8 _ _ ?_ ⟨j + 1, rfl, ?_, ?_, ?_⟩
        · exact dfl
        · exact dfl
        · rw [l1_1, dropD default c1, okS_cons, agrN c2]; rfl
        · simp (disch := omega) only [go_sem, seval] <;> first | rfl | omega | simp | simp_all
    · try simp only [push_cast] at c1
      refine aw_exit ?_
      refine hK6 _ ?_; clear hK6
      refine aw_reg [0, 1, 5] (by kernel_rfl) ?_
      simp (disch := omega) only [go_sem, seval]
      repeat refine And.intro obl ?_
      refine hK3 _ _ ?_ ⟨i + 1, rfl, ?_, ?_, ?_⟩
      · exact dfl
      · exact dfl
      · rw [l0_1, dropD default c0, agr_cons, l1_1, dropE c1]; rfl
      · simp (disch := omega) only [go_sem, seval] <;> first | rfl | omega | simp | simp_all
  · try simp only [push_cast] at c0
    refine aw_exit ?_
    refine hK1 _ ?_; clear hK1
    refine aw_seq fun K14 hK14 => ?_
    refine aw_reg [] (by kernel_rfl) ?_
    simp (disch := omega) only [go_sem, seval]
    repeat refine And.intro obl ?_
    refine hK14 _ ?_; clear hK14
    refine aw_ret ?_
    refine ret_tmp 4 rfl (by simp (disch := omega) only [go_sem, seval]) ?_
    exact Exp.is (by simp (disch := omega) only [go_sem, seval] <;> refine congrArg vb ?_ <;> (rw [l0_1, dropE c0]; rfl)) rfl rfl
def folB (a b : Route) : Bool := decide (0 ≤ a.fExit) && (b.fEntry == a.fExit)
theorem conflict_Follows_ok (O : Env) (a b : Route) : PCall Try.prog O 45 [.agg (eRoute a), .agg (eRoute b)] (vb (folB a b)) := by
  refine pcall_of_aw Try.func45 rfl (by kernel_rfl) ?_
  refine aw_seq fun K0 hK0 => ?_
  refine aw_reg [0, 1] (by kernel_rfl) ?_
  simp (disch := omega) only [go_sem, seval]
  repeat refine And.intro obl ?_
  refine hK0 _ ?_; clear hK0
  refine aw_seq fun K1 hK1 => ?_
  refine aw_reg [2, 3] (by kernel_rfl) ?_
  simp (disch := omega) only [go_sem, seval]
  repeat refine And.intro obl ?_
  refine hK1 _ ?_; clear hK1
  refine aw_ret ?_
  refine ret_tmp 4 rfl (by simp (disch := omega) only [go_sem, seval]) ?_
  exact Exp.is (by simp (disch := omega) only [go_sem, seval] <;> refine congrArg vb ?_ <;> (rfl)) rfl rfl
theorem ref15_Follows_ok (O : Env) (a b : Route) : PCall Try.prog O 60 [.agg (eRoute a), .agg (eRoute b)] (vb (folB a b)) := by
  refine pcall_of_aw Try.func60 rfl (by kernel_rfl) ?_
  refine aw_seq fun K0 hK0 => ?_
  refine aw_reg [0, 1] (by kernel_rfl) ?_
  simp (disch := omega) only [go_sem, seval]
  repeat refine And.intro obl ?_
  refine hK0 _ ?_; clear hK0
  refine aw_seq fun K1 hK1 => ?_
  refine aw_reg [2, 3] (by kernel_rfl) ?_
  simp (disch := omega) only [go_sem, seval]
  repeat refine And.intro obl ?_
  refine hK1 _ ?_; clear hK1
  refine aw_ret ?_
  refine ret_tmp 4 rfl (by simp (disch := omega) only [go_sem, seval]) ?_
  exact Exp.is (by simp (disch := omega) only [go_sem, seval] <;> refine congrArg vb ?_ <;> (rfl)) rfl rfl
theorem idset_Common_r (O : Env) (a b : List Int) (ha : a.length ≤ 1000) (hb : b.length ≤ 1000) : PCall Try.prog O 73 [encI a, encI b] (rowL 3 1 eI (com a b)) := by
  refine pcall_of_aw Try.func73 rfl (by kernel_rfl) ?_
  refine aw_seq fun K0 hK0 => ?_
  refine aw_reg [0, 1] (by kernel_rfl) ?_
  simp (disch := omega) only [go_sem, seval]
  repeat refine And.intro obl ?_
  refine hK0 _ ?_; clear hK0
  refine aw_seq fun K1 hK1 => ?_
  refine aw_reg [0, 1] (by kernel_rfl) ?_
  simp (disch := omega) only [go_sem, seval]
  repeat refine And.intro obl ?_
  refine callG_of _ (idset_Make_ok _ _ (by first | omega | decide)) ?_
  simp (disch := omega) only [go_sem, seval]
  repeat refine And.intro obl ?_
  refine callG_of _ (idset_Make_ok _ _ (by first | omega | decide)) ?_
  simp (disch := omega) only [go_sem, seval]
  repeat refine And.intro obl ?_
  refine callG_of _ (idset_merge_int_r _ (mk a) (mk b) 79 (fun p q => p && q) (fun O p q => idset_Common_1_ok O p q) rfl (by have := mk_len a; have := mk_len b; omega)) ?_
  simp (disch := omega) only [go_sem, seval]
  repeat refine And.intro obl ?_
  refine hK1 _ ?_; clear hK1
  refine aw_ret ?_
  refine ret_tmp 4 rfl (by simp (disch := omega) only [go_sem, seval]) ?_
  exact Exp.rowL rfl (by rfl)
theorem idset_Common_ok (O : Env) (a b : List Int) (ha : a.length ≤ 1000) (hb : b.length ≤ 1000) : PCall Try.prog O 73 [encI a, encI b] (encI (com a b)) := pcall_encL (idset_Common_r O a b ha hb)
def metB (a b : List Int) : Bool := decide (0 < (com a b).length)
theorem met_eq (a b : List Int) : decide (0 < (chosenS a b true).length) = metB a b := by unfold metB; rw [com_eq]
theorem conflict_meet_ok (O : Env) (a b : List Int) (ha : a.length ≤ 1000) (hb : b.length ≤ 1000) : PCall Try.prog O 67 [encI a, encI b] (vb (metB a b)) := by
  refine pcall_of_aw Try.func67 rfl (by kernel_rfl) ?_
  refine aw_seq fun K0 hK0 => ?_
  refine aw_reg [0, 1] (by kernel_rfl) ?_
  simp (disch := omega) only [go_sem, seval]
  repeat refine And.intro obl ?_
  refine hK0 _ ?_; clear hK0
  refine aw_seq fun K1 hK1 => ?_
  refine aw_reg [0, 1] (by kernel_rfl) ?_
  simp (disch := omega) only [go_sem, seval]
  repeat refine And.intro obl ?_
  refine callG_of _ (idset_Common_ok _ _ _ (by first | omega | decide) (by first | omega | decide)) ?_
  simp (disch := omega) only [go_sem, seval]
  repeat refine And.intro obl ?_
  refine hK1 _ ?_; clear hK1
  refine aw_ret ?_
  refine ret_tmp 4 rfl (by simp (disch := omega) only [go_sem, seval]) ?_
  exact Exp.is (by simp (disch := omega) only [go_sem, seval] <;> refine congrArg vb ?_ <;> (rfl)) rfl rfl
theorem ref15_meet_ok (O : Env) (a b : List Int) (ha : a.length ≤ 1000) (hb : b.length ≤ 1000) : PCall Try.prog O 76 [encI a, encI b] (vb (metB a b)) := by
  refine pcall_of_aw Try.func76 rfl (by kernel_rfl) ?_
  refine aw_seq fun K0 hK0 => ?_
  refine aw_reg [0, 1] (by kernel_rfl) ?_
  simp (disch := omega) only [go_sem, seval]
  repeat refine And.intro obl ?_
  refine hK0 _ ?_; clear hK0
  refine aw_seq fun K1 hK1 => ?_
  refine aw_reg [0, 1] (by kernel_rfl) ?_
  simp (disch := omega) only [go_sem, seval]
  repeat refine And.intro obl ?_
  refine callG_of _ (ref02_Common_ok _ _ _ (by first | omega | decide) (by first | omega | decide)) ?_
  simp (disch := omega) only [go_sem, seval]
  repeat refine And.intro obl ?_
  refine hK1 _ ?_; clear hK1
  refine aw_ret ?_
  refine ret_tmp 4 rfl (by simp (disch := omega) only [go_sem, seval]) ?_
  exact Exp.is (by simp (disch := omega) only [go_sem, seval] <;> refine congrArg vb ?_ <;> (exact met_eq a b)) rfl rfl
structure Sml (r : Route) : Prop where
  p : r.fPoints.length ≤ 250
  o : r.fOverPoints.length ≤ 250
  f : r.fFlank.length ≤ 250
  s : r.fSections.length ≤ 250
  v : r.fOverSections.length ≤ 250
def setL (r : Route) : List Setting := [r.fPoints, r.fOverPoints, r.fFlank].flatten
theorem setL_eq (r : Route) : setL r = r.fPoints ++ r.fOverPoints ++ r.fFlank := by simp [setL]
theorem setL_len {r : Route} (h : Sml r) : (setL r).length ≤ 750 := by
  rw [setL_eq, List.length_append, List.length_append]; have := h.p; have := h.o; have := h.f; omega
theorem ref15_settings_r (O : Env) (r : Route) (hs : Sml r) : PCall Try.prog O 75 [.agg (eRoute r)] (rowS (setL r)) := by
  obtain ⟨h1, h2, h3, h4, h5⟩ := hs
  refine pcall_of_aw Try.func75 rfl (by kernel_rfl) ?_
  refine aw_seq fun K0 hK0 => ?_
  refine aw_reg [0] (by kernel_rfl) ?_
  simp (disch := omega) only [go_sem, seval, List.take_length, ← List.map_append]
  repeat refine And.intro obl ?_
  refine hK0 _ ?_; clear hK0
  refine aw_seq fun K1 hK1 => ?_
  refine aw_reg [1] (by kernel_rfl) ?_
  simp (disch := omega) only [go_sem, seval, List.take_length, ← List.map_append]
  repeat refine And.intro obl ?_
  refine hK1 _ ?_; clear hK1
  refine aw_seq fun K2 hK2 => ?_
  refine aw_nilR 3 113 2 eSetting rfl rfl ?_
  refine aw_reg [1, 3] (by kernel_rfl) ?_
  simp (disch := omega) only [go_sem, seval, List.take_length, ← List.map_append]
  repeat refine And.intro obl ?_
  refine hK2 _ ?_; clear hK2
  refine aw_seq fun K3 hK3 => ?_
  refine aw_reg [1, 3] (by kernel_rfl) ?_
  simp (disch := omega) only [go_sem, seval, List.take_length, ← List.map_append]
  repeat refine And.intro obl ?_
  refine hK3 _ ?_; clear hK3
  refine aw_seq fun K4 hK4 => ?_
  refine aw_reg [1, 3] (by kernel_rfl) ?_
  simp (disch := omega) only [go_sem, seval, List.take_length, ← List.map_append]
  repeat refine And.intro obl ?_
  refine hK4 _ ?_; clear hK4
  refine aw_seq fun K5 hK5 => ?_
  refine aw_reg [3] (by kernel_rfl) ?_
  simp (disch := omega) only [go_sem, seval, List.take_length, ← List.map_append]
  repeat refine And.intro obl ?_
  refine hK5 _ ?_; clear hK5
  refine aw_ret ?_
  refine ret_tmp 2 rfl (by simp (disch := omega) only [go_sem, seval, List.take_length, ← List.map_append]) ?_
  exact Exp.ownL rfl (by omega) rfl rfl (by rw [setL_eq])
theorem ref15_settings_ok (O : Env) (r : Route) (hs : Sml r) : PCall Try.prog O 75 [.agg (eRoute r)] (encS (setL r)) := pcall_encL (ref15_settings_r O r hs)
end Go.Sg
