/- Contracts of the package idset and its reference in this translation. Printed by genw.py. -/
import Derived.Test.YtbndgcddihbhlaaSgB
import Derived.Test.YtbndgcddihbhlaaTy
import Derived.Test.YtbndgcddihbhlaaSgC
import Derived.Test.YtbndgcddihbhlaaSL
import Derived.Lib.RowBridge
set_option linter.unusedVariables false
set_option linter.unusedSimpArgs false
namespace Go.Sg
open Go.Proofs
attribute [go_sem] i64id
def insO (x : Int) : List Int → List Int
  | [] => [x]
  | y :: s => if x < y then x :: y :: s else y :: insO x s
def insS (s : List Int) (x : Int) : List Int := if s.contains x then s else insO x s
abbrev rowI (l : List Int) : DV := rowL 3 1 eI l
theorem insO_len (x : Int) (l : List Int) : (insO x l).length = l.length + 1 := by
  induction l with
  | nil => rfl
  | cons y s ih => unfold insO; split <;> simp [ih]
theorem ref02_Has_ok (O : Env) (l : List Int) (x : Int) : PCall Try.prog O 86 [encI l, vi x] (vb (l.contains x)) := by
  refine pcall_has 0 rfl (.sl _ _ _) fun hl => ?_
  refine pcall_of_aw Try.func86 rfl (by kernel_rfl) ?_
  refine aw_seq fun K0 hK0 => ?_
  refine aw_reg [0, 1] (by kernel_rfl) ?_
  simp (disch := omega) only [go_sem, seval]
  repeat refine And.intro obl ?_
  refine hK0 _ ?_; clear hK0
  refine aw_seq fun K1 hK1 => ?_
  refine aw_seq fun K2 hK2 => ?_
  refine aw_reg [0, 1] (by kernel_rfl) ?_
  simp (disch := omega) only [go_sem, seval]
  repeat refine And.intro obl ?_
  refine hK2 _ ?_; clear hK2
  refine aw_block ?_
  refine aw_loopK [0, 1, 5] (fun n ρ => ∃ i, n = l.length - i ∧ (i ≤ l.length) ∧ (l.contains x = (l.drop i).contains x) ∧ ρ = mkE O [(0, encI l), (1, vi x), (5, vi (i : Nat))]) _ ⟨0, rfl, ?_, ?_, ?_⟩ ?_
  · exact dfl
  · exact dfl
  · simp (disch := omega) only [go_sem, seval] <;> first | rfl | omega | simp | simp_all
  rintro n ρ ⟨i, rfl, l0_0, l0_1, rfl⟩ K3 hK3
  refine aw_seq fun K4 hK4 => ?_
  refine aw_seq fun K5 hK5 => ?_
  refine aw_reg [0, 1, 5] (by kernel_rfl) ?_
  simp (disch := omega) only [go_sem, seval]
  repeat refine And.intro obl ?_
  refine hK5 _ ?_; clear hK5
  refine aw_cond _ (by rfl) (rfl) (fun c0 => ?_) (fun c0 => ?_)
  · try simp only [push_cast] at c0
    refine aw_skip ?_
    refine hK4 _ ?_; clear hK4
    refine aw_seq fun K6 hK6 => ?_
    refine aw_block ?_
    refine aw_seq fun K7 hK7 => ?_
    refine aw_reg [0, 1, 5] (by kernel_rfl) ?_
    simp (disch := omega) only [go_sem, seval]
    repeat refine And.intro obl ?_
    refine hK7 _ ?_; clear hK7
    refine aw_cond _ (by rfl) (rfl) (fun c1 => ?_) (fun c1 => ?_)
    · try simp only [push_cast] at c1
      refine aw_seq fun K8 hK8 => ?_
      refine aw_reg [] (by kernel_rfl) ?_
      simp (disch := omega) only [go_sem, seval]
      repeat refine And.intro obl ?_
      refine hK8 _ ?_; clear hK8
      refine aw_ret ?_
      refine ret_tmp 4 rfl (by simp (disch := omega) only [go_sem, seval]) ?_
      exact Exp.is (by simp (disch := omega) only [go_sem, seval] <;> refine congrArg vb ?_ <;> (rw [l0_1, dropD default c0]; simp [← c1])) rfl rfl
    · try simp only [push_cast] at c1
      refine aw_skip ?_
      refine hK6 _ ?_; clear hK6
      refine aw_reg [0, 1, 5] (by kernel_rfl) ?_
      simp (disch := omega) only [go_sem, seval]
      repeat refine And.intro obl ?_
      refine hK3 _ _ ?_ ⟨i + 1, rfl, ?_, ?_, ?_⟩
      · exact dfl
      · exact dfl
      · rw [l0_1, dropD default c0, List.contains_cons, beq_eq_false_iff_ne.2 (Ne.symm c1)]; rfl
      · simp (disch := omega) only [go_sem, seval] <;> first | rfl | omega | simp | simp_all
  · try simp only [push_cast] at c0
    refine aw_exit ?_
    refine hK1 _ ?_; clear hK1
    refine aw_seq fun K9 hK9 => ?_
    refine aw_reg [] (by kernel_rfl) ?_
    simp (disch := omega) only [go_sem, seval]
    repeat refine And.intro obl ?_
    refine hK9 _ ?_; clear hK9
    refine aw_ret ?_
    refine ret_tmp 4 rfl (by simp (disch := omega) only [go_sem, seval]) ?_
    exact Exp.is (by simp (disch := omega) only [go_sem, seval] <;> refine congrArg vb ?_ <;> (rw [l0_1, dropE c0]; rfl)) rfl rfl
theorem ref02_insert_ok (O : Env) (l : List Int) (x : Int) (hb : l.length ≤ 1000000) : PCall Try.prog O 87 [encI l, vi x] (encI (insS l x)) := by
  refine pcall_of_aw Try.func87 rfl (by kernel_rfl) ?_
  refine aw_seq fun K0 hK0 => ?_
  refine aw_reg [0, 1] (by kernel_rfl) ?_
  simp (disch := omega) only [go_sem, seval]
  repeat refine And.intro obl ?_
  refine hK0 _ ?_; clear hK0
  refine aw_seq fun K1 hK1 => ?_
  refine aw_seq fun K2 hK2 => ?_
  refine aw_reg [0, 1] (by kernel_rfl) ?_
  simp (disch := omega) only [go_sem, seval]
  repeat refine And.intro obl ?_
  refine callG_of _ (ref02_Has_ok _ _ _) ?_
  simp (disch := omega) only [go_sem, seval]
  repeat refine And.intro obl ?_
  refine hK2 _ ?_; clear hK2
  refine aw_cond _ (by rfl) (rfl) (fun c0 => ?_) (fun c0 => ?_)
  · try simp only [push_cast] at c0
    refine aw_seq fun K3 hK3 => ?_
    refine aw_reg [0] (by kernel_rfl) ?_
    simp (disch := omega) only [go_sem, seval]
    repeat refine And.intro obl ?_
    refine hK3 _ ?_; clear hK3
    refine aw_ret ?_
    refine ret_tmp 4 rfl (by simp (disch := omega) only [go_sem, seval]) ?_
    exact Exp.encL rfl (by rw [insS, if_pos c0])
  · try simp only [push_cast] at c0
    refine aw_skip ?_
    refine hK1 _ ?_; clear hK1
    refine aw_seq fun K4 hK4 => ?_
    refine aw_reg [0, 1] (by kernel_rfl) ?_
    simp (disch := omega) only [go_sem, seval]
    repeat refine And.intro obl ?_
    refine hK4 _ ?_; clear hK4
    refine aw_seq fun K5 hK5 => ?_
    refine aw_reg [0, 1, 5] (by kernel_rfl) ?_
    simp (disch := omega) only [go_sem, seval]
    repeat refine And.intro obl ?_
    refine hK5 _ ?_; clear hK5
    refine aw_seq fun K6 hK6 => ?_
    refine aw_seq fun K7 hK7 => ?_
    refine aw_reg [0, 1, 5, 6] (by kernel_rfl) ?_
    simp (disch := omega) only [go_sem, seval]
    repeat refine And.intro obl ?_
    refine hK7 _ ?_; clear hK7
    refine aw_block ?_
    refine aw_nilR 5 3 1 eI rfl rfl ?_
    refine aw_loopK [0, 1, 5, 6, 7] (fun n ρ => ∃ i, ∃ out, ∃ dn, n = l.length - i ∧ (i ≤ l.length) ∧ ((if dn then out ++ l.drop i else out ++ insO x (l.drop i)) = insO x l) ∧ (dn = false → out.length ≤ i) ∧ (out.length ≤ i + 1) ∧ ρ = mkE O [(0, encI l), (1, vi x), (5, rowI out), (6, vb dn), (7, vi (i : Nat))]) _ ⟨0, [], false, rfl, ?_, ?_, ?_, ?_, ?_⟩ ?_
    · exact dfl
    · exact dfl
    · exact dfl
    · exact dfl
    · simp (disch := omega) only [go_sem, seval] <;> first | rfl | omega | simp | simp_all
    rintro n ρ ⟨i, out, dn, rfl, l0_0, l0_1, l0_2, l0_3, rfl⟩ K8 hK8
    refine aw_seq fun K9 hK9 => ?_
    refine aw_seq fun K10 hK10 => ?_
    refine aw_reg [0, 1, 5, 6, 7] (by kernel_rfl) ?_
    simp (disch := omega) only [go_sem, seval]
    repeat refine And.intro obl ?_
    refine hK10 _ ?_; clear hK10
    refine aw_cond _ (by rfl) (rfl) (fun c1 => ?_) (fun c1 => ?_)
    · try simp only [push_cast] at c1
      refine aw_skip ?_
      refine hK9 _ ?_; clear hK9
      refine aw_seq fun K11 hK11 => ?_
      refine aw_block ?_
      refine aw_seq fun K12 hK12 => ?_
      refine aw_seq fun K13 hK13 => ?_
      refine aw_reg [0, 1, 5, 6, 7] (by kernel_rfl) ?_
      simp (disch := omega) only [go_sem, seval]
      repeat refine And.intro obl ?_
      refine hK13 _ ?_; clear hK13
      refine aw_cond _ (by rfl) (rfl) (fun c2 => ?_) (fun c2 => ?_)
      · try simp only [push_cast] at c2
        refine aw_seq fun K14 hK14 => ?_
        refine aw_reg [0, 1, 5, 7] (by kernel_rfl) ?_
        simp (disch := omega) only [go_sem, seval]
        repeat refine And.intro obl ?_
        refine hK14 _ ?_; clear hK14
        refine aw_reg [0, 1, 5, 7] (by kernel_rfl) ?_
        simp (disch := omega) only [go_sem, seval]
        repeat refine And.intro obl ?_
        refine hK12 _ ?_; clear hK12
        refine aw_reg [0, 1, 5, 6, 7] (by kernel_rfl) ?_
        simp (disch := omega) only [go_sem, seval]
        repeat refine And.intro obl ?_
        refine hK11 _ ?_; clear hK11
        refine aw_reg [0, 1, 5, 6, 7] (by kernel_rfl) ?_
        simp (disch := omega) only [go_sem, seval]
        repeat refine And.intro obl ?_
        refine hK8 _ _ ?_ ⟨i + 1, out ++ [x, l.getD i default], true, rfl, ?_, ?_, ?_, ?_, ?_⟩
        · exact dfl
        · exact dfl
        · rw [if_pos rfl, ← l0_1, if_neg (by simp [c2.1]), dropD default c1, insO, if_pos c2.2]; simp
        · intro h; cases h
        · have := l0_2 c2.1; simp <;> omega
        · simp (disch := omega) only [go_sem, seval] <;> first | rfl | omega | simp | simp_all
      · try simp only [push_cast] at c2
        refine aw_skip ?_
        refine hK12 _ ?_; clear hK12
        refine aw_reg [0, 1, 5, 6, 7] (by kernel_rfl) ?_
        simp (disch := omega) only [go_sem, seval]
        repeat refine And.intro obl ?_
        refine hK11 _ ?_; clear hK11
        refine aw_reg [0, 1, 5, 6, 7] (by kernel_rfl) ?_
        simp (disch := omega) only [go_sem, seval]
        repeat refine And.intro obl ?_
        refine hK8 _ _ ?_ ⟨i + 1, out ++ [l.getD i default], dn, rfl, ?_, ?_, ?_, ?_, ?_⟩
        · exact dfl
        · exact dfl
        · rw [← l0_1]
          rcases dn with _ | _
          · have : ¬ x < l.getD i default := by simpa using c2
            rw [dropD default c1, insO, if_neg this]; simp
          · rw [dropD default c1]; simp
        · intro h; have := l0_2 h; simp; omega
        · simp; omega
        · simp (disch := omega) only [go_sem, seval] <;> first | rfl | omega | simp | simp_all
    · try simp only [push_cast] at c1
      refine aw_exit ?_
      refine hK6 _ ?_; clear hK6
      refine aw_seq fun K15 hK15 => ?_
      refine aw_seq fun K16 hK16 => ?_
      refine aw_reg [1, 5, 6] (by kernel_rfl) ?_
      simp (disch := omega) only [go_sem, seval]
      repeat refine And.intro obl ?_
      refine hK16 _ ?_; clear hK16
      refine aw_cond _ (by rfl) (rfl) (fun c3 => ?_) (fun c3 => ?_)
      · try simp only [push_cast] at c3
        refine aw_reg [1, 5] (by kernel_rfl) ?_
        simp (disch := omega) only [go_sem, seval]
        repeat refine And.intro obl ?_
        refine hK15 _ ?_; clear hK15
        refine aw_seq fun K17 hK17 => ?_
        refine aw_frzL 5 _ rfl rfl ?_
        refine aw_reg [5] (by kernel_rfl) ?_
        simp (disch := omega) only [go_sem, seval]
        repeat refine And.intro obl ?_
        refine hK17 _ ?_; clear hK17
        refine aw_ret ?_
        refine ret_tmp 4 rfl (by simp (disch := omega) only [go_sem, seval]) ?_
        exact Exp.encL rfl (by rw [insS, if_neg (by rw [c0]; decide), ← l0_1, if_neg (by simp [c3]), dropE c1]; rfl)
      · try simp only [push_cast] at c3
        refine aw_skip ?_
        refine hK15 _ ?_; clear hK15
        refine aw_seq fun K18 hK18 => ?_
        refine aw_frzL 5 _ rfl rfl ?_
        refine aw_reg [5] (by kernel_rfl) ?_
        simp (disch := omega) only [go_sem, seval]
        repeat refine And.intro obl ?_
        refine hK18 _ ?_; clear hK18
        refine aw_ret ?_
        refine ret_tmp 4 rfl (by simp (disch := omega) only [go_sem, seval]) ?_
        exact Exp.encL rfl (by rw [insS, if_neg (by rw [c0]; decide), ← l0_1, if_pos c3, dropE c1, List.append_nil])
theorem slices_Clone_int_r (O : Env) (l : List Int) (hb : l.length ≤ 1000000) : PCall Try.prog O 57 [encI l] (rowI l) := by
  refine pcall_of_aw Try.func57 rfl (by kernel_rfl) ?_
  refine aw_seq fun K0 hK0 => ?_
  refine aw_reg [0] (by kernel_rfl) ?_
  simp (disch := omega) only [go_sem, seval]
  repeat refine And.intro obl ?_
  refine hK0 _ ?_; clear hK0
  refine aw_seq fun K1 hK1 => ?_
  refine aw_seq fun K2 hK2 => ?_
  refine aw_reg [0] (by kernel_rfl) ?_
  simp (disch := omega) only [go_sem, seval]
  repeat refine And.intro obl ?_
  intro β hβ
  refine hK2 _ ?_; clear hK2
  refine aw_cond _ (by rfl) (rfl) (fun c0 => ?_) (fun c0 => ?_)
  · try simp only [push_cast] at c0
    obtain rfl : l = [] := by
      cases l with
      | nil => rfl
      | cons x l => have := hβ (by simp); simp_all
    refine aw_seq fun K3 hK3 => ?_
    refine aw_reg [] (by kernel_rfl) ?_
    simp (disch := omega) only [go_sem, seval]
    repeat refine And.intro obl ?_
    refine hK3 _ ?_; clear hK3
    refine aw_ret ?_
    refine ret_tmp 2 rfl (by simp (disch := omega) only [go_sem, seval]) ?_
    exact Exp.nilrow _ _ (by simp (disch := omega) only [go_sem, seval])
  · try simp only [push_cast] at c0
    refine aw_skip ?_
    refine hK1 _ ?_; clear hK1
    refine aw_seq fun K4 hK4 => ?_
    refine aw_reg [0] (by kernel_rfl) ?_
    simp (disch := omega) only [go_sem, seval]
    repeat refine And.intro obl ?_
    refine hK4 _ ?_; clear hK4
    refine aw_ret ?_
    refine ret_tmp 2 rfl (by simp (disch := omega) only [go_sem, seval]) ?_
    exact Exp.rowL rfl (by rfl)
theorem insS_len (s : List Int) (x : Int) : (insS s x).length ≤ s.length + 1 := by
  unfold insS; split
  · omega
  · rw [insO_len]; omega
def chosenS (a b : List Int) (w : Bool) : List Int := a.foldl (fun acc x => if b.contains x == w then insS acc x else acc) []
theorem ref02_chosen_ok (O : Env) (a b : List Int) (w : Bool) (ha : a.length ≤ 1000) : PCall Try.prog O 83 [encI a, encI b, vb w] (encI (chosenS a b w)) := by
  refine pcall_has 0 rfl (.sl _ _ _) fun hl => ?_
  refine pcall_of_aw Try.func83 rfl (by kernel_rfl) ?_
  refine aw_seq fun K0 hK0 => ?_
  refine aw_reg [0, 1, 2] (by kernel_rfl) ?_
  simp (disch := omega) only [go_sem, seval]
  repeat refine And.intro obl ?_
  refine hK0 _ ?_; clear hK0
  refine aw_seq fun K1 hK1 => ?_
  refine aw_reg [0, 1, 2] (by kernel_rfl) ?_
  simp (disch := omega) only [go_sem, seval]
  repeat refine And.intro obl ?_
  refine hK1 _ ?_; clear hK1
  refine aw_seq fun K2 hK2 => ?_
  refine aw_seq fun K3 hK3 => ?_
  refine aw_reg [0, 1, 2, 7] (by kernel_rfl) ?_
  simp (disch := omega) only [go_sem, seval]
  repeat refine And.intro obl ?_
  refine hK3 _ ?_; clear hK3
  refine aw_block ?_
  refine aw_nilL 7 1 eI rfl rfl ?_
  refine aw_loopK [0, 1, 2, 7, 8] (fun n ρ => ∃ i, ∃ acc, n = a.length - i ∧ (i ≤ a.length) ∧ ((a.drop i).foldl (fun acc x => if b.contains x == w then insS acc x else acc) acc = chosenS a b w) ∧ (acc.length ≤ i) ∧ ρ = mkE O [(0, encI a), (1, encI b), (2, vb w), (7, encI acc), (8, vi (i : Nat))]) _ ⟨0, [], rfl, ?_, ?_, ?_, ?_⟩ ?_
  · exact dfl
  · rfl
  · exact dfl
  · simp (disch := omega) only [go_sem, seval] <;> first | rfl | omega | simp | simp_all
  rintro n ρ ⟨i, acc, rfl, l0_0, l0_1, l0_2, rfl⟩ K4 hK4
  refine aw_seq fun K5 hK5 => ?_
  refine aw_seq fun K6 hK6 => ?_
  refine aw_reg [0, 1, 2, 7, 8] (by kernel_rfl) ?_
  simp (disch := omega) only [go_sem, seval]
  repeat refine And.intro obl ?_
  refine hK6 _ ?_; clear hK6
  refine aw_cond _ (by rfl) (rfl) (fun c0 => ?_) (fun c0 => ?_)
  · try simp only [push_cast] at c0
    refine aw_skip ?_
    refine hK5 _ ?_; clear hK5
    refine aw_seq fun K7 hK7 => ?_
    refine aw_block ?_
    refine aw_seq fun K8 hK8 => ?_
    refine aw_reg [0, 1, 2, 7, 8] (by kernel_rfl) ?_
    simp (disch := omega) only [go_sem, seval]
    repeat refine And.intro obl ?_
    refine callG_of _ (ref02_Has_ok _ _ _) ?_
    simp (disch := omega) only [go_sem, seval]
    repeat refine And.intro obl ?_
    refine hK8 _ ?_; clear hK8
    refine aw_cond _ (by rfl) (rfl) (fun c1 => ?_) (fun c1 => ?_)
    · try simp only [push_cast] at c1
      refine aw_reg [0, 1, 2, 7, 8] (by kernel_rfl) ?_
      simp (disch := omega) only [go_sem, seval]
      repeat refine And.intro obl ?_
      refine callG_of _ (ref02_insert_ok _ _ _ (by first | omega | decide)) ?_
      simp (disch := omega) only [go_sem, seval]
      repeat refine And.intro obl ?_
      refine hK7 _ ?_; clear hK7
      refine aw_reg [0, 1, 2, 7, 8] (by kernel_rfl) ?_
      simp (disch := omega) only [go_sem, seval]
      repeat refine And.intro obl ?_
      refine hK4 _ _ ?_ ⟨i + 1, insS acc (a.getD i default), rfl, ?_, ?_, ?_, ?_⟩
      · exact dfl
      · exact dfl
      · rw [← l0_1, dropD default c0, List.foldl_cons, if_pos (by simpa using c1)]
      · have := insS_len acc (a.getD i default); omega
      · simp (disch := omega) only [go_sem, seval] <;> first | rfl | omega | simp | simp_all
    · try simp only [push_cast] at c1
      refine aw_skip ?_
      refine hK7 _ ?_; clear hK7
      refine aw_reg [0, 1, 2, 7, 8] (by kernel_rfl) ?_
      simp (disch := omega) only [go_sem, seval]
      repeat refine And.intro obl ?_
      refine hK4 _ _ ?_ ⟨i + 1, acc, rfl, ?_, ?_, ?_, ?_⟩
      · exact dfl
      · exact dfl
      · rw [← l0_1, dropD default c0, List.foldl_cons, if_neg (by simpa using c1)]
      · exact dfl
      · simp (disch := omega) only [go_sem, seval] <;> first | rfl | omega | simp | simp_all
  · try simp only [push_cast] at c0
    refine aw_exit ?_
    refine hK2 _ ?_; clear hK2
    refine aw_seq fun K9 hK9 => ?_
    refine aw_reg [7] (by kernel_rfl) ?_
    simp (disch := omega) only [go_sem, seval]
    repeat refine And.intro obl ?_
    refine hK9 _ ?_; clear hK9
    refine aw_ret ?_
    refine ret_tmp 6 rfl (by simp (disch := omega) only [go_sem, seval]) ?_
    exact Exp.encL rfl (by rw [← l0_1, dropE c0]; rfl)
theorem ref02_Common_ok (O : Env) (a b : List Int) (ha : a.length ≤ 1000) (hb : b.length ≤ 1000) : PCall Try.prog O 80 [encI a, encI b] (encI (chosenS a b true)) := by
  refine pcall_of_aw Try.func80 rfl (by kernel_rfl) ?_
  refine aw_seq fun K0 hK0 => ?_
  refine aw_reg [0, 1] (by kernel_rfl) ?_
  simp (disch := omega) only [go_sem, seval]
  repeat refine And.intro obl ?_
  refine hK0 _ ?_; clear hK0
  refine aw_seq fun K1 hK1 => ?_
  refine aw_reg [0, 1] (by kernel_rfl) ?_
  simp (disch := omega) only [go_sem, seval]
  repeat refine And.intro obl ?_
  refine callG_of _ (ref02_chosen_ok _ _ _ _ (by first | omega | decide)) ?_
  simp (disch := omega) only [go_sem, seval]
  repeat refine And.intro obl ?_
  refine hK1 _ ?_; clear hK1
  refine aw_ret ?_
  refine ret_tmp 4 rfl (by simp (disch := omega) only [go_sem, seval]) ?_
  exact Exp.encL rfl (by rfl)
theorem idset_Common_1_ok (O : Env) (p q : Bool) : PCall Try.prog O 79 [vb p, vb q] (vb (p && q)) := by
  refine pcall_of_aw Try.func79 rfl (by kernel_rfl) ?_
  refine aw_seq fun K0 hK0 => ?_
  refine aw_reg [0, 1] (by kernel_rfl) ?_
  simp (disch := omega) only [go_sem, seval]
  repeat refine And.intro obl ?_
  refine hK0 _ ?_; clear hK0
  refine aw_seq fun K1 hK1 => ?_
  refine aw_reg [0, 1] (by kernel_rfl) ?_
  simp (disch := omega) only [go_sem, seval]
  repeat refine And.intro obl ?_
  refine hK1 _ ?_; clear hK1
  refine aw_ret ?_
  refine ret_tmp 4 rfl (by simp (disch := omega) only [go_sem, seval]) ?_
  exact Exp.is (by simp (disch := omega) only [go_sem, seval] <;> refine congrArg vb ?_ <;> (exact dfl)) rfl rfl
def mrg (k : Bool → Bool → Bool) : List Int → List Int → List Int
  | [], [] => []
  | x :: a, [] => (if k true false then [x] else []) ++ mrg k a []
  | [], y :: b => (if k false true then [y] else []) ++ mrg k [] b
  | x :: a, y :: b =>
    if x < y then (if k true false then [x] else []) ++ mrg k a (y :: b)
    else if y < x then (if k false true then [y] else []) ++ mrg k (x :: a) b
    else (if k true true then [x] else []) ++ mrg k a b
termination_by a b => a.length + b.length
theorem mkI (l : List Int) : (Lib.compact (srt l)).length ≤ l.length := by
  have := Lib.compact_length_le (srt l); simpa using this
def mk (l : List Int) : List Int := Lib.compact (srt l)
theorem idset_Make_r (O : Env) (l : List Int) (hb : l.length ≤ 100000) : PCall Try.prog O 78 [encI l] (rowL 3 1 eI (mk l)) := by
  refine pcall_of_aw Try.func78 rfl (by kernel_rfl) ?_
  refine aw_seq fun K0 hK0 => ?_
  refine aw_reg [0] (by kernel_rfl) ?_
  simp (disch := omega) only [go_sem, seval]
  repeat refine And.intro obl ?_
  refine hK0 _ ?_; clear hK0
  refine aw_seq fun K1 hK1 => ?_
  refine aw_reg [0] (by kernel_rfl) ?_
  simp (disch := omega) only [go_sem, seval]
  repeat refine And.intro obl ?_
  refine callG_of _ (slices_Clone_int_r _ l (by omega)) ?_
  simp (disch := omega) only [go_sem, seval]
  repeat refine And.intro obl ?_
  refine hK1 _ ?_; clear hK1
  refine aw_seq fun K2 hK2 => ?_
  refine aw_reg [3] (by kernel_rfl) ?_
  simp (disch := omega) only [go_sem, seval]
  repeat refine And.intro obl ?_
  refine ⟨_, ecall_sort (s := 3) rfl Try.slices_Sort_int_none (fun blk off cap zs w h1 h2 h3 => Try.slices_Sort_int blk off cap zs w h1 h2 h3) (by omega), ?_⟩; rintro O1 r1 ⟨rfl, rfl⟩
  simp (disch := omega) only [go_sem, seval]
  repeat refine And.intro obl ?_
  refine hK2 _ ?_; clear hK2
  refine aw_seq fun K3 hK3 => ?_
  refine aw_reg [3] (by kernel_rfl) ?_
  simp (disch := omega) only [go_sem, seval]
  repeat refine And.intro obl ?_
  refine ⟨_, ecall_compact (s := 3) (l := srt l) rfl Try.slices_Compact_int_empty (fun blk off cap zs w h1 h2 h3 => Try.slices_Compact_int blk off cap zs w h1 h2 h3) (Lib.compact_length_le _), ?_⟩; rintro O1 r1 ⟨rfl, rfl⟩
  simp (disch := omega) only [go_sem, seval]
  repeat refine And.intro obl ?_
  refine hK3 _ ?_; clear hK3
  refine aw_ret ?_
  refine ret_tmp 2 rfl (by simp (disch := omega) only [go_sem, seval]) ?_
  refine Exp.cut rfl (by omega) rfl ?_ ?_
  · simp
  · simp [mk]
theorem idset_Make_ok (O : Env) (l : List Int) (hb : l.length ≤ 100000) : PCall Try.prog O 78 [encI l] (encI (mk l)) := pcall_encL (idset_Make_r O l hb)
theorem idset_merge_int_r (O : Env) (a b : List Int) (kf : FuncId) (k : Bool → Bool → Bool) (hk : ∀ O p q, PCall Try.prog O kf [vb p, vb q] (vb (k p q))) (hkb : hasBody Try.prog kf = true) (hb : a.length + b.length ≤ 1000000) : PCall Try.prog O 77 [encI a, encI b, .fn kf [] []] (rowL 3 1 eI (mrg k a b)) := by
  refine pcall_of_aw Try.func77 rfl (by kernel_rfl) ?_
  refine aw_seq fun K0 hK0 => ?_
  refine aw_reg [0, 1, 2] (by kernel_rfl) ?_
  simp (disch := omega) only [go_sem, seval, hkb]
  repeat refine And.intro obl ?_
  refine hK0 _ ?_; clear hK0
  refine aw_seq fun K1 hK1 => ?_
  refine aw_reg [0, 1, 2] (by kernel_rfl) ?_
  simp (disch := omega) only [go_sem, seval, hkb]
  repeat refine And.intro obl ?_
  refine hK1 _ ?_; clear hK1
  refine aw_seq fun K2 hK2 => ?_
  refine aw_block ?_
  refine aw_nilR 7 3 1 eI rfl rfl ?_
  refine aw_loopK [0, 1, 2, 7] (fun n ρ => ∃ c, ∃ d, ∃ out, n = c.length + d.length ∧ (out ++ mrg k c d = mrg k a b) ∧ (out.length + c.length + d.length ≤ a.length + b.length) ∧ ρ = mkE O [(0, encI c), (1, encI d), (2, .fn kf [] []), (7, rowI out)]) _ ⟨a, b, [], rfl, ?_, ?_, ?_⟩ ?_
  · rfl
  · exact dfl
  · simp (disch := omega) only [go_sem, seval, hkb] <;> first | rfl | omega | simp | simp_all
  rintro n ρ ⟨c, d, out, rfl, l0_0, l0_1, rfl⟩ K3 hK3
  rcases c with _ | ⟨x, c⟩ <;> rcases d with _ | ⟨y, d⟩
  · skip
    refine aw_seq fun K4 hK4 => ?_
    refine aw_seq fun K5 hK5 => ?_
    refine aw_reg [0, 1, 2, 7] (by kernel_rfl) ?_
    simp (disch := omega) only [go_sem, seval, hkb]
    repeat refine And.intro obl ?_
    refine hK5 _ ?_; clear hK5
    refine aw_cond false (by rfl) (rfl) (fun h => by cases h) (fun _ => ?_)
    refine aw_exit ?_
    refine hK2 _ ?_; clear hK2
    refine aw_seq fun K6 hK6 => ?_
    refine aw_reg [7] (by kernel_rfl) ?_
    simp (disch := omega) only [go_sem, seval, hkb]
    repeat refine And.intro obl ?_
    refine hK6 _ ?_; clear hK6
    refine aw_ret ?_
    refine ret_tmp 6 rfl (by simp (disch := omega) only [go_sem, seval, hkb]) ?_
    exact Exp.ownL rfl (by omega) rfl rfl (by rw [mrg] at l0_0; simpa using l0_0)
  · skip
    refine aw_seq fun K7 hK7 => ?_
    refine aw_seq fun K8 hK8 => ?_
    refine aw_reg [0, 1, 2, 7] (by kernel_rfl) ?_
    simp (disch := omega) only [go_sem, seval, hkb]
    repeat refine And.intro obl ?_
    refine hK8 _ ?_; clear hK8
    refine aw_cond true (by rfl) (rfl) (fun _ => ?_) (fun h => by cases h)
    refine aw_skip ?_
    refine hK7 _ ?_; clear hK7
    refine aw_block ?_
    refine aw_seq fun K9 hK9 => ?_
    refine aw_regDc [0, 1, 2, 7] [] mixed (by kernel_rfl) ?_
    simp (disch := omega) only [go_sem, seval, hkb]
    repeat refine And.intro obl ?_
    refine hK9 _ ?_; clear hK9
    refine aw_seq fun K10 hK10 => ?_
    refine aw_regDc [0, 1, 2, 7, 8] [] mixed (by kernel_rfl) ?_
    simp (disch := omega) only [go_sem, seval, hkb]
    repeat refine And.intro obl ?_
    refine hK10 _ ?_; clear hK10
    refine aw_seq fun K11 hK11 => ?_
    refine aw_reg [0, 1, 2, 7, 8, 9] (by kernel_rfl) ?_
    simp (disch := omega) only [go_sem, seval, hkb]
    repeat refine And.intro obl ?_
    refine hK11 _ ?_; clear hK11
    refine aw_seq fun K12 hK12 => ?_
    refine aw_seq fun K13 hK13 => ?_
    refine aw_reg [0, 1, 2, 7, 8, 9, 10] (by kernel_rfl) ?_
    simp (disch := omega) only [go_sem, seval, hkb]
    repeat refine And.intro obl ?_
    refine hK13 _ ?_; clear hK13
    refine aw_cond false (by rfl) (rfl) (fun h => by cases h) (fun _ => ?_)
    refine aw_skip ?_
    refine hK12 _ ?_; clear hK12
    refine aw_seq fun K14 hK14 => ?_
    refine aw_seq fun K15 hK15 => ?_
    refine aw_reg [0, 1, 2, 7, 8, 9, 10] (by kernel_rfl) ?_
    simp (disch := omega) only [go_sem, seval, hkb]
    repeat refine And.intro obl ?_
    refine hK15 _ ?_; clear hK15
    refine aw_cond true (by rfl) (rfl) (fun _ => ?_) (fun h => by cases h)
    refine aw_regDc [0, 1, 2, 7, 8, 9] [(1, 64)] mixed (by kernel_rfl) ?_
    simp (disch := omega) only [go_sem, seval, hkb]
    repeat refine And.intro obl ?_
    refine hK14 _ ?_; clear hK14
    refine aw_seq fun K16 hK16 => ?_
    refine aw_reg [0, 1, 2, 7, 8, 9, 10] (by kernel_rfl) ?_
    simp (disch := omega) only [go_sem, seval, hkb]
    repeat refine And.intro obl ?_
    refine callG_of _ (hk _ _ _) ?_
    simp (disch := omega) only [go_sem, seval, hkb]
    repeat refine And.intro obl ?_
    refine hK16 _ ?_; clear hK16
    refine aw_cond _ (by rfl) (rfl) (fun c4 => ?_) (fun c4 => ?_)
    · try simp only [push_cast] at c4
      refine aw_reg [0, 1, 2, 7, 10] (by kernel_rfl) ?_
      simp (disch := omega) only [go_sem, seval, hkb]
      repeat refine And.intro obl ?_
      refine hK3 _ _ ?_ ⟨[], d, out ++ [y], rfl, ?_, ?_, ?_⟩
      · exact dfl
      · rw [← l0_0, mrg]; simp_all
      · exact dfl
      · simp (disch := omega) only [go_sem, seval, hkb] <;> first | rfl | omega | simp | simp_all
    · try simp only [push_cast] at c4
      refine aw_skip ?_
      refine hK3 _ _ ?_ ⟨[], d, out, rfl, ?_, ?_, ?_⟩
      · exact dfl
      · rw [← l0_0, mrg]; simp_all
      · exact dfl
      · simp (disch := omega) only [go_sem, seval, hkb] <;> first | rfl | omega | simp | simp_all
  · skip
    refine aw_seq fun K17 hK17 => ?_
    refine aw_seq fun K18 hK18 => ?_
    refine aw_reg [0, 1, 2, 7] (by kernel_rfl) ?_
    simp (disch := omega) only [go_sem, seval, hkb]
    repeat refine And.intro obl ?_
    refine hK18 _ ?_; clear hK18
    refine aw_cond true (by rfl) (rfl) (fun _ => ?_) (fun h => by cases h)
    refine aw_skip ?_
    refine hK17 _ ?_; clear hK17
    refine aw_block ?_
    refine aw_seq fun K19 hK19 => ?_
    refine aw_regDc [0, 1, 2, 7] [] mixed (by kernel_rfl) ?_
    simp (disch := omega) only [go_sem, seval, hkb]
    repeat refine And.intro obl ?_
    refine hK19 _ ?_; clear hK19
    refine aw_seq fun K20 hK20 => ?_
    refine aw_regDc [0, 1, 2, 7, 8] [] mixed (by kernel_rfl) ?_
    simp (disch := omega) only [go_sem, seval, hkb]
    repeat refine And.intro obl ?_
    refine hK20 _ ?_; clear hK20
    refine aw_seq fun K21 hK21 => ?_
    refine aw_reg [0, 1, 2, 7, 8, 9] (by kernel_rfl) ?_
    simp (disch := omega) only [go_sem, seval, hkb]
    repeat refine And.intro obl ?_
    refine hK21 _ ?_; clear hK21
    refine aw_seq fun K22 hK22 => ?_
    refine aw_seq fun K23 hK23 => ?_
    refine aw_reg [0, 1, 2, 7, 8, 9, 10] (by kernel_rfl) ?_
    simp (disch := omega) only [go_sem, seval, hkb]
    repeat refine And.intro obl ?_
    refine hK23 _ ?_; clear hK23
    refine aw_cond true (by rfl) (rfl) (fun _ => ?_) (fun h => by cases h)
    refine aw_regDc [0, 1, 2, 7, 8, 9] [(0, 58)] mixed (by kernel_rfl) ?_
    simp (disch := omega) only [go_sem, seval, hkb]
    repeat refine And.intro obl ?_
    refine hK22 _ ?_; clear hK22
    refine aw_seq fun K24 hK24 => ?_
    refine aw_seq fun K25 hK25 => ?_
    refine aw_reg [0, 1, 2, 7, 8, 9, 10] (by kernel_rfl) ?_
    simp (disch := omega) only [go_sem, seval, hkb]
    repeat refine And.intro obl ?_
    refine hK25 _ ?_; clear hK25
    refine aw_cond false (by rfl) (rfl) (fun h => by cases h) (fun _ => ?_)
    refine aw_skip ?_
    refine hK24 _ ?_; clear hK24
    refine aw_seq fun K26 hK26 => ?_
    refine aw_reg [0, 1, 2, 7, 8, 9, 10] (by kernel_rfl) ?_
    simp (disch := omega) only [go_sem, seval, hkb]
    repeat refine And.intro obl ?_
    refine callG_of _ (hk _ _ _) ?_
    simp (disch := omega) only [go_sem, seval, hkb]
    repeat refine And.intro obl ?_
    refine hK26 _ ?_; clear hK26
    refine aw_cond _ (by rfl) (rfl) (fun c8 => ?_) (fun c8 => ?_)
    · try simp only [push_cast] at c8
      refine aw_reg [0, 1, 2, 7, 10] (by kernel_rfl) ?_
      simp (disch := omega) only [go_sem, seval, hkb]
      repeat refine And.intro obl ?_
      refine hK3 _ _ ?_ ⟨c, [], out ++ [x], rfl, ?_, ?_, ?_⟩
      · exact dfl
      · rw [← l0_0, mrg]; simp_all
      · exact dfl
      · simp (disch := omega) only [go_sem, seval, hkb] <;> first | rfl | omega | simp | simp_all
    · try simp only [push_cast] at c8
      refine aw_skip ?_
      refine hK3 _ _ ?_ ⟨c, [], out, rfl, ?_, ?_, ?_⟩
      · exact dfl
      · rw [← l0_0, mrg]; simp_all
      · exact dfl
      · simp (disch := omega) only [go_sem, seval, hkb] <;> first | rfl | omega | simp | simp_all
  · skip
    refine aw_seq fun K27 hK27 => ?_
    refine aw_seq fun K28 hK28 => ?_
    refine aw_reg [0, 1, 2, 7] (by kernel_rfl) ?_
    simp (disch := omega) only [go_sem, seval, hkb]
    repeat refine And.intro obl ?_
    refine hK28 _ ?_; clear hK28
    refine aw_cond true (by rfl) (rfl) (fun _ => ?_) (fun h => by cases h)
    refine aw_skip ?_
    refine hK27 _ ?_; clear hK27
    refine aw_block ?_
    refine aw_seq fun K29 hK29 => ?_
    refine aw_regDc [0, 1, 2, 7] [] mixed (by kernel_rfl) ?_
    simp (disch := omega) only [go_sem, seval, hkb]
    repeat refine And.intro obl ?_
    refine hK29 _ ?_; clear hK29
    refine aw_seq fun K30 hK30 => ?_
    refine aw_regDc [0, 1, 2, 7, 8] [] mixed (by kernel_rfl) ?_
    simp (disch := omega) only [go_sem, seval, hkb]
    repeat refine And.intro obl ?_
    refine hK30 _ ?_; clear hK30
    refine aw_seq fun K31 hK31 => ?_
    refine aw_reg [0, 1, 2, 7, 8, 9] (by kernel_rfl) ?_
    simp (disch := omega) only [go_sem, seval, hkb]
    repeat refine And.intro obl ?_
    refine hK31 _ ?_; clear hK31
    refine aw_seq fun K32 hK32 => ?_
    refine aw_seq fun K33 hK33 => ?_
    refine aw_reg [0, 1, 2, 7, 8, 9, 10] (by kernel_rfl) ?_
    simp (disch := omega) only [go_sem, seval, hkb]
    repeat refine And.intro obl ?_
    refine hK33 _ ?_; clear hK33
    refine aw_cond _ (by rfl) (rfl) (fun c10 => ?_) (fun c10 => ?_)
    · try simp only [push_cast] at c10
      refine aw_regDc [0, 1, 2, 7, 8, 9] [(0, 58)] mixed (by kernel_rfl) ?_
      simp (disch := omega) only [go_sem, seval, hkb]
      repeat refine And.intro obl ?_
      refine hK32 _ ?_; clear hK32
      refine aw_seq fun K34 hK34 => ?_
      refine aw_seq fun K35 hK35 => ?_
      refine aw_reg [0, 1, 2, 7, 8, 9, 10] (by kernel_rfl) ?_
      simp (disch := omega) only [go_sem, seval, hkb]
      repeat refine And.intro obl ?_
      refine hK35 _ ?_; clear hK35
      refine aw_cond _ (by rfl) (rfl) (fun c11 => ?_) (fun c11 => ?_)
      · try simp only [push_cast] at c11
        refine aw_regDc [0, 1, 2, 7, 8, 9] [(1, 64)] mixed (by kernel_rfl) ?_
        simp (disch := omega) only [go_sem, seval, hkb]
        repeat refine And.intro obl ?_
        refine hK34 _ ?_; clear hK34
        refine aw_seq fun K36 hK36 => ?_
        refine aw_reg [0, 1, 2, 7, 8, 9, 10] (by kernel_rfl) ?_
        simp (disch := omega) only [go_sem, seval, hkb]
        repeat refine And.intro obl ?_
        refine callG_of _ (hk _ _ _) ?_
        simp (disch := omega) only [go_sem, seval, hkb]
        repeat refine And.intro obl ?_
        refine hK36 _ ?_; clear hK36
        refine aw_cond _ (by rfl) (rfl) (fun c12 => ?_) (fun c12 => ?_)
        · try simp only [push_cast] at c12
          refine aw_reg [0, 1, 2, 7, 10] (by kernel_rfl) ?_
          simp (disch := omega) only [go_sem, seval, hkb]
          repeat refine And.intro obl ?_
          refine hK3 _ _ ?_ ⟨c, d, out ++ [y], rfl, ?_, ?_, ?_⟩
          · exact dfl
          · have e : x = y := by omega
            subst e
            rw [← l0_0, mrg, if_neg (by omega), if_neg (by omega)]; simp_all
          · exact dfl
          · simp (disch := omega) only [go_sem, seval, hkb] <;> first | rfl | omega | simp | simp_all
        · try simp only [push_cast] at c12
          refine aw_skip ?_
          refine hK3 _ _ ?_ ⟨c, d, out, rfl, ?_, ?_, ?_⟩
          · exact dfl
          · have e : x = y := by omega
            subst e
            rw [← l0_0, mrg, if_neg (by omega), if_neg (by omega)]; simp_all
          · exact dfl
          · simp (disch := omega) only [go_sem, seval, hkb] <;> first | rfl | omega | simp | simp_all
      · try simp only [push_cast] at c11
        refine aw_skip ?_
        refine hK34 _ ?_; clear hK34
        refine aw_seq fun K37 hK37 => ?_
        refine aw_reg [0, 1, 2, 7, 8, 9, 10] (by kernel_rfl) ?_
        simp (disch := omega) only [go_sem, seval, hkb]
        repeat refine And.intro obl ?_
        refine callG_of _ (hk _ _ _) ?_
        simp (disch := omega) only [go_sem, seval, hkb]
        repeat refine And.intro obl ?_
        refine hK37 _ ?_; clear hK37
        refine aw_cond _ (by rfl) (rfl) (fun c13 => ?_) (fun c13 => ?_)
        · try simp only [push_cast] at c13
          refine aw_reg [0, 1, 2, 7, 10] (by kernel_rfl) ?_
          simp (disch := omega) only [go_sem, seval, hkb]
          repeat refine And.intro obl ?_
          refine hK3 _ _ ?_ ⟨c, y :: d, out ++ [x], rfl, ?_, ?_, ?_⟩
          · exact dfl
          · have h1 : ¬ y ≤ x := by omega
            rw [← l0_0, mrg, if_pos (by omega)]; simp_all
          · exact dfl
          · simp (disch := omega) only [go_sem, seval, hkb] <;> first | rfl | omega | simp | simp_all
        · try simp only [push_cast] at c13
          refine aw_skip ?_
          refine hK3 _ _ ?_ ⟨c, y :: d, out, rfl, ?_, ?_, ?_⟩
          · exact dfl
          · have h1 : ¬ y ≤ x := by omega
            rw [← l0_0, mrg, if_pos (by omega)]; simp_all
          · exact dfl
          · simp (disch := omega) only [go_sem, seval, hkb] <;> first | rfl | omega | simp | simp_all
    · try simp only [push_cast] at c10
      refine aw_skip ?_
      refine hK32 _ ?_; clear hK32
      refine aw_seq fun K38 hK38 => ?_
      refine aw_seq fun K39 hK39 => ?_
      refine aw_reg [0, 1, 2, 7, 8, 9, 10] (by kernel_rfl) ?_
      simp (disch := omega) only [go_sem, seval, hkb]
      repeat refine And.intro obl ?_
      refine hK39 _ ?_; clear hK39
      refine aw_cond _ (by rfl) (rfl) (fun c14 => ?_) (fun c14 => ?_)
      · try simp only [push_cast] at c14
        refine aw_regDc [0, 1, 2, 7, 8, 9] [(1, 64)] mixed (by kernel_rfl) ?_
        simp (disch := omega) only [go_sem, seval, hkb]
        repeat refine And.intro obl ?_
        refine hK38 _ ?_; clear hK38
        refine aw_seq fun K40 hK40 => ?_
        refine aw_reg [0, 1, 2, 7, 8, 9, 10] (by kernel_rfl) ?_
        simp (disch := omega) only [go_sem, seval, hkb]
        repeat refine And.intro obl ?_
        refine callG_of _ (hk _ _ _) ?_
        simp (disch := omega) only [go_sem, seval, hkb]
        repeat refine And.intro obl ?_
        refine hK40 _ ?_; clear hK40
        refine aw_cond _ (by rfl) (rfl) (fun c15 => ?_) (fun c15 => ?_)
        · try simp only [push_cast] at c15
          refine aw_reg [0, 1, 2, 7, 10] (by kernel_rfl) ?_
          simp (disch := omega) only [go_sem, seval, hkb]
          repeat refine And.intro obl ?_
          refine hK3 _ _ ?_ ⟨x :: c, d, out ++ [y], rfl, ?_, ?_, ?_⟩
          · exact dfl
          · have h1 : ¬ x ≤ y := by omega
            rw [← l0_0, mrg, if_neg (by omega), if_pos (by omega)]; simp_all
          · exact dfl
          · simp (disch := omega) only [go_sem, seval, hkb] <;> first | rfl | omega | simp | simp_all
        · try simp only [push_cast] at c15
          refine aw_skip ?_
          refine hK3 _ _ ?_ ⟨x :: c, d, out, rfl, ?_, ?_, ?_⟩
          · exact dfl
          · have h1 : ¬ x ≤ y := by omega
            rw [← l0_0, mrg, if_neg (by omega), if_pos (by omega)]; simp_all
          · exact dfl
          · simp (disch := omega) only [go_sem, seval, hkb] <;> first | rfl | omega | simp | simp_all
      · try simp only [push_cast] at c14
        omega
end Go.Sg
