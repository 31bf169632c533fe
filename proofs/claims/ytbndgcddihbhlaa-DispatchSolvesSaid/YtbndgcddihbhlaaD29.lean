/- The reference's Solve, and the law DispatchSolves. Printed by genw.py. -/
import Derived.Test.YtbndgcddihbhlaaSgB
import Derived.Test.YtbndgcddihbhlaaEx
import Derived.Test.YtbndgcddihbhlaaP5
import Derived.Test.YtbndgcddihbhlaaD14
set_option linter.unusedVariables false
set_option linter.unusedSimpArgs false
set_option maxRecDepth 20000
namespace Go.Sg
open Go.Proofs
theorem search_all {t : Table} {tr : List Trip} (hk : chkI t tr = 0) (hs : SmT t) : ∀ n, SE t tr n
  | 0 => fun _ _ _ _ _ _ _ _ h => absurd h (by omega)
  | n + 1 => fun O s st cost b f h1 h2 h3 => search_step O t tr n (search_all hk hs n) s st cost b f h1 hk hs h2 h3
theorem sq_begin {tr : List Trip} (ho : Ok tr) : Sq tr (List.replicate tr.length []) 0 := by
  have hr := rem_le ho (List.replicate tr.length [])
  have hg : ∀ i, i < tr.length → (List.replicate tr.length ([] : List Int)).getD i default = [] := fun i hi => by
    rw [List.getD_eq_getElem?_getD, List.getElem?_replicate, if_pos hi]; rfl
  refine ⟨⟨by omega, by simp, fun i hi => by rw [hg i hi]; exact Nat.zero_le _, fun i j hi hj => by rw [hg i hi] at hj; exact absurd hj (by simp)⟩, by omega⟩
theorem nil_rows (n : Nat) : RWk (.sl 1 n fun _ => [.v (.slice none 0 0)]) (encSt (List.replicate n [])) := by
  unfold encSt encL
  rw [List.length_replicate]
  refine RWk.slW fun i hi => .cons ?_ .nil
  have : (List.replicate n ([] : List Int)).getD i default = [] := by rw [List.getD_eq_getElem?_getD, List.getElem?_replicate, if_pos hi]; rfl
  rw [this]
  exact RWk.nilL _
theorem zcells {t : Table} {tr : List Trip} : RWkL (eTable t ++ [encTr tr, .v (.slice none 0 0), vi 0, vb false]) (sxL t tr default false) :=
  .cons (RWk.refl _) (.cons (RWk.refl _) (.cons (RWk.refl _) (.cons (RWk.refl _) (.cons (RWk.refl _) (.cons (RWk.refl _) (.cons (RWk.nilL _) (RWkL.refl _)))))))
set_option maxHeartbeats 4000000 in
theorem ref49_Solve_ok (O : Env) (t : Table) (tr : List Trip) (hsm : SmT t) : ECall Try.prog O 12 [.agg (eTable t), encTr tr] (fun O' r' => O' = O ∧ SolR t tr r') := by
  refine ecall_of_aw Try.func12 rfl (by kernel_rfl) ?_
  refine aw_seq fun K0 hK0 => ?_
  refine aw_reg [0, 1] (by kernel_rfl) ?_
  simp (disch := omega) only [go_sem, seval, outer_set, set_set, hi_set', sxL, List.cons_append, List.nil_append, Nat.mul_one, Nat.zero_add, Nat.add_zero, Nat.reduceBNe]
  repeat refine And.intro obl ?_
  refine hK0 _ ?_; clear hK0
  refine aw_seq fun K1 hK1 => ?_
  refine aw_reg [1, 2, 4] (by kernel_rfl) ?_
  simp (disch := omega) only [go_sem, seval, outer_set, set_set, hi_set', sxL, List.cons_append, List.nil_append, Nat.mul_one, Nat.zero_add, Nat.add_zero, Nat.reduceBNe]
  repeat refine And.intro obl ?_
  refine callG_of _ (ref48_Check_ok _ t tr) ?_
  simp (disch := omega) only [go_sem, seval, outer_set, set_set, hi_set', sxL, List.cons_append, List.nil_append, Nat.mul_one, Nat.zero_add, Nat.add_zero, Nat.reduceBNe]
  repeat refine And.intro obl ?_
  refine hK1 _ ?_; clear hK1
  refine aw_seq fun K2 hK2 => ?_
  refine aw_seq fun K3 hK3 => ?_
  refine aw_reg [1, 2, 4, 6] (by kernel_rfl) ?_
  simp (disch := omega) only [go_sem, seval, outer_set, set_set, hi_set', sxL, List.cons_append, List.nil_append, Nat.mul_one, Nat.zero_add, Nat.add_zero, Nat.reduceBNe]
  repeat refine And.intro obl ?_
  refine hK3 _ ?_; clear hK3
  refine aw_cond _ (by rfl) (rfl) (fun c0 => ?_) (fun c0 => ?_)
  · try simp only [push_cast] at c0
    refine aw_seq fun K4 hK4 => ?_
    refine aw_reg [4, 6] (by kernel_rfl) ?_
    simp (disch := omega) only [go_sem, seval, outer_set, set_set, hi_set', sxL, List.cons_append, List.nil_append, Nat.mul_one, Nat.zero_add, Nat.add_zero, Nat.reduceBNe]
    repeat refine And.intro obl ?_
    refine hK4 _ ?_; clear hK4
    refine aw_ret ?_
    try simp only [thenQ_ret, blockQ_ret]
    refine ret_solve (s := default) (e := chkI t tr) rfl (by simp (disch := omega) only [go_sem, seval, outer_set, set_set, hi_set', sxL, List.cons_append, List.nil_append, Nat.mul_one, Nat.zero_add, Nat.add_zero, Nat.reduceBNe]) (by simp (disch := omega) only [go_sem, seval, outer_set, set_set, hi_set', sxL, List.cons_append, List.nil_append, Nat.mul_one, Nat.zero_add, Nat.add_zero, Nat.reduceBNe]; try rfl) (by kernel_rfl) sch_0 (by simp (disch := omega) only [go_sem, seval, outer_set, set_set, hi_set', sxL, List.cons_append, List.nil_append, Nat.mul_one, Nat.zero_add, Nat.add_zero, Nat.reduceBNe]) ⟨rfl, .inl ⟨by simpa using c0, rfl⟩⟩
  · try simp only [push_cast] at c0
    refine aw_skip ?_
    refine hK2 _ ?_; clear hK2
    refine aw_seq fun K5 hK5 => ?_
    have hc0 : chkI t tr = 0 := by simpa using c0
    have ho := ok_chk hc0
    have hn := ho.n
    obtain ⟨best, hfull, hmin, hbest⟩ := ref_best (t := t) hc0 (n := 17) (by rw [so_begin]; have := rem_le ho (List.replicate tr.length []); omega)
    rw [so_begin, co_begin] at hbest
    refine aw_reg [1, 2, 4] (by kernel_rfl) ?_
    simp (disch := omega) only [go_sem, seval, outer_set, set_set, hi_set', sxL, List.cons_append, List.nil_append, Nat.mul_one, Nat.zero_add, Nat.add_zero, Nat.reduceBNe]
    repeat refine And.intro obl ?_
    refine hK5 _ ?_; clear hK5
    refine aw_seq fun K6 hK6 => ?_
    refine aw_toBx 7 rfl rfl zcells ?_
    refine aw_regIp [1, 4, 7] [] [4] (by kernel_rfl) (fun q hq => ?_) (by kernel_rfl)
    cases hq
    simp (disch := omega) only [go_sem, seval, outer_set, set_set, hi_set', sxL, List.cons_append, List.nil_append, Nat.mul_one, Nat.zero_add, Nat.add_zero, Nat.reduceBNe]
    repeat refine And.intro obl ?_
    rw [effF_callV]
    simp (disch := omega) only [go_sem, seval, outer_set, set_set, hi_set', sxL, List.cons_append, List.nil_append, Nat.mul_one, Nat.zero_add, Nat.add_zero, Nat.reduceBNe]
    repeat refine And.intro obl ?_
    refine callG_ex (ecall_args (args' := [.bp 7 0, encSt (List.replicate tr.length []), vi 0]) (.cons (RWk.refl _) (.cons (nil_rows _) (.cons (RWk.refl _) .nil))) (search_all hc0 hsm 17 _ 7 _ 0 default false (by simp (disch := omega) only [go_sem, seval, outer_set, set_set, hi_set', sxL, List.cons_append, List.nil_append, Nat.mul_one, Nat.zero_add, Nat.add_zero, Nat.reduceBNe]) (sq_begin ho) (by have := rem_le ho (List.replicate tr.length []); omega))) ?_
    rintro O2 r2 ⟨rfl, rfl⟩
    simp (disch := omega) only [go_sem, seval, outer_set, set_set, hi_set', sxL, List.cons_append, List.nil_append, Nat.mul_one, Nat.zero_add, Nat.add_zero, Nat.reduceBNe]
    repeat refine And.intro obl ?_
    refine hK6 _ ?_; clear hK6
    refine aw_seq fun K7 hK7 => ?_
    refine aw_reg [4, 7] (by kernel_rfl) ?_
    simp (disch := omega) only [go_sem, seval, outer_set, set_set, hi_set', sxL, List.cons_append, List.nil_append, Nat.mul_one, Nat.zero_add, Nat.add_zero, Nat.reduceBNe]
    repeat refine And.intro obl ?_
    refine hK7 _ ?_; clear hK7
    refine aw_ret ?_
    try simp only [thenQ_ret, blockQ_ret]
    refine ret_solve (s := scD tr best) (e := 0) rfl (by simp (disch := omega) only [go_sem, seval, outer_set, set_set, hi_set', sxL, List.cons_append, List.nil_append, Nat.mul_one, Nat.zero_add, Nat.add_zero, Nat.reduceBNe]) (by simp (disch := omega) only [go_sem, seval, outer_set, set_set, hi_set', sxL, List.cons_append, List.nil_append, Nat.mul_one, Nat.zero_add, Nat.add_zero, Nat.reduceBNe]; try simp only [hbest]; try rfl) (by kernel_rfl) (RWk.refl _) (by simp (disch := omega) only [go_sem, seval, outer_set, set_set, hi_set', sxL, List.cons_append, List.nil_append, Nat.mul_one, Nat.zero_add, Nat.add_zero, Nat.reduceBNe]) ⟨rfl, .inr ⟨hc0, best, hfull, hmin, rfl⟩⟩
theorem rsolve_ex (O : Env) (t : Table) (tr : List Trip) (hsm : SmT t) : ECall Try.prog O 12 [.agg (eTable t), encTr tr] (fun O' r => O' = O ∧ ∃ s e, r = .tup [.agg (eSchedule s), vi e] ∧ SolS t tr s e) :=
  (ref49_Solve_ok O t tr hsm).mono fun O' r h => ⟨h.1, by
    rcases h.2 with ⟨h1, h2⟩ | ⟨h1, best, h2, h3, h4⟩
    · exact ⟨_, _, h2, .inl ⟨h1, rfl, rfl⟩⟩
    · exact ⟨_, _, h4, .inr ⟨h1, rfl, best, h2, h3, rfl⟩⟩⟩
theorem sol_same {t : Table} {tr : List Trip} {s s2 : Schedule} {e e2 : Int} (h : SolS t tr s e) (h2 : SolS t tr s2 e2) : (betS s s2 = false ∧ betS s2 s = false) ∧ e = e2 := by
  by_cases hc : chkI t tr = 0
  · obtain ⟨h3, f, f1, f2, f3⟩ := solS_c h hc
    obtain ⟨h4, g, g1, g2, g3⟩ := solS_c h2 hc
    subst f3; subst g3
    exact ⟨⟨same_of hc f1 g1 f2 g2, same_of hc g1 f1 g2 f2⟩, by omega⟩
  · rcases h with ⟨_, h3, h4⟩ | ⟨h3, _⟩
    · rcases h2 with ⟨_, h5, h6⟩ | ⟨h5, _⟩
      · subst h3; subst h5
        exact ⟨⟨by kernel_rfl, by kernel_rfl⟩, by omega⟩
      · exact absurd h5 hc
    · exact absurd h3 hc
set_option maxHeartbeats 4000000 in
theorem law49_DispatchSolves_ok (O : Env) (t : Table) (tr : List Trip) (hk : okTable t) (hq : ∀ x ∈ tr, okTrip x) : PCall Try.prog O 3 [.agg (eTable t), encTr tr] (vb true) := by
  refine pcall_of_aw Try.func3 rfl (by kernel_rfl) ?_
  refine aw_seq fun K0 hK0 => ?_
  refine aw_reg [0, 1] (by kernel_rfl) ?_
  simp (disch := omega) only [go_sem, seval]
  repeat refine And.intro obl ?_
  refine hK0 _ ?_; clear hK0
  refine aw_seq fun K1 hK1 => ?_
  refine aw_seq fun K2 hK2 => ?_
  refine aw_reg [1, 2] (by kernel_rfl) ?_
  simp (disch := omega) only [go_sem, seval]
  repeat refine And.intro obl ?_
  refine callG_of _ (law49_small_ok _ t tr 9 hk hq (by decide)) ?_
  simp (disch := omega) only [go_sem, seval]
  repeat refine And.intro obl ?_
  refine hK2 _ ?_; clear hK2
  refine aw_cond _ (by rfl) (rfl) (fun c0 => ?_) (fun c0 => ?_)
  · try simp only [push_cast] at c0
    refine aw_seq fun K3 hK3 => ?_
    refine aw_reg [] (by kernel_rfl) ?_
    simp (disch := omega) only [go_sem, seval]
    repeat refine And.intro obl ?_
    refine callG_of _ (alive2_ok _) ?_
    simp (disch := omega) only [go_sem, seval]
    repeat refine And.intro obl ?_
    refine hK3 _ ?_; clear hK3
    refine aw_ret ?_
    refine ret_tmp 4 rfl (by simp (disch := omega) only [go_sem, seval]) ?_
    exact Exp.is (by simp (disch := omega) only [go_sem, seval] <;> refine congrArg vb ?_ <;> (exact dfl)) rfl rfl
  · try simp only [push_cast] at c0
    have hs := (sm_of c0).1
    refine aw_skip ?_
    refine hK1 _ ?_; clear hK1
    refine aw_seq fun K4 hK4 => ?_
    refine aw_reg [1, 2] (by kernel_rfl) ?_
    simp (disch := omega) only [go_sem, seval]
    repeat refine And.intro obl ?_
    refine callG_exR (solve_ex _ t tr hs) ?_
    rintro O2 r2 ⟨rfl, sc, er, rfl, hS⟩
    simp (disch := omega) only [go_sem, seval]
    repeat refine And.intro obl ?_
    refine hK4 _ ?_; clear hK4
    refine aw_seq fun K5 hK5 => ?_
    refine aw_reg [1, 2, 5, 6] (by kernel_rfl) ?_
    simp (disch := omega) only [go_sem, seval]
    repeat refine And.intro obl ?_
    refine callG_exR (rsolve_ex _ t tr hs) ?_
    rintro O3 r3 ⟨rfl, sc2, er2, rfl, hS2⟩
    simp (disch := omega) only [go_sem, seval]
    repeat refine And.intro obl ?_
    refine hK5 _ ?_; clear hK5
    refine aw_seq fun K6 hK6 => ?_
    obtain ⟨⟨hb1, hb2⟩, rfl⟩ := sol_same hS hS2
    refine aw_reg [5, 6, 7, 8] (by kernel_rfl) ?_
    simp (disch := omega) only [go_sem, seval]
    repeat refine And.intro obl ?_
    refine callG_of _ (ref49_Same_ok _ sc sc2) ?_
    simp (disch := omega) only [go_sem, seval]
    repeat refine And.intro obl ?_
    refine callC_to (fun g0 => alive2_ok _) ?_ ?_ ?_
    · first | exact fun _ => trivial | simp
    · rfl
    simp (disch := omega) only [go_sem, seval]
    repeat refine And.intro obl ?_
    refine hK6 _ ?_; clear hK6
    refine aw_ret ?_
    refine ret_tmp 4 rfl (by simp (disch := omega) only [go_sem, seval]) ?_
    exact Exp.is (by simp (disch := omega) only [go_sem, seval] <;> refine congrArg vb ?_ <;> (exact dfl)) rfl rfl
end Go.Sg
