/- Contract of Solve. Printed by genw.py. -/
import Derived.Test.YtbndgcddihbhlaaSgB
import Derived.Test.YtbndgcddihbhlaaD23
set_option linter.unusedVariables false
set_option linter.unusedSimpArgs false
set_option maxRecDepth 400000
namespace Go.Sg
open Go.Proofs
open Go.RowKit
theorem qs_ret {α : Type} {enc : α → List DV} {e : TypeId} {z : Nat} {P : Program} {fn : Func} {O : Env} {R : Env → DV → Prop} {w0 : World} {I0 : Nat → Prop} {A0 : Own} {rs : List (Rw α)} {ρ : Env} (h : retQ P fn O R .ret ρ) :
    QS fn.ntmps (Fo enc e z w0 I0 (ownIn A0) fun _ => False) (PhiE P fn O R w0 I0 A0) .ret rs ρ := fun I A a w hs hd hf => ⟨.inl rfl, I, A, ρ, hs, hf.2.2.2, h, .inl hd⟩
theorem ret_solve {P : Program} {fn : Func} {O ρ : Env} {R : Env → DV → Prop} {cs : List DV} {s : Schedule} {e : Int} (hf : fn.results = #[.cell 4 31, .tmp 5]) (h1 : hi ρ = outer O) (h2 : ρ 4 = .bx cs) (h3 : ldOf P 31 = some (some cs.length)) (hw : RWk (.agg cs) (.agg (eSchedule s))) (h5 : ρ 5 = vi e)
    (hR : R O (.tup [.agg (eSchedule s), vi e])) : retQ P fn O R .ret ρ :=
  ⟨O, .tup [.agg (eSchedule s), vi e], out_of_hi h1, fun _ => frOk.refl _, fun _ h => h, by
    rw [hf]
    refine ⟨_, rfl, rfl, fun j v d hv hd => ?_⟩
    match j with
    | 0 =>
      simp only [List.getElem?_cons_zero, Option.some.injEq] at hv hd
      subst hv; subst hd
      exact ⟨cs, h2, .inl ⟨h3, hw⟩⟩
    | 1 =>
      simp at hv hd
      subst hv; subst hd
      exact ⟨by rw [h5]; rfl, by rw [h5]; exact RWk.refl _⟩
    | j + 2 => simp at hv, hR⟩
theorem vp_0 (tr : List Trip) : Vp tr (fun _ => 0) := ⟨fun _ _ => Nat.zero_le _, fun _ _ => rfl⟩
theorem sch_0 : RWk (.agg [.v (.slice none 0 0), vi 0]) (.agg (eSchedule default)) :=
  RWk.aggCons (RWk.nilL _) (RWk.refl _) rfl
def SolR (t : Table) (tr : List Trip) (r : DV) : Prop := (chkI t tr ≠ 0 ∧ r = .tup [.agg (eSchedule default), vi (chkI t tr)]) ∨ (chkI t tr = 0 ∧ ∃ best, Full tr (csF t tr) best ∧ (∀ f, Full tr (csF t tr) f → cmD tr best f (enA tr) ≤ 0) ∧ r = .tup [.agg (eSchedule (scD tr best)), vi 0])
theorem dispatch_problem_orders_ok (O : Env) (tr : List Trip) (c : Cl) : PCall Try.prog O 26 [prV tr c] (.fn 50 [] [.dp [prV tr c]]) := by
  refine pcall_of_aw Try.func26 rfl (by kernel_rfl) ?_
  refine aw_seq fun K0 hK0 => ?_
  refine aw_reg [0] (by kernel_rfl) ?_
  simp (disch := omega) only [go_sem, seval, List.length_map, Nat.reduceBNe, spl_dr]
  repeat refine And.intro obl ?_
  refine hK0 _ ?_; clear hK0
  refine aw_seq fun K1 hK1 => ?_
  refine aw_frzB 1 rfl rfl (by first | rfl | kernel_rfl) ?_
  refine aw_reg [1] (by kernel_rfl) ?_
  simp (disch := omega) only [go_sem, seval, List.length_map, Nat.reduceBNe, spl_dr]
  repeat refine And.intro obl ?_
  refine hK1 _ ?_; clear hK1
  refine aw_ret ?_
  refine ret_tmp 2 rfl (by simp (disch := omega) only [go_sem, seval, List.length_map, Nat.reduceBNe, spl_dr]) ?_
  refine Exp.is (by simp (disch := omega) only [go_sem, seval, List.length_map, Nat.reduceBNe, spl_dr]; try rfl) rfl rfl
set_option maxRecDepth 20000 in
set_option maxHeartbeats 8000000 in
theorem dispatch_Solve_ok (O : Env) (t : Table) (tr : List Trip) (hsm : SmT t) : ECall Try.prog O 11 [.agg (eTable t), encTr tr] (fun O' r' => O' = O ∧ SolR t tr r') := by
  refine ecall_of_aws (enc := drL) (e := 60) (z := 16) Try.func11 rfl (by kernel_rfl) (fun w0 I0 A0 => ?_)
  have hF := fo_st drL 60 16 w0 I0 (ownIn A0) (fun _ => False)
  refine aws_seq fun K0 hK0 => ?_
  refine awf_lift hF ?_
  refine aw_reg [0, 1] (by kernel_rfl) ?_
  simp (disch := omega) only [go_sem, seval, List.length_map, Nat.reduceBNe, spl_dr]
  repeat refine And.intro obl ?_
  refine hK0 _ _ ?_; clear hK0
  refine aws_seq fun K1 hK1 => ?_
  refine awf_seq fun K2 hK2 => ?_
  refine awf_lift hF ?_
  refine aw_reg [2, 3, 4] (by kernel_rfl) ?_
  simp (disch := omega) only [go_sem, seval, List.length_map, Nat.reduceBNe, spl_dr]
  repeat refine And.intro obl ?_
  refine callG_of _ (timetable_Check_ok _ t tr) ?_
  simp (disch := omega) only [go_sem, seval, List.length_map, Nat.reduceBNe, spl_dr]
  repeat refine And.intro obl ?_
  refine hK2 _ _ ?_; clear hK2
  refine awf_seq fun K3 hK3 => ?_
  refine awf_lift hF ?_
  refine aw_reg [2, 3, 4, 6] (by kernel_rfl) ?_
  simp (disch := omega) only [go_sem, seval, List.length_map, Nat.reduceBNe, spl_dr]
  repeat refine And.intro obl ?_
  refine hK3 _ _ ?_; clear hK3
  refine awf_cond _ (by rfl) (rfl) (fun c0 => ?_) (fun c0 => ?_)
  · try simp only [push_cast] at c0
    refine awf_seq fun K4 hK4 => ?_
    refine awf_lift hF ?_
    refine aw_reg [4, 6] (by kernel_rfl) ?_
    simp (disch := omega) only [go_sem, seval, List.length_map, Nat.reduceBNe, spl_dr]
    repeat refine And.intro obl ?_
    refine hK4 _ _ ?_; clear hK4
    refine awf_ret ?_
    try simp only [blockF_ret, thenF_ret, ↓reduceIte]
    refine qs_ret (ret_solve (s := default) (e := chkI t tr) rfl (by simp (disch := omega) only [go_sem, seval, List.length_map, Nat.reduceBNe, spl_dr]) (by simp (disch := omega) only [go_sem, seval, List.length_map, Nat.reduceBNe, spl_dr]; try rfl) (by kernel_rfl) sch_0 (by simp (disch := omega) only [go_sem, seval, List.length_map, Nat.reduceBNe, spl_dr]) ⟨rfl, .inl ⟨by simpa using c0, rfl⟩⟩)
  · try simp only [push_cast] at c0
    refine awf_skip ?_
    refine hK1 _ _ ?_; clear hK1
    refine aws_seq fun K5 hK5 => ?_
    have hc0 : chkI t tr = 0 := by simpa using c0
    have ho := ok_chk hc0
    refine awf_lift hF ?_
    refine aw_reg [2, 3, 4, 5] (by kernel_rfl) ?_
    simp (disch := omega) only [go_sem, seval, List.length_map, Nat.reduceBNe, spl_dr]
    repeat refine And.intro obl ?_
    refine callG_of _ (pcall_frzB (by first | rfl | kernel_rfl) (dispatch_pose_ok _ t tr hc0 hsm)) ?_
    simp (disch := omega) only [go_sem, seval, List.length_map, Nat.reduceBNe, spl_dr]
    repeat refine And.intro obl ?_
    refine hK5 _ _ ?_; clear hK5
    refine aws_seq fun K6 hK6 => ?_
    refine awf_lift hF ?_
    refine aw_reg [3, 4, 5, 7] (by kernel_rfl) ?_
    simp (disch := omega) only [go_sem, seval, List.length_map, Nat.reduceBNe, spl_dr]
    repeat refine And.intro obl ?_
    refine callG_exR (dispatch_problem_known_ok _ tr (csF t tr) ho) ?_
    rintro O2 r2 ⟨rfl, kn, hkn, rfl⟩
    simp (disch := omega) only [go_sem, seval, List.length_map, Nat.reduceBNe, spl_dr]
    repeat refine And.intro obl ?_
    refine hK6 _ _ ?_; clear hK6
    refine aws_seq fun K7 hK7 => ?_
    refine awf_weaken (Le.keepC [3, 4, 5, 7, 8] _) ?_
    refine awf_region ?_
    refine owf_lift hF ?_
    refine effG_ok rfl (by kernel_rfl) (by kernel_rfl) ?_
    simp (disch := omega) only [go_sem, seval, List.length_map, Nat.reduceBNe, spl_dr]
    repeat refine And.intro obl ?_
    refine owf_lift hF ?_
    refine effG_ok rfl (by kernel_rfl) (by kernel_rfl) ?_
    simp (disch := omega) only [go_sem, seval, List.length_map, Nat.reduceBNe, spl_dr]
    try refine And.intro (by kernel_rfl) ?_
    refine owf_lift hF ?_
    refine effG_ok rfl (by kernel_rfl) (by kernel_rfl) ?_
    simp (disch := omega) only [go_sem, seval, List.length_map, Nat.reduceBNe, spl_dr]
    repeat refine And.intro obl ?_
    refine owf_lift hF ?_
    refine effG_ok rfl (by kernel_rfl) (by kernel_rfl) ?_
    simp (disch := omega) only [go_sem, seval, List.length_map, Nat.reduceBNe, spl_dr]
    repeat refine And.intro obl ?_
    refine callG_of _ (dispatch_problem_begin_ok _ tr (csF t tr) ho) ?_
    simp (disch := omega) only [go_sem, seval, List.length_map, Nat.reduceBNe, spl_dr]
    repeat refine And.intro obl ?_
    refine owf_lift hF (ow_litR (e := 60) (z := 16) (by_ := 128) (zs := List.replicate 16 (.int .i64 0)) rfl rfl rfl (by decide) (by kernel_rfl) (by kernel_rfl) (by kernel_rfl) (by decide) (by decide) (by decide) rfl (by simp (disch := omega) only [go_sem, seval, List.length_map, Nat.reduceBNe, spl_dr]; first | done | (simp [bsOk]; try simp (disch := omega) only [go_sem, seval, List.length_map, Nat.reduceBNe, spl_dr])) ?_)
    simp (disch := omega) only [go_sem, seval, List.length_map, Nat.reduceBNe, spl_dr]
    refine owf_give 34 [bgD tr] (by decide) (by simp (disch := omega) only [go_sem, seval, List.length_map, Nat.reduceBNe, spl_dr]; try rfl) ?_
    intro r hr
    simp (disch := omega) only [go_sem, seval, List.length_map, Nat.reduceBNe, spl_dr]
    refine owf_lift hF (ow_updM (s := 30) (M := []) (M1 := []) (M2 := []) (a := fun _ => 0) (r := nilRw Dr) (r' := r) (.inr ⟨rfl, rfl, rfl, by simp⟩) ho (by simp) (vp_0 tr) .nil (.inr rfl) rfl rfl (by kernel_rfl) (by simp (disch := omega) only [go_sem, seval, List.length_map, Nat.reduceBNe, spl_dr]) (by simp (disch := omega) only [go_sem, seval, List.length_map, Nat.reduceBNe, spl_dr]; try rfl) (by simp (disch := omega) only [go_sem, seval, List.length_map, Nat.reduceBNe, spl_dr]; try trivial) (by simp (disch := omega) only [go_sem, seval, List.length_map, Nat.reduceBNe, spl_dr]; try rfl) (by simp (disch := omega) only [go_sem, seval, List.length_map, Nat.reduceBNe, spl_dr]) ?_)
    simp (disch := omega) only [go_sem, seval, List.length_map, Nat.reduceBNe, spl_dr]
    refine owf_lift hF ?_
    refine effG_ok rfl (by kernel_rfl) (by kernel_rfl) ?_
    simp (disch := omega) only [go_sem, seval, List.length_map, Nat.reduceBNe, spl_dr]
    repeat refine And.intro obl ?_
    refine owf_lift hF ?_
    refine effG_ok rfl (by kernel_rfl) (by kernel_rfl) ?_
    simp (disch := omega) only [go_sem, seval, List.length_map, Nat.reduceBNe, spl_dr]
    repeat refine And.intro obl ?_
    refine owf_lift hF (ow_storeM (s := 9) (m := 30) (c0 := .v (.map none)) rfl rfl rfl (by kernel_rfl) (by simp (disch := omega) only [go_sem, seval, List.length_map, Nat.reduceBNe, spl_dr]) (by simp (disch := omega) only [go_sem, seval, List.length_map, Nat.reduceBNe, spl_dr]) (by kernel_rfl) (by decide) (by simp (disch := omega) only [go_sem, seval, List.length_map, Nat.reduceBNe, spl_dr]) ?_)
    try simp (disch := omega) only [go_sem, seval, List.length_map, Nat.reduceBNe, spl_dr]
    repeat refine And.intro obl ?_
    refine hK7 _ _ ?_; clear hK7
    refine aws_seq fun K8 hK8 => ?_
    refine awf_lift hF ?_
    refine aw_reg [3, 4, 5, 7, 8, 9, 30] (by kernel_rfl) ?_
    simp (disch := omega) only [go_sem, seval, List.length_map, Nat.reduceBNe, spl_dr]
    repeat refine And.intro obl ?_
    refine hK8 _ _ ?_; clear hK8
    refine aws_seqL ?_
    refine aws_seq fun K9 hK9 => ?_
    refine awf_weaken (Le.keepC [3, 4, 5, 7, 8, 9, 10, 30] _) ?_
    refine awf_lift hF ?_
    refine aw_frzB 3 rfl rfl (by first | rfl | kernel_rfl) ?_
    refine aw_frzB 7 rfl rfl (by first | rfl | kernel_rfl) ?_
    refine aw_frzB 8 rfl rfl (drL_k _ _) ?_
    simp (disch := omega) only [go_sem, seval, List.length_map, Nat.reduceBNe, spl_dr]
    refine (aw_reg [3, 4, 5, 7, 8, 9, 10, 30] (by kernel_rfl) ?_)
    simp (disch := omega) only [go_sem, seval, List.length_map, Nat.reduceBNe, spl_dr]
    repeat refine And.intro obl ?_
    refine callG_of _ (dispatch_problem_orders_ok _ tr (csF t tr)) ?_
    simp (disch := omega) only [go_sem, seval, List.length_map, Nat.reduceBNe, spl_dr]
    repeat refine And.intro obl ?_
    repeat refine And.intro obl ?_
    refine hK9 _ _ ?_; clear hK9
    refine aws_weaken (Le.keepC [3, 4, 5, 7, 8, 9, 10, 30, 38] _) ?_
    simp (disch := omega) only [go_sem, seval, List.length_map, Nat.reduceBNe, spl_dr]
    refine aws_range (f := 50) (caps := [.dp [prV tr (csF t tr)]]) (cd5 := cd50) (fn5 := Try.f50) (K := fun X O' => ∃ (M : Mp) (best : Dr), O' = kS X M best ∧ Full tr (csF t tr) best ∧ ∀ f, Full tr (csF t tr) f → cmD tr best f (enA tr) ≤ 0) (by kernel_rfl) (by simp (disch := omega) only [go_sem, seval, List.length_map, Nat.reduceBNe, spl_dr]) Try.func50 (by kernel_rfl) rfl rfl (by kernel_rfl) ?_ ?_
    · intro w1 I1 A1 G1 l D rec hp ha hb hst hpe hsz
      exact orders_walk _ tr (csF t tr) kn kn [((fun _ => 0), r)] ho hkn ⟨by simp (disch := omega) only [go_sem, seval, List.length_map, Nat.reduceBNe, spl_dr]; try rfl, by simp (disch := omega) only [go_sem, seval, List.length_map, Nat.reduceBNe, spl_dr]; try rfl, by simp (disch := omega) only [go_sem, seval, List.length_map, Nat.reduceBNe, spl_dr]; try rfl, by simp (disch := omega) only [go_sem, seval, List.length_map, Nat.reduceBNe, spl_dr]; try rfl, by simp (disch := omega) only [go_sem, seval, List.length_map, Nat.reduceBNe, spl_dr]; try rfl, by simp (disch := omega) only [go_sem, seval, List.length_map, Nat.reduceBNe, spl_dr]; try rfl⟩ (InvO.begin ho hkn hr) w1 I1 A1 G1 l D rec hp ha hb hst hpe hsz
    rintro O' ⟨M, best, rfl, hfull, hmin⟩
    refine aw_weaken (Le.keepC [4, 5, 7, 10] _) ?_
    have k4 : ∀ X : Env, kS X M best 4 = X 4 := fun X => by unfold kS; rw [set_apply, if_neg (by decide), set_apply, if_neg (by decide)]
    have k5 : ∀ X : Env, kS X M best 5 = X 5 := fun X => by unfold kS; rw [set_apply, if_neg (by decide), set_apply, if_neg (by decide)]
    have k7 : ∀ X : Env, kS X M best 7 = X 7 := fun X => by unfold kS; rw [set_apply, if_neg (by decide), set_apply, if_neg (by decide)]
    have k10 : ∀ X : Env, kS X M best 10 = .bx (drL best) := fun X => kS_10 X M best
    have khi : ∀ X : Env, hi (kS X M best) = hi X := fun X => by unfold kS; rw [hi_set _ _ (by decide), hi_set _ _ (by decide)]
    simp (disch := omega) only [keepC, k4, k5, k7, k10, khi]
    simp (disch := omega) only [go_sem, seval, List.length_map, Nat.reduceBNe, spl_dr]
    refine (aw_seq fun K hK => ?_)
    refine (aw_reg [4, 5, 7, 10] (by kernel_rfl) ?_)
    simp (disch := omega) only [go_sem, seval, List.length_map, Nat.reduceBNe, spl_dr]
    repeat refine And.intro obl ?_
    refine callG_of _ (dispatch_problem_schedule_ok _ tr (csF t tr) best ho (hfull.bd' ho)) ?_
    simp (disch := omega) only [go_sem, seval, List.length_map, Nat.reduceBNe, spl_dr]
    repeat refine And.intro obl ?_
    refine hK _ ?_
    refine (aw_ret ?_)
    refine ⟨.inl rfl, ret_solve (s := scD tr best) (e := 0) rfl (by simp (disch := omega) only [go_sem, seval, List.length_map, Nat.reduceBNe, spl_dr]) (by simp (disch := omega) only [go_sem, seval, List.length_map, Nat.reduceBNe, spl_dr]; try rfl) (by kernel_rfl) (RWk.refl _) (by simp (disch := omega) only [go_sem, seval, List.length_map, Nat.reduceBNe, spl_dr]) ⟨rfl, .inr ⟨hc0, best, hfull, hmin, rfl⟩⟩⟩
end Go.Sg
