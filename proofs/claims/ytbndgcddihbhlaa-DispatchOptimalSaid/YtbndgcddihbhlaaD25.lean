/- Contract of Delay, where nothing is amiss. Printed by genw.py. -/
import Derived.Test.YtbndgcddihbhlaaSgB
import Derived.Test.YtbndgcddihbhlaaD24
import Derived.Test.YtbndgcddihbhlaaD5
set_option linter.unusedVariables false
set_option linter.unusedSimpArgs false
set_option maxRecDepth 20000
namespace Go.Sg
open Go.Proofs
def stD (st : List (List Int)) : Dr := fun i j => (st.getD i default).getD j default
structure StOk (tr : List Trip) (st : List (List Int)) : Prop where
  l : st.length = tr.length
  r : ∀ i, i < tr.length → (st.getD i default).length = (tr.getD i default).fStops.length
  b : ∀ i j, i < tr.length → j < (tr.getD i default).fStops.length → duN tr i j ≤ stD st i j ∧ stD st i j ≤ 2147483648
theorem StOk.bd {tr : List Trip} {st : List (List Int)} (ho : Ok tr) (h : StOk tr st) : Bd (stD st) := fun i j => by
  by_cases h1 : i < tr.length ∧ j < (tr.getD i default).fStops.length
  · have := h.b i j h1.1 h1.2
    have h2 := (ho.s i j h1.1 h1.2).1
    unfold duN at this
    omega
  · have : stD st i j = 0 := by
      unfold stD
      by_cases hi : i < tr.length
      · have hr := h.r i hi
        rw [List.getD_eq_getElem?_getD (l := st.getD i default), List.getElem?_eq_none (by omega)]; rfl
      · rw [List.getD_eq_getElem?_getD (l := st), List.getElem?_eq_none (by rw [h.l]; omega)]; rfl
    rw [this]; omega
theorem coJ_sS (tr : List Trip) (st : List (List Int)) (i j : Nat) (x : Int) : x + coJ tr (stD st) i j + ((tr.getD i default).fStops.getD j default).fWeight * ((st.getD i default).getD j default - ((tr.getD i default).fStops.getD j default).fDue) = x + coJ tr (stD st) i (j + 1) := coJ_s tr (stD st) i j x
theorem coN_sS (tr : List Trip) (d : Dr) {i : Nat} (hi : i < tr.length) : coN tr d (enA tr) i + coJ tr d i (tr.getD i default).fStops.length = coN tr d (enA tr) (i + 1) := by
  show _ = coN tr d (enA tr) i + coJ tr d i (enA tr i)
  unfold enA; rw [if_pos hi]
set_option maxRecDepth 20000 in
set_option maxHeartbeats 16000000 in
theorem timetable_Delay_ok (O : Env) (tr : List Trip) (st : List (List Int)) (ho : Ok tr) (hs : StOk tr st) : PCall Try.prog O 20 [encTr tr, encSt st] (.tup [vi (coD tr (stD st) (enA tr)), vi 0]) := by
  have hn := ho.n
  have hl := hs.l
  have hbd := hs.bd ho
  refine pcall_of_aw Try.func20 rfl (by kernel_rfl) ?_
  refine aw_seq fun K0 hK0 => ?_
  refine aw_reg [0, 1] (by kernel_rfl) ?_
  simp (disch := omega) only [go_sem, seval, Nat.reduceBNe, Bool.true_and, Bool.and_true]
  repeat refine And.intro obl ?_
  refine hK0 _ ?_; clear hK0
  refine aw_seq fun K1 hK1 => ?_
  refine aw_seq fun K2 hK2 => ?_
  refine aw_reg [0, 1] (by kernel_rfl) ?_
  simp (disch := omega) only [go_sem, seval, Nat.reduceBNe, Bool.true_and, Bool.and_true]
  repeat refine And.intro obl ?_
  refine hK2 _ ?_; clear hK2
  refine aw_cond _ (by rfl) (rfl) (fun c0 => ?_) (fun c0 => ?_)
  · try simp only [push_cast] at c0
    omega
  · try simp only [push_cast] at c0
    refine aw_skip ?_
    refine hK1 _ ?_; clear hK1
    refine aw_seq fun K3 hK3 => ?_
    refine aw_seq fun K4 hK4 => ?_
    refine aw_reg [0, 1] (by kernel_rfl) ?_
    simp (disch := omega) only [go_sem, seval, Nat.reduceBNe, Bool.true_and, Bool.and_true]
    repeat refine And.intro obl ?_
    refine hK4 _ ?_; clear hK4
    refine aw_block ?_
    refine aw_loopK [0, 1, 22, 23, 24] (fun n ρ => ∃ i, n = tr.length - i ∧ (i ≤ tr.length) ∧ ρ = mkE O [(0, encTr tr), (1, encSt st), (22, encTr tr), (23, vi (tr.length : Nat)), (24, vi (i : Nat))]) _ ⟨0, rfl, ?_, ?_⟩ ?_
    · exact dfl
    · simp (disch := omega) only [go_sem, seval, Nat.reduceBNe, Bool.true_and, Bool.and_true] <;> first | rfl | omega | simp | simp_all
    rintro n ρ ⟨i, rfl, l0_0, rfl⟩ K5 hK5
    refine aw_seq fun K6 hK6 => ?_
    refine aw_reg [0, 1, 22, 23, 24] (by kernel_rfl) ?_
    simp (disch := omega) only [go_sem, seval, Nat.reduceBNe, Bool.true_and, Bool.and_true]
    repeat refine And.intro obl ?_
    refine hK6 _ ?_; clear hK6
    refine aw_seq fun K7 hK7 => ?_
    refine aw_cond _ (by rfl) (rfl) (fun c1 => ?_) (fun c1 => ?_)
    · try simp only [push_cast] at c1
      refine aw_skip ?_
      refine hK7 _ ?_; clear hK7
      refine aw_seq fun K8 hK8 => ?_
      refine aw_block ?_
      refine aw_seq fun K9 hK9 => ?_
      refine aw_reg [0, 1, 22, 23, 24] (by kernel_rfl) ?_
      simp (disch := omega) only [go_sem, seval, Nat.reduceBNe, Bool.true_and, Bool.and_true]
      repeat refine And.intro obl ?_
      refine hK9 _ ?_; clear hK9
      refine aw_seq fun K10 hK10 => ?_
      refine aw_seq fun K11 hK11 => ?_
      have hri := hs.r i (by assumption)
      have hli := ho.l i (by assumption)
      refine aw_regDc [0, 1, 6, 7, 22, 23, 24] [] mixed (by kernel_rfl) ?_
      simp (disch := omega) only [go_sem, seval, Nat.reduceBNe, Bool.true_and, Bool.and_true]
      repeat refine And.intro obl ?_
      refine hK11 _ ?_; clear hK11
      refine aw_cond _ (by rfl) (rfl) (fun c2 => ?_) (fun c2 => ?_)
      · try simp only [push_cast] at c2
        omega
      · try simp only [push_cast] at c2
        refine aw_skip ?_
        refine hK10 _ ?_; clear hK10
        refine aw_seq fun K12 hK12 => ?_
        refine aw_reg [0, 1, 6, 7, 22, 23, 24] (by kernel_rfl) ?_
        simp (disch := omega) only [go_sem, seval, Nat.reduceBNe, Bool.true_and, Bool.and_true]
        repeat refine And.intro obl ?_
        refine hK12 _ ?_; clear hK12
        refine aw_block ?_
        refine aw_loopK [0, 1, 22, 23, 24, 6, 7, 40, 41] (fun n ρ => ∃ j, n = (tr.getD i default).fStops.length - j ∧ (j ≤ (tr.getD i default).fStops.length) ∧ ρ = mkE O [(0, encTr tr), (1, encSt st), (22, encTr tr), (23, vi (tr.length : Nat)), (24, vi (i : Nat)), (6, vi (i : Nat)), (7, .bx (eTrip (tr.getD i default))), (40, vi ((tr.getD i default).fStops.length : Nat)), (41, vi (j : Nat))]) _ ⟨0, rfl, ?_, ?_⟩ ?_
        · exact dfl
        · simp (disch := omega) only [go_sem, seval, Nat.reduceBNe, Bool.true_and, Bool.and_true] <;> first | rfl | omega | simp | simp_all
        rintro n ρ ⟨j, rfl, l1_0, rfl⟩ K13 hK13
        refine aw_seq fun K14 hK14 => ?_
        refine aw_reg [0, 1, 6, 7, 22, 23, 24, 40, 41] (by kernel_rfl) ?_
        simp (disch := omega) only [go_sem, seval, Nat.reduceBNe, Bool.true_and, Bool.and_true]
        repeat refine And.intro obl ?_
        refine hK14 _ ?_; clear hK14
        refine aw_seq fun K15 hK15 => ?_
        refine aw_cond _ (by rfl) (rfl) (fun c3 => ?_) (fun c3 => ?_)
        · try simp only [push_cast] at c3
          refine aw_skip ?_
          refine hK15 _ ?_; clear hK15
          refine aw_seq fun K16 hK16 => ?_
          refine aw_block ?_
          refine aw_seq fun K17 hK17 => ?_
          refine aw_reg [0, 1, 6, 7, 22, 23, 24, 40, 41] (by kernel_rfl) ?_
          simp (disch := omega) only [go_sem, seval, Nat.reduceBNe, Bool.true_and, Bool.and_true]
          repeat refine And.intro obl ?_
          refine hK17 _ ?_; clear hK17
          refine aw_seq fun K18 hK18 => ?_
          have hsj := ho.s i j (by assumption) (by assumption)
          have hbj := hs.b i j (by assumption) (by assumption)
          unfold stD duN at hbj
          refine aw_drawX [0, 1, 6, 7, 8, 22, 23, 24, 40, 41] [] [] mixed (by kernel_rfl) (fun Y hY hYm hY0 => ?_)
          have tT : ∀ ρ, keepC [0, 1, 6, 7, 8, 22, 23, 24, 40, 41, 44, 45, 46, 47, 48, 49, 50, 51, 52, 53, 54, 55, 10, 9] ρ = mkE O [(0, encTr tr), (1, encSt st), (6, vi (i : Nat)), (7, .bx (eTrip (tr.getD i default))), (8, vi (j : Nat)), (22, encTr tr), (23, vi (tr.length : Nat)), (24, vi (i : Nat)), (40, vi ((tr.getD i default).fStops.length : Nat)), (41, vi (j : Nat)), (44, .bp 7 1), (45, encSp (tr.getD i default).fStops), (46, vi (j : Nat)), (47, .dp (eStop ((tr.getD i default).fStops.getD j default))), (48, .agg (eStop ((tr.getD i default).fStops.getD j default))), (49, encSt st), (50, vi (i : Nat)), (51, .dp [encI (st.getD i default)]), (52, encI (st.getD i default)), (53, vi (j : Nat)), (54, .dp [vi ((st.getD i default).getD j default)]), (55, vi ((st.getD i default).getD j default)), (10, vi ((st.getD i default).getD j default)), (9, .bx (eStop ((tr.getD i default).fStops.getD j default)))] → Y 0 #[true, true, true, true, true, true, true, true, true, true, true, true, true, true, true] ρ := by
            intro ρ hρ
            refine hY0 _ [0, 1, 6, 7, 8, 22, 23, 24, 40, 41, 44, 45, 46, 47, 48, 49, 50, 51, 52, 53, 54, 55, 10, 9] _ (by kernel_rfl) ?_
            rw [hρ]
            clear hY hYm hY0 hρ
            simp (disch := omega) only [go_sem, seval, Nat.reduceBNe, Bool.true_and, Bool.and_true]
            repeat refine And.intro obl ?_
            refine hK18 _ ?_; clear hK18
            refine aw_seq fun K19 hK19 => ?_
            refine aw_reg [0, 1, 6, 7, 9, 10, 22, 23, 24, 40, 41] (by kernel_rfl) ?_
            simp (disch := omega) only [go_sem, seval, Nat.reduceBNe, Bool.true_and, Bool.and_true]
            repeat refine And.intro obl ?_
            refine hK19 _ ?_; clear hK19
            refine aw_cond _ (by rfl) (rfl) (fun c4 => ?_) (fun c4 => ?_)
            · try simp only [push_cast] at c4
              omega
            · try simp only [push_cast] at c4
              refine aw_skip ?_
              refine hK16 _ ?_; clear hK16
              refine aw_reg [0, 1, 6, 7, 22, 23, 24, 40, 41] (by kernel_rfl) ?_
              simp (disch := omega) only [go_sem, seval, Nat.reduceBNe, Bool.true_and, Bool.and_true]
              repeat refine And.intro obl ?_
              refine hK13 _ _ ?_ ⟨j + 1, rfl, ?_, ?_⟩
              · exact dfl
              · exact dfl
              · simp (disch := omega) only [go_sem, seval, Nat.reduceBNe, Bool.true_and, Bool.and_true] <;> first | rfl | omega | simp | simp_all
          have main : ∀ (m : Nat) (b0 b1 b2 b3 b4 b5 b6 b7 b8 b9 b10 b11 b12 b13 b14 : Bool), cB b0 + cB b1 + cB b2 + cB b3 + cB b4 + cB b5 + cB b6 + cB b7 + cB b8 + cB b9 + cB b10 + cB b11 + cB b12 + cB b13 + cB b14 = m → (b13 = true → b12 = true) → ∀ ρ, keepC [0, 1, 6, 7, 8, 22, 23, 24, 40, 41, 44, 45, 46, 47, 48, 49, 50, 51, 52, 53, 54, 55, 10, 9] ρ = mkE O [(0, encTr tr), (1, encSt st), (6, vi (i : Nat)), (7, .bx (eTrip (tr.getD i default))), (8, vi (j : Nat)), (22, encTr tr), (23, vi (tr.length : Nat)), (24, vi (i : Nat)), (40, vi ((tr.getD i default).fStops.length : Nat)), (41, vi (j : Nat)), (44, selD b0 (.bp 7 1)), (45, selD b1 (encSp (tr.getD i default).fStops)), (46, selD b2 (vi (j : Nat))), (47, selD b3 (.dp (eStop ((tr.getD i default).fStops.getD j default)))), (48, selD b4 (.agg (eStop ((tr.getD i default).fStops.getD j default)))), (49, selD b5 (encSt st)), (50, selD b6 (vi (i : Nat))), (51, selD b7 (.dp [encI (st.getD i default)])), (52, selD b8 (encI (st.getD i default))), (53, selD b9 (vi (j : Nat))), (54, selD b10 (.dp [vi ((st.getD i default).getD j default)])), (55, selD b11 (vi ((st.getD i default).getD j default))), (10, selD b14 (vi ((st.getD i default).getD j default))), (9, sel2 b13 b12 (.bx (eStop ((tr.getD i default).fStops.getD j default))) (.bx [vi 0, vi 0, vi 0, vi 0]))] → Y m #[b0, b1, b2, b3, b4, b5, b6, b7, b8, b9, b10, b11, b12, b13, b14] ρ := by
            intro m
            induction m with
            | zero =>
              intro b0 b1 b2 b3 b4 b5 b6 b7 b8 b9 b10 b11 b12 b13 b14 hm m13_12 ρ hρ
              have hc : ∀ b, cB b = 0 → b = true := fun b h => by cases b; cases h; rfl
              have e0 : b0 = true := hc b0 (by omega)
              have e1 : b1 = true := hc b1 (by omega)
              have e2 : b2 = true := hc b2 (by omega)
              have e3 : b3 = true := hc b3 (by omega)
              have e4 : b4 = true := hc b4 (by omega)
              have e5 : b5 = true := hc b5 (by omega)
              have e6 : b6 = true := hc b6 (by omega)
              have e7 : b7 = true := hc b7 (by omega)
              have e8 : b8 = true := hc b8 (by omega)
              have e9 : b9 = true := hc b9 (by omega)
              have e10 : b10 = true := hc b10 (by omega)
              have e11 : b11 = true := hc b11 (by omega)
              have e12 : b12 = true := hc b12 (by omega)
              have e13 : b13 = true := hc b13 (by omega)
              have e14 : b14 = true := hc b14 (by omega)
              subst e0 e1 e2 e3 e4 e5 e6 e7 e8 e9 e10 e11 e12 e13 e14
              refine tT ρ (hρ.trans ?_)
              simp only [selD_true, sel2_true]
            | succ m ih =>
              intro b0 b1 b2 b3 b4 b5 b6 b7 b8 b9 b10 b11 b12 b13 b14 hm m13_12 ρ hρ
              have hex : ∃ i, i < 15 ∧ #[b0, b1, b2, b3, b4, b5, b6, b7, b8, b9, b10, b11, b12, b13, b14].getD i true = false := by
                clear ih hρ tT hY hYm hY0
                cases b0
                · exact ⟨0, by omega, rfl⟩
                cases b1
                · exact ⟨1, by omega, rfl⟩
                cases b2
                · exact ⟨2, by omega, rfl⟩
                cases b3
                · exact ⟨3, by omega, rfl⟩
                cases b4
                · exact ⟨4, by omega, rfl⟩
                cases b5
                · exact ⟨5, by omega, rfl⟩
                cases b6
                · exact ⟨6, by omega, rfl⟩
                cases b7
                · exact ⟨7, by omega, rfl⟩
                cases b8
                · exact ⟨8, by omega, rfl⟩
                cases b9
                · exact ⟨9, by omega, rfl⟩
                cases b10
                · exact ⟨10, by omega, rfl⟩
                cases b11
                · exact ⟨11, by omega, rfl⟩
                cases b12
                · exact ⟨12, by omega, rfl⟩
                cases b13
                · exact ⟨13, by omega, rfl⟩
                cases b14
                · exact ⟨14, by omega, rfl⟩
                exact absurd hm (by simp [cB])
              refine hYm m _ [0, 1, 6, 7, 8, 22, 23, 24, 40, 41, 44, 45, 46, 47, 48, 49, 50, 51, 52, 53, 54, 55, 10, 9] _ (by kernel_rfl) rfl hex ?_
              clear hY hYm hY0 tT hex
              intro iQ oQ hun hoQ hdep
              have hiQ : iQ < 15 := (List.getElem?_eq_some_iff.1 hoQ).1
              match iQ, hiQ with
              | 0, _ =>
                obtain rfl : b0 = false := hun
                obtain rfl := Option.some.inj hoQ
                clear hdep
                rw [hρ]
                show opI _ _ _ false _ _
                simp (disch := omega) only [go_sem, seval, Nat.reduceBNe, Bool.true_and, Bool.and_true]
                repeat refine And.intro obl ?_
                refine ih true b1 b2 b3 b4 b5 b6 b7 b8 b9 b10 b11 b12 b13 b14 ?_ m13_12 _ ?_
                · simp only [cB, cond_true, cond_false] at hm ⊢; omega
                · simp (disch := omega) only [go_sem, seval, Nat.reduceBNe, Bool.true_and, Bool.and_true] <;> first | rfl | simp
              | 1, _ =>
                obtain rfl : b1 = false := hun
                obtain rfl := Option.some.inj hoQ
                have e0 : b0 = true := by first | (refine hdep ⟨0, .data⟩ ?_ rfl; simp; done) | (refine hdep ⟨0, .phase⟩ ?_ rfl; simp; done) | (refine hdep ⟨0, .chain⟩ ?_ rfl; simp; done)
                subst e0
                clear hdep
                rw [hρ]
                show opI _ _ _ false _ _
                simp (disch := omega) only [go_sem, seval, Nat.reduceBNe, Bool.true_and, Bool.and_true]
                repeat refine And.intro obl ?_
                refine ih true true b2 b3 b4 b5 b6 b7 b8 b9 b10 b11 b12 b13 b14 ?_ m13_12 _ ?_
                · simp only [cB, cond_true, cond_false] at hm ⊢; omega
                · simp (disch := omega) only [go_sem, seval, Nat.reduceBNe, Bool.true_and, Bool.and_true] <;> first | rfl | simp
              | 2, _ =>
                obtain rfl : b2 = false := hun
                obtain rfl := Option.some.inj hoQ
                clear hdep
                rw [hρ]
                show opI _ _ _ false _ _
                simp (disch := omega) only [go_sem, seval, Nat.reduceBNe, Bool.true_and, Bool.and_true]
                repeat refine And.intro obl ?_
                refine ih b0 b1 true b3 b4 b5 b6 b7 b8 b9 b10 b11 b12 b13 b14 ?_ m13_12 _ ?_
                · simp only [cB, cond_true, cond_false] at hm ⊢; omega
                · simp (disch := omega) only [go_sem, seval, Nat.reduceBNe, Bool.true_and, Bool.and_true] <;> first | rfl | simp
              | 3, _ =>
                obtain rfl : b3 = false := hun
                obtain rfl := Option.some.inj hoQ
                have e1 : b1 = true := by first | (refine hdep ⟨1, .data⟩ ?_ rfl; simp; done) | (refine hdep ⟨1, .phase⟩ ?_ rfl; simp; done) | (refine hdep ⟨1, .chain⟩ ?_ rfl; simp; done)
                have e2 : b2 = true := by first | (refine hdep ⟨2, .data⟩ ?_ rfl; simp; done) | (refine hdep ⟨2, .phase⟩ ?_ rfl; simp; done) | (refine hdep ⟨2, .chain⟩ ?_ rfl; simp; done)
                subst e1 e2
                clear hdep
                rw [hρ]
                show opI _ _ _ false _ _
                simp (disch := omega) only [go_sem, seval, Nat.reduceBNe, Bool.true_and, Bool.and_true]
                repeat refine And.intro obl ?_
                refine ih b0 true true true b4 b5 b6 b7 b8 b9 b10 b11 b12 b13 b14 ?_ m13_12 _ ?_
                · simp only [cB, cond_true, cond_false] at hm ⊢; omega
                · simp (disch := omega) only [go_sem, seval, Nat.reduceBNe, Bool.true_and, Bool.and_true] <;> first | rfl | simp
              | 4, _ =>
                obtain rfl : b4 = false := hun
                obtain rfl := Option.some.inj hoQ
                have e3 : b3 = true := by first | (refine hdep ⟨3, .data⟩ ?_ rfl; simp; done) | (refine hdep ⟨3, .phase⟩ ?_ rfl; simp; done) | (refine hdep ⟨3, .chain⟩ ?_ rfl; simp; done)
                subst e3
                clear hdep
                rw [hρ]
                show opI _ _ _ false _ _
                simp (disch := omega) only [go_sem, seval, Nat.reduceBNe, Bool.true_and, Bool.and_true]
                repeat refine And.intro obl ?_
                refine ih b0 b1 b2 true true b5 b6 b7 b8 b9 b10 b11 b12 b13 b14 ?_ m13_12 _ ?_
                · simp only [cB, cond_true, cond_false] at hm ⊢; omega
                · simp (disch := omega) only [go_sem, seval, Nat.reduceBNe, Bool.true_and, Bool.and_true] <;> first | rfl | simp
              | 5, _ =>
                obtain rfl : b5 = false := hun
                obtain rfl := Option.some.inj hoQ
                clear hdep
                rw [hρ]
                show opI _ _ _ false _ _
                simp (disch := omega) only [go_sem, seval, Nat.reduceBNe, Bool.true_and, Bool.and_true]
                repeat refine And.intro obl ?_
                refine ih b0 b1 b2 b3 b4 true b6 b7 b8 b9 b10 b11 b12 b13 b14 ?_ m13_12 _ ?_
                · simp only [cB, cond_true, cond_false] at hm ⊢; omega
                · simp (disch := omega) only [go_sem, seval, Nat.reduceBNe, Bool.true_and, Bool.and_true] <;> first | rfl | simp
              | 6, _ =>
                obtain rfl : b6 = false := hun
                obtain rfl := Option.some.inj hoQ
                clear hdep
                rw [hρ]
                show opI _ _ _ false _ _
                simp (disch := omega) only [go_sem, seval, Nat.reduceBNe, Bool.true_and, Bool.and_true]
                repeat refine And.intro obl ?_
                refine ih b0 b1 b2 b3 b4 b5 true b7 b8 b9 b10 b11 b12 b13 b14 ?_ m13_12 _ ?_
                · simp only [cB, cond_true, cond_false] at hm ⊢; omega
                · simp (disch := omega) only [go_sem, seval, Nat.reduceBNe, Bool.true_and, Bool.and_true] <;> first | rfl | simp
              | 7, _ =>
                obtain rfl : b7 = false := hun
                obtain rfl := Option.some.inj hoQ
                have e5 : b5 = true := by first | (refine hdep ⟨5, .data⟩ ?_ rfl; simp; done) | (refine hdep ⟨5, .phase⟩ ?_ rfl; simp; done) | (refine hdep ⟨5, .chain⟩ ?_ rfl; simp; done)
                have e6 : b6 = true := by first | (refine hdep ⟨6, .data⟩ ?_ rfl; simp; done) | (refine hdep ⟨6, .phase⟩ ?_ rfl; simp; done) | (refine hdep ⟨6, .chain⟩ ?_ rfl; simp; done)
                subst e5 e6
                clear hdep
                rw [hρ]
                show opI _ _ _ false _ _
                simp (disch := omega) only [go_sem, seval, Nat.reduceBNe, Bool.true_and, Bool.and_true]
                repeat refine And.intro obl ?_
                refine ih b0 b1 b2 b3 b4 true true true b8 b9 b10 b11 b12 b13 b14 ?_ m13_12 _ ?_
                · simp only [cB, cond_true, cond_false] at hm ⊢; omega
                · simp (disch := omega) only [go_sem, seval, Nat.reduceBNe, Bool.true_and, Bool.and_true] <;> first | rfl | simp
              | 8, _ =>
                obtain rfl : b8 = false := hun
                obtain rfl := Option.some.inj hoQ
                have e7 : b7 = true := by first | (refine hdep ⟨7, .data⟩ ?_ rfl; simp; done) | (refine hdep ⟨7, .phase⟩ ?_ rfl; simp; done) | (refine hdep ⟨7, .chain⟩ ?_ rfl; simp; done)
                subst e7
                clear hdep
                rw [hρ]
                show opI _ _ _ false _ _
                simp (disch := omega) only [go_sem, seval, Nat.reduceBNe, Bool.true_and, Bool.and_true]
                repeat refine And.intro obl ?_
                refine ih b0 b1 b2 b3 b4 b5 b6 true true b9 b10 b11 b12 b13 b14 ?_ m13_12 _ ?_
                · simp only [cB, cond_true, cond_false] at hm ⊢; omega
                · simp (disch := omega) only [go_sem, seval, Nat.reduceBNe, Bool.true_and, Bool.and_true] <;> first | rfl | simp
              | 9, _ =>
                obtain rfl : b9 = false := hun
                obtain rfl := Option.some.inj hoQ
                clear hdep
                rw [hρ]
                show opI _ _ _ false _ _
                simp (disch := omega) only [go_sem, seval, Nat.reduceBNe, Bool.true_and, Bool.and_true]
                repeat refine And.intro obl ?_
                refine ih b0 b1 b2 b3 b4 b5 b6 b7 b8 true b10 b11 b12 b13 b14 ?_ m13_12 _ ?_
                · simp only [cB, cond_true, cond_false] at hm ⊢; omega
                · simp (disch := omega) only [go_sem, seval, Nat.reduceBNe, Bool.true_and, Bool.and_true] <;> first | rfl | simp
              | 10, _ =>
                obtain rfl : b10 = false := hun
                obtain rfl := Option.some.inj hoQ
                have e8 : b8 = true := by first | (refine hdep ⟨8, .data⟩ ?_ rfl; simp; done) | (refine hdep ⟨8, .phase⟩ ?_ rfl; simp; done) | (refine hdep ⟨8, .chain⟩ ?_ rfl; simp; done)
                have e9 : b9 = true := by first | (refine hdep ⟨9, .data⟩ ?_ rfl; simp; done) | (refine hdep ⟨9, .phase⟩ ?_ rfl; simp; done) | (refine hdep ⟨9, .chain⟩ ?_ rfl; simp; done)
                subst e8 e9
                clear hdep
                rw [hρ]
                show opI _ _ _ false _ _
                simp (disch := omega) only [go_sem, seval, Nat.reduceBNe, Bool.true_and, Bool.and_true]
                repeat refine And.intro obl ?_
                refine ih b0 b1 b2 b3 b4 b5 b6 b7 true true true b11 b12 b13 b14 ?_ m13_12 _ ?_
                · simp only [cB, cond_true, cond_false] at hm ⊢; omega
                · simp (disch := omega) only [go_sem, seval, Nat.reduceBNe, Bool.true_and, Bool.and_true] <;> first | rfl | simp
              | 11, _ =>
                obtain rfl : b11 = false := hun
                obtain rfl := Option.some.inj hoQ
                have e10 : b10 = true := by first | (refine hdep ⟨10, .data⟩ ?_ rfl; simp; done) | (refine hdep ⟨10, .phase⟩ ?_ rfl; simp; done) | (refine hdep ⟨10, .chain⟩ ?_ rfl; simp; done)
                subst e10
                clear hdep
                rw [hρ]
                show opI _ _ _ false _ _
                simp (disch := omega) only [go_sem, seval, Nat.reduceBNe, Bool.true_and, Bool.and_true]
                repeat refine And.intro obl ?_
                refine ih b0 b1 b2 b3 b4 b5 b6 b7 b8 b9 true true b12 b13 b14 ?_ m13_12 _ ?_
                · simp only [cB, cond_true, cond_false] at hm ⊢; omega
                · simp (disch := omega) only [go_sem, seval, Nat.reduceBNe, Bool.true_and, Bool.and_true] <;> first | rfl | simp
              | 12, _ =>
                obtain rfl : b12 = false := hun
                obtain rfl := Option.some.inj hoQ
                have n13 : b13 = false := by cases hc : b13 with
                  | false => rfl
                  | true => exact absurd (m13_12 hc) (by decide)
                subst n13
                clear hdep
                rw [hρ]
                show opI _ _ _ false _ _
                simp (disch := omega) only [go_sem, seval, Nat.reduceBNe, Bool.true_and, Bool.and_true]
                repeat refine And.intro obl ?_
                refine ih b0 b1 b2 b3 b4 b5 b6 b7 b8 b9 b10 b11 true false b14 ?_ (fun h => by cases h) _ ?_
                · simp only [cB, cond_true, cond_false] at hm ⊢; omega
                · simp (disch := omega) only [go_sem, seval, Nat.reduceBNe, Bool.true_and, Bool.and_true] <;> first | rfl | simp
              | 13, _ =>
                obtain rfl : b13 = false := hun
                obtain rfl := Option.some.inj hoQ
                have e0 : b0 = true := by first | (refine hdep ⟨0, .data⟩ ?_ rfl; simp; done) | (refine hdep ⟨0, .phase⟩ ?_ rfl; simp; done) | (refine hdep ⟨0, .chain⟩ ?_ rfl; simp; done)
                have e1 : b1 = true := by first | (refine hdep ⟨1, .data⟩ ?_ rfl; simp; done) | (refine hdep ⟨1, .phase⟩ ?_ rfl; simp; done) | (refine hdep ⟨1, .chain⟩ ?_ rfl; simp; done)
                have e2 : b2 = true := by first | (refine hdep ⟨2, .data⟩ ?_ rfl; simp; done) | (refine hdep ⟨2, .phase⟩ ?_ rfl; simp; done) | (refine hdep ⟨2, .chain⟩ ?_ rfl; simp; done)
                have e3 : b3 = true := by first | (refine hdep ⟨3, .data⟩ ?_ rfl; simp; done) | (refine hdep ⟨3, .phase⟩ ?_ rfl; simp; done) | (refine hdep ⟨3, .chain⟩ ?_ rfl; simp; done)
                have e4 : b4 = true := by first | (refine hdep ⟨4, .data⟩ ?_ rfl; simp; done) | (refine hdep ⟨4, .phase⟩ ?_ rfl; simp; done) | (refine hdep ⟨4, .chain⟩ ?_ rfl; simp; done)
                have e12 : b12 = true := by first | (refine hdep ⟨12, .data⟩ ?_ rfl; simp; done) | (refine hdep ⟨12, .phase⟩ ?_ rfl; simp; done) | (refine hdep ⟨12, .chain⟩ ?_ rfl; simp; done)
                subst e0 e1 e2 e3 e4 e12
                clear hdep
                rw [hρ]
                show opI _ _ _ false _ _
                simp (disch := omega) only [go_sem, seval, Nat.reduceBNe, Bool.true_and, Bool.and_true]
                repeat refine And.intro obl ?_
                refine ih true true true true true b5 b6 b7 b8 b9 b10 b11 true true b14 ?_ (fun _ => rfl) _ ?_
                · simp only [cB, cond_true, cond_false] at hm ⊢; omega
                · simp (disch := omega) only [go_sem, seval, Nat.reduceBNe, Bool.true_and, Bool.and_true] <;> first | rfl | simp
              | 14, _ =>
                obtain rfl : b14 = false := hun
                obtain rfl := Option.some.inj hoQ
                have e0 : b0 = true := by first | (refine hdep ⟨0, .data⟩ ?_ rfl; simp; done) | (refine hdep ⟨0, .phase⟩ ?_ rfl; simp; done) | (refine hdep ⟨0, .chain⟩ ?_ rfl; simp; done)
                have e1 : b1 = true := by first | (refine hdep ⟨1, .data⟩ ?_ rfl; simp; done) | (refine hdep ⟨1, .phase⟩ ?_ rfl; simp; done) | (refine hdep ⟨1, .chain⟩ ?_ rfl; simp; done)
                have e2 : b2 = true := by first | (refine hdep ⟨2, .data⟩ ?_ rfl; simp; done) | (refine hdep ⟨2, .phase⟩ ?_ rfl; simp; done) | (refine hdep ⟨2, .chain⟩ ?_ rfl; simp; done)
                have e3 : b3 = true := by first | (refine hdep ⟨3, .data⟩ ?_ rfl; simp; done) | (refine hdep ⟨3, .phase⟩ ?_ rfl; simp; done) | (refine hdep ⟨3, .chain⟩ ?_ rfl; simp; done)
                have e4 : b4 = true := by first | (refine hdep ⟨4, .data⟩ ?_ rfl; simp; done) | (refine hdep ⟨4, .phase⟩ ?_ rfl; simp; done) | (refine hdep ⟨4, .chain⟩ ?_ rfl; simp; done)
                have e5 : b5 = true := by first | (refine hdep ⟨5, .data⟩ ?_ rfl; simp; done) | (refine hdep ⟨5, .phase⟩ ?_ rfl; simp; done) | (refine hdep ⟨5, .chain⟩ ?_ rfl; simp; done)
                have e6 : b6 = true := by first | (refine hdep ⟨6, .data⟩ ?_ rfl; simp; done) | (refine hdep ⟨6, .phase⟩ ?_ rfl; simp; done) | (refine hdep ⟨6, .chain⟩ ?_ rfl; simp; done)
                have e7 : b7 = true := by first | (refine hdep ⟨7, .data⟩ ?_ rfl; simp; done) | (refine hdep ⟨7, .phase⟩ ?_ rfl; simp; done) | (refine hdep ⟨7, .chain⟩ ?_ rfl; simp; done)
                have e8 : b8 = true := by first | (refine hdep ⟨8, .data⟩ ?_ rfl; simp; done) | (refine hdep ⟨8, .phase⟩ ?_ rfl; simp; done) | (refine hdep ⟨8, .chain⟩ ?_ rfl; simp; done)
                have e9 : b9 = true := by first | (refine hdep ⟨9, .data⟩ ?_ rfl; simp; done) | (refine hdep ⟨9, .phase⟩ ?_ rfl; simp; done) | (refine hdep ⟨9, .chain⟩ ?_ rfl; simp; done)
                have e10 : b10 = true := by first | (refine hdep ⟨10, .data⟩ ?_ rfl; simp; done) | (refine hdep ⟨10, .phase⟩ ?_ rfl; simp; done) | (refine hdep ⟨10, .chain⟩ ?_ rfl; simp; done)
                have e11 : b11 = true := by first | (refine hdep ⟨11, .data⟩ ?_ rfl; simp; done) | (refine hdep ⟨11, .phase⟩ ?_ rfl; simp; done) | (refine hdep ⟨11, .chain⟩ ?_ rfl; simp; done)
                have e12 : b12 = true := by first | (refine hdep ⟨12, .data⟩ ?_ rfl; simp; done) | (refine hdep ⟨12, .phase⟩ ?_ rfl; simp; done) | (refine hdep ⟨12, .chain⟩ ?_ rfl; simp; done)
                have e13 : b13 = true := by first | (refine hdep ⟨13, .data⟩ ?_ rfl; simp; done) | (refine hdep ⟨13, .phase⟩ ?_ rfl; simp; done) | (refine hdep ⟨13, .chain⟩ ?_ rfl; simp; done)
                subst e0 e1 e2 e3 e4 e5 e6 e7 e8 e9 e10 e11 e12 e13
                clear hdep
                rw [hρ]
                show opI _ _ _ false _ _
                simp (disch := omega) only [go_sem, seval, Nat.reduceBNe, Bool.true_and, Bool.and_true]
                repeat refine And.intro obl ?_
                refine ih true true true true true true true true true true true true true true true ?_ (fun _ => rfl) _ ?_
                · simp only [cB, cond_true, cond_false] at hm ⊢; omega
                · simp (disch := omega) only [go_sem, seval, Nat.reduceBNe, Bool.true_and, Bool.and_true] <;> first | rfl | simp
          refine main 15 false false false false false false false false false false false false false false false rfl (fun h => by cases h) _ ?_
          simp (disch := omega) only [go_sem, seval, Nat.reduceBNe, Bool.true_and, Bool.and_true] <;> first | rfl | simp
        · try simp only [push_cast] at c3
          refine aw_exit ?_
          refine hK8 _ ?_; clear hK8
          refine aw_reg [0, 1, 22, 23, 24] (by kernel_rfl) ?_
          simp (disch := omega) only [go_sem, seval, Nat.reduceBNe, Bool.true_and, Bool.and_true]
          repeat refine And.intro obl ?_
          refine hK5 _ _ ?_ ⟨i + 1, rfl, ?_, ?_⟩
          · exact dfl
          · exact dfl
          · simp (disch := omega) only [go_sem, seval, Nat.reduceBNe, Bool.true_and, Bool.and_true] <;> first | rfl | omega | simp | simp_all
    · try simp only [push_cast] at c1
      refine aw_exit ?_
      refine hK3 _ ?_; clear hK3
      refine aw_seq fun K20 hK20 => ?_
      refine aw_reg [0, 1] (by kernel_rfl) ?_
      simp (disch := omega) only [go_sem, seval, Nat.reduceBNe, Bool.true_and, Bool.and_true]
      repeat refine And.intro obl ?_
      refine hK20 _ ?_; clear hK20
      refine aw_seq fun K21 hK21 => ?_
      refine aw_seq fun K22 hK22 => ?_
      refine aw_reg [0, 1, 11] (by kernel_rfl) ?_
      simp (disch := omega) only [go_sem, seval, Nat.reduceBNe, Bool.true_and, Bool.and_true]
      repeat refine And.intro obl ?_
      refine hK22 _ ?_; clear hK22
      refine aw_block ?_
      refine aw_loopK [1, 11, 84, 85, 86] (fun n ρ => ∃ i, n = tr.length - i ∧ (i ≤ tr.length) ∧ ρ = mkE O [(1, encSt st), (11, vi (coN tr (stD st) (enA tr) i)), (84, encTr tr), (85, vi (tr.length : Nat)), (86, vi (i : Nat))]) _ ⟨0, rfl, ?_, ?_⟩ ?_
      · exact dfl
      · simp (disch := omega) only [go_sem, seval, Nat.reduceBNe, Bool.true_and, Bool.and_true] <;> simp [coN]
      rintro n ρ ⟨i, rfl, l2_0, rfl⟩ K23 hK23
      refine aw_seq fun K24 hK24 => ?_
      refine aw_reg [0, 1, 11, 84, 85, 86] (by kernel_rfl) ?_
      simp (disch := omega) only [go_sem, seval, Nat.reduceBNe, Bool.true_and, Bool.and_true]
      repeat refine And.intro obl ?_
      refine hK24 _ ?_; clear hK24
      refine aw_seq fun K25 hK25 => ?_
      refine aw_cond _ (by rfl) (rfl) (fun c5 => ?_) (fun c5 => ?_)
      · try simp only [push_cast] at c5
        refine aw_skip ?_
        refine hK25 _ ?_; clear hK25
        refine aw_seq fun K26 hK26 => ?_
        refine aw_block ?_
        refine aw_seq fun K27 hK27 => ?_
        refine aw_reg [0, 1, 11, 84, 85, 86] (by kernel_rfl) ?_
        simp (disch := omega) only [go_sem, seval, Nat.reduceBNe, Bool.true_and, Bool.and_true]
        repeat refine And.intro obl ?_
        refine hK27 _ ?_; clear hK27
        refine aw_seq fun K28 hK28 => ?_
        have hri := hs.r i (by assumption)
        have hli := ho.l i (by assumption)
        refine aw_reg [0, 1, 11, 12, 13, 84, 85, 86] (by kernel_rfl) ?_
        simp (disch := omega) only [go_sem, seval, Nat.reduceBNe, Bool.true_and, Bool.and_true]
        repeat refine And.intro obl ?_
        refine hK28 _ ?_; clear hK28
        refine aw_block ?_
        refine aw_loopK [1, 11, 84, 85, 86, 12, 13, 93, 94] (fun n ρ => ∃ j, n = (tr.getD i default).fStops.length - j ∧ (j ≤ (tr.getD i default).fStops.length) ∧ ρ = mkE O [(1, encSt st), (11, vi (coN tr (stD st) (enA tr) i + coJ tr (stD st) i j)), (84, encTr tr), (85, vi (tr.length : Nat)), (86, vi (i : Nat)), (12, vi (i : Nat)), (13, .bx (eTrip (tr.getD i default))), (93, vi ((tr.getD i default).fStops.length : Nat)), (94, vi (j : Nat))]) _ ⟨0, rfl, ?_, ?_⟩ ?_
        · exact dfl
        · simp (disch := omega) only [go_sem, seval, Nat.reduceBNe, Bool.true_and, Bool.and_true] <;> simp [coJ]
        rintro n ρ ⟨j, rfl, l3_0, rfl⟩ K29 hK29
        refine aw_seq fun K30 hK30 => ?_
        refine aw_reg [0, 1, 11, 12, 13, 84, 85, 86, 93, 94] (by kernel_rfl) ?_
        simp (disch := omega) only [go_sem, seval, Nat.reduceBNe, Bool.true_and, Bool.and_true]
        repeat refine And.intro obl ?_
        refine hK30 _ ?_; clear hK30
        refine aw_seq fun K31 hK31 => ?_
        refine aw_cond _ (by rfl) (rfl) (fun c6 => ?_) (fun c6 => ?_)
        · try simp only [push_cast] at c6
          refine aw_skip ?_
          refine hK31 _ ?_; clear hK31
          refine aw_seq fun K32 hK32 => ?_
          refine aw_block ?_
          refine aw_seq fun K33 hK33 => ?_
          refine aw_reg [0, 1, 11, 12, 13, 84, 85, 86, 93, 94] (by kernel_rfl) ?_
          simp (disch := omega) only [go_sem, seval, Nat.reduceBNe, Bool.true_and, Bool.and_true]
          repeat refine And.intro obl ?_
          refine hK33 _ ?_; clear hK33
          refine aw_seq fun K34 hK34 => ?_
          have hsj := ho.s i j (by assumption) (by assumption)
          have hbj := hs.b i j (by assumption) (by assumption)
          have ht := term_b ho hbd (j := j) (by assumption) (by assumption)
          have hcj := coJ_b ho hbd (i := i) (by assumption) j (by omega)
          have hcn := coN_b ho hbd (pk_en tr) i (by omega)
          unfold weN duN stD at ht
          unfold stD duN at hbj
          refine aw_drawX [0, 1, 11, 12, 13, 14, 84, 85, 86, 93, 94] [] [] mixed (by kernel_rfl) (fun Y hY hYm hY0 => ?_)
          have tT : ∀ ρ, keepC [1, 11, 12, 13, 14, 84, 85, 86, 93, 94, 97, 98, 99, 100, 101, 102, 103, 104, 105, 106, 107, 108, 16, 15] ρ = mkE O [(1, encSt st), (11, vi (coN tr (stD st) (enA tr) i + coJ tr (stD st) i j)), (12, vi (i : Nat)), (13, .bx (eTrip (tr.getD i default))), (14, vi (j : Nat)), (84, encTr tr), (85, vi (tr.length : Nat)), (86, vi (i : Nat)), (93, vi ((tr.getD i default).fStops.length : Nat)), (94, vi (j : Nat)), (97, .bp 13 1), (98, encSp (tr.getD i default).fStops), (99, vi (j : Nat)), (100, .dp (eStop ((tr.getD i default).fStops.getD j default))), (101, .agg (eStop ((tr.getD i default).fStops.getD j default))), (102, encSt st), (103, vi (i : Nat)), (104, .dp [encI (st.getD i default)]), (105, encI (st.getD i default)), (106, vi (j : Nat)), (107, .dp [vi ((st.getD i default).getD j default)]), (108, vi ((st.getD i default).getD j default)), (16, vi ((st.getD i default).getD j default)), (15, .bx (eStop ((tr.getD i default).fStops.getD j default)))] → Y 0 #[true, true, true, true, true, true, true, true, true, true, true, true, true, true, true] ρ := by
            intro ρ hρ
            refine hY0 _ [1, 11, 12, 13, 14, 84, 85, 86, 93, 94, 97, 98, 99, 100, 101, 102, 103, 104, 105, 106, 107, 108, 16, 15] _ (by kernel_rfl) ?_
            rw [hρ]
            clear hY hYm hY0 hρ
            simp (disch := omega) only [go_sem, seval, Nat.reduceBNe, Bool.true_and, Bool.and_true]
            repeat refine And.intro obl ?_
            refine hK34 _ ?_; clear hK34
            refine aw_seq fun K35 hK35 => ?_
            refine aw_seq fun K36 hK36 => ?_
            refine aw_reg [0, 1, 11, 12, 13, 15, 16, 84, 85, 86, 93, 94] (by kernel_rfl) ?_
            simp (disch := omega) only [go_sem, seval, Nat.reduceBNe, Bool.true_and, Bool.and_true]
            repeat refine And.intro obl ?_
            refine hK36 _ ?_; clear hK36
            refine aw_cond _ (by rfl) (rfl) (fun c7 => ?_) (fun c7 => ?_)
            · try simp only [push_cast] at c7
              omega
            · try simp only [push_cast] at c7
              refine aw_skip ?_
              refine hK35 _ ?_; clear hK35
              refine aw_reg [0, 1, 11, 12, 13, 15, 16, 84, 85, 86, 93, 94] (by kernel_rfl) ?_
              simp (disch := omega) only [go_sem, seval, Nat.reduceBNe, Bool.true_and, Bool.and_true]
              repeat refine And.intro obl ?_
              refine hK32 _ ?_; clear hK32
              refine aw_reg [0, 1, 11, 12, 13, 84, 85, 86, 93, 94] (by kernel_rfl) ?_
              simp (disch := omega) only [go_sem, seval, Nat.reduceBNe, Bool.true_and, Bool.and_true]
              repeat refine And.intro obl ?_
              refine hK29 _ _ ?_ ⟨j + 1, rfl, ?_, ?_⟩
              · exact dfl
              · exact dfl
              · simp (disch := omega) only [go_sem, seval, Nat.reduceBNe, Bool.true_and, Bool.and_true] <;> rw [coJ_sS]; rfl
          have main : ∀ (m : Nat) (b0 b1 b2 b3 b4 b5 b6 b7 b8 b9 b10 b11 b12 b13 b14 : Bool), cB b0 + cB b1 + cB b2 + cB b3 + cB b4 + cB b5 + cB b6 + cB b7 + cB b8 + cB b9 + cB b10 + cB b11 + cB b12 + cB b13 + cB b14 = m → (b13 = true → b12 = true) → ∀ ρ, keepC [1, 11, 12, 13, 14, 84, 85, 86, 93, 94, 97, 98, 99, 100, 101, 102, 103, 104, 105, 106, 107, 108, 16, 15] ρ = mkE O [(1, encSt st), (11, vi (coN tr (stD st) (enA tr) i + coJ tr (stD st) i j)), (12, vi (i : Nat)), (13, .bx (eTrip (tr.getD i default))), (14, vi (j : Nat)), (84, encTr tr), (85, vi (tr.length : Nat)), (86, vi (i : Nat)), (93, vi ((tr.getD i default).fStops.length : Nat)), (94, vi (j : Nat)), (97, selD b0 (.bp 13 1)), (98, selD b1 (encSp (tr.getD i default).fStops)), (99, selD b2 (vi (j : Nat))), (100, selD b3 (.dp (eStop ((tr.getD i default).fStops.getD j default)))), (101, selD b4 (.agg (eStop ((tr.getD i default).fStops.getD j default)))), (102, selD b5 (encSt st)), (103, selD b6 (vi (i : Nat))), (104, selD b7 (.dp [encI (st.getD i default)])), (105, selD b8 (encI (st.getD i default))), (106, selD b9 (vi (j : Nat))), (107, selD b10 (.dp [vi ((st.getD i default).getD j default)])), (108, selD b11 (vi ((st.getD i default).getD j default))), (16, selD b14 (vi ((st.getD i default).getD j default))), (15, sel2 b13 b12 (.bx (eStop ((tr.getD i default).fStops.getD j default))) (.bx [vi 0, vi 0, vi 0, vi 0]))] → Y m #[b0, b1, b2, b3, b4, b5, b6, b7, b8, b9, b10, b11, b12, b13, b14] ρ := by
            intro m
            induction m with
            | zero =>
              intro b0 b1 b2 b3 b4 b5 b6 b7 b8 b9 b10 b11 b12 b13 b14 hm m13_12 ρ hρ
              have hc : ∀ b, cB b = 0 → b = true := fun b h => by cases b; cases h; rfl
              have e0 : b0 = true := hc b0 (by omega)
              have e1 : b1 = true := hc b1 (by omega)
              have e2 : b2 = true := hc b2 (by omega)
              have e3 : b3 = true := hc b3 (by omega)
              have e4 : b4 = true := hc b4 (by omega)
              have e5 : b5 = true := hc b5 (by omega)
              have e6 : b6 = true := hc b6 (by omega)
              have e7 : b7 = true := hc b7 (by omega)
              have e8 : b8 = true := hc b8 (by omega)
              have e9 : b9 = true := hc b9 (by omega)
              have e10 : b10 = true := hc b10 (by omega)
              have e11 : b11 = true := hc b11 (by omega)
              have e12 : b12 = true := hc b12 (by omega)
              have e13 : b13 = true := hc b13 (by omega)
              have e14 : b14 = true := hc b14 (by omega)
              subst e0 e1 e2 e3 e4 e5 e6 e7 e8 e9 e10 e11 e12 e13 e14
              refine tT ρ (hρ.trans ?_)
              simp only [selD_true, sel2_true]
            | succ m ih =>
              intro b0 b1 b2 b3 b4 b5 b6 b7 b8 b9 b10 b11 b12 b13 b14 hm m13_12 ρ hρ
              have hex : ∃ i, i < 15 ∧ #[b0, b1, b2, b3, b4, b5, b6, b7, b8, b9, b10, b11, b12, b13, b14].getD i true = false := by
                clear ih hρ tT hY hYm hY0
                cases b0
                · exact ⟨0, by omega, rfl⟩
                cases b1
                · exact ⟨1, by omega, rfl⟩
                cases b2
                · exact ⟨2, by omega, rfl⟩
                cases b3
                · exact ⟨3, by omega, rfl⟩
                cases b4
                · exact ⟨4, by omega, rfl⟩
                cases b5
                · exact ⟨5, by omega, rfl⟩
                cases b6
                · exact ⟨6, by omega, rfl⟩
                cases b7
                · exact ⟨7, by omega, rfl⟩
                cases b8
                · exact ⟨8, by omega, rfl⟩
                cases b9
                · exact ⟨9, by omega, rfl⟩
                cases b10
                · exact ⟨10, by omega, rfl⟩
                cases b11
                · exact ⟨11, by omega, rfl⟩
                cases b12
                · exact ⟨12, by omega, rfl⟩
                cases b13
                · exact ⟨13, by omega, rfl⟩
                cases b14
                · exact ⟨14, by omega, rfl⟩
                exact absurd hm (by simp [cB])
              refine hYm m _ [1, 11, 12, 13, 14, 84, 85, 86, 93, 94, 97, 98, 99, 100, 101, 102, 103, 104, 105, 106, 107, 108, 16, 15] _ (by kernel_rfl) rfl hex ?_
              clear hY hYm hY0 tT hex
              intro iQ oQ hun hoQ hdep
              have hiQ : iQ < 15 := (List.getElem?_eq_some_iff.1 hoQ).1
              match iQ, hiQ with
              | 0, _ =>
                obtain rfl : b0 = false := hun
                obtain rfl := Option.some.inj hoQ
                clear hdep
                rw [hρ]
                show opI _ _ _ false _ _
                simp (disch := omega) only [go_sem, seval, Nat.reduceBNe, Bool.true_and, Bool.and_true]
                repeat refine And.intro obl ?_
                refine ih true b1 b2 b3 b4 b5 b6 b7 b8 b9 b10 b11 b12 b13 b14 ?_ m13_12 _ ?_
                · simp only [cB, cond_true, cond_false] at hm ⊢; omega
                · simp (disch := omega) only [go_sem, seval, Nat.reduceBNe, Bool.true_and, Bool.and_true] <;> first | rfl | simp
              | 1, _ =>
                obtain rfl : b1 = false := hun
                obtain rfl := Option.some.inj hoQ
                have e0 : b0 = true := by first | (refine hdep ⟨0, .data⟩ ?_ rfl; simp; done) | (refine hdep ⟨0, .phase⟩ ?_ rfl; simp; done) | (refine hdep ⟨0, .chain⟩ ?_ rfl; simp; done)
                subst e0
                clear hdep
                rw [hρ]
                show opI _ _ _ false _ _
                simp (disch := omega) only [go_sem, seval, Nat.reduceBNe, Bool.true_and, Bool.and_true]
                repeat refine And.intro obl ?_
                refine ih true true b2 b3 b4 b5 b6 b7 b8 b9 b10 b11 b12 b13 b14 ?_ m13_12 _ ?_
                · simp only [cB, cond_true, cond_false] at hm ⊢; omega
                · simp (disch := omega) only [go_sem, seval, Nat.reduceBNe, Bool.true_and, Bool.and_true] <;> first | rfl | simp
              | 2, _ =>
                obtain rfl : b2 = false := hun
                obtain rfl := Option.some.inj hoQ
                clear hdep
                rw [hρ]
                show opI _ _ _ false _ _
                simp (disch := omega) only [go_sem, seval, Nat.reduceBNe, Bool.true_and, Bool.and_true]
                repeat refine And.intro obl ?_
                refine ih b0 b1 true b3 b4 b5 b6 b7 b8 b9 b10 b11 b12 b13 b14 ?_ m13_12 _ ?_
                · simp only [cB, cond_true, cond_false] at hm ⊢; omega
                · simp (disch := omega) only [go_sem, seval, Nat.reduceBNe, Bool.true_and, Bool.and_true] <;> first | rfl | simp
              | 3, _ =>
                obtain rfl : b3 = false := hun
                obtain rfl := Option.some.inj hoQ
                have e1 : b1 = true := by first | (refine hdep ⟨1, .data⟩ ?_ rfl; simp; done) | (refine hdep ⟨1, .phase⟩ ?_ rfl; simp; done) | (refine hdep ⟨1, .chain⟩ ?_ rfl; simp; done)
                have e2 : b2 = true := by first | (refine hdep ⟨2, .data⟩ ?_ rfl; simp; done) | (refine hdep ⟨2, .phase⟩ ?_ rfl; simp; done) | (refine hdep ⟨2, .chain⟩ ?_ rfl; simp; done)
                subst e1 e2
                clear hdep
                rw [hρ]
                show opI _ _ _ false _ _
                simp (disch := omega) only [go_sem, seval, Nat.reduceBNe, Bool.true_and, Bool.and_true]
                repeat refine And.intro obl ?_
                refine ih b0 true true true b4 b5 b6 b7 b8 b9 b10 b11 b12 b13 b14 ?_ m13_12 _ ?_
                · simp only [cB, cond_true, cond_false] at hm ⊢; omega
                · simp (disch := omega) only [go_sem, seval, Nat.reduceBNe, Bool.true_and, Bool.and_true] <;> first | rfl | simp
              | 4, _ =>
                obtain rfl : b4 = false := hun
                obtain rfl := Option.some.inj hoQ
                have e3 : b3 = true := by first | (refine hdep ⟨3, .data⟩ ?_ rfl; simp; done) | (refine hdep ⟨3, .phase⟩ ?_ rfl; simp; done) | (refine hdep ⟨3, .chain⟩ ?_ rfl; simp; done)
                subst e3
                clear hdep
                rw [hρ]
                show opI _ _ _ false _ _
                simp (disch := omega) only [go_sem, seval, Nat.reduceBNe, Bool.true_and, Bool.and_true]
                repeat refine And.intro obl ?_
                refine ih b0 b1 b2 true true b5 b6 b7 b8 b9 b10 b11 b12 b13 b14 ?_ m13_12 _ ?_
                · simp only [cB, cond_true, cond_false] at hm ⊢; omega
                · simp (disch := omega) only [go_sem, seval, Nat.reduceBNe, Bool.true_and, Bool.and_true] <;> first | rfl | simp
              | 5, _ =>
                obtain rfl : b5 = false := hun
                obtain rfl := Option.some.inj hoQ
                clear hdep
                rw [hρ]
                show opI _ _ _ false _ _
                simp (disch := omega) only [go_sem, seval, Nat.reduceBNe, Bool.true_and, Bool.and_true]
                repeat refine And.intro obl ?_
                refine ih b0 b1 b2 b3 b4 true b6 b7 b8 b9 b10 b11 b12 b13 b14 ?_ m13_12 _ ?_
                · simp only [cB, cond_true, cond_false] at hm ⊢; omega
                · simp (disch := omega) only [go_sem, seval, Nat.reduceBNe, Bool.true_and, Bool.and_true] <;> first | rfl | simp
              | 6, _ =>
                obtain rfl : b6 = false := hun
                obtain rfl := Option.some.inj hoQ
                clear hdep
                rw [hρ]
                show opI _ _ _ false _ _
                simp (disch := omega) only [go_sem, seval, Nat.reduceBNe, Bool.true_and, Bool.and_true]
                repeat refine And.intro obl ?_
                refine ih b0 b1 b2 b3 b4 b5 true b7 b8 b9 b10 b11 b12 b13 b14 ?_ m13_12 _ ?_
                · simp only [cB, cond_true, cond_false] at hm ⊢; omega
                · simp (disch := omega) only [go_sem, seval, Nat.reduceBNe, Bool.true_and, Bool.and_true] <;> first | rfl | simp
              | 7, _ =>
                obtain rfl : b7 = false := hun
                obtain rfl := Option.some.inj hoQ
                have e5 : b5 = true := by first | (refine hdep ⟨5, .data⟩ ?_ rfl; simp; done) | (refine hdep ⟨5, .phase⟩ ?_ rfl; simp; done) | (refine hdep ⟨5, .chain⟩ ?_ rfl; simp; done)
                have e6 : b6 = true := by first | (refine hdep ⟨6, .data⟩ ?_ rfl; simp; done) | (refine hdep ⟨6, .phase⟩ ?_ rfl; simp; done) | (refine hdep ⟨6, .chain⟩ ?_ rfl; simp; done)
                subst e5 e6
                clear hdep
                rw [hρ]
                show opI _ _ _ false _ _
                simp (disch := omega) only [go_sem, seval, Nat.reduceBNe, Bool.true_and, Bool.and_true]
                repeat refine And.intro obl ?_
                refine ih b0 b1 b2 b3 b4 true true true b8 b9 b10 b11 b12 b13 b14 ?_ m13_12 _ ?_
                · simp only [cB, cond_true, cond_false] at hm ⊢; omega
                · simp (disch := omega) only [go_sem, seval, Nat.reduceBNe, Bool.true_and, Bool.and_true] <;> first | rfl | simp
              | 8, _ =>
                obtain rfl : b8 = false := hun
                obtain rfl := Option.some.inj hoQ
                have e7 : b7 = true := by first | (refine hdep ⟨7, .data⟩ ?_ rfl; simp; done) | (refine hdep ⟨7, .phase⟩ ?_ rfl; simp; done) | (refine hdep ⟨7, .chain⟩ ?_ rfl; simp; done)
                subst e7
                clear hdep
                rw [hρ]
                show opI _ _ _ false _ _
                simp (disch := omega) only [go_sem, seval, Nat.reduceBNe, Bool.true_and, Bool.and_true]
                repeat refine And.intro obl ?_
                refine ih b0 b1 b2 b3 b4 b5 b6 true true b9 b10 b11 b12 b13 b14 ?_ m13_12 _ ?_
                · simp only [cB, cond_true, cond_false] at hm ⊢; omega
                · simp (disch := omega) only [go_sem, seval, Nat.reduceBNe, Bool.true_and, Bool.and_true] <;> first | rfl | simp
              | 9, _ =>
                obtain rfl : b9 = false := hun
                obtain rfl := Option.some.inj hoQ
                clear hdep
                rw [hρ]
                show opI _ _ _ false _ _
                simp (disch := omega) only [go_sem, seval, Nat.reduceBNe, Bool.true_and, Bool.and_true]
                repeat refine And.intro obl ?_
                refine ih b0 b1 b2 b3 b4 b5 b6 b7 b8 true b10 b11 b12 b13 b14 ?_ m13_12 _ ?_
                · simp only [cB, cond_true, cond_false] at hm ⊢; omega
                · simp (disch := omega) only [go_sem, seval, Nat.reduceBNe, Bool.true_and, Bool.and_true] <;> first | rfl | simp
              | 10, _ =>
                obtain rfl : b10 = false := hun
                obtain rfl := Option.some.inj hoQ
                have e8 : b8 = true := by first | (refine hdep ⟨8, .data⟩ ?_ rfl; simp; done) | (refine hdep ⟨8, .phase⟩ ?_ rfl; simp; done) | (refine hdep ⟨8, .chain⟩ ?_ rfl; simp; done)
                have e9 : b9 = true := by first | (refine hdep ⟨9, .data⟩ ?_ rfl; simp; done) | (refine hdep ⟨9, .phase⟩ ?_ rfl; simp; done) | (refine hdep ⟨9, .chain⟩ ?_ rfl; simp; done)
                subst e8 e9
                clear hdep
                rw [hρ]
                show opI _ _ _ false _ _
                simp (disch := omega) only [go_sem, seval, Nat.reduceBNe, Bool.true_and, Bool.and_true]
                repeat refine And.intro obl ?_
                refine ih b0 b1 b2 b3 b4 b5 b6 b7 true true true b11 b12 b13 b14 ?_ m13_12 _ ?_
                · simp only [cB, cond_true, cond_false] at hm ⊢; omega
                · simp (disch := omega) only [go_sem, seval, Nat.reduceBNe, Bool.true_and, Bool.and_true] <;> first | rfl | simp
              | 11, _ =>
                obtain rfl : b11 = false := hun
                obtain rfl := Option.some.inj hoQ
                have e10 : b10 = true := by first | (refine hdep ⟨10, .data⟩ ?_ rfl; simp; done) | (refine hdep ⟨10, .phase⟩ ?_ rfl; simp; done) | (refine hdep ⟨10, .chain⟩ ?_ rfl; simp; done)
                subst e10
                clear hdep
                rw [hρ]
                show opI _ _ _ false _ _
                simp (disch := omega) only [go_sem, seval, Nat.reduceBNe, Bool.true_and, Bool.and_true]
                repeat refine And.intro obl ?_
                refine ih b0 b1 b2 b3 b4 b5 b6 b7 b8 b9 true true b12 b13 b14 ?_ m13_12 _ ?_
                · simp only [cB, cond_true, cond_false] at hm ⊢; omega
                · simp (disch := omega) only [go_sem, seval, Nat.reduceBNe, Bool.true_and, Bool.and_true] <;> first | rfl | simp
              | 12, _ =>
                obtain rfl : b12 = false := hun
                obtain rfl := Option.some.inj hoQ
                have n13 : b13 = false := by cases hc : b13 with
                  | false => rfl
                  | true => exact absurd (m13_12 hc) (by decide)
                subst n13
                clear hdep
                rw [hρ]
                show opI _ _ _ false _ _
                simp (disch := omega) only [go_sem, seval, Nat.reduceBNe, Bool.true_and, Bool.and_true]
                repeat refine And.intro obl ?_
                refine ih b0 b1 b2 b3 b4 b5 b6 b7 b8 b9 b10 b11 true false b14 ?_ (fun h => by cases h) _ ?_
                · simp only [cB, cond_true, cond_false] at hm ⊢; omega
                · simp (disch := omega) only [go_sem, seval, Nat.reduceBNe, Bool.true_and, Bool.and_true] <;> first | rfl | simp
              | 13, _ =>
                obtain rfl : b13 = false := hun
                obtain rfl := Option.some.inj hoQ
                have e0 : b0 = true := by first | (refine hdep ⟨0, .data⟩ ?_ rfl; simp; done) | (refine hdep ⟨0, .phase⟩ ?_ rfl; simp; done) | (refine hdep ⟨0, .chain⟩ ?_ rfl; simp; done)
                have e1 : b1 = true := by first | (refine hdep ⟨1, .data⟩ ?_ rfl; simp; done) | (refine hdep ⟨1, .phase⟩ ?_ rfl; simp; done) | (refine hdep ⟨1, .chain⟩ ?_ rfl; simp; done)
                have e2 : b2 = true := by first | (refine hdep ⟨2, .data⟩ ?_ rfl; simp; done) | (refine hdep ⟨2, .phase⟩ ?_ rfl; simp; done) | (refine hdep ⟨2, .chain⟩ ?_ rfl; simp; done)
                have e3 : b3 = true := by first | (refine hdep ⟨3, .data⟩ ?_ rfl; simp; done) | (refine hdep ⟨3, .phase⟩ ?_ rfl; simp; done) | (refine hdep ⟨3, .chain⟩ ?_ rfl; simp; done)
                have e4 : b4 = true := by first | (refine hdep ⟨4, .data⟩ ?_ rfl; simp; done) | (refine hdep ⟨4, .phase⟩ ?_ rfl; simp; done) | (refine hdep ⟨4, .chain⟩ ?_ rfl; simp; done)
                have e12 : b12 = true := by first | (refine hdep ⟨12, .data⟩ ?_ rfl; simp; done) | (refine hdep ⟨12, .phase⟩ ?_ rfl; simp; done) | (refine hdep ⟨12, .chain⟩ ?_ rfl; simp; done)
                subst e0 e1 e2 e3 e4 e12
                clear hdep
                rw [hρ]
                show opI _ _ _ false _ _
                simp (disch := omega) only [go_sem, seval, Nat.reduceBNe, Bool.true_and, Bool.and_true]
                repeat refine And.intro obl ?_
                refine ih true true true true true b5 b6 b7 b8 b9 b10 b11 true true b14 ?_ (fun _ => rfl) _ ?_
                · simp only [cB, cond_true, cond_false] at hm ⊢; omega
                · simp (disch := omega) only [go_sem, seval, Nat.reduceBNe, Bool.true_and, Bool.and_true] <;> first | rfl | simp
              | 14, _ =>
                obtain rfl : b14 = false := hun
                obtain rfl := Option.some.inj hoQ
                have e0 : b0 = true := by first | (refine hdep ⟨0, .data⟩ ?_ rfl; simp; done) | (refine hdep ⟨0, .phase⟩ ?_ rfl; simp; done) | (refine hdep ⟨0, .chain⟩ ?_ rfl; simp; done)
                have e1 : b1 = true := by first | (refine hdep ⟨1, .data⟩ ?_ rfl; simp; done) | (refine hdep ⟨1, .phase⟩ ?_ rfl; simp; done) | (refine hdep ⟨1, .chain⟩ ?_ rfl; simp; done)
                have e2 : b2 = true := by first | (refine hdep ⟨2, .data⟩ ?_ rfl; simp; done) | (refine hdep ⟨2, .phase⟩ ?_ rfl; simp; done) | (refine hdep ⟨2, .chain⟩ ?_ rfl; simp; done)
                have e3 : b3 = true := by first | (refine hdep ⟨3, .data⟩ ?_ rfl; simp; done) | (refine hdep ⟨3, .phase⟩ ?_ rfl; simp; done) | (refine hdep ⟨3, .chain⟩ ?_ rfl; simp; done)
                have e4 : b4 = true := by first | (refine hdep ⟨4, .data⟩ ?_ rfl; simp; done) | (refine hdep ⟨4, .phase⟩ ?_ rfl; simp; done) | (refine hdep ⟨4, .chain⟩ ?_ rfl; simp; done)
                have e5 : b5 = true := by first | (refine hdep ⟨5, .data⟩ ?_ rfl; simp; done) | (refine hdep ⟨5, .phase⟩ ?_ rfl; simp; done) | (refine hdep ⟨5, .chain⟩ ?_ rfl; simp; done)
                have e6 : b6 = true := by first | (refine hdep ⟨6, .data⟩ ?_ rfl; simp; done) | (refine hdep ⟨6, .phase⟩ ?_ rfl; simp; done) | (refine hdep ⟨6, .chain⟩ ?_ rfl; simp; done)
                have e7 : b7 = true := by first | (refine hdep ⟨7, .data⟩ ?_ rfl; simp; done) | (refine hdep ⟨7, .phase⟩ ?_ rfl; simp; done) | (refine hdep ⟨7, .chain⟩ ?_ rfl; simp; done)
                have e8 : b8 = true := by first | (refine hdep ⟨8, .data⟩ ?_ rfl; simp; done) | (refine hdep ⟨8, .phase⟩ ?_ rfl; simp; done) | (refine hdep ⟨8, .chain⟩ ?_ rfl; simp; done)
                have e9 : b9 = true := by first | (refine hdep ⟨9, .data⟩ ?_ rfl; simp; done) | (refine hdep ⟨9, .phase⟩ ?_ rfl; simp; done) | (refine hdep ⟨9, .chain⟩ ?_ rfl; simp; done)
                have e10 : b10 = true := by first | (refine hdep ⟨10, .data⟩ ?_ rfl; simp; done) | (refine hdep ⟨10, .phase⟩ ?_ rfl; simp; done) | (refine hdep ⟨10, .chain⟩ ?_ rfl; simp; done)
                have e11 : b11 = true := by first | (refine hdep ⟨11, .data⟩ ?_ rfl; simp; done) | (refine hdep ⟨11, .phase⟩ ?_ rfl; simp; done) | (refine hdep ⟨11, .chain⟩ ?_ rfl; simp; done)
                have e12 : b12 = true := by first | (refine hdep ⟨12, .data⟩ ?_ rfl; simp; done) | (refine hdep ⟨12, .phase⟩ ?_ rfl; simp; done) | (refine hdep ⟨12, .chain⟩ ?_ rfl; simp; done)
                have e13 : b13 = true := by first | (refine hdep ⟨13, .data⟩ ?_ rfl; simp; done) | (refine hdep ⟨13, .phase⟩ ?_ rfl; simp; done) | (refine hdep ⟨13, .chain⟩ ?_ rfl; simp; done)
                subst e0 e1 e2 e3 e4 e5 e6 e7 e8 e9 e10 e11 e12 e13
                clear hdep
                rw [hρ]
                show opI _ _ _ false _ _
                simp (disch := omega) only [go_sem, seval, Nat.reduceBNe, Bool.true_and, Bool.and_true]
                repeat refine And.intro obl ?_
                refine ih true true true true true true true true true true true true true true true ?_ (fun _ => rfl) _ ?_
                · simp only [cB, cond_true, cond_false] at hm ⊢; omega
                · simp (disch := omega) only [go_sem, seval, Nat.reduceBNe, Bool.true_and, Bool.and_true] <;> first | rfl | simp
          refine main 15 false false false false false false false false false false false false false false false rfl (fun h => by cases h) _ ?_
          simp (disch := omega) only [go_sem, seval, Nat.reduceBNe, Bool.true_and, Bool.and_true] <;> first | rfl | simp
        · try simp only [push_cast] at c6
          refine aw_exit ?_
          refine hK26 _ ?_; clear hK26
          refine aw_reg [0, 1, 11, 84, 85, 86] (by kernel_rfl) ?_
          simp (disch := omega) only [go_sem, seval, Nat.reduceBNe, Bool.true_and, Bool.and_true]
          repeat refine And.intro obl ?_
          refine hK23 _ _ ?_ ⟨i + 1, rfl, ?_, ?_⟩
          · exact dfl
          · exact dfl
          · simp (disch := omega) only [go_sem, seval, Nat.reduceBNe, Bool.true_and, Bool.and_true] <;> rw [show j = (tr.getD i default).fStops.length by omega, coN_sS tr _ (by omega)]; rfl
      · try simp only [push_cast] at c5
        refine aw_exit ?_
        refine hK21 _ ?_; clear hK21
        refine aw_seq fun K37 hK37 => ?_
        refine aw_reg [11] (by kernel_rfl) ?_
        simp (disch := omega) only [go_sem, seval, Nat.reduceBNe, Bool.true_and, Bool.and_true]
        repeat refine And.intro obl ?_
        refine hK37 _ ?_; clear hK37
        refine aw_ret ?_
        refine ret_tup rfl (by simp (disch := omega) only [go_sem, seval, Nat.reduceBNe, Bool.true_and, Bool.and_true]) (.cons ?_ (.cons ?_ .nil))
        · exact roV (by simp (disch := omega) only [go_sem, seval, Nat.reduceBNe, Bool.true_and, Bool.and_true] <;> ((rw [show i = tr.length by omega]; rfl))) rfl rfl
        · exact roV (by simp (disch := omega) only [go_sem, seval, Nat.reduceBNe, Bool.true_and, Bool.and_true] <;> (first | rfl | (simp_all; done))) rfl rfl
end Go.Sg
