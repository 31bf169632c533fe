/- Contract of the reference's Settings. Printed by genw.py. -/
import Derived.Test.YtnpokifaejcbeaaGreatDoorSgObl
import Derived.Test.YtnpokifaejcbeaaGreatDoorT9
set_option linter.unusedVariables false
set_option linter.unusedSimpArgs false
set_option maxRecDepth 8000
namespace Go.Sg
open Go.Proofs
def sgsR (r : Route) : List Setting := r.fPoints ++ r.fOverPoints ++ r.fFlank
/-- The least so far of those that come behind. -/
def fndL (A out : List Setting) (i : Nat) (f : Int) : Prop :=
  (f = -1 ∧ ∀ k, k < i → gtL out (stN A k) = false) ∨ ∃ m : Nat, f = (m : Int) ∧ m < i ∧ gtL out (stN A m) = true ∧ ∀ k, k < i → gtL out (stN A k) = true → sLt (stN A k) (stN A m) = false
theorem fndL_0 (A out : List Setting) : fndL A out 0 (-1) := .inl ⟨rfl, fun k hk => absurd hk (Nat.not_lt_zero _)⟩
theorem fndL_y {A out : List Setting} {i : Nat} {f : Int} (h : fndL A out i f) (hg : gtL out (stN A i) = true) (hl : f < 0 ∨ sLt (stN A i) (stN A f.toNat) = true) : fndL A out (i + 1) (i : Int) := by
  refine .inr ⟨i, rfl, by omega, hg, fun k hk hgk => ?_⟩
  rcases Nat.lt_or_eq_of_le (Nat.le_of_lt_succ hk) with q | q
  · rcases h with ⟨_, h⟩ | ⟨m, rfl, hm, hgm, h⟩
    · rw [h k q] at hgk; cases hgk
    · rcases hl with hl | hl
      · omega
      · simp only [Int.toNat_natCast] at hl
        cases hq : sLt (stN A k) (stN A i) with
        | false => rfl
        | true => have := h k q hgk; rw [sLt_tr hq hl] at this; cases this
  · subst q; exact sLt_irr _
theorem fndL_n {A out : List Setting} {i : Nat} {f : Int} (h : fndL A out i f) (hn : gtL out (stN A i) = false ∨ (0 ≤ f ∧ sLt (stN A i) (stN A f.toNat) = false)) : fndL A out (i + 1) f := by
  rcases h with ⟨rfl, h⟩ | ⟨m, rfl, hm, hgm, h⟩
  · refine .inl ⟨rfl, fun k hk => ?_⟩
    rcases Nat.lt_or_eq_of_le (Nat.le_of_lt_succ hk) with q | q
    · exact h k q
    · subst q; rcases hn with hn | hn
      · exact hn
      · omega
  · refine .inr ⟨m, rfl, by omega, hgm, fun k hk hgk => ?_⟩
    rcases Nat.lt_or_eq_of_le (Nat.le_of_lt_succ hk) with q | q
    · exact h k q hgk
    · subst q; rcases hn with hn | hn
      · rw [hn] at hgk; cases hgk
      · simpa using hn.2
theorem fndL_bd {A out : List Setting} {i : Nat} {f : Int} (h : fndL A out i f) : f = -1 ∨ (0 ≤ f ∧ f.toNat < i) := by
  rcases h with ⟨rfl, _⟩ | ⟨m, rfl, hm, _⟩
  · exact .inl rfl
  · exact .inr ⟨by omega, by omega⟩
theorem stN_mem {A : List Setting} {k : Nat} (h : k < A.length) : stN A k ∈ A := by simp [stN, List.getD_eq_getElem?_getD, h]
theorem mem_stN {A : List Setting} {x : Setting} (h : x ∈ A) : ∃ k, k < A.length ∧ stN A k = x := by
  obtain ⟨k, hk, rfl⟩ := List.mem_iff_getElem.1 h
  exact ⟨k, hk, by simp [stN, List.getD_eq_getElem?_getD, hk]⟩
theorem fndL_end {A out : List Setting} {f : Int} (h : fndL A out A.length f) (hf : f < 0) (hs : SelI A out) : out = srtS A := by
  rcases h with ⟨_, h⟩ | ⟨m, rfl, hm, _⟩
  · exact hs.fin fun x hx => by obtain ⟨k, hk, rfl⟩ := mem_stN hx; exact h k hk
  · omega
theorem fndL_go {A out : List Setting} {f : Int} (h : fndL A out A.length f) (hf : ¬ f < 0) (hs : SelI A out) : stN A f.toNat ∈ A ∧ SelI A (out ++ [stN A f.toNat]) ∧ selM A (out ++ [stN A f.toNat]) < selM A out := by
  rcases h with ⟨rfl, _⟩ | ⟨m, rfl, hm, hg, h⟩
  · omega
  · simp only [Int.toNat_natCast]
    have hmem := stN_mem hm
    exact ⟨hmem, hs.step hmem hg fun x hx hgx => (by obtain ⟨k, hk, rfl⟩ := mem_stN hx; exact h k hk hgx), sel_less hmem hg⟩

theorem ref16_less_ok (O : Env) (a b : Setting) : PCall Tryz.prog O 68 [.agg (eSetting a), .agg (eSetting b)] (vb (sLt a b)) := by
  -- signalling/signallingref16.less
  refine pcall_of_aw Tryz.func68 rfl (by kernel_rfl) ?_
  refine aw_seq fun K0 hK0 => ?_
  refine aw_reg [0, 1] (by kernel_rfl) ?_
  simp (disch := omega) only [go_sem, ↓reduceIte, Nat.reduceEqDiff, Nat.reduceLT, Nat.reduceLeDiff, Nat.reduceAdd, Nat.reduceSub, Nat.reduceMul, reduceCtorEq, Int.reduceToNat, Int.reduceNeg]
  repeat refine And.intro obl ?_
  refine hK0 _ ?_; clear hK0
  refine aw_seq fun K1 hK1 => ?_
  refine aw_reg [2, 3] (by kernel_rfl) ?_
  simp (disch := omega) only [go_sem, ↓reduceIte, Nat.reduceEqDiff, Nat.reduceLT, Nat.reduceLeDiff, Nat.reduceAdd, Nat.reduceSub, Nat.reduceMul, reduceCtorEq, Int.reduceToNat, Int.reduceNeg]
  repeat refine And.intro obl ?_
  refine hK1 _ ?_; clear hK1
  refine aw_ret ?_
  refine ret_tmp 4 rfl (by simp (disch := omega) only [go_sem, ↓reduceIte, Nat.reduceEqDiff, Nat.reduceLT, Nat.reduceLeDiff, Nat.reduceAdd, Nat.reduceSub, Nat.reduceMul, reduceCtorEq, Int.reduceToNat, Int.reduceNeg]) ?_
  exact Exp.is (by simp (disch := omega) only [go_sem, ↓reduceIte, Nat.reduceEqDiff, Nat.reduceLT, Nat.reduceLeDiff, Nat.reduceAdd, Nat.reduceSub, Nat.reduceMul, reduceCtorEq, Int.reduceToNat, Int.reduceNeg] <;> refine congrArg vb ?_ <;> (rw [Bool.eq_iff_iff, sLt_iff]; simp)) rfl rfl

set_option maxHeartbeats 2000000 in
theorem ref16_Settings_ok (O : Env) (r : Route) (hb : (sgsR r).length ≤ 240) : PCall Tryz.prog O 31 [.agg (eRoute r)] (encS (srtS (sgsR r))) := by
  -- signalling/signallingref16.Settings
  have hb' : r.fPoints.length + r.fOverPoints.length + r.fFlank.length ≤ 240 := by simp only [sgsR, List.length_append] at hb; omega
  refine pcall_has 0 rfl (.agg (d := encS r.fPoints) (by simp [eRoute]) (.sl _ _ _)) fun h1 => ?_
  refine pcall_has 0 rfl (.agg (d := encS r.fOverPoints) (by simp [eRoute]) (.sl _ _ _)) fun h2 => ?_
  refine pcall_has 0 rfl (.agg (d := encS r.fFlank) (by simp [eRoute]) (.sl _ _ _)) fun h3 => ?_
  refine pcall_of_aw Tryz.func31 rfl (by kernel_rfl) ?_
  refine aw_seq fun K0 hK0 => ?_
  refine aw_reg [0] (by kernel_rfl) ?_
  simp (disch := omega) only [go_sem, ↓reduceIte, Nat.reduceEqDiff, Nat.reduceLT, Nat.reduceLeDiff, Nat.reduceAdd, Nat.reduceSub, Nat.reduceMul, reduceCtorEq, Int.reduceToNat, Int.reduceNeg, List.take_length, ← List.map_append]
  repeat refine And.intro obl ?_
  refine hK0 _ ?_; clear hK0
  refine aw_seq fun K1 hK1 => ?_
  refine aw_reg [1] (by kernel_rfl) ?_
  simp (disch := omega) only [go_sem, ↓reduceIte, Nat.reduceEqDiff, Nat.reduceLT, Nat.reduceLeDiff, Nat.reduceAdd, Nat.reduceSub, Nat.reduceMul, reduceCtorEq, Int.reduceToNat, Int.reduceNeg, List.take_length, ← List.map_append]
  repeat refine And.intro obl ?_
  refine hK1 _ ?_; clear hK1
  refine aw_seq fun K2 hK2 => ?_
  refine aw_nilR 3 68 2 eSetting rfl rfl ?_
  refine aw_nilR 4 68 2 eSetting rfl rfl ?_
  refine aw_reg [1, 3, 4] (by kernel_rfl) ?_
  simp (disch := omega) only [go_sem, ↓reduceIte, Nat.reduceEqDiff, Nat.reduceLT, Nat.reduceLeDiff, Nat.reduceAdd, Nat.reduceSub, Nat.reduceMul, reduceCtorEq, Int.reduceToNat, Int.reduceNeg, List.take_length, ← List.map_append]
  repeat refine And.intro obl ?_
  refine hK2 _ ?_; clear hK2
  refine aw_seq fun K3 hK3 => ?_
  refine aw_reg [1, 3, 4] (by kernel_rfl) ?_
  simp (disch := omega) only [go_sem, ↓reduceIte, Nat.reduceEqDiff, Nat.reduceLT, Nat.reduceLeDiff, Nat.reduceAdd, Nat.reduceSub, Nat.reduceMul, reduceCtorEq, Int.reduceToNat, Int.reduceNeg, List.take_length, ← List.map_append]
  repeat refine And.intro obl ?_
  refine hK3 _ ?_; clear hK3
  refine aw_seq fun K4 hK4 => ?_
  refine aw_reg [1, 3, 4] (by kernel_rfl) ?_
  simp (disch := omega) only [go_sem, ↓reduceIte, Nat.reduceEqDiff, Nat.reduceLT, Nat.reduceLeDiff, Nat.reduceAdd, Nat.reduceSub, Nat.reduceMul, reduceCtorEq, Int.reduceToNat, Int.reduceNeg, List.take_length, ← List.map_append]
  repeat refine And.intro obl ?_
  refine hK4 _ ?_; clear hK4
  refine aw_block ?_
  refine aw_frzL (e := eSetting) 3 (sgsR r) rfl (by rw [sgsR, List.map_append, List.map_append]; rfl) ?_
  refine aw_loopK [3, 4] (fun n ρ => ∃ out, n = selM (sgsR r) out ∧ (SelI (sgsR r) out) ∧ (out.length + selM (sgsR r) out ≤ (sgsR r).length) ∧ ρ = mkE O [(3, encS (sgsR r)), (4, rowL 68 2 eSetting out)]) _ ⟨[], rfl, ?_, ?_, ?_⟩ ?_
  · exact SelI.nil _
  · exact selM_0 _
  · simp (disch := omega) only [go_sem, ↓reduceIte, Nat.reduceEqDiff, Nat.reduceLT, Nat.reduceLeDiff, Nat.reduceAdd, Nat.reduceSub, Nat.reduceMul, reduceCtorEq, Int.reduceToNat, Int.reduceNeg, List.take_length, ← List.map_append] <;> first | rfl | omega | simp | simp_all
  rintro n ρ ⟨out, rfl, l0_0, l0_1, rfl⟩ K5 hK5
  refine aw_block ?_
  refine aw_seq fun K6 hK6 => ?_
  refine aw_reg [3, 4] (by kernel_rfl) ?_
  simp (disch := omega) only [go_sem, ↓reduceIte, Nat.reduceEqDiff, Nat.reduceLT, Nat.reduceLeDiff, Nat.reduceAdd, Nat.reduceSub, Nat.reduceMul, reduceCtorEq, Int.reduceToNat, Int.reduceNeg, List.take_length, ← List.map_append]
  repeat refine And.intro obl ?_
  refine hK6 _ ?_; clear hK6
  refine aw_seq fun K7 hK7 => ?_
  refine aw_seq fun K8 hK8 => ?_
  refine aw_reg [3, 4, 5] (by kernel_rfl) ?_
  simp (disch := omega) only [go_sem, ↓reduceIte, Nat.reduceEqDiff, Nat.reduceLT, Nat.reduceLeDiff, Nat.reduceAdd, Nat.reduceSub, Nat.reduceMul, reduceCtorEq, Int.reduceToNat, Int.reduceNeg, List.take_length, ← List.map_append]
  repeat refine And.intro obl ?_
  refine hK8 _ ?_; clear hK8
  refine aw_block ?_
  refine aw_loopK [3, 4, 5, 20, 21, 22] (fun n ρ => ∃ i, ∃ f, n = (sgsR r).length - i ∧ (i ≤ (sgsR r).length) ∧ (fndL (sgsR r) out i f) ∧ ρ = mkE O [(3, encS (sgsR r)), (4, rowL 68 2 eSetting out), (5, vi f), (20, encS (sgsR r)), (21, vi ((sgsR r).length : Nat)), (22, vi (i : Nat))]) _ ⟨0, -1, rfl, ?_, ?_, ?_⟩ ?_
  · exact dfl
  · exact fndL_0 _ _
  · simp (disch := omega) only [go_sem, ↓reduceIte, Nat.reduceEqDiff, Nat.reduceLT, Nat.reduceLeDiff, Nat.reduceAdd, Nat.reduceSub, Nat.reduceMul, reduceCtorEq, Int.reduceToNat, Int.reduceNeg, List.take_length, ← List.map_append] <;> first | rfl | omega | simp | simp_all
  rintro n ρ ⟨i, f, rfl, l1_0, l1_1, rfl⟩ K9 hK9
  have hbd := fndL_bd l1_1
  have hz0 : (out = [] ∧ (out.length == 0) = true) ∨ (0 < out.length ∧ (out.length == 0) = false) := (by cases out <;> simp)
  rcases hz0 with ⟨h0, hz⟩ | ⟨h0, hz⟩
  · skip
    refine aw_seq fun K10 hK10 => ?_
    refine aw_reg [3, 4, 5, 20, 21, 22] (by kernel_rfl) ?_
    simp (disch := omega) only [go_sem, ↓reduceIte, Nat.reduceEqDiff, Nat.reduceLT, Nat.reduceLeDiff, Nat.reduceAdd, Nat.reduceSub, Nat.reduceMul, reduceCtorEq, Int.reduceToNat, Int.reduceNeg, List.take_length, ← List.map_append, hz]
    repeat refine And.intro obl ?_
    refine hK10 _ ?_; clear hK10
    refine aw_seq fun K11 hK11 => ?_
    refine aw_cond _ (by rfl) (rfl) (fun c0 => ?_) (fun c0 => ?_)
    · try simp only [push_cast] at c0
      refine aw_skip ?_
      refine hK11 _ ?_; clear hK11
      refine aw_seq fun K12 hK12 => ?_
      refine aw_block ?_
      refine aw_seq fun K13 hK13 => ?_
      refine aw_reg [3, 4, 5, 20, 21, 22] (by kernel_rfl) ?_
      simp (disch := omega) only [go_sem, ↓reduceIte, Nat.reduceEqDiff, Nat.reduceLT, Nat.reduceLeDiff, Nat.reduceAdd, Nat.reduceSub, Nat.reduceMul, reduceCtorEq, Int.reduceToNat, Int.reduceNeg, List.take_length, ← List.map_append, hz]
      repeat refine And.intro obl ?_
      refine hK13 _ ?_; clear hK13
      refine aw_seq fun K14 hK14 => ?_
      refine aw_regDc [3, 4, 5, 6, 7, 20, 21, 22] [] mixed (by kernel_rfl) ?_
      simp (disch := omega) only [go_sem, ↓reduceIte, Nat.reduceEqDiff, Nat.reduceLT, Nat.reduceLeDiff, Nat.reduceAdd, Nat.reduceSub, Nat.reduceMul, reduceCtorEq, Int.reduceToNat, Int.reduceNeg, List.take_length, ← List.map_append, hz]
      repeat refine And.intro obl ?_
      refine callC_to (r := vb true) (fun g0 => by simp at g0) ?_ ?_ ?_
      · simp
      · rfl
      simp (disch := omega) only [go_sem, ↓reduceIte, Nat.reduceEqDiff, Nat.reduceLT, Nat.reduceLeDiff, Nat.reduceAdd, Nat.reduceSub, Nat.reduceMul, reduceCtorEq, Int.reduceToNat, Int.reduceNeg, List.take_length, ← List.map_append, hz]
      repeat refine And.intro obl ?_
      refine callC_to (fun g1 => ref16_less_ok _ (stN (sgsR r) i) (stN (sgsR r) f.toNat)) ?_ ?_ ?_
      · first | exact fun _ => trivial | simp
      · rfl
      simp (disch := omega) only [go_sem, ↓reduceIte, Nat.reduceEqDiff, Nat.reduceLT, Nat.reduceLeDiff, Nat.reduceAdd, Nat.reduceSub, Nat.reduceMul, reduceCtorEq, Int.reduceToNat, Int.reduceNeg, List.take_length, ← List.map_append, hz]
      repeat refine And.intro obl ?_
      refine hK14 _ ?_; clear hK14
      refine aw_cond _ (by rfl) (rfl) (fun c1 => ?_) (fun c1 => ?_)
      · try simp only [push_cast] at c1
        refine aw_reg [3, 4, 6, 20, 21, 22] (by kernel_rfl) ?_
        simp (disch := omega) only [go_sem, ↓reduceIte, Nat.reduceEqDiff, Nat.reduceLT, Nat.reduceLeDiff, Nat.reduceAdd, Nat.reduceSub, Nat.reduceMul, reduceCtorEq, Int.reduceToNat, Int.reduceNeg, List.take_length, ← List.map_append, hz]
        repeat refine And.intro obl ?_
        refine hK12 _ ?_; clear hK12
        refine aw_reg [3, 4, 5, 20, 21, 22] (by kernel_rfl) ?_
        simp (disch := omega) only [go_sem, ↓reduceIte, Nat.reduceEqDiff, Nat.reduceLT, Nat.reduceLeDiff, Nat.reduceAdd, Nat.reduceSub, Nat.reduceMul, reduceCtorEq, Int.reduceToNat, Int.reduceNeg, List.take_length, ← List.map_append, hz]
        repeat refine And.intro obl ?_
        refine hK9 _ _ ?_ ⟨i + 1, (i : Int), rfl, ?_, ?_, ?_⟩
        · exact dfl
        · exact dfl
        · exact fndL_y l1_1 (by unfold gtL; rw [h0]; rfl) (by simpa [stN] using c1)
        · simp (disch := omega) only [go_sem, ↓reduceIte, Nat.reduceEqDiff, Nat.reduceLT, Nat.reduceLeDiff, Nat.reduceAdd, Nat.reduceSub, Nat.reduceMul, reduceCtorEq, Int.reduceToNat, Int.reduceNeg, List.take_length, ← List.map_append, hz] <;> first | rfl | omega | simp | simp_all
      · try simp only [push_cast] at c1
        refine aw_skip ?_
        refine hK12 _ ?_; clear hK12
        refine aw_reg [3, 4, 5, 20, 21, 22] (by kernel_rfl) ?_
        simp (disch := omega) only [go_sem, ↓reduceIte, Nat.reduceEqDiff, Nat.reduceLT, Nat.reduceLeDiff, Nat.reduceAdd, Nat.reduceSub, Nat.reduceMul, reduceCtorEq, Int.reduceToNat, Int.reduceNeg, List.take_length, ← List.map_append, hz]
        repeat refine And.intro obl ?_
        refine hK9 _ _ ?_ ⟨i + 1, f, rfl, ?_, ?_, ?_⟩
        · exact dfl
        · exact dfl
        · refine fndL_n l1_1 (.inr ?_); simpa [stN] using c1
        · simp (disch := omega) only [go_sem, ↓reduceIte, Nat.reduceEqDiff, Nat.reduceLT, Nat.reduceLeDiff, Nat.reduceAdd, Nat.reduceSub, Nat.reduceMul, reduceCtorEq, Int.reduceToNat, Int.reduceNeg, List.take_length, ← List.map_append, hz] <;> first | rfl | omega | simp | simp_all
    · try simp only [push_cast] at c0
      have hie : i = (sgsR r).length := by omega
      subst hie
      refine aw_exit ?_
      refine hK7 _ ?_; clear hK7
      refine aw_seq fun K15 hK15 => ?_
      refine aw_seq fun K16 hK16 => ?_
      refine aw_reg [3, 4, 5] (by kernel_rfl) ?_
      simp (disch := omega) only [go_sem, ↓reduceIte, Nat.reduceEqDiff, Nat.reduceLT, Nat.reduceLeDiff, Nat.reduceAdd, Nat.reduceSub, Nat.reduceMul, reduceCtorEq, Int.reduceToNat, Int.reduceNeg, List.take_length, ← List.map_append, hz]
      repeat refine And.intro obl ?_
      refine hK16 _ ?_; clear hK16
      refine aw_cond _ (by rfl) (rfl) (fun c2 => ?_) (fun c2 => ?_)
      · try simp only [push_cast] at c2
        refine aw_seq fun K17 hK17 => ?_
        refine aw_frzL 4 out rfl rfl ?_
        refine aw_reg [4] (by kernel_rfl) ?_
        simp (disch := omega) only [go_sem, ↓reduceIte, Nat.reduceEqDiff, Nat.reduceLT, Nat.reduceLeDiff, Nat.reduceAdd, Nat.reduceSub, Nat.reduceMul, reduceCtorEq, Int.reduceToNat, Int.reduceNeg, List.take_length, ← List.map_append, hz]
        repeat refine And.intro obl ?_
        refine hK17 _ ?_; clear hK17
        refine aw_ret ?_
        refine ret_tmp 2 rfl (by simp (disch := omega) only [go_sem, ↓reduceIte, Nat.reduceEqDiff, Nat.reduceLT, Nat.reduceLeDiff, Nat.reduceAdd, Nat.reduceSub, Nat.reduceMul, reduceCtorEq, Int.reduceToNat, Int.reduceNeg, List.take_length, ← List.map_append, hz]) ?_
        exact Exp.encL rfl (by exact fndL_end l1_1 c2 l0_0)
      · try simp only [push_cast] at c2
        refine aw_skip ?_
        refine hK15 _ ?_; clear hK15
        refine aw_reg [3, 4, 5] (by kernel_rfl) ?_
        simp (disch := omega) only [go_sem, ↓reduceIte, Nat.reduceEqDiff, Nat.reduceLT, Nat.reduceLeDiff, Nat.reduceAdd, Nat.reduceSub, Nat.reduceMul, reduceCtorEq, Int.reduceToNat, Int.reduceNeg, List.take_length, ← List.map_append, hz]
        repeat refine And.intro obl ?_
        obtain ⟨hm, hst, hlt⟩ := fndL_go l1_1 (Int.not_lt.2 c2) l0_0
        refine hK5 _ _ ?_ ⟨out ++ [stN (sgsR r) f.toNat], rfl, ?_, ?_, ?_⟩
        · exact hlt
        · exact hst
        · rw [List.length_append, List.length_singleton]; omega
        · simp (disch := omega) only [go_sem, ↓reduceIte, Nat.reduceEqDiff, Nat.reduceLT, Nat.reduceLeDiff, Nat.reduceAdd, Nat.reduceSub, Nat.reduceMul, reduceCtorEq, Int.reduceToNat, Int.reduceNeg, List.take_length, ← List.map_append, hz] <;> first | rfl | omega | simp | simp_all
  · skip
    refine aw_seq fun K18 hK18 => ?_
    refine aw_reg [3, 4, 5, 20, 21, 22] (by kernel_rfl) ?_
    simp (disch := omega) only [go_sem, ↓reduceIte, Nat.reduceEqDiff, Nat.reduceLT, Nat.reduceLeDiff, Nat.reduceAdd, Nat.reduceSub, Nat.reduceMul, reduceCtorEq, Int.reduceToNat, Int.reduceNeg, List.take_length, ← List.map_append, hz]
    repeat refine And.intro obl ?_
    refine hK18 _ ?_; clear hK18
    refine aw_seq fun K19 hK19 => ?_
    refine aw_cond _ (by rfl) (rfl) (fun c3 => ?_) (fun c3 => ?_)
    · try simp only [push_cast] at c3
      refine aw_skip ?_
      refine hK19 _ ?_; clear hK19
      refine aw_seq fun K20 hK20 => ?_
      refine aw_block ?_
      refine aw_seq fun K21 hK21 => ?_
      refine aw_reg [3, 4, 5, 20, 21, 22] (by kernel_rfl) ?_
      simp (disch := omega) only [go_sem, ↓reduceIte, Nat.reduceEqDiff, Nat.reduceLT, Nat.reduceLeDiff, Nat.reduceAdd, Nat.reduceSub, Nat.reduceMul, reduceCtorEq, Int.reduceToNat, Int.reduceNeg, List.take_length, ← List.map_append, hz]
      repeat refine And.intro obl ?_
      refine hK21 _ ?_; clear hK21
      refine aw_seq fun K22 hK22 => ?_
      refine aw_regDc [3, 4, 5, 6, 7, 20, 21, 22] [] mixed (by kernel_rfl) ?_
      simp (disch := omega) only [go_sem, ↓reduceIte, Nat.reduceEqDiff, Nat.reduceLT, Nat.reduceLeDiff, Nat.reduceAdd, Nat.reduceSub, Nat.reduceMul, reduceCtorEq, Int.reduceToNat, Int.reduceNeg, List.take_length, ← List.map_append, hz]
      repeat refine And.intro obl ?_
      refine callC_to (fun g2 => ref16_less_ok _ (stN out (out.length - 1)) (stN (sgsR r) i)) ?_ ?_ ?_
      · first | exact fun _ => trivial | simp
      · rfl
      simp (disch := omega) only [go_sem, ↓reduceIte, Nat.reduceEqDiff, Nat.reduceLT, Nat.reduceLeDiff, Nat.reduceAdd, Nat.reduceSub, Nat.reduceMul, reduceCtorEq, Int.reduceToNat, Int.reduceNeg, List.take_length, ← List.map_append, hz]
      repeat refine And.intro obl ?_
      refine callC_to (fun g3 => ref16_less_ok _ (stN (sgsR r) i) (stN (sgsR r) f.toNat)) ?_ ?_ ?_
      · first | exact fun _ => trivial | simp
      · rfl
      simp (disch := omega) only [go_sem, ↓reduceIte, Nat.reduceEqDiff, Nat.reduceLT, Nat.reduceLeDiff, Nat.reduceAdd, Nat.reduceSub, Nat.reduceMul, reduceCtorEq, Int.reduceToNat, Int.reduceNeg, List.take_length, ← List.map_append, hz]
      repeat refine And.intro obl ?_
      refine hK22 _ ?_; clear hK22
      refine aw_cond _ (by rfl) (rfl) (fun c4 => ?_) (fun c4 => ?_)
      · try simp only [push_cast] at c4
        refine aw_reg [3, 4, 6, 20, 21, 22] (by kernel_rfl) ?_
        simp (disch := omega) only [go_sem, ↓reduceIte, Nat.reduceEqDiff, Nat.reduceLT, Nat.reduceLeDiff, Nat.reduceAdd, Nat.reduceSub, Nat.reduceMul, reduceCtorEq, Int.reduceToNat, Int.reduceNeg, List.take_length, ← List.map_append, hz]
        repeat refine And.intro obl ?_
        refine hK20 _ ?_; clear hK20
        refine aw_reg [3, 4, 5, 20, 21, 22] (by kernel_rfl) ?_
        simp (disch := omega) only [go_sem, ↓reduceIte, Nat.reduceEqDiff, Nat.reduceLT, Nat.reduceLeDiff, Nat.reduceAdd, Nat.reduceSub, Nat.reduceMul, reduceCtorEq, Int.reduceToNat, Int.reduceNeg, List.take_length, ← List.map_append, hz]
        repeat refine And.intro obl ?_
        refine hK9 _ _ ?_ ⟨i + 1, (i : Int), rfl, ?_, ?_, ?_⟩
        · exact dfl
        · exact dfl
        · refine fndL_y l1_1 (by unfold gtL; simp [stN] at c4 ⊢; exact .inr c4.1) (by simp [stN] at c4 ⊢; exact c4.2)
        · simp (disch := omega) only [go_sem, ↓reduceIte, Nat.reduceEqDiff, Nat.reduceLT, Nat.reduceLeDiff, Nat.reduceAdd, Nat.reduceSub, Nat.reduceMul, reduceCtorEq, Int.reduceToNat, Int.reduceNeg, List.take_length, ← List.map_append, hz] <;> first | rfl | omega | simp | simp_all
      · try simp only [push_cast] at c4
        refine aw_skip ?_
        refine hK20 _ ?_; clear hK20
        refine aw_reg [3, 4, 5, 20, 21, 22] (by kernel_rfl) ?_
        simp (disch := omega) only [go_sem, ↓reduceIte, Nat.reduceEqDiff, Nat.reduceLT, Nat.reduceLeDiff, Nat.reduceAdd, Nat.reduceSub, Nat.reduceMul, reduceCtorEq, Int.reduceToNat, Int.reduceNeg, List.take_length, ← List.map_append, hz]
        repeat refine And.intro obl ?_
        refine hK9 _ _ ?_ ⟨i + 1, f, rfl, ?_, ?_, ?_⟩
        · exact dfl
        · exact dfl
        · refine fndL_n l1_1 ?_; unfold gtL; simp [stN] at c4 ⊢; grind
        · simp (disch := omega) only [go_sem, ↓reduceIte, Nat.reduceEqDiff, Nat.reduceLT, Nat.reduceLeDiff, Nat.reduceAdd, Nat.reduceSub, Nat.reduceMul, reduceCtorEq, Int.reduceToNat, Int.reduceNeg, List.take_length, ← List.map_append, hz] <;> first | rfl | omega | simp | simp_all
    · try simp only [push_cast] at c3
      have hie : i = (sgsR r).length := by omega
      subst hie
      refine aw_exit ?_
      refine hK7 _ ?_; clear hK7
      refine aw_seq fun K23 hK23 => ?_
      refine aw_seq fun K24 hK24 => ?_
      refine aw_reg [3, 4, 5] (by kernel_rfl) ?_
      simp (disch := omega) only [go_sem, ↓reduceIte, Nat.reduceEqDiff, Nat.reduceLT, Nat.reduceLeDiff, Nat.reduceAdd, Nat.reduceSub, Nat.reduceMul, reduceCtorEq, Int.reduceToNat, Int.reduceNeg, List.take_length, ← List.map_append, hz]
      repeat refine And.intro obl ?_
      refine hK24 _ ?_; clear hK24
      refine aw_cond _ (by rfl) (rfl) (fun c5 => ?_) (fun c5 => ?_)
      · try simp only [push_cast] at c5
        refine aw_seq fun K25 hK25 => ?_
        refine aw_frzL 4 out rfl rfl ?_
        refine aw_reg [4] (by kernel_rfl) ?_
        simp (disch := omega) only [go_sem, ↓reduceIte, Nat.reduceEqDiff, Nat.reduceLT, Nat.reduceLeDiff, Nat.reduceAdd, Nat.reduceSub, Nat.reduceMul, reduceCtorEq, Int.reduceToNat, Int.reduceNeg, List.take_length, ← List.map_append, hz]
        repeat refine And.intro obl ?_
        refine hK25 _ ?_; clear hK25
        refine aw_ret ?_
        refine ret_tmp 2 rfl (by simp (disch := omega) only [go_sem, ↓reduceIte, Nat.reduceEqDiff, Nat.reduceLT, Nat.reduceLeDiff, Nat.reduceAdd, Nat.reduceSub, Nat.reduceMul, reduceCtorEq, Int.reduceToNat, Int.reduceNeg, List.take_length, ← List.map_append, hz]) ?_
        exact Exp.encL rfl (by exact fndL_end l1_1 c5 l0_0)
      · try simp only [push_cast] at c5
        refine aw_skip ?_
        refine hK23 _ ?_; clear hK23
        refine aw_reg [3, 4, 5] (by kernel_rfl) ?_
        simp (disch := omega) only [go_sem, ↓reduceIte, Nat.reduceEqDiff, Nat.reduceLT, Nat.reduceLeDiff, Nat.reduceAdd, Nat.reduceSub, Nat.reduceMul, reduceCtorEq, Int.reduceToNat, Int.reduceNeg, List.take_length, ← List.map_append, hz]
        repeat refine And.intro obl ?_
        obtain ⟨hm, hst, hlt⟩ := fndL_go l1_1 (Int.not_lt.2 c5) l0_0
        refine hK5 _ _ ?_ ⟨out ++ [stN (sgsR r) f.toNat], rfl, ?_, ?_, ?_⟩
        · exact hlt
        · exact hst
        · rw [List.length_append, List.length_singleton]; omega
        · simp (disch := omega) only [go_sem, ↓reduceIte, Nat.reduceEqDiff, Nat.reduceLT, Nat.reduceLeDiff, Nat.reduceAdd, Nat.reduceSub, Nat.reduceMul, reduceCtorEq, Int.reduceToNat, Int.reduceNeg, List.take_length, ← List.map_append, hz] <;> first | rfl | omega | simp | simp_all

end Go.Sg
