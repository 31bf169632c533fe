/- The law that more faults restrict more. Printed by genw.py. -/
import Derived.Test.YtdnecnnegbjahaaF5
set_option linter.unusedVariables false
set_option linter.unusedSimpArgs false
namespace Go.Sg
open Go.Proofs
def mor (l : List Fault) (f : Fault) : List Fault := f :: (l ++ [f])
theorem mor_len (l : List Fault) (f : Fault) : (mor l f).length = l.length + 2 := by simp [mor]
theorem mor_act {l : List Fault} {f : Fault} {k a t : Int} (h : actF l k a t = true) : actF (mor l f) k a t = true := by
  rw [act_iff] at h ⊢
  obtain ⟨g, h1, h2⟩ := h
  exact ⟨g, by simp [mor, h1], h2⟩
theorem secG_len (h : Int → Bool) : ∀ (l : List Bool) (i : Nat), (secG h i l).length = l.length
  | [], _ => rfl
  | x :: l, i => by rw [secG, List.length_cons, secG_len h l, List.length_cons]
theorem ptsG_len (h : Int → Bool) : ∀ (l : List Int) (i : Nat), (ptsG h i l).length = l.length
  | [], _ => rfl
  | x :: l, i => by rw [ptsG, List.length_cons, ptsG_len h l, List.length_cons]
theorem secG_get (h : Int → Bool) : ∀ (l : List Bool) (j i : Nat), i < l.length → (secG h j l).getD i default = (l.getD i default || h ((j + i : Nat) : Int))
  | [], _, _, hi => by simp at hi
  | x :: l, j, 0, _ => rfl
  | x :: l, j, i + 1, hi => by rw [secG, List.getD_cons_succ, List.getD_cons_succ, secG_get h l (j + 1) i (by simpa using hi)]; congr 3; omega
theorem ptsG_get (h : Int → Bool) : ∀ (l : List Int) (j i : Nat), i < l.length → (ptsG h j l).getD i default = if h ((j + i : Nat) : Int) then 0 else l.getD i default
  | [], _, _, hi => by simp at hi
  | x :: l, j, 0, _ => rfl
  | x :: l, j, i + 1, hi => by rw [ptsG, List.getD_cons_succ, List.getD_cons_succ, ptsG_get h l (j + 1) i (by simpa using hi)]; congr 4; omega
theorem sec_no {l : List Fault} {f : Fault} {oc : List Bool} {now : Int} {i : Nat} (hi : i < oc.length)
    (h : (oc.getD i default = true ∧ (secF l now 0 oc).getD i default = false) ∨ ((secF l now 0 oc).getD i default = true ∧ (secF (mor l f) now 0 oc).getD i default = false)) : False := by
  rw [secG_get _ _ _ _ hi, secG_get _ _ _ _ hi] at h
  rcases h with ⟨h1, h2⟩ | ⟨h1, h2⟩
  · rw [h1] at h2; cases h2
  · rw [Bool.or_eq_false_iff] at h2
    rw [h2.1, Bool.false_or] at h1
    rw [mor_act h1] at h2
    cases h2.2
theorem pts_no {l : List Fault} {f : Fault} {oc : List Int} {now : Int} {i : Nat} (hi : i < oc.length)
    (h : (¬ (ptsF l now 0 oc).getD i default = oc.getD i default ∧ ¬ (ptsF l now 0 oc).getD i default = 0) ∨ (¬ (ptsF (mor l f) now 0 oc).getD i default = (ptsF l now 0 oc).getD i default ∧ ¬ (ptsF (mor l f) now 0 oc).getD i default = 0)) : False := by
  rw [ptsG_get _ _ _ _ hi, ptsG_get _ _ _ _ hi] at h
  rcases h with ⟨h1, h2⟩ | ⟨h1, h2⟩
  · split at h1
    · rename_i hc; rw [if_pos hc] at h2; exact h2 rfl
    · exact h1 rfl
  · split at h1
    · rename_i hc; rw [if_pos hc] at h2; exact h2 rfl
    · rename_i hc
      split at h1
      · rename_i hc2; exact hc (mor_act hc2)
      · exact h1 rfl
theorem red_sub (l : List Fault) (f : Fault) (now : Int) (oc : List Read) : (redF (mor l f) now oc).Sublist (redF l now oc) := by
  have e : redF (mor l f) now oc = (redF l now oc).filter fun x => !actF (mor l f) 4 x.fId now := by
    unfold redF redG
    rw [List.filter_filter]
    apply List.filter_congr
    intro x hx
    show (!actF (mor l f) 4 x.fId now) = (!actF (mor l f) 4 x.fId now && !actF l 4 x.fId now)
    cases h : actF l 4 x.fId now with
    | true => rw [mor_act h]; rfl
    | false => simp
  rw [e]
  exact List.filter_sublist
theorem sub_hit {s r : List Read} {m k : Nat} (h : (s.drop m).Sublist (r.drop k)) (hk : k < r.length) (hm : m < s.length) (e : s.getD m default = r.getD k default) : (s.drop (m + 1)).Sublist (r.drop (k + 1)) := by
  rw [dropD default hk, dropD default hm, e] at h
  exact List.cons_sublist_cons.1 h
theorem sub_miss {s r : List Read} {m k : Nat} (h : (s.drop m).Sublist (r.drop k)) (hk : k < r.length) (e : ¬ (m < s.length ∧ s.getD m default = r.getD k default)) : (s.drop m).Sublist (r.drop (k + 1)) := by
  by_cases hm : m < s.length
  · rw [dropD default hk, dropD default hm] at h
    rw [dropD default hm]
    rcases List.sublist_cons_iff.1 h with h | ⟨q, h1, h2⟩
    · exact h
    · injection h1 with h3 h4; exact absurd ⟨hm, h3⟩ e
  · rw [dropE (by omega)]; exact List.nil_sublist _
theorem sub_end {s r : List Read} {m k : Nat} (h : (s.drop m).Sublist (r.drop k)) (hk : r.length ≤ k) (hm : m ≤ s.length) : m = s.length := by
  rw [dropE hk, List.sublist_nil, List.drop_eq_nil_iff] at h
  omega
theorem actN (k a now : Int) : actF [] k a now = false := rfl
theorem secN (now : Int) : ∀ (oc : List Bool) (i : Nat), secF [] now i oc = oc
  | [], _ => rfl
  | x :: l, i => by unfold secF; rw [secG, actN, Bool.or_false]; congr 1; exact secN now l (i + 1)
theorem ptsN (now : Int) : ∀ (oc : List Int) (i : Nat), ptsF [] now i oc = oc
  | [], _ => rfl
  | x :: l, i => by unfold ptsF; rw [ptsG, actN, if_neg (by decide)]; congr 1; exact ptsN now l (i + 1)
theorem redN (now : Int) (oc : List Read) : redF [] now oc = oc := by unfold redF redG; simp [actN]

theorem secN_ok (O : Env) (oc : List Bool) (now : Int) (ho : oc.length ≤ 1000) : PCall Try.prog O 23 [.v (.slice none 0 0), encB oc, vi now] (encB oc) :=
  pcall_args [encF [], encB oc, vi now] (.cons (RWk.nilL _) (RWkL.refl _)) (by have := sec_ok O [] oc now (by simp) ho; rwa [secN] at this)

theorem ptsN_ok (O : Env) (oc : List Int) (now : Int) (ho : oc.length ≤ 1000) : PCall Try.prog O 26 [.v (.slice none 0 0), encI oc, vi now] (encI oc) :=
  pcall_args [encF [], encI oc, vi now] (.cons (RWk.nilL _) (RWkL.refl _)) (by have := pts_ok O [] oc now (by simp) ho; rwa [ptsN] at this)

theorem redN_ok (O : Env) (oc : List Read) (now : Int) (ho : oc.length ≤ 1000) : PCall Try.prog O 29 [.v (.slice none 0 0), encR oc, vi now] (encR oc) :=
  pcall_args [encF [], encR oc, vi now] (.cons (RWk.nilL _) (RWkL.refl _)) (by have := red_ok O [] oc now (by simp) ho; rwa [redN] at this)

set_option maxRecDepth 20000 in
set_option maxHeartbeats 1000000 in
theorem law28_FaultsRestrict_ok (O : Env) (l : List Fault) (f : Fault) (x : Sight) : PCall Try.prog O 7 [encF l, .agg (eFault f), .agg (eSight x)] (vb true) := by
  -- signalling/signallinglaw28.FaultsRestrict
  refine pcall_of_aw Try.func7 rfl (by kernel_rfl) ?_
  refine aw_seq fun K0 hK0 => ?_
  refine aw_reg [0, 1, 2] (by kernel_rfl) ?_   -- r0.0
  simp (disch := omega) only [go_sem, ↓reduceIte, Nat.reduceEqDiff, Nat.reduceLT, Nat.reduceLeDiff, Nat.reduceAdd, Nat.reduceSub, Nat.reduceMul, reduceCtorEq, Int.reduceToNat, Int.reduceNeg, secG_len, ptsG_len, bne_self_eq_false, Bool.or_self, Bool.or_false, Bool.false_or]
  repeat refine And.intro (by first | omega | assumption | (simp only [List.length_append, List.length_cons, List.length_nil]; omega) | (intros; first | omega | assumption | (simp_all; done) | grind)) ?_   -- r0.0
  refine hK0 _ ?_; clear hK0
  refine aw_seq fun K1 hK1 => ?_
  refine aw_seq fun K2 hK2 => ?_
  refine aw_reg [0, 4, 5] (by kernel_rfl) ?_   -- r1.1
  simp (disch := omega) only [go_sem, ↓reduceIte, Nat.reduceEqDiff, Nat.reduceLT, Nat.reduceLeDiff, Nat.reduceAdd, Nat.reduceSub, Nat.reduceMul, reduceCtorEq, Int.reduceToNat, Int.reduceNeg, secG_len, ptsG_len, bne_self_eq_false, Bool.or_self, Bool.or_false, Bool.false_or]
  repeat refine And.intro (by first | omega | assumption | (simp only [List.length_append, List.length_cons, List.length_nil]; omega) | (intros; first | omega | assumption | (simp_all; done) | grind)) ?_   -- r1.1
  refine callG_of _ (law28_few_ok _ _ _) ?_   -- r1.1#0
  simp (disch := omega) only [go_sem, ↓reduceIte, Nat.reduceEqDiff, Nat.reduceLT, Nat.reduceLeDiff, Nat.reduceAdd, Nat.reduceSub, Nat.reduceMul, reduceCtorEq, Int.reduceToNat, Int.reduceNeg, secG_len, ptsG_len, bne_self_eq_false, Bool.or_self, Bool.or_false, Bool.false_or]
  repeat refine And.intro (by first | omega | assumption | (simp only [List.length_append, List.length_cons, List.length_nil]; omega) | (intros; first | omega | assumption | (simp_all; done) | grind)) ?_   -- r1.1
  refine hK2 _ ?_; clear hK2
  refine aw_cond _ (by rfl) (rfl) (fun c0 => ?_) (fun c0 => ?_)   -- c0
  · try simp only [decide_eq_true_eq, decide_eq_false_iff_not, Bool.not_eq_true', Bool.not_eq_false', beq_iff_eq, bne_iff_ne, beq_eq_false_iff_ne, bne_eq_false_iff_eq, Bool.not_eq_true, Bool.not_eq_false, Int.not_lt, Int.not_le, Nat.not_lt, Nat.not_le, ne_eq, Int.ofNat_inj, Bool.and_eq_true, Bool.or_eq_true, Bool.and_eq_false_iff, Bool.or_eq_false_iff, Bool.not_eq_eq_eq_not, Bool.not_true, Bool.not_false] at c0   -- c0.t
    refine aw_seq fun K3 hK3 => ?_
    refine aw_reg [] (by kernel_rfl) ?_   -- r2.2
    simp (disch := omega) only [go_sem, ↓reduceIte, Nat.reduceEqDiff, Nat.reduceLT, Nat.reduceLeDiff, Nat.reduceAdd, Nat.reduceSub, Nat.reduceMul, reduceCtorEq, Int.reduceToNat, Int.reduceNeg, secG_len, ptsG_len, bne_self_eq_false, Bool.or_self, Bool.or_false, Bool.false_or]
    repeat refine And.intro (by first | omega | assumption | (simp only [List.length_append, List.length_cons, List.length_nil]; omega) | (intros; first | omega | assumption | (simp_all; done) | grind)) ?_   -- r2.2
    refine callG_of _ (law28_alive_ok _ ) ?_   -- r2.2#0
    simp (disch := omega) only [go_sem, ↓reduceIte, Nat.reduceEqDiff, Nat.reduceLT, Nat.reduceLeDiff, Nat.reduceAdd, Nat.reduceSub, Nat.reduceMul, reduceCtorEq, Int.reduceToNat, Int.reduceNeg, secG_len, ptsG_len, bne_self_eq_false, Bool.or_self, Bool.or_false, Bool.false_or]
    repeat refine And.intro (by first | omega | assumption | (simp only [List.length_append, List.length_cons, List.length_nil]; omega) | (intros; first | omega | assumption | (simp_all; done) | grind)) ?_   -- r2.2
    refine hK3 _ ?_; clear hK3
    refine aw_ret ?_
    refine ret_tmp 6 rfl (by simp (disch := omega) only [go_sem, ↓reduceIte, Nat.reduceEqDiff, Nat.reduceLT, Nat.reduceLeDiff, Nat.reduceAdd, Nat.reduceSub, Nat.reduceMul, reduceCtorEq, Int.reduceToNat, Int.reduceNeg, secG_len, ptsG_len, bne_self_eq_false, Bool.or_self, Bool.or_false, Bool.false_or]) ?_   -- ret0
    exact Exp.is (by simp (disch := omega) only [go_sem, ↓reduceIte, Nat.reduceEqDiff, Nat.reduceLT, Nat.reduceLeDiff, Nat.reduceAdd, Nat.reduceSub, Nat.reduceMul, reduceCtorEq, Int.reduceToNat, Int.reduceNeg, secG_len, ptsG_len, bne_self_eq_false, Bool.or_self, Bool.or_false, Bool.false_or] <;> refine congrArg vb ?_ <;> (first | assumption | omega | (simp only [List.length_append, List.length_cons, List.length_nil] at *; omega) | (simp_all; done))) rfl rfl
  · try simp only [decide_eq_true_eq, decide_eq_false_iff_not, Bool.not_eq_true', Bool.not_eq_false', beq_iff_eq, bne_iff_ne, beq_eq_false_iff_ne, bne_eq_false_iff_eq, Bool.not_eq_true, Bool.not_eq_false, Int.not_lt, Int.not_le, Nat.not_lt, Nat.not_le, ne_eq, Int.ofNat_inj, Bool.and_eq_true, Bool.or_eq_true, Bool.and_eq_false_iff, Bool.or_eq_false_iff, Bool.not_eq_eq_eq_not, Bool.not_true, Bool.not_false] at c0   -- c0.f
    have hf : Few l x := few_of (by simpa [and_assoc] using c0)
    refine aw_skip ?_
    refine hK1 _ ?_; clear hK1
    refine aw_seq fun K4 hK4 => ?_
    refine aw_drawX [0, 4, 5] [1] [(7, 30)] mixed (by kernel_rfl) (fun Y hY hY0 => ?_)   -- r3.3
    have s_11111111 : ∀ ρ, keepC [0, 4, 5, 24, 26, 28, 29, 30, 7] ρ = mkE O [(0, encF l), (4, .bx (eFault f)), (5, .bx (eSight x)), (24, .agg [vi f.fKind, vi f.fAt, vi f.fUntil]), (26, encF l), (28, .agg [vi f.fKind, vi f.fAt, vi f.fUntil]), (29, .sl 3 1 fun i => [[vi f.fKind, vi f.fAt, vi f.fUntil]].getD i []), (30, .row 24 3 ([vi f.fKind, vi f.fAt, vi f.fUntil] :: (l ++ [f]).map eFault)), (7, .own 30 ((l ++ [f]).length + 1))] → Y 0 #[true, true, true, true, true, true, true, true] ρ := by
      intro ρ hρ
      refine hY0 _ [0, 4, 5, 24, 26, 28, 29, 30, 7] _ (by kernel_rfl) ?_
      rw [hρ]
      clear hY hY0 hρ
      simp (disch := omega) only [go_sem, ↓reduceIte, Nat.reduceEqDiff, Nat.reduceLT, Nat.reduceLeDiff, Nat.reduceAdd, Nat.reduceSub, Nat.reduceMul, reduceCtorEq, Int.reduceToNat, Int.reduceNeg, secG_len, ptsG_len, bne_self_eq_false, Bool.or_self, Bool.or_false, Bool.false_or]
      repeat refine And.intro (by first | omega | assumption | (simp only [List.length_append, List.length_cons, List.length_nil]; omega) | (intros; first | omega | assumption | (simp_all; done) | grind)) ?_   -- r3.3
      refine hK4 _ ?_; clear hK4
      refine aw_seq fun K5 hK5 => ?_
      refine aw_frzL (e := eFault) 7 (mor l f) rfl rfl ?_   -- r4.4
      refine aw_regDc [0, 5, 7] [(8, 36), (9, 42)] mixed (by kernel_rfl) ?_   -- r4.4
      simp (disch := omega) only [go_sem, ↓reduceIte, Nat.reduceEqDiff, Nat.reduceLT, Nat.reduceLeDiff, Nat.reduceAdd, Nat.reduceSub, Nat.reduceMul, reduceCtorEq, Int.reduceToNat, Int.reduceNeg, secG_len, ptsG_len, bne_self_eq_false, Bool.or_self, Bool.or_false, Bool.false_or]
      repeat refine And.intro (by first | omega | assumption | (simp only [List.length_append, List.length_cons, List.length_nil]; omega) | (intros; first | omega | assumption | (simp_all; done) | grind)) ?_   -- r4.4
      refine callD_to (sec_ok _ l x.fOccupied x.fNow (by first | (have := hf.l; omega) | (rw [mor_len]; have := hf.l; omega)) (by have := hf.o; omega)) ?_ ?_   -- r4.4#0
      · rfl
      simp (disch := omega) only [go_sem, ↓reduceIte, Nat.reduceEqDiff, Nat.reduceLT, Nat.reduceLeDiff, Nat.reduceAdd, Nat.reduceSub, Nat.reduceMul, reduceCtorEq, Int.reduceToNat, Int.reduceNeg, secG_len, ptsG_len, bne_self_eq_false, Bool.or_self, Bool.or_false, Bool.false_or]
      repeat refine And.intro (by first | omega | assumption | (simp only [List.length_append, List.length_cons, List.length_nil]; omega) | (intros; first | omega | assumption | (simp_all; done) | grind)) ?_   -- r4.4
      refine callD_to (sec_ok _ (mor l f) x.fOccupied x.fNow (by first | (have := hf.l; omega) | (rw [mor_len]; have := hf.l; omega)) (by have := hf.o; omega)) ?_ ?_   -- r4.4#1
      · rfl
      simp (disch := omega) only [go_sem, ↓reduceIte, Nat.reduceEqDiff, Nat.reduceLT, Nat.reduceLeDiff, Nat.reduceAdd, Nat.reduceSub, Nat.reduceMul, reduceCtorEq, Int.reduceToNat, Int.reduceNeg, secG_len, ptsG_len, bne_self_eq_false, Bool.or_self, Bool.or_false, Bool.false_or]
      repeat refine And.intro (by first | omega | assumption | (simp only [List.length_append, List.length_cons, List.length_nil]; omega) | (intros; first | omega | assumption | (simp_all; done) | grind)) ?_   -- r4.4
      refine hK5 _ ?_; clear hK5
      refine aw_seq fun K6 hK6 => ?_
      refine aw_regDc [0, 5, 7, 8, 9] [(10, 48), (11, 54)] mixed (by kernel_rfl) ?_   -- r5.5
      simp (disch := omega) only [go_sem, ↓reduceIte, Nat.reduceEqDiff, Nat.reduceLT, Nat.reduceLeDiff, Nat.reduceAdd, Nat.reduceSub, Nat.reduceMul, reduceCtorEq, Int.reduceToNat, Int.reduceNeg, secG_len, ptsG_len, bne_self_eq_false, Bool.or_self, Bool.or_false, Bool.false_or]
      repeat refine And.intro (by first | omega | assumption | (simp only [List.length_append, List.length_cons, List.length_nil]; omega) | (intros; first | omega | assumption | (simp_all; done) | grind)) ?_   -- r5.5
      refine callD_to (pts_ok _ l x.fDetected x.fNow (by first | (have := hf.l; omega) | (rw [mor_len]; have := hf.l; omega)) (by have := hf.d; omega)) ?_ ?_   -- r5.5#0
      · rfl
      simp (disch := omega) only [go_sem, ↓reduceIte, Nat.reduceEqDiff, Nat.reduceLT, Nat.reduceLeDiff, Nat.reduceAdd, Nat.reduceSub, Nat.reduceMul, reduceCtorEq, Int.reduceToNat, Int.reduceNeg, secG_len, ptsG_len, bne_self_eq_false, Bool.or_self, Bool.or_false, Bool.false_or]
      repeat refine And.intro (by first | omega | assumption | (simp only [List.length_append, List.length_cons, List.length_nil]; omega) | (intros; first | omega | assumption | (simp_all; done) | grind)) ?_   -- r5.5
      refine callD_to (pts_ok _ (mor l f) x.fDetected x.fNow (by first | (have := hf.l; omega) | (rw [mor_len]; have := hf.l; omega)) (by have := hf.d; omega)) ?_ ?_   -- r5.5#1
      · rfl
      simp (disch := omega) only [go_sem, ↓reduceIte, Nat.reduceEqDiff, Nat.reduceLT, Nat.reduceLeDiff, Nat.reduceAdd, Nat.reduceSub, Nat.reduceMul, reduceCtorEq, Int.reduceToNat, Int.reduceNeg, secG_len, ptsG_len, bne_self_eq_false, Bool.or_self, Bool.or_false, Bool.false_or]
      repeat refine And.intro (by first | omega | assumption | (simp only [List.length_append, List.length_cons, List.length_nil]; omega) | (intros; first | omega | assumption | (simp_all; done) | grind)) ?_   -- r5.5
      refine hK6 _ ?_; clear hK6
      refine aw_seq fun K7 hK7 => ?_
      refine aw_seq fun K8 hK8 => ?_
      refine aw_reg [0, 5, 7, 8, 9, 10, 11] (by kernel_rfl) ?_   -- r6.6
      simp (disch := omega) only [go_sem, ↓reduceIte, Nat.reduceEqDiff, Nat.reduceLT, Nat.reduceLeDiff, Nat.reduceAdd, Nat.reduceSub, Nat.reduceMul, reduceCtorEq, Int.reduceToNat, Int.reduceNeg, secG_len, ptsG_len, bne_self_eq_false, Bool.or_self, Bool.or_false, Bool.false_or]
      repeat refine And.intro (by first | omega | assumption | (simp only [List.length_append, List.length_cons, List.length_nil]; omega) | (intros; first | omega | assumption | (simp_all; done) | grind)) ?_   -- r6.6
      refine hK8 _ ?_; clear hK8
      refine aw_cond false (by rfl) (rfl) (fun h => by cases h) (fun _ => ?_)   -- c1
      refine aw_skip ?_
      refine hK7 _ ?_; clear hK7
      refine aw_seq fun K9 hK9 => ?_
      refine aw_seq fun K10 hK10 => ?_
      refine aw_reg [0, 5, 7, 8, 9, 10, 11] (by kernel_rfl) ?_   -- r8.7
      simp (disch := omega) only [go_sem, ↓reduceIte, Nat.reduceEqDiff, Nat.reduceLT, Nat.reduceLeDiff, Nat.reduceAdd, Nat.reduceSub, Nat.reduceMul, reduceCtorEq, Int.reduceToNat, Int.reduceNeg, secG_len, ptsG_len, bne_self_eq_false, Bool.or_self, Bool.or_false, Bool.false_or]
      repeat refine And.intro (by first | omega | assumption | (simp only [List.length_append, List.length_cons, List.length_nil]; omega) | (intros; first | omega | assumption | (simp_all; done) | grind)) ?_   -- r8.7
      refine hK10 _ ?_; clear hK10
      refine aw_block ?_
      refine aw_loopK [0, 5, 7, 8, 9, 10, 11, 84, 85] (fun n ρ => ∃ i, n = x.fOccupied.length - i ∧ (i ≤ x.fOccupied.length) ∧ ρ = mkE O [(0, encF l), (5, .bx (eSight x)), (7, encF (mor l f)), (8, encB (secF l x.fNow 0 x.fOccupied)), (9, encB (secF (mor l f) x.fNow 0 x.fOccupied)), (10, encI (ptsF l x.fNow 0 x.fDetected)), (11, encI (ptsF (mor l f) x.fNow 0 x.fDetected)), (84, vi (x.fOccupied.length : Nat)), (85, vi (i : Nat))]) _ ⟨0, rfl, ?_, ?_⟩ ?_   -- L0
      · first | assumption | omega | (simp only [List.length_append, List.length_cons, List.length_nil] at *; omega) | (simp_all; done)   -- L0.init.inv0
      · simp (disch := omega) only [go_sem, ↓reduceIte, Nat.reduceEqDiff, Nat.reduceLT, Nat.reduceLeDiff, Nat.reduceAdd, Nat.reduceSub, Nat.reduceMul, reduceCtorEq, Int.reduceToNat, Int.reduceNeg, secG_len, ptsG_len, bne_self_eq_false, Bool.or_self, Bool.or_false, Bool.false_or] <;> first | rfl | omega | simp | simp_all   -- L0.init.env
      rintro n ρ ⟨i, rfl, l0_0, rfl⟩ K11 hK11
      refine aw_seq fun K12 hK12 => ?_
      refine aw_reg [0, 5, 7, 8, 9, 10, 11, 84, 85] (by kernel_rfl) ?_   -- r9.8
      simp (disch := omega) only [go_sem, ↓reduceIte, Nat.reduceEqDiff, Nat.reduceLT, Nat.reduceLeDiff, Nat.reduceAdd, Nat.reduceSub, Nat.reduceMul, reduceCtorEq, Int.reduceToNat, Int.reduceNeg, secG_len, ptsG_len, bne_self_eq_false, Bool.or_self, Bool.or_false, Bool.false_or]
      repeat refine And.intro (by first | omega | assumption | (simp only [List.length_append, List.length_cons, List.length_nil]; omega) | (intros; first | omega | assumption | (simp_all; done) | grind)) ?_   -- r9.8
      refine hK12 _ ?_; clear hK12
      refine aw_seq fun K13 hK13 => ?_
      refine aw_cond _ (by rfl) (rfl) (fun c2 => ?_) (fun c2 => ?_)   -- c2
      · try simp only [decide_eq_true_eq, decide_eq_false_iff_not, Bool.not_eq_true', Bool.not_eq_false', beq_iff_eq, bne_iff_ne, beq_eq_false_iff_ne, bne_eq_false_iff_eq, Bool.not_eq_true, Bool.not_eq_false, Int.not_lt, Int.not_le, Nat.not_lt, Nat.not_le, ne_eq, Int.ofNat_inj, Bool.and_eq_true, Bool.or_eq_true, Bool.and_eq_false_iff, Bool.or_eq_false_iff, Bool.not_eq_eq_eq_not, Bool.not_true, Bool.not_false] at c2   -- c2.t
        refine aw_skip ?_
        refine hK13 _ ?_; clear hK13
        refine aw_seq fun K14 hK14 => ?_
        refine aw_block ?_
        refine aw_seq fun K15 hK15 => ?_
        refine aw_reg [0, 5, 7, 8, 9, 10, 11, 84, 85] (by kernel_rfl) ?_   -- r10.9
        simp (disch := omega) only [go_sem, ↓reduceIte, Nat.reduceEqDiff, Nat.reduceLT, Nat.reduceLeDiff, Nat.reduceAdd, Nat.reduceSub, Nat.reduceMul, reduceCtorEq, Int.reduceToNat, Int.reduceNeg, secG_len, ptsG_len, bne_self_eq_false, Bool.or_self, Bool.or_false, Bool.false_or]
        repeat refine And.intro (by first | omega | assumption | (simp only [List.length_append, List.length_cons, List.length_nil]; omega) | (intros; first | omega | assumption | (simp_all; done) | grind)) ?_   -- r10.9
        refine hK15 _ ?_; clear hK15
        refine aw_seq fun K16 hK16 => ?_
        refine aw_reg [0, 5, 7, 8, 9, 10, 11, 12, 84, 85] (by kernel_rfl) ?_   -- r11.10
        simp (disch := omega) only [go_sem, ↓reduceIte, Nat.reduceEqDiff, Nat.reduceLT, Nat.reduceLeDiff, Nat.reduceAdd, Nat.reduceSub, Nat.reduceMul, reduceCtorEq, Int.reduceToNat, Int.reduceNeg, secG_len, ptsG_len, bne_self_eq_false, Bool.or_self, Bool.or_false, Bool.false_or]
        repeat refine And.intro (by first | omega | assumption | (simp only [List.length_append, List.length_cons, List.length_nil]; omega) | (intros; first | omega | assumption | (simp_all; done) | grind)) ?_   -- r11.10
        refine hK16 _ ?_; clear hK16
        refine aw_cond _ (by rfl) (rfl) (fun c3 => ?_) (fun c3 => ?_)   -- c3
        · try simp only [decide_eq_true_eq, decide_eq_false_iff_not, Bool.not_eq_true', Bool.not_eq_false', beq_iff_eq, bne_iff_ne, beq_eq_false_iff_ne, bne_eq_false_iff_eq, Bool.not_eq_true, Bool.not_eq_false, Int.not_lt, Int.not_le, Nat.not_lt, Nat.not_le, ne_eq, Int.ofNat_inj, Bool.and_eq_true, Bool.or_eq_true, Bool.and_eq_false_iff, Bool.or_eq_false_iff, Bool.not_eq_eq_eq_not, Bool.not_true, Bool.not_false] at c3   -- c3.t
          exact (sec_no (f := f) c2 c3).elim
        · try simp only [decide_eq_true_eq, decide_eq_false_iff_not, Bool.not_eq_true', Bool.not_eq_false', beq_iff_eq, bne_iff_ne, beq_eq_false_iff_ne, bne_eq_false_iff_eq, Bool.not_eq_true, Bool.not_eq_false, Int.not_lt, Int.not_le, Nat.not_lt, Nat.not_le, ne_eq, Int.ofNat_inj, Bool.and_eq_true, Bool.or_eq_true, Bool.and_eq_false_iff, Bool.or_eq_false_iff, Bool.not_eq_eq_eq_not, Bool.not_true, Bool.not_false] at c3   -- c3.f
          refine aw_skip ?_
          refine hK14 _ ?_; clear hK14
          refine aw_reg [0, 5, 7, 8, 9, 10, 11, 84, 85] (by kernel_rfl) ?_   -- r13.11
          simp (disch := omega) only [go_sem, ↓reduceIte, Nat.reduceEqDiff, Nat.reduceLT, Nat.reduceLeDiff, Nat.reduceAdd, Nat.reduceSub, Nat.reduceMul, reduceCtorEq, Int.reduceToNat, Int.reduceNeg, secG_len, ptsG_len, bne_self_eq_false, Bool.or_self, Bool.or_false, Bool.false_or]
          repeat refine And.intro (by first | omega | assumption | (simp only [List.length_append, List.length_cons, List.length_nil]; omega) | (intros; first | omega | assumption | (simp_all; done) | grind)) ?_   -- r13.11
          refine hK11 _ _ ?_ ⟨i + 1, rfl, ?_, ?_⟩   -- L0.0
          · first | assumption | omega | (simp only [List.length_append, List.length_cons, List.length_nil] at *; omega) | (simp_all; done)   -- L0.0.meas
          · first | assumption | omega | (simp only [List.length_append, List.length_cons, List.length_nil] at *; omega) | (simp_all; done)   -- L0.0.inv0
          · simp (disch := omega) only [go_sem, ↓reduceIte, Nat.reduceEqDiff, Nat.reduceLT, Nat.reduceLeDiff, Nat.reduceAdd, Nat.reduceSub, Nat.reduceMul, reduceCtorEq, Int.reduceToNat, Int.reduceNeg, secG_len, ptsG_len, bne_self_eq_false, Bool.or_self, Bool.or_false, Bool.false_or] <;> first | rfl | omega | simp | simp_all   -- L0.0.env
      · try simp only [decide_eq_true_eq, decide_eq_false_iff_not, Bool.not_eq_true', Bool.not_eq_false', beq_iff_eq, bne_iff_ne, beq_eq_false_iff_ne, bne_eq_false_iff_eq, Bool.not_eq_true, Bool.not_eq_false, Int.not_lt, Int.not_le, Nat.not_lt, Nat.not_le, ne_eq, Int.ofNat_inj, Bool.and_eq_true, Bool.or_eq_true, Bool.and_eq_false_iff, Bool.or_eq_false_iff, Bool.not_eq_eq_eq_not, Bool.not_true, Bool.not_false] at c2   -- c2.f
        refine aw_exit ?_
        refine hK9 _ ?_; clear hK9
        refine aw_seq fun K17 hK17 => ?_
        refine aw_seq fun K18 hK18 => ?_
        refine aw_reg [0, 5, 7, 10, 11] (by kernel_rfl) ?_   -- r14.12
        simp (disch := omega) only [go_sem, ↓reduceIte, Nat.reduceEqDiff, Nat.reduceLT, Nat.reduceLeDiff, Nat.reduceAdd, Nat.reduceSub, Nat.reduceMul, reduceCtorEq, Int.reduceToNat, Int.reduceNeg, secG_len, ptsG_len, bne_self_eq_false, Bool.or_self, Bool.or_false, Bool.false_or]
        repeat refine And.intro (by first | omega | assumption | (simp only [List.length_append, List.length_cons, List.length_nil]; omega) | (intros; first | omega | assumption | (simp_all; done) | grind)) ?_   -- r14.12
        refine hK18 _ ?_; clear hK18
        refine aw_block ?_
        refine aw_loopK [0, 5, 7, 10, 11, 115, 116] (fun n ρ => ∃ j, n = x.fDetected.length - j ∧ (j ≤ x.fDetected.length) ∧ ρ = mkE O [(0, encF l), (5, .bx (eSight x)), (7, encF (mor l f)), (10, encI (ptsF l x.fNow 0 x.fDetected)), (11, encI (ptsF (mor l f) x.fNow 0 x.fDetected)), (115, vi (x.fDetected.length : Nat)), (116, vi (j : Nat))]) _ ⟨0, rfl, ?_, ?_⟩ ?_   -- L1
        · first | assumption | omega | (simp only [List.length_append, List.length_cons, List.length_nil] at *; omega) | (simp_all; done)   -- L1.init.inv0
        · simp (disch := omega) only [go_sem, ↓reduceIte, Nat.reduceEqDiff, Nat.reduceLT, Nat.reduceLeDiff, Nat.reduceAdd, Nat.reduceSub, Nat.reduceMul, reduceCtorEq, Int.reduceToNat, Int.reduceNeg, secG_len, ptsG_len, bne_self_eq_false, Bool.or_self, Bool.or_false, Bool.false_or] <;> first | rfl | omega | simp | simp_all   -- L1.init.env
        rintro n ρ ⟨j, rfl, l1_0, rfl⟩ K19 hK19
        refine aw_seq fun K20 hK20 => ?_
        refine aw_reg [0, 5, 7, 10, 11, 115, 116] (by kernel_rfl) ?_   -- r15.13
        simp (disch := omega) only [go_sem, ↓reduceIte, Nat.reduceEqDiff, Nat.reduceLT, Nat.reduceLeDiff, Nat.reduceAdd, Nat.reduceSub, Nat.reduceMul, reduceCtorEq, Int.reduceToNat, Int.reduceNeg, secG_len, ptsG_len, bne_self_eq_false, Bool.or_self, Bool.or_false, Bool.false_or]
        repeat refine And.intro (by first | omega | assumption | (simp only [List.length_append, List.length_cons, List.length_nil]; omega) | (intros; first | omega | assumption | (simp_all; done) | grind)) ?_   -- r15.13
        refine hK20 _ ?_; clear hK20
        refine aw_seq fun K21 hK21 => ?_
        refine aw_cond _ (by rfl) (rfl) (fun c4 => ?_) (fun c4 => ?_)   -- c4
        · try simp only [decide_eq_true_eq, decide_eq_false_iff_not, Bool.not_eq_true', Bool.not_eq_false', beq_iff_eq, bne_iff_ne, beq_eq_false_iff_ne, bne_eq_false_iff_eq, Bool.not_eq_true, Bool.not_eq_false, Int.not_lt, Int.not_le, Nat.not_lt, Nat.not_le, ne_eq, Int.ofNat_inj, Bool.and_eq_true, Bool.or_eq_true, Bool.and_eq_false_iff, Bool.or_eq_false_iff, Bool.not_eq_eq_eq_not, Bool.not_true, Bool.not_false] at c4   -- c4.t
          refine aw_skip ?_
          refine hK21 _ ?_; clear hK21
          refine aw_seq fun K22 hK22 => ?_
          refine aw_block ?_
          refine aw_seq fun K23 hK23 => ?_
          refine aw_reg [0, 5, 7, 10, 11, 115, 116] (by kernel_rfl) ?_   -- r16.14
          simp (disch := omega) only [go_sem, ↓reduceIte, Nat.reduceEqDiff, Nat.reduceLT, Nat.reduceLeDiff, Nat.reduceAdd, Nat.reduceSub, Nat.reduceMul, reduceCtorEq, Int.reduceToNat, Int.reduceNeg, secG_len, ptsG_len, bne_self_eq_false, Bool.or_self, Bool.or_false, Bool.false_or]
          repeat refine And.intro (by first | omega | assumption | (simp only [List.length_append, List.length_cons, List.length_nil]; omega) | (intros; first | omega | assumption | (simp_all; done) | grind)) ?_   -- r16.14
          refine hK23 _ ?_; clear hK23
          refine aw_seq fun K24 hK24 => ?_
          refine aw_regDc [0, 5, 7, 10, 11, 13, 115, 116] [] mixed (by kernel_rfl) ?_   -- r17.15
          simp (disch := omega) only [go_sem, ↓reduceIte, Nat.reduceEqDiff, Nat.reduceLT, Nat.reduceLeDiff, Nat.reduceAdd, Nat.reduceSub, Nat.reduceMul, reduceCtorEq, Int.reduceToNat, Int.reduceNeg, secG_len, ptsG_len, bne_self_eq_false, Bool.or_self, Bool.or_false, Bool.false_or]
          repeat refine And.intro (by first | omega | assumption | (simp only [List.length_append, List.length_cons, List.length_nil]; omega) | (intros; first | omega | assumption | (simp_all; done) | grind)) ?_   -- r17.15
          refine hK24 _ ?_; clear hK24
          refine aw_cond _ (by rfl) (rfl) (fun c5 => ?_) (fun c5 => ?_)   -- c5
          · try simp only [decide_eq_true_eq, decide_eq_false_iff_not, Bool.not_eq_true', Bool.not_eq_false', beq_iff_eq, bne_iff_ne, beq_eq_false_iff_ne, bne_eq_false_iff_eq, Bool.not_eq_true, Bool.not_eq_false, Int.not_lt, Int.not_le, Nat.not_lt, Nat.not_le, ne_eq, Int.ofNat_inj, Bool.and_eq_true, Bool.or_eq_true, Bool.and_eq_false_iff, Bool.or_eq_false_iff, Bool.not_eq_eq_eq_not, Bool.not_true, Bool.not_false] at c5   -- c5.t
            exact (pts_no (f := f) c4 c5).elim
          · try simp only [decide_eq_true_eq, decide_eq_false_iff_not, Bool.not_eq_true', Bool.not_eq_false', beq_iff_eq, bne_iff_ne, beq_eq_false_iff_ne, bne_eq_false_iff_eq, Bool.not_eq_true, Bool.not_eq_false, Int.not_lt, Int.not_le, Nat.not_lt, Nat.not_le, ne_eq, Int.ofNat_inj, Bool.and_eq_true, Bool.or_eq_true, Bool.and_eq_false_iff, Bool.or_eq_false_iff, Bool.not_eq_eq_eq_not, Bool.not_true, Bool.not_false] at c5   -- c5.f
            refine aw_skip ?_
            refine hK22 _ ?_; clear hK22
            refine aw_reg [0, 5, 7, 10, 11, 115, 116] (by kernel_rfl) ?_   -- r19.16
            simp (disch := omega) only [go_sem, ↓reduceIte, Nat.reduceEqDiff, Nat.reduceLT, Nat.reduceLeDiff, Nat.reduceAdd, Nat.reduceSub, Nat.reduceMul, reduceCtorEq, Int.reduceToNat, Int.reduceNeg, secG_len, ptsG_len, bne_self_eq_false, Bool.or_self, Bool.or_false, Bool.false_or]
            repeat refine And.intro (by first | omega | assumption | (simp only [List.length_append, List.length_cons, List.length_nil]; omega) | (intros; first | omega | assumption | (simp_all; done) | grind)) ?_   -- r19.16
            refine hK19 _ _ ?_ ⟨j + 1, rfl, ?_, ?_⟩   -- L1.0
            · first | assumption | omega | (simp only [List.length_append, List.length_cons, List.length_nil] at *; omega) | (simp_all; done)   -- L1.0.meas
            · first | assumption | omega | (simp only [List.length_append, List.length_cons, List.length_nil] at *; omega) | (simp_all; done)   -- L1.0.inv0
            · simp (disch := omega) only [go_sem, ↓reduceIte, Nat.reduceEqDiff, Nat.reduceLT, Nat.reduceLeDiff, Nat.reduceAdd, Nat.reduceSub, Nat.reduceMul, reduceCtorEq, Int.reduceToNat, Int.reduceNeg, secG_len, ptsG_len, bne_self_eq_false, Bool.or_self, Bool.or_false, Bool.false_or] <;> first | rfl | omega | simp | simp_all   -- L1.0.env
        · try simp only [decide_eq_true_eq, decide_eq_false_iff_not, Bool.not_eq_true', Bool.not_eq_false', beq_iff_eq, bne_iff_ne, beq_eq_false_iff_ne, bne_eq_false_iff_eq, Bool.not_eq_true, Bool.not_eq_false, Int.not_lt, Int.not_le, Nat.not_lt, Nat.not_le, ne_eq, Int.ofNat_inj, Bool.and_eq_true, Bool.or_eq_true, Bool.and_eq_false_iff, Bool.or_eq_false_iff, Bool.not_eq_eq_eq_not, Bool.not_true, Bool.not_false] at c4   -- c4.f
          refine aw_exit ?_
          refine hK17 _ ?_; clear hK17
          refine aw_seq fun K25 hK25 => ?_
          refine aw_regDc [0, 5, 7] [(14, 160), (15, 166)] mixed (by kernel_rfl) ?_   -- r20.17
          simp (disch := omega) only [go_sem, ↓reduceIte, Nat.reduceEqDiff, Nat.reduceLT, Nat.reduceLeDiff, Nat.reduceAdd, Nat.reduceSub, Nat.reduceMul, reduceCtorEq, Int.reduceToNat, Int.reduceNeg, secG_len, ptsG_len, bne_self_eq_false, Bool.or_self, Bool.or_false, Bool.false_or]
          repeat refine And.intro (by first | omega | assumption | (simp only [List.length_append, List.length_cons, List.length_nil]; omega) | (intros; first | omega | assumption | (simp_all; done) | grind)) ?_   -- r20.17
          refine callD_to (red_ok _ l x.fReads x.fNow (by first | (have := hf.l; omega) | (rw [mor_len]; have := hf.l; omega)) (by have := hf.r; omega)) ?_ ?_   -- r20.17#0
          · rfl
          simp (disch := omega) only [go_sem, ↓reduceIte, Nat.reduceEqDiff, Nat.reduceLT, Nat.reduceLeDiff, Nat.reduceAdd, Nat.reduceSub, Nat.reduceMul, reduceCtorEq, Int.reduceToNat, Int.reduceNeg, secG_len, ptsG_len, bne_self_eq_false, Bool.or_self, Bool.or_false, Bool.false_or]
          repeat refine And.intro (by first | omega | assumption | (simp only [List.length_append, List.length_cons, List.length_nil]; omega) | (intros; first | omega | assumption | (simp_all; done) | grind)) ?_   -- r20.17
          refine callD_to (red_ok _ (mor l f) x.fReads x.fNow (by first | (have := hf.l; omega) | (rw [mor_len]; have := hf.l; omega)) (by have := hf.r; omega)) ?_ ?_   -- r20.17#1
          · rfl
          simp (disch := omega) only [go_sem, ↓reduceIte, Nat.reduceEqDiff, Nat.reduceLT, Nat.reduceLeDiff, Nat.reduceAdd, Nat.reduceSub, Nat.reduceMul, reduceCtorEq, Int.reduceToNat, Int.reduceNeg, secG_len, ptsG_len, bne_self_eq_false, Bool.or_self, Bool.or_false, Bool.false_or]
          repeat refine And.intro (by first | omega | assumption | (simp only [List.length_append, List.length_cons, List.length_nil]; omega) | (intros; first | omega | assumption | (simp_all; done) | grind)) ?_   -- r20.17
          refine hK25 _ ?_; clear hK25
          refine aw_seq fun K26 hK26 => ?_
          refine aw_reg [5, 14, 15] (by kernel_rfl) ?_   -- r21.18
          simp (disch := omega) only [go_sem, ↓reduceIte, Nat.reduceEqDiff, Nat.reduceLT, Nat.reduceLeDiff, Nat.reduceAdd, Nat.reduceSub, Nat.reduceMul, reduceCtorEq, Int.reduceToNat, Int.reduceNeg, secG_len, ptsG_len, bne_self_eq_false, Bool.or_self, Bool.or_false, Bool.false_or]
          repeat refine And.intro (by first | omega | assumption | (simp only [List.length_append, List.length_cons, List.length_nil]; omega) | (intros; first | omega | assumption | (simp_all; done) | grind)) ?_   -- r21.18
          refine hK26 _ ?_; clear hK26
          refine aw_seq fun K27 hK27 => ?_
          refine aw_seq fun K28 hK28 => ?_
          refine aw_reg [5, 14, 15, 16] (by kernel_rfl) ?_   -- r22.19
          simp (disch := omega) only [go_sem, ↓reduceIte, Nat.reduceEqDiff, Nat.reduceLT, Nat.reduceLeDiff, Nat.reduceAdd, Nat.reduceSub, Nat.reduceMul, reduceCtorEq, Int.reduceToNat, Int.reduceNeg, secG_len, ptsG_len, bne_self_eq_false, Bool.or_self, Bool.or_false, Bool.false_or]
          repeat refine And.intro (by first | omega | assumption | (simp only [List.length_append, List.length_cons, List.length_nil]; omega) | (intros; first | omega | assumption | (simp_all; done) | grind)) ?_   -- r22.19
          refine hK28 _ ?_; clear hK28
          refine aw_block ?_
          have hr1 : (redF l x.fNow x.fReads).length ≤ x.fReads.length := List.length_filter_le _ _
          have hr2 : (redF (mor l f) x.fNow x.fReads).length ≤ x.fReads.length := List.length_filter_le _ _
          have hr3 := hf.r
          refine aw_loopK [5, 15, 16, 167, 168, 169] (fun n ρ => ∃ k, ∃ m, n = (redF l x.fNow x.fReads).length - k ∧ (k ≤ (redF l x.fNow x.fReads).length) ∧ (m ≤ (redF (mor l f) x.fNow x.fReads).length) ∧ (((redF (mor l f) x.fNow x.fReads).drop m).Sublist ((redF l x.fNow x.fReads).drop k)) ∧ ρ = mkE O [(5, .bx (eSight x)), (15, encR (redF (mor l f) x.fNow x.fReads)), (16, vi (m : Nat)), (167, encR (redF l x.fNow x.fReads)), (168, vi ((redF l x.fNow x.fReads).length : Nat)), (169, vi (k : Nat))]) _ ⟨0, 0, rfl, ?_, ?_, ?_, ?_⟩ ?_   -- L2
          · first | assumption | omega | (simp only [List.length_append, List.length_cons, List.length_nil] at *; omega) | (simp_all; done)   -- L2.init.inv0
          · first | assumption | omega | (simp only [List.length_append, List.length_cons, List.length_nil] at *; omega) | (simp_all; done)   -- L2.init.inv1
          · exact red_sub l f x.fNow x.fReads   -- L2.init.inv2
          · simp (disch := omega) only [go_sem, ↓reduceIte, Nat.reduceEqDiff, Nat.reduceLT, Nat.reduceLeDiff, Nat.reduceAdd, Nat.reduceSub, Nat.reduceMul, reduceCtorEq, Int.reduceToNat, Int.reduceNeg, secG_len, ptsG_len, bne_self_eq_false, Bool.or_self, Bool.or_false, Bool.false_or] <;> first | rfl | omega | simp | simp_all   -- L2.init.env
          rintro n ρ ⟨k, m, rfl, l2_0, l2_1, l2_2, rfl⟩ K29 hK29
          refine aw_seq fun K30 hK30 => ?_
          refine aw_reg [5, 14, 15, 16, 167, 168, 169] (by kernel_rfl) ?_   -- r23.20
          simp (disch := omega) only [go_sem, ↓reduceIte, Nat.reduceEqDiff, Nat.reduceLT, Nat.reduceLeDiff, Nat.reduceAdd, Nat.reduceSub, Nat.reduceMul, reduceCtorEq, Int.reduceToNat, Int.reduceNeg, secG_len, ptsG_len, bne_self_eq_false, Bool.or_self, Bool.or_false, Bool.false_or]
          repeat refine And.intro (by first | omega | assumption | (simp only [List.length_append, List.length_cons, List.length_nil]; omega) | (intros; first | omega | assumption | (simp_all; done) | grind)) ?_   -- r23.20
          refine hK30 _ ?_; clear hK30
          refine aw_seq fun K31 hK31 => ?_
          refine aw_cond _ (by rfl) (rfl) (fun c6 => ?_) (fun c6 => ?_)   -- c6
          · try simp only [decide_eq_true_eq, decide_eq_false_iff_not, Bool.not_eq_true', Bool.not_eq_false', beq_iff_eq, bne_iff_ne, beq_eq_false_iff_ne, bne_eq_false_iff_eq, Bool.not_eq_true, Bool.not_eq_false, Int.not_lt, Int.not_le, Nat.not_lt, Nat.not_le, ne_eq, Int.ofNat_inj, Bool.and_eq_true, Bool.or_eq_true, Bool.and_eq_false_iff, Bool.or_eq_false_iff, Bool.not_eq_eq_eq_not, Bool.not_true, Bool.not_false] at c6   -- c6.t
            refine aw_skip ?_
            refine hK31 _ ?_; clear hK31
            refine aw_seq fun K32 hK32 => ?_
            refine aw_block ?_
            refine aw_seq fun K33 hK33 => ?_
            refine aw_reg [5, 14, 15, 16, 167, 168, 169] (by kernel_rfl) ?_   -- r24.21
            simp (disch := omega) only [go_sem, ↓reduceIte, Nat.reduceEqDiff, Nat.reduceLT, Nat.reduceLeDiff, Nat.reduceAdd, Nat.reduceSub, Nat.reduceMul, reduceCtorEq, Int.reduceToNat, Int.reduceNeg, secG_len, ptsG_len, bne_self_eq_false, Bool.or_self, Bool.or_false, Bool.false_or]
            repeat refine And.intro (by first | omega | assumption | (simp only [List.length_append, List.length_cons, List.length_nil]; omega) | (intros; first | omega | assumption | (simp_all; done) | grind)) ?_   -- r24.21
            refine hK33 _ ?_; clear hK33
            refine aw_seq fun K34 hK34 => ?_
            refine aw_regDc [5, 14, 15, 16, 18, 167, 168, 169] [] mixed (by kernel_rfl) ?_   -- r25.22
            simp (disch := omega) only [go_sem, ↓reduceIte, Nat.reduceEqDiff, Nat.reduceLT, Nat.reduceLeDiff, Nat.reduceAdd, Nat.reduceSub, Nat.reduceMul, reduceCtorEq, Int.reduceToNat, Int.reduceNeg, secG_len, ptsG_len, bne_self_eq_false, Bool.or_self, Bool.or_false, Bool.false_or]
            repeat refine And.intro (by first | omega | assumption | (simp only [List.length_append, List.length_cons, List.length_nil]; omega) | (intros; first | omega | assumption | (simp_all; done) | grind)) ?_   -- r25.22
            refine hK34 _ ?_; clear hK34
            refine aw_cond _ (by rfl) (rfl) (fun c7 => ?_) (fun c7 => ?_)   -- c7
            · try simp only [decide_eq_true_eq, decide_eq_false_iff_not, Bool.not_eq_true', Bool.not_eq_false', beq_iff_eq, bne_iff_ne, beq_eq_false_iff_ne, bne_eq_false_iff_eq, Bool.not_eq_true, Bool.not_eq_false, Int.not_lt, Int.not_le, Nat.not_lt, Nat.not_le, ne_eq, Int.ofNat_inj, Bool.and_eq_true, Bool.or_eq_true, Bool.and_eq_false_iff, Bool.or_eq_false_iff, Bool.not_eq_eq_eq_not, Bool.not_true, Bool.not_false] at c7   -- c7.t
              refine aw_reg [5, 14, 15, 16, 167, 168, 169] (by kernel_rfl) ?_   -- r26.23
              simp (disch := omega) only [go_sem, ↓reduceIte, Nat.reduceEqDiff, Nat.reduceLT, Nat.reduceLeDiff, Nat.reduceAdd, Nat.reduceSub, Nat.reduceMul, reduceCtorEq, Int.reduceToNat, Int.reduceNeg, secG_len, ptsG_len, bne_self_eq_false, Bool.or_self, Bool.or_false, Bool.false_or]
              repeat refine And.intro (by first | omega | assumption | (simp only [List.length_append, List.length_cons, List.length_nil]; omega) | (intros; first | omega | assumption | (simp_all; done) | grind)) ?_   -- r26.23
              refine hK32 _ ?_; clear hK32
              refine aw_reg [5, 14, 15, 16, 167, 168, 169] (by kernel_rfl) ?_   -- r27.24
              simp (disch := omega) only [go_sem, ↓reduceIte, Nat.reduceEqDiff, Nat.reduceLT, Nat.reduceLeDiff, Nat.reduceAdd, Nat.reduceSub, Nat.reduceMul, reduceCtorEq, Int.reduceToNat, Int.reduceNeg, secG_len, ptsG_len, bne_self_eq_false, Bool.or_self, Bool.or_false, Bool.false_or]
              repeat refine And.intro (by first | omega | assumption | (simp only [List.length_append, List.length_cons, List.length_nil]; omega) | (intros; first | omega | assumption | (simp_all; done) | grind)) ?_   -- r27.24
              refine hK29 _ _ ?_ ⟨k + 1, m + 1, rfl, ?_, ?_, ?_, ?_⟩   -- L2.0
              · first | assumption | omega | (simp only [List.length_append, List.length_cons, List.length_nil] at *; omega) | (simp_all; done)   -- L2.0.meas
              · first | assumption | omega | (simp only [List.length_append, List.length_cons, List.length_nil] at *; omega) | (simp_all; done)   -- L2.0.inv0
              · first | assumption | omega | (simp only [List.length_append, List.length_cons, List.length_nil] at *; omega) | (simp_all; done)   -- L2.0.inv1
              · exact sub_hit l2_2 c6 c7.1 ((extRead _ _).2 (by simpa [and_assoc] using c7.2))   -- L2.0.inv2
              · simp (disch := omega) only [go_sem, ↓reduceIte, Nat.reduceEqDiff, Nat.reduceLT, Nat.reduceLeDiff, Nat.reduceAdd, Nat.reduceSub, Nat.reduceMul, reduceCtorEq, Int.reduceToNat, Int.reduceNeg, secG_len, ptsG_len, bne_self_eq_false, Bool.or_self, Bool.or_false, Bool.false_or] <;> first | rfl | omega | simp | simp_all   -- L2.0.env
            · try simp only [decide_eq_true_eq, decide_eq_false_iff_not, Bool.not_eq_true', Bool.not_eq_false', beq_iff_eq, bne_iff_ne, beq_eq_false_iff_ne, bne_eq_false_iff_eq, Bool.not_eq_true, Bool.not_eq_false, Int.not_lt, Int.not_le, Nat.not_lt, Nat.not_le, ne_eq, Int.ofNat_inj, Bool.and_eq_true, Bool.or_eq_true, Bool.and_eq_false_iff, Bool.or_eq_false_iff, Bool.not_eq_eq_eq_not, Bool.not_true, Bool.not_false] at c7   -- c7.f
              refine aw_skip ?_
              refine hK32 _ ?_; clear hK32
              refine aw_reg [5, 14, 15, 16, 167, 168, 169] (by kernel_rfl) ?_   -- r27.25
              simp (disch := omega) only [go_sem, ↓reduceIte, Nat.reduceEqDiff, Nat.reduceLT, Nat.reduceLeDiff, Nat.reduceAdd, Nat.reduceSub, Nat.reduceMul, reduceCtorEq, Int.reduceToNat, Int.reduceNeg, secG_len, ptsG_len, bne_self_eq_false, Bool.or_self, Bool.or_false, Bool.false_or]
              repeat refine And.intro (by first | omega | assumption | (simp only [List.length_append, List.length_cons, List.length_nil]; omega) | (intros; first | omega | assumption | (simp_all; done) | grind)) ?_   -- r27.25
              refine hK29 _ _ ?_ ⟨k + 1, m, rfl, ?_, ?_, ?_, ?_⟩   -- L2.1
              · first | assumption | omega | (simp only [List.length_append, List.length_cons, List.length_nil] at *; omega) | (simp_all; done)   -- L2.1.meas
              · first | assumption | omega | (simp only [List.length_append, List.length_cons, List.length_nil] at *; omega) | (simp_all; done)   -- L2.1.inv0
              · first | assumption | omega | (simp only [List.length_append, List.length_cons, List.length_nil] at *; omega) | (simp_all; done)   -- L2.1.inv1
              · exact sub_miss l2_2 c6 (by rw [extRead]; rintro ⟨h1, h2, h3⟩; rcases c7 with h | h | h; omega; exact h h2; exact h h3)   -- L2.1.inv2
              · simp (disch := omega) only [go_sem, ↓reduceIte, Nat.reduceEqDiff, Nat.reduceLT, Nat.reduceLeDiff, Nat.reduceAdd, Nat.reduceSub, Nat.reduceMul, reduceCtorEq, Int.reduceToNat, Int.reduceNeg, secG_len, ptsG_len, bne_self_eq_false, Bool.or_self, Bool.or_false, Bool.false_or] <;> first | rfl | omega | simp | simp_all   -- L2.1.env
          · try simp only [decide_eq_true_eq, decide_eq_false_iff_not, Bool.not_eq_true', Bool.not_eq_false', beq_iff_eq, bne_iff_ne, beq_eq_false_iff_ne, bne_eq_false_iff_eq, Bool.not_eq_true, Bool.not_eq_false, Int.not_lt, Int.not_le, Nat.not_lt, Nat.not_le, ne_eq, Int.ofNat_inj, Bool.and_eq_true, Bool.or_eq_true, Bool.and_eq_false_iff, Bool.or_eq_false_iff, Bool.not_eq_eq_eq_not, Bool.not_true, Bool.not_false] at c6   -- c6.f
            refine aw_exit ?_
            refine hK27 _ ?_; clear hK27
            refine aw_seq fun K35 hK35 => ?_
            have hm := sub_end l2_2 c6 l2_1   -- r28.26
            refine aw_regDc [5, 15, 16] [] mixed (by kernel_rfl) ?_   -- r28.26
            simp (disch := omega) only [go_sem, ↓reduceIte, Nat.reduceEqDiff, Nat.reduceLT, Nat.reduceLeDiff, Nat.reduceAdd, Nat.reduceSub, Nat.reduceMul, reduceCtorEq, Int.reduceToNat, Int.reduceNeg, secG_len, ptsG_len, bne_self_eq_false, Bool.or_self, Bool.or_false, Bool.false_or]
            repeat refine And.intro (by first | omega | assumption | (simp only [List.length_append, List.length_cons, List.length_nil]; omega) | (intros; first | omega | assumption | (simp_all; done) | grind)) ?_   -- r28.26
            refine callC_to (fun g0 => redN_ok _ x.fReads x.fNow (by have := hf.r; omega)) ?_ ?_ ?_   -- r28.26#0
            · first | exact fun _ => trivial | simp
            · rfl
            simp (disch := omega) only [go_sem, ↓reduceIte, Nat.reduceEqDiff, Nat.reduceLT, Nat.reduceLeDiff, Nat.reduceAdd, Nat.reduceSub, Nat.reduceMul, reduceCtorEq, Int.reduceToNat, Int.reduceNeg, secG_len, ptsG_len, bne_self_eq_false, Bool.or_self, Bool.or_false, Bool.false_or]
            repeat refine And.intro (by first | omega | assumption | (simp only [List.length_append, List.length_cons, List.length_nil]; omega) | (intros; first | omega | assumption | (simp_all; done) | grind)) ?_   -- r28.26
            refine callC_to (fun g1 => law28_reads_ok _ _ _) ?_ ?_ ?_   -- r28.26#1
            · first | exact fun _ => trivial | simp
            · rfl
            simp (disch := omega) only [go_sem, ↓reduceIte, Nat.reduceEqDiff, Nat.reduceLT, Nat.reduceLeDiff, Nat.reduceAdd, Nat.reduceSub, Nat.reduceMul, reduceCtorEq, Int.reduceToNat, Int.reduceNeg, secG_len, ptsG_len, bne_self_eq_false, Bool.or_self, Bool.or_false, Bool.false_or]
            repeat refine And.intro (by first | omega | assumption | (simp only [List.length_append, List.length_cons, List.length_nil]; omega) | (intros; first | omega | assumption | (simp_all; done) | grind)) ?_   -- r28.26
            refine callC_to (fun g2 => secN_ok _ x.fOccupied x.fNow (by have := hf.o; omega)) ?_ ?_ ?_   -- r28.26#2
            · first | exact fun _ => trivial | simp
            · rfl
            simp (disch := omega) only [go_sem, ↓reduceIte, Nat.reduceEqDiff, Nat.reduceLT, Nat.reduceLeDiff, Nat.reduceAdd, Nat.reduceSub, Nat.reduceMul, reduceCtorEq, Int.reduceToNat, Int.reduceNeg, secG_len, ptsG_len, bne_self_eq_false, Bool.or_self, Bool.or_false, Bool.false_or]
            repeat refine And.intro (by first | omega | assumption | (simp only [List.length_append, List.length_cons, List.length_nil]; omega) | (intros; first | omega | assumption | (simp_all; done) | grind)) ?_   -- r28.26
            refine callC_to (fun g3 => law28_flags_ok _ _ _) ?_ ?_ ?_   -- r28.26#3
            · first | exact fun _ => trivial | simp
            · rfl
            simp (disch := omega) only [go_sem, ↓reduceIte, Nat.reduceEqDiff, Nat.reduceLT, Nat.reduceLeDiff, Nat.reduceAdd, Nat.reduceSub, Nat.reduceMul, reduceCtorEq, Int.reduceToNat, Int.reduceNeg, secG_len, ptsG_len, bne_self_eq_false, Bool.or_self, Bool.or_false, Bool.false_or]
            repeat refine And.intro (by first | omega | assumption | (simp only [List.length_append, List.length_cons, List.length_nil]; omega) | (intros; first | omega | assumption | (simp_all; done) | grind)) ?_   -- r28.26
            refine callC_to (fun g4 => ptsN_ok _ x.fDetected x.fNow (by have := hf.d; omega)) ?_ ?_ ?_   -- r28.26#4
            · first | exact fun _ => trivial | simp
            · rfl
            simp (disch := omega) only [go_sem, ↓reduceIte, Nat.reduceEqDiff, Nat.reduceLT, Nat.reduceLeDiff, Nat.reduceAdd, Nat.reduceSub, Nat.reduceMul, reduceCtorEq, Int.reduceToNat, Int.reduceNeg, secG_len, ptsG_len, bne_self_eq_false, Bool.or_self, Bool.or_false, Bool.false_or]
            repeat refine And.intro (by first | omega | assumption | (simp only [List.length_append, List.length_cons, List.length_nil]; omega) | (intros; first | omega | assumption | (simp_all; done) | grind)) ?_   -- r28.26
            refine callC_to (fun g5 => law28_numbers_ok _ _ _) ?_ ?_ ?_   -- r28.26#5
            · first | exact fun _ => trivial | simp
            · rfl
            simp (disch := omega) only [go_sem, ↓reduceIte, Nat.reduceEqDiff, Nat.reduceLT, Nat.reduceLeDiff, Nat.reduceAdd, Nat.reduceSub, Nat.reduceMul, reduceCtorEq, Int.reduceToNat, Int.reduceNeg, secG_len, ptsG_len, bne_self_eq_false, Bool.or_self, Bool.or_false, Bool.false_or]
            repeat refine And.intro (by first | omega | assumption | (simp only [List.length_append, List.length_cons, List.length_nil]; omega) | (intros; first | omega | assumption | (simp_all; done) | grind)) ?_   -- r28.26
            refine callC_to (fun g6 => law28_alive_ok _ ) ?_ ?_ ?_   -- r28.26#6
            · first | exact fun _ => trivial | simp
            · rfl
            simp (disch := omega) only [go_sem, ↓reduceIte, Nat.reduceEqDiff, Nat.reduceLT, Nat.reduceLeDiff, Nat.reduceAdd, Nat.reduceSub, Nat.reduceMul, reduceCtorEq, Int.reduceToNat, Int.reduceNeg, secG_len, ptsG_len, bne_self_eq_false, Bool.or_self, Bool.or_false, Bool.false_or]
            repeat refine And.intro (by first | omega | assumption | (simp only [List.length_append, List.length_cons, List.length_nil]; omega) | (intros; first | omega | assumption | (simp_all; done) | grind)) ?_   -- r28.26
            refine hK35 _ ?_; clear hK35
            refine aw_ret ?_
            refine ret_tmp 6 rfl (by simp (disch := omega) only [go_sem, ↓reduceIte, Nat.reduceEqDiff, Nat.reduceLT, Nat.reduceLeDiff, Nat.reduceAdd, Nat.reduceSub, Nat.reduceMul, reduceCtorEq, Int.reduceToNat, Int.reduceNeg, secG_len, ptsG_len, bne_self_eq_false, Bool.or_self, Bool.or_false, Bool.false_or]) ?_   -- ret1
            exact Exp.is (by simp (disch := omega) only [go_sem, ↓reduceIte, Nat.reduceEqDiff, Nat.reduceLT, Nat.reduceLeDiff, Nat.reduceAdd, Nat.reduceSub, Nat.reduceMul, reduceCtorEq, Int.reduceToNat, Int.reduceNeg, secG_len, ptsG_len, bne_self_eq_false, Bool.or_self, Bool.or_false, Bool.false_or] <;> refine congrArg vb ?_ <;> (first | assumption | omega | (simp only [List.length_append, List.length_cons, List.length_nil] at *; omega) | (simp_all; done))) rfl rfl
    have s_11111110 : ∀ ρ, keepC [0, 4, 5, 24, 26, 28, 29, 30] ρ = mkE O [(0, encF l), (4, .bx (eFault f)), (5, .bx (eSight x)), (24, .agg [vi f.fKind, vi f.fAt, vi f.fUntil]), (26, encF l), (28, .agg [vi f.fKind, vi f.fAt, vi f.fUntil]), (29, .sl 3 1 fun i => [[vi f.fKind, vi f.fAt, vi f.fUntil]].getD i []), (30, .row 24 3 ([vi f.fKind, vi f.fAt, vi f.fUntil] :: (l ++ [f]).map eFault))] → Y 1 #[true, true, true, true, true, true, true, false] ρ := by
      intro ρ hρ
      refine hY 0 _ [0, 4, 5, 24, 26, 28, 29, 30] [7] _ (by kernel_rfl) rfl ⟨?_, trivial⟩
      · show opX _ _ _ _ _ _
        rw [hρ]
        refine opX_of (f := false) rfl (by decide) ?_
        simp (disch := omega) only [go_sem, ↓reduceIte, Nat.reduceEqDiff, Nat.reduceLT, Nat.reduceLeDiff, Nat.reduceAdd, Nat.reduceSub, Nat.reduceMul, reduceCtorEq, Int.reduceToNat, Int.reduceNeg, secG_len, ptsG_len, bne_self_eq_false, Bool.or_self, Bool.or_false, Bool.false_or]
        repeat refine And.intro (by first | omega | assumption | (simp only [List.length_append, List.length_cons, List.length_nil]; omega) | (intros; first | omega | assumption | (simp_all; done) | grind)) ?_   -- r3.3
        refine s_11111111 _ ?_
        simp (disch := omega) only [go_sem, ↓reduceIte, Nat.reduceEqDiff, Nat.reduceLT, Nat.reduceLeDiff, Nat.reduceAdd, Nat.reduceSub, Nat.reduceMul, reduceCtorEq, Int.reduceToNat, Int.reduceNeg, secG_len, ptsG_len, bne_self_eq_false, Bool.or_self, Bool.or_false, Bool.false_or] <;> first | rfl | omega | simp | simp_all
    have s_11111100 : ∀ ρ, keepC [0, 4, 5, 24, 26, 27, 28, 29] ρ = mkE O [(0, encF l), (4, .bx (eFault f)), (5, .bx (eSight x)), (24, .agg [vi f.fKind, vi f.fAt, vi f.fUntil]), (26, encF l), (27, .row 24 3 ([vi f.fKind, vi f.fAt, vi f.fUntil] :: l.map eFault)), (28, .agg [vi f.fKind, vi f.fAt, vi f.fUntil]), (29, .sl 3 1 fun i => [[vi f.fKind, vi f.fAt, vi f.fUntil]].getD i [])] → Y 2 #[true, true, true, true, true, true, false, false] ρ := by
      intro ρ hρ
      clear s_11111111
      refine hY 1 _ [0, 4, 5, 24, 26, 27, 28, 29] [6] _ (by kernel_rfl) rfl ⟨?_, trivial⟩
      · show opX _ _ _ _ _ _
        rw [hρ]
        refine opX_of (f := false) rfl (by decide) ?_
        simp (disch := omega) only [go_sem, ↓reduceIte, Nat.reduceEqDiff, Nat.reduceLT, Nat.reduceLeDiff, Nat.reduceAdd, Nat.reduceSub, Nat.reduceMul, reduceCtorEq, Int.reduceToNat, Int.reduceNeg, secG_len, ptsG_len, bne_self_eq_false, Bool.or_self, Bool.or_false, Bool.false_or]
        repeat refine And.intro (by first | omega | assumption | (simp only [List.length_append, List.length_cons, List.length_nil]; omega) | (intros; first | omega | assumption | (simp_all; done) | grind)) ?_   -- r3.3
        refine s_11111110 _ ?_
        simp (disch := omega) only [go_sem, ↓reduceIte, Nat.reduceEqDiff, Nat.reduceLT, Nat.reduceLeDiff, Nat.reduceAdd, Nat.reduceSub, Nat.reduceMul, reduceCtorEq, Int.reduceToNat, Int.reduceNeg, secG_len, ptsG_len, bne_self_eq_false, Bool.or_self, Bool.or_false, Bool.false_or] <;> first | rfl | omega | simp | simp_all
    have s_11111000 : ∀ ρ, keepC [0, 4, 5, 24, 26, 27, 28] ρ = mkE O [(0, encF l), (4, .bx (eFault f)), (5, .bx (eSight x)), (24, .agg [vi f.fKind, vi f.fAt, vi f.fUntil]), (26, encF l), (27, .row 24 3 ([vi f.fKind, vi f.fAt, vi f.fUntil] :: l.map eFault)), (28, .agg [vi f.fKind, vi f.fAt, vi f.fUntil])] → Y 3 #[true, true, true, true, true, false, false, false] ρ := by
      intro ρ hρ
      clear s_11111111 s_11111110
      refine hY 2 _ [0, 4, 5, 24, 26, 27, 28] [5] _ (by kernel_rfl) rfl ⟨?_, trivial⟩
      · show opX _ _ _ _ _ _
        rw [hρ]
        refine opX_of (f := false) rfl (by decide) ?_
        simp (disch := omega) only [go_sem, ↓reduceIte, Nat.reduceEqDiff, Nat.reduceLT, Nat.reduceLeDiff, Nat.reduceAdd, Nat.reduceSub, Nat.reduceMul, reduceCtorEq, Int.reduceToNat, Int.reduceNeg, secG_len, ptsG_len, bne_self_eq_false, Bool.or_self, Bool.or_false, Bool.false_or]
        repeat refine And.intro (by first | omega | assumption | (simp only [List.length_append, List.length_cons, List.length_nil]; omega) | (intros; first | omega | assumption | (simp_all; done) | grind)) ?_   -- r3.3
        refine s_11111100 _ ?_
        simp (disch := omega) only [go_sem, ↓reduceIte, Nat.reduceEqDiff, Nat.reduceLT, Nat.reduceLeDiff, Nat.reduceAdd, Nat.reduceSub, Nat.reduceMul, reduceCtorEq, Int.reduceToNat, Int.reduceNeg, secG_len, ptsG_len, bne_self_eq_false, Bool.or_self, Bool.or_false, Bool.false_or] <;> first | rfl | omega | simp | simp_all
    have s_11101100 : ∀ ρ, keepC [0, 4, 5, 24, 25, 26, 28, 29] ρ = mkE O [(0, encF l), (4, .bx (eFault f)), (5, .bx (eSight x)), (24, .agg [vi f.fKind, vi f.fAt, vi f.fUntil]), (25, .row 24 3 [[vi f.fKind, vi f.fAt, vi f.fUntil]]), (26, encF l), (28, .agg [vi f.fKind, vi f.fAt, vi f.fUntil]), (29, .sl 3 1 fun i => [[vi f.fKind, vi f.fAt, vi f.fUntil]].getD i [])] → Y 3 #[true, true, true, false, true, true, false, false] ρ := by
      intro ρ hρ
      clear s_11111111 s_11111110
      refine hY 2 _ [0, 4, 5, 24, 25, 26, 28, 29] [3] _ (by kernel_rfl) rfl ⟨?_, trivial⟩
      · show opX _ _ _ _ _ _
        rw [hρ]
        refine opX_of (f := false) rfl (by decide) ?_
        simp (disch := omega) only [go_sem, ↓reduceIte, Nat.reduceEqDiff, Nat.reduceLT, Nat.reduceLeDiff, Nat.reduceAdd, Nat.reduceSub, Nat.reduceMul, reduceCtorEq, Int.reduceToNat, Int.reduceNeg, secG_len, ptsG_len, bne_self_eq_false, Bool.or_self, Bool.or_false, Bool.false_or]
        repeat refine And.intro (by first | omega | assumption | (simp only [List.length_append, List.length_cons, List.length_nil]; omega) | (intros; first | omega | assumption | (simp_all; done) | grind)) ?_   -- r3.3
        refine s_11111100 _ ?_
        simp (disch := omega) only [go_sem, ↓reduceIte, Nat.reduceEqDiff, Nat.reduceLT, Nat.reduceLeDiff, Nat.reduceAdd, Nat.reduceSub, Nat.reduceMul, reduceCtorEq, Int.reduceToNat, Int.reduceNeg, secG_len, ptsG_len, bne_self_eq_false, Bool.or_self, Bool.or_false, Bool.false_or] <;> first | rfl | omega | simp | simp_all
    have s_11110000 : ∀ ρ, keepC [0, 4, 5, 24, 26, 27] ρ = mkE O [(0, encF l), (4, .bx (eFault f)), (5, .bx (eSight x)), (24, .agg [vi f.fKind, vi f.fAt, vi f.fUntil]), (26, encF l), (27, .row 24 3 ([vi f.fKind, vi f.fAt, vi f.fUntil] :: l.map eFault))] → Y 4 #[true, true, true, true, false, false, false, false] ρ := by
      intro ρ hρ
      clear s_11111111 s_11111110 s_11111100 s_11101100
      refine hY 3 _ [0, 4, 5, 24, 26, 27] [4] _ (by kernel_rfl) rfl ⟨?_, trivial⟩
      · show opX _ _ _ _ _ _
        rw [hρ]
        refine opX_of (f := false) rfl (by decide) ?_
        simp (disch := omega) only [go_sem, ↓reduceIte, Nat.reduceEqDiff, Nat.reduceLT, Nat.reduceLeDiff, Nat.reduceAdd, Nat.reduceSub, Nat.reduceMul, reduceCtorEq, Int.reduceToNat, Int.reduceNeg, secG_len, ptsG_len, bne_self_eq_false, Bool.or_self, Bool.or_false, Bool.false_or]
        repeat refine And.intro (by first | omega | assumption | (simp only [List.length_append, List.length_cons, List.length_nil]; omega) | (intros; first | omega | assumption | (simp_all; done) | grind)) ?_   -- r3.3
        refine s_11111000 _ ?_
        simp (disch := omega) only [go_sem, ↓reduceIte, Nat.reduceEqDiff, Nat.reduceLT, Nat.reduceLeDiff, Nat.reduceAdd, Nat.reduceSub, Nat.reduceMul, reduceCtorEq, Int.reduceToNat, Int.reduceNeg, secG_len, ptsG_len, bne_self_eq_false, Bool.or_self, Bool.or_false, Bool.false_or] <;> first | rfl | omega | simp | simp_all
    have s_11101000 : ∀ ρ, keepC [0, 4, 5, 24, 25, 26, 28] ρ = mkE O [(0, encF l), (4, .bx (eFault f)), (5, .bx (eSight x)), (24, .agg [vi f.fKind, vi f.fAt, vi f.fUntil]), (25, .row 24 3 [[vi f.fKind, vi f.fAt, vi f.fUntil]]), (26, encF l), (28, .agg [vi f.fKind, vi f.fAt, vi f.fUntil])] → Y 4 #[true, true, true, false, true, false, false, false] ρ := by
      intro ρ hρ
      clear s_11111111 s_11111110 s_11111100
      refine hY 3 _ [0, 4, 5, 24, 25, 26, 28] [3, 5] _ (by kernel_rfl) rfl ⟨?_, ?_, trivial⟩
      · show opX _ _ _ _ _ _
        rw [hρ]
        refine opX_of (f := false) rfl (by decide) ?_
        simp (disch := omega) only [go_sem, ↓reduceIte, Nat.reduceEqDiff, Nat.reduceLT, Nat.reduceLeDiff, Nat.reduceAdd, Nat.reduceSub, Nat.reduceMul, reduceCtorEq, Int.reduceToNat, Int.reduceNeg, secG_len, ptsG_len, bne_self_eq_false, Bool.or_self, Bool.or_false, Bool.false_or]
        repeat refine And.intro (by first | omega | assumption | (simp only [List.length_append, List.length_cons, List.length_nil]; omega) | (intros; first | omega | assumption | (simp_all; done) | grind)) ?_   -- r3.3
        refine s_11111000 _ ?_
        simp (disch := omega) only [go_sem, ↓reduceIte, Nat.reduceEqDiff, Nat.reduceLT, Nat.reduceLeDiff, Nat.reduceAdd, Nat.reduceSub, Nat.reduceMul, reduceCtorEq, Int.reduceToNat, Int.reduceNeg, secG_len, ptsG_len, bne_self_eq_false, Bool.or_self, Bool.or_false, Bool.false_or] <;> first | rfl | omega | simp | simp_all
      · show opX _ _ _ _ _ _
        rw [hρ]
        refine opX_of (f := false) rfl (by decide) ?_
        simp (disch := omega) only [go_sem, ↓reduceIte, Nat.reduceEqDiff, Nat.reduceLT, Nat.reduceLeDiff, Nat.reduceAdd, Nat.reduceSub, Nat.reduceMul, reduceCtorEq, Int.reduceToNat, Int.reduceNeg, secG_len, ptsG_len, bne_self_eq_false, Bool.or_self, Bool.or_false, Bool.false_or]
        repeat refine And.intro (by first | omega | assumption | (simp only [List.length_append, List.length_cons, List.length_nil]; omega) | (intros; first | omega | assumption | (simp_all; done) | grind)) ?_   -- r3.3
        refine s_11101100 _ ?_
        simp (disch := omega) only [go_sem, ↓reduceIte, Nat.reduceEqDiff, Nat.reduceLT, Nat.reduceLeDiff, Nat.reduceAdd, Nat.reduceSub, Nat.reduceMul, reduceCtorEq, Int.reduceToNat, Int.reduceNeg, secG_len, ptsG_len, bne_self_eq_false, Bool.or_self, Bool.or_false, Bool.false_or] <;> first | rfl | omega | simp | simp_all
    have s_11001100 : ∀ ρ, keepC [0, 4, 5, 24, 25, 28, 29] ρ = mkE O [(0, encF l), (4, .bx (eFault f)), (5, .bx (eSight x)), (24, .agg [vi f.fKind, vi f.fAt, vi f.fUntil]), (25, .row 24 3 [[vi f.fKind, vi f.fAt, vi f.fUntil]]), (28, .agg [vi f.fKind, vi f.fAt, vi f.fUntil]), (29, .sl 3 1 fun i => [[vi f.fKind, vi f.fAt, vi f.fUntil]].getD i [])] → Y 4 #[true, true, false, false, true, true, false, false] ρ := by
      intro ρ hρ
      clear s_11111111 s_11111110 s_11111100 s_11111000
      refine hY 3 _ [0, 4, 5, 24, 25, 28, 29] [2] _ (by kernel_rfl) rfl ⟨?_, trivial⟩
      · show opX _ _ _ _ _ _
        rw [hρ]
        refine opX_of (f := false) rfl (by decide) ?_
        simp (disch := omega) only [go_sem, ↓reduceIte, Nat.reduceEqDiff, Nat.reduceLT, Nat.reduceLeDiff, Nat.reduceAdd, Nat.reduceSub, Nat.reduceMul, reduceCtorEq, Int.reduceToNat, Int.reduceNeg, secG_len, ptsG_len, bne_self_eq_false, Bool.or_self, Bool.or_false, Bool.false_or]
        repeat refine And.intro (by first | omega | assumption | (simp only [List.length_append, List.length_cons, List.length_nil]; omega) | (intros; first | omega | assumption | (simp_all; done) | grind)) ?_   -- r3.3
        refine s_11101100 _ ?_
        simp (disch := omega) only [go_sem, ↓reduceIte, Nat.reduceEqDiff, Nat.reduceLT, Nat.reduceLeDiff, Nat.reduceAdd, Nat.reduceSub, Nat.reduceMul, reduceCtorEq, Int.reduceToNat, Int.reduceNeg, secG_len, ptsG_len, bne_self_eq_false, Bool.or_self, Bool.or_false, Bool.false_or] <;> first | rfl | omega | simp | simp_all
    have s_10101100 : ∀ ρ, keepC [0, 4, 5, 24, 26, 28, 29] ρ = mkE O [(0, encF l), (4, .bx (eFault f)), (5, .bx (eSight x)), (24, .agg [vi f.fKind, vi f.fAt, vi f.fUntil]), (26, encF l), (28, .agg [vi f.fKind, vi f.fAt, vi f.fUntil]), (29, .sl 3 1 fun i => [[vi f.fKind, vi f.fAt, vi f.fUntil]].getD i [])] → Y 4 #[true, false, true, false, true, true, false, false] ρ := by
      intro ρ hρ
      clear s_11111111 s_11111110 s_11111100 s_11111000
      refine hY 3 _ [0, 4, 5, 24, 26, 28, 29] [1] _ (by kernel_rfl) rfl ⟨?_, trivial⟩
      · show opX _ _ _ _ _ _
        rw [hρ]
        refine opX_of (f := true) rfl (by decide) ?_
        simp (disch := omega) only [go_sem, ↓reduceIte, Nat.reduceEqDiff, Nat.reduceLT, Nat.reduceLeDiff, Nat.reduceAdd, Nat.reduceSub, Nat.reduceMul, reduceCtorEq, Int.reduceToNat, Int.reduceNeg, secG_len, ptsG_len, bne_self_eq_false, Bool.or_self, Bool.or_false, Bool.false_or]
        repeat refine And.intro (by first | omega | assumption | (simp only [List.length_append, List.length_cons, List.length_nil]; omega) | (intros; first | omega | assumption | (simp_all; done) | grind)) ?_   -- r3.3
        refine s_11101100 _ ?_
        simp (disch := omega) only [go_sem, ↓reduceIte, Nat.reduceEqDiff, Nat.reduceLT, Nat.reduceLeDiff, Nat.reduceAdd, Nat.reduceSub, Nat.reduceMul, reduceCtorEq, Int.reduceToNat, Int.reduceNeg, secG_len, ptsG_len, bne_self_eq_false, Bool.or_self, Bool.or_false, Bool.false_or] <;> first | rfl | omega | simp | simp_all
    have s_11100000 : ∀ ρ, keepC [0, 4, 5, 24, 25, 26] ρ = mkE O [(0, encF l), (4, .bx (eFault f)), (5, .bx (eSight x)), (24, .agg [vi f.fKind, vi f.fAt, vi f.fUntil]), (25, .row 24 3 [[vi f.fKind, vi f.fAt, vi f.fUntil]]), (26, encF l)] → Y 5 #[true, true, true, false, false, false, false, false] ρ := by
      intro ρ hρ
      clear s_11111111 s_11111110 s_11111100 s_11111000 s_11101100 s_11001100 s_10101100
      refine hY 4 _ [0, 4, 5, 24, 25, 26] [3, 4] _ (by kernel_rfl) rfl ⟨?_, ?_, trivial⟩
      · show opX _ _ _ _ _ _
        rw [hρ]
        refine opX_of (f := false) rfl (by decide) ?_
        simp (disch := omega) only [go_sem, ↓reduceIte, Nat.reduceEqDiff, Nat.reduceLT, Nat.reduceLeDiff, Nat.reduceAdd, Nat.reduceSub, Nat.reduceMul, reduceCtorEq, Int.reduceToNat, Int.reduceNeg, secG_len, ptsG_len, bne_self_eq_false, Bool.or_self, Bool.or_false, Bool.false_or]
        repeat refine And.intro (by first | omega | assumption | (simp only [List.length_append, List.length_cons, List.length_nil]; omega) | (intros; first | omega | assumption | (simp_all; done) | grind)) ?_   -- r3.3
        refine s_11110000 _ ?_
        simp (disch := omega) only [go_sem, ↓reduceIte, Nat.reduceEqDiff, Nat.reduceLT, Nat.reduceLeDiff, Nat.reduceAdd, Nat.reduceSub, Nat.reduceMul, reduceCtorEq, Int.reduceToNat, Int.reduceNeg, secG_len, ptsG_len, bne_self_eq_false, Bool.or_self, Bool.or_false, Bool.false_or] <;> first | rfl | omega | simp | simp_all
      · show opX _ _ _ _ _ _
        rw [hρ]
        refine opX_of (f := false) rfl (by decide) ?_
        simp (disch := omega) only [go_sem, ↓reduceIte, Nat.reduceEqDiff, Nat.reduceLT, Nat.reduceLeDiff, Nat.reduceAdd, Nat.reduceSub, Nat.reduceMul, reduceCtorEq, Int.reduceToNat, Int.reduceNeg, secG_len, ptsG_len, bne_self_eq_false, Bool.or_self, Bool.or_false, Bool.false_or]
        repeat refine And.intro (by first | omega | assumption | (simp only [List.length_append, List.length_cons, List.length_nil]; omega) | (intros; first | omega | assumption | (simp_all; done) | grind)) ?_   -- r3.3
        refine s_11101000 _ ?_
        simp (disch := omega) only [go_sem, ↓reduceIte, Nat.reduceEqDiff, Nat.reduceLT, Nat.reduceLeDiff, Nat.reduceAdd, Nat.reduceSub, Nat.reduceMul, reduceCtorEq, Int.reduceToNat, Int.reduceNeg, secG_len, ptsG_len, bne_self_eq_false, Bool.or_self, Bool.or_false, Bool.false_or] <;> first | rfl | omega | simp | simp_all
    have s_11001000 : ∀ ρ, keepC [0, 4, 5, 24, 25, 28] ρ = mkE O [(0, encF l), (4, .bx (eFault f)), (5, .bx (eSight x)), (24, .agg [vi f.fKind, vi f.fAt, vi f.fUntil]), (25, .row 24 3 [[vi f.fKind, vi f.fAt, vi f.fUntil]]), (28, .agg [vi f.fKind, vi f.fAt, vi f.fUntil])] → Y 5 #[true, true, false, false, true, false, false, false] ρ := by
      intro ρ hρ
      clear s_11111111 s_11111110 s_11111100 s_11111000 s_11101100 s_11110000 s_10101100
      refine hY 4 _ [0, 4, 5, 24, 25, 28] [2, 5] _ (by kernel_rfl) rfl ⟨?_, ?_, trivial⟩
      · show opX _ _ _ _ _ _
        rw [hρ]
        refine opX_of (f := false) rfl (by decide) ?_
        simp (disch := omega) only [go_sem, ↓reduceIte, Nat.reduceEqDiff, Nat.reduceLT, Nat.reduceLeDiff, Nat.reduceAdd, Nat.reduceSub, Nat.reduceMul, reduceCtorEq, Int.reduceToNat, Int.reduceNeg, secG_len, ptsG_len, bne_self_eq_false, Bool.or_self, Bool.or_false, Bool.false_or]
        repeat refine And.intro (by first | omega | assumption | (simp only [List.length_append, List.length_cons, List.length_nil]; omega) | (intros; first | omega | assumption | (simp_all; done) | grind)) ?_   -- r3.3
        refine s_11101000 _ ?_
        simp (disch := omega) only [go_sem, ↓reduceIte, Nat.reduceEqDiff, Nat.reduceLT, Nat.reduceLeDiff, Nat.reduceAdd, Nat.reduceSub, Nat.reduceMul, reduceCtorEq, Int.reduceToNat, Int.reduceNeg, secG_len, ptsG_len, bne_self_eq_false, Bool.or_self, Bool.or_false, Bool.false_or] <;> first | rfl | omega | simp | simp_all
      · show opX _ _ _ _ _ _
        rw [hρ]
        refine opX_of (f := false) rfl (by decide) ?_
        simp (disch := omega) only [go_sem, ↓reduceIte, Nat.reduceEqDiff, Nat.reduceLT, Nat.reduceLeDiff, Nat.reduceAdd, Nat.reduceSub, Nat.reduceMul, reduceCtorEq, Int.reduceToNat, Int.reduceNeg, secG_len, ptsG_len, bne_self_eq_false, Bool.or_self, Bool.or_false, Bool.false_or]
        repeat refine And.intro (by first | omega | assumption | (simp only [List.length_append, List.length_cons, List.length_nil]; omega) | (intros; first | omega | assumption | (simp_all; done) | grind)) ?_   -- r3.3
        refine s_11001100 _ ?_
        simp (disch := omega) only [go_sem, ↓reduceIte, Nat.reduceEqDiff, Nat.reduceLT, Nat.reduceLeDiff, Nat.reduceAdd, Nat.reduceSub, Nat.reduceMul, reduceCtorEq, Int.reduceToNat, Int.reduceNeg, secG_len, ptsG_len, bne_self_eq_false, Bool.or_self, Bool.or_false, Bool.false_or] <;> first | rfl | omega | simp | simp_all
    have s_10101000 : ∀ ρ, keepC [0, 4, 5, 24, 26, 28] ρ = mkE O [(0, encF l), (4, .bx (eFault f)), (5, .bx (eSight x)), (24, .agg [vi f.fKind, vi f.fAt, vi f.fUntil]), (26, encF l), (28, .agg [vi f.fKind, vi f.fAt, vi f.fUntil])] → Y 5 #[true, false, true, false, true, false, false, false] ρ := by
      intro ρ hρ
      clear s_11111111 s_11111110 s_11111100 s_11111000 s_11101100 s_11110000 s_11001100
      refine hY 4 _ [0, 4, 5, 24, 26, 28] [1, 5] _ (by kernel_rfl) rfl ⟨?_, ?_, trivial⟩
      · show opX _ _ _ _ _ _
        rw [hρ]
        refine opX_of (f := true) rfl (by decide) ?_
        simp (disch := omega) only [go_sem, ↓reduceIte, Nat.reduceEqDiff, Nat.reduceLT, Nat.reduceLeDiff, Nat.reduceAdd, Nat.reduceSub, Nat.reduceMul, reduceCtorEq, Int.reduceToNat, Int.reduceNeg, secG_len, ptsG_len, bne_self_eq_false, Bool.or_self, Bool.or_false, Bool.false_or]
        repeat refine And.intro (by first | omega | assumption | (simp only [List.length_append, List.length_cons, List.length_nil]; omega) | (intros; first | omega | assumption | (simp_all; done) | grind)) ?_   -- r3.3
        refine s_11101000 _ ?_
        simp (disch := omega) only [go_sem, ↓reduceIte, Nat.reduceEqDiff, Nat.reduceLT, Nat.reduceLeDiff, Nat.reduceAdd, Nat.reduceSub, Nat.reduceMul, reduceCtorEq, Int.reduceToNat, Int.reduceNeg, secG_len, ptsG_len, bne_self_eq_false, Bool.or_self, Bool.or_false, Bool.false_or] <;> first | rfl | omega | simp | simp_all
      · show opX _ _ _ _ _ _
        rw [hρ]
        refine opX_of (f := false) rfl (by decide) ?_
        simp (disch := omega) only [go_sem, ↓reduceIte, Nat.reduceEqDiff, Nat.reduceLT, Nat.reduceLeDiff, Nat.reduceAdd, Nat.reduceSub, Nat.reduceMul, reduceCtorEq, Int.reduceToNat, Int.reduceNeg, secG_len, ptsG_len, bne_self_eq_false, Bool.or_self, Bool.or_false, Bool.false_or]
        repeat refine And.intro (by first | omega | assumption | (simp only [List.length_append, List.length_cons, List.length_nil]; omega) | (intros; first | omega | assumption | (simp_all; done) | grind)) ?_   -- r3.3
        refine s_10101100 _ ?_
        simp (disch := omega) only [go_sem, ↓reduceIte, Nat.reduceEqDiff, Nat.reduceLT, Nat.reduceLeDiff, Nat.reduceAdd, Nat.reduceSub, Nat.reduceMul, reduceCtorEq, Int.reduceToNat, Int.reduceNeg, secG_len, ptsG_len, bne_self_eq_false, Bool.or_self, Bool.or_false, Bool.false_or] <;> first | rfl | omega | simp | simp_all
    have s_10001100 : ∀ ρ, keepC [0, 4, 5, 24, 28, 29] ρ = mkE O [(0, encF l), (4, .bx (eFault f)), (5, .bx (eSight x)), (24, .agg [vi f.fKind, vi f.fAt, vi f.fUntil]), (28, .agg [vi f.fKind, vi f.fAt, vi f.fUntil]), (29, .sl 3 1 fun i => [[vi f.fKind, vi f.fAt, vi f.fUntil]].getD i [])] → Y 5 #[true, false, false, false, true, true, false, false] ρ := by
      intro ρ hρ
      clear s_11111111 s_11111110 s_11111100 s_11111000 s_11101100 s_11110000 s_11101000
      refine hY 4 _ [0, 4, 5, 24, 28, 29] [1, 2] _ (by kernel_rfl) rfl ⟨?_, ?_, trivial⟩
      · show opX _ _ _ _ _ _
        rw [hρ]
        refine opX_of (f := true) rfl (by decide) ?_
        simp (disch := omega) only [go_sem, ↓reduceIte, Nat.reduceEqDiff, Nat.reduceLT, Nat.reduceLeDiff, Nat.reduceAdd, Nat.reduceSub, Nat.reduceMul, reduceCtorEq, Int.reduceToNat, Int.reduceNeg, secG_len, ptsG_len, bne_self_eq_false, Bool.or_self, Bool.or_false, Bool.false_or]
        repeat refine And.intro (by first | omega | assumption | (simp only [List.length_append, List.length_cons, List.length_nil]; omega) | (intros; first | omega | assumption | (simp_all; done) | grind)) ?_   -- r3.3
        refine s_11001100 _ ?_
        simp (disch := omega) only [go_sem, ↓reduceIte, Nat.reduceEqDiff, Nat.reduceLT, Nat.reduceLeDiff, Nat.reduceAdd, Nat.reduceSub, Nat.reduceMul, reduceCtorEq, Int.reduceToNat, Int.reduceNeg, secG_len, ptsG_len, bne_self_eq_false, Bool.or_self, Bool.or_false, Bool.false_or] <;> first | rfl | omega | simp | simp_all
      · show opX _ _ _ _ _ _
        rw [hρ]
        refine opX_of (f := false) rfl (by decide) ?_
        simp (disch := omega) only [go_sem, ↓reduceIte, Nat.reduceEqDiff, Nat.reduceLT, Nat.reduceLeDiff, Nat.reduceAdd, Nat.reduceSub, Nat.reduceMul, reduceCtorEq, Int.reduceToNat, Int.reduceNeg, secG_len, ptsG_len, bne_self_eq_false, Bool.or_self, Bool.or_false, Bool.false_or]
        repeat refine And.intro (by first | omega | assumption | (simp only [List.length_append, List.length_cons, List.length_nil]; omega) | (intros; first | omega | assumption | (simp_all; done) | grind)) ?_   -- r3.3
        refine s_10101100 _ ?_
        simp (disch := omega) only [go_sem, ↓reduceIte, Nat.reduceEqDiff, Nat.reduceLT, Nat.reduceLeDiff, Nat.reduceAdd, Nat.reduceSub, Nat.reduceMul, reduceCtorEq, Int.reduceToNat, Int.reduceNeg, secG_len, ptsG_len, bne_self_eq_false, Bool.or_self, Bool.or_false, Bool.false_or] <;> first | rfl | omega | simp | simp_all
    have s_00101100 : ∀ ρ, keepC [0, 4, 5, 26, 28, 29] ρ = mkE O [(0, encF l), (4, .bx (eFault f)), (5, .bx (eSight x)), (26, encF l), (28, .agg [vi f.fKind, vi f.fAt, vi f.fUntil]), (29, .sl 3 1 fun i => [[vi f.fKind, vi f.fAt, vi f.fUntil]].getD i [])] → Y 5 #[false, false, true, false, true, true, false, false] ρ := by
      intro ρ hρ
      clear s_11111111 s_11111110 s_11111100 s_11111000 s_11101100 s_11110000 s_11101000 s_11001100
      refine hY 4 _ [0, 4, 5, 26, 28, 29] [0] _ (by kernel_rfl) rfl ⟨?_, trivial⟩
      · show opX _ _ _ _ _ _
        rw [hρ]
        refine opX_of (f := false) rfl (by decide) ?_
        simp (disch := omega) only [go_sem, ↓reduceIte, Nat.reduceEqDiff, Nat.reduceLT, Nat.reduceLeDiff, Nat.reduceAdd, Nat.reduceSub, Nat.reduceMul, reduceCtorEq, Int.reduceToNat, Int.reduceNeg, secG_len, ptsG_len, bne_self_eq_false, Bool.or_self, Bool.or_false, Bool.false_or]
        repeat refine And.intro (by first | omega | assumption | (simp only [List.length_append, List.length_cons, List.length_nil]; omega) | (intros; first | omega | assumption | (simp_all; done) | grind)) ?_   -- r3.3
        refine s_10101100 _ ?_
        simp (disch := omega) only [go_sem, ↓reduceIte, Nat.reduceEqDiff, Nat.reduceLT, Nat.reduceLeDiff, Nat.reduceAdd, Nat.reduceSub, Nat.reduceMul, reduceCtorEq, Int.reduceToNat, Int.reduceNeg, secG_len, ptsG_len, bne_self_eq_false, Bool.or_self, Bool.or_false, Bool.false_or] <;> first | rfl | omega | simp | simp_all
    have s_11000000 : ∀ ρ, keepC [0, 4, 5, 24, 25] ρ = mkE O [(0, encF l), (4, .bx (eFault f)), (5, .bx (eSight x)), (24, .agg [vi f.fKind, vi f.fAt, vi f.fUntil]), (25, .row 24 3 [[vi f.fKind, vi f.fAt, vi f.fUntil]])] → Y 6 #[true, true, false, false, false, false, false, false] ρ := by
      intro ρ hρ
      clear s_11111111 s_11111110 s_11111100 s_11111000 s_11101100 s_11110000 s_11101000 s_11001100 s_10101100 s_10101000 s_10001100 s_00101100
      refine hY 5 _ [0, 4, 5, 24, 25] [2, 4] _ (by kernel_rfl) rfl ⟨?_, ?_, trivial⟩
      · show opX _ _ _ _ _ _
        rw [hρ]
        refine opX_of (f := false) rfl (by decide) ?_
        simp (disch := omega) only [go_sem, ↓reduceIte, Nat.reduceEqDiff, Nat.reduceLT, Nat.reduceLeDiff, Nat.reduceAdd, Nat.reduceSub, Nat.reduceMul, reduceCtorEq, Int.reduceToNat, Int.reduceNeg, secG_len, ptsG_len, bne_self_eq_false, Bool.or_self, Bool.or_false, Bool.false_or]
        repeat refine And.intro (by first | omega | assumption | (simp only [List.length_append, List.length_cons, List.length_nil]; omega) | (intros; first | omega | assumption | (simp_all; done) | grind)) ?_   -- r3.3
        refine s_11100000 _ ?_
        simp (disch := omega) only [go_sem, ↓reduceIte, Nat.reduceEqDiff, Nat.reduceLT, Nat.reduceLeDiff, Nat.reduceAdd, Nat.reduceSub, Nat.reduceMul, reduceCtorEq, Int.reduceToNat, Int.reduceNeg, secG_len, ptsG_len, bne_self_eq_false, Bool.or_self, Bool.or_false, Bool.false_or] <;> first | rfl | omega | simp | simp_all
      · show opX _ _ _ _ _ _
        rw [hρ]
        refine opX_of (f := false) rfl (by decide) ?_
        simp (disch := omega) only [go_sem, ↓reduceIte, Nat.reduceEqDiff, Nat.reduceLT, Nat.reduceLeDiff, Nat.reduceAdd, Nat.reduceSub, Nat.reduceMul, reduceCtorEq, Int.reduceToNat, Int.reduceNeg, secG_len, ptsG_len, bne_self_eq_false, Bool.or_self, Bool.or_false, Bool.false_or]
        repeat refine And.intro (by first | omega | assumption | (simp only [List.length_append, List.length_cons, List.length_nil]; omega) | (intros; first | omega | assumption | (simp_all; done) | grind)) ?_   -- r3.3
        refine s_11001000 _ ?_
        simp (disch := omega) only [go_sem, ↓reduceIte, Nat.reduceEqDiff, Nat.reduceLT, Nat.reduceLeDiff, Nat.reduceAdd, Nat.reduceSub, Nat.reduceMul, reduceCtorEq, Int.reduceToNat, Int.reduceNeg, secG_len, ptsG_len, bne_self_eq_false, Bool.or_self, Bool.or_false, Bool.false_or] <;> first | rfl | omega | simp | simp_all
    have s_10100000 : ∀ ρ, keepC [0, 4, 5, 24, 26] ρ = mkE O [(0, encF l), (4, .bx (eFault f)), (5, .bx (eSight x)), (24, .agg [vi f.fKind, vi f.fAt, vi f.fUntil]), (26, encF l)] → Y 6 #[true, false, true, false, false, false, false, false] ρ := by
      intro ρ hρ
      clear s_11111111 s_11111110 s_11111100 s_11111000 s_11101100 s_11110000 s_11101000 s_11001100 s_10101100 s_11001000 s_10001100 s_00101100
      refine hY 5 _ [0, 4, 5, 24, 26] [1, 4] _ (by kernel_rfl) rfl ⟨?_, ?_, trivial⟩
      · show opX _ _ _ _ _ _
        rw [hρ]
        refine opX_of (f := true) rfl (by decide) ?_
        simp (disch := omega) only [go_sem, ↓reduceIte, Nat.reduceEqDiff, Nat.reduceLT, Nat.reduceLeDiff, Nat.reduceAdd, Nat.reduceSub, Nat.reduceMul, reduceCtorEq, Int.reduceToNat, Int.reduceNeg, secG_len, ptsG_len, bne_self_eq_false, Bool.or_self, Bool.or_false, Bool.false_or]
        repeat refine And.intro (by first | omega | assumption | (simp only [List.length_append, List.length_cons, List.length_nil]; omega) | (intros; first | omega | assumption | (simp_all; done) | grind)) ?_   -- r3.3
        refine s_11100000 _ ?_
        simp (disch := omega) only [go_sem, ↓reduceIte, Nat.reduceEqDiff, Nat.reduceLT, Nat.reduceLeDiff, Nat.reduceAdd, Nat.reduceSub, Nat.reduceMul, reduceCtorEq, Int.reduceToNat, Int.reduceNeg, secG_len, ptsG_len, bne_self_eq_false, Bool.or_self, Bool.or_false, Bool.false_or] <;> first | rfl | omega | simp | simp_all
      · show opX _ _ _ _ _ _
        rw [hρ]
        refine opX_of (f := false) rfl (by decide) ?_
        simp (disch := omega) only [go_sem, ↓reduceIte, Nat.reduceEqDiff, Nat.reduceLT, Nat.reduceLeDiff, Nat.reduceAdd, Nat.reduceSub, Nat.reduceMul, reduceCtorEq, Int.reduceToNat, Int.reduceNeg, secG_len, ptsG_len, bne_self_eq_false, Bool.or_self, Bool.or_false, Bool.false_or]
        repeat refine And.intro (by first | omega | assumption | (simp only [List.length_append, List.length_cons, List.length_nil]; omega) | (intros; first | omega | assumption | (simp_all; done) | grind)) ?_   -- r3.3
        refine s_10101000 _ ?_
        simp (disch := omega) only [go_sem, ↓reduceIte, Nat.reduceEqDiff, Nat.reduceLT, Nat.reduceLeDiff, Nat.reduceAdd, Nat.reduceSub, Nat.reduceMul, reduceCtorEq, Int.reduceToNat, Int.reduceNeg, secG_len, ptsG_len, bne_self_eq_false, Bool.or_self, Bool.or_false, Bool.false_or] <;> first | rfl | omega | simp | simp_all
    have s_10001000 : ∀ ρ, keepC [0, 4, 5, 24, 28] ρ = mkE O [(0, encF l), (4, .bx (eFault f)), (5, .bx (eSight x)), (24, .agg [vi f.fKind, vi f.fAt, vi f.fUntil]), (28, .agg [vi f.fKind, vi f.fAt, vi f.fUntil])] → Y 6 #[true, false, false, false, true, false, false, false] ρ := by
      intro ρ hρ
      clear s_11111111 s_11111110 s_11111100 s_11111000 s_11101100 s_11110000 s_11101000 s_11001100 s_10101100 s_11100000 s_00101100
      refine hY 5 _ [0, 4, 5, 24, 28] [1, 2, 5] _ (by kernel_rfl) rfl ⟨?_, ?_, ?_, trivial⟩
      · show opX _ _ _ _ _ _
        rw [hρ]
        refine opX_of (f := true) rfl (by decide) ?_
        simp (disch := omega) only [go_sem, ↓reduceIte, Nat.reduceEqDiff, Nat.reduceLT, Nat.reduceLeDiff, Nat.reduceAdd, Nat.reduceSub, Nat.reduceMul, reduceCtorEq, Int.reduceToNat, Int.reduceNeg, secG_len, ptsG_len, bne_self_eq_false, Bool.or_self, Bool.or_false, Bool.false_or]
        repeat refine And.intro (by first | omega | assumption | (simp only [List.length_append, List.length_cons, List.length_nil]; omega) | (intros; first | omega | assumption | (simp_all; done) | grind)) ?_   -- r3.3
        refine s_11001000 _ ?_
        simp (disch := omega) only [go_sem, ↓reduceIte, Nat.reduceEqDiff, Nat.reduceLT, Nat.reduceLeDiff, Nat.reduceAdd, Nat.reduceSub, Nat.reduceMul, reduceCtorEq, Int.reduceToNat, Int.reduceNeg, secG_len, ptsG_len, bne_self_eq_false, Bool.or_self, Bool.or_false, Bool.false_or] <;> first | rfl | omega | simp | simp_all
      · show opX _ _ _ _ _ _
        rw [hρ]
        refine opX_of (f := false) rfl (by decide) ?_
        simp (disch := omega) only [go_sem, ↓reduceIte, Nat.reduceEqDiff, Nat.reduceLT, Nat.reduceLeDiff, Nat.reduceAdd, Nat.reduceSub, Nat.reduceMul, reduceCtorEq, Int.reduceToNat, Int.reduceNeg, secG_len, ptsG_len, bne_self_eq_false, Bool.or_self, Bool.or_false, Bool.false_or]
        repeat refine And.intro (by first | omega | assumption | (simp only [List.length_append, List.length_cons, List.length_nil]; omega) | (intros; first | omega | assumption | (simp_all; done) | grind)) ?_   -- r3.3
        refine s_10101000 _ ?_
        simp (disch := omega) only [go_sem, ↓reduceIte, Nat.reduceEqDiff, Nat.reduceLT, Nat.reduceLeDiff, Nat.reduceAdd, Nat.reduceSub, Nat.reduceMul, reduceCtorEq, Int.reduceToNat, Int.reduceNeg, secG_len, ptsG_len, bne_self_eq_false, Bool.or_self, Bool.or_false, Bool.false_or] <;> first | rfl | omega | simp | simp_all
      · show opX _ _ _ _ _ _
        rw [hρ]
        refine opX_of (f := false) rfl (by decide) ?_
        simp (disch := omega) only [go_sem, ↓reduceIte, Nat.reduceEqDiff, Nat.reduceLT, Nat.reduceLeDiff, Nat.reduceAdd, Nat.reduceSub, Nat.reduceMul, reduceCtorEq, Int.reduceToNat, Int.reduceNeg, secG_len, ptsG_len, bne_self_eq_false, Bool.or_self, Bool.or_false, Bool.false_or]
        repeat refine And.intro (by first | omega | assumption | (simp only [List.length_append, List.length_cons, List.length_nil]; omega) | (intros; first | omega | assumption | (simp_all; done) | grind)) ?_   -- r3.3
        refine s_10001100 _ ?_
        simp (disch := omega) only [go_sem, ↓reduceIte, Nat.reduceEqDiff, Nat.reduceLT, Nat.reduceLeDiff, Nat.reduceAdd, Nat.reduceSub, Nat.reduceMul, reduceCtorEq, Int.reduceToNat, Int.reduceNeg, secG_len, ptsG_len, bne_self_eq_false, Bool.or_self, Bool.or_false, Bool.false_or] <;> first | rfl | omega | simp | simp_all
    have s_00101000 : ∀ ρ, keepC [0, 4, 5, 26, 28] ρ = mkE O [(0, encF l), (4, .bx (eFault f)), (5, .bx (eSight x)), (26, encF l), (28, .agg [vi f.fKind, vi f.fAt, vi f.fUntil])] → Y 6 #[false, false, true, false, true, false, false, false] ρ := by
      intro ρ hρ
      clear s_11111111 s_11111110 s_11111100 s_11111000 s_11101100 s_11110000 s_11101000 s_11001100 s_10101100 s_11100000 s_11001000 s_10001100
      refine hY 5 _ [0, 4, 5, 26, 28] [0, 5] _ (by kernel_rfl) rfl ⟨?_, ?_, trivial⟩
      · show opX _ _ _ _ _ _
        rw [hρ]
        refine opX_of (f := false) rfl (by decide) ?_
        simp (disch := omega) only [go_sem, ↓reduceIte, Nat.reduceEqDiff, Nat.reduceLT, Nat.reduceLeDiff, Nat.reduceAdd, Nat.reduceSub, Nat.reduceMul, reduceCtorEq, Int.reduceToNat, Int.reduceNeg, secG_len, ptsG_len, bne_self_eq_false, Bool.or_self, Bool.or_false, Bool.false_or]
        repeat refine And.intro (by first | omega | assumption | (simp only [List.length_append, List.length_cons, List.length_nil]; omega) | (intros; first | omega | assumption | (simp_all; done) | grind)) ?_   -- r3.3
        refine s_10101000 _ ?_
        simp (disch := omega) only [go_sem, ↓reduceIte, Nat.reduceEqDiff, Nat.reduceLT, Nat.reduceLeDiff, Nat.reduceAdd, Nat.reduceSub, Nat.reduceMul, reduceCtorEq, Int.reduceToNat, Int.reduceNeg, secG_len, ptsG_len, bne_self_eq_false, Bool.or_self, Bool.or_false, Bool.false_or] <;> first | rfl | omega | simp | simp_all
      · show opX _ _ _ _ _ _
        rw [hρ]
        refine opX_of (f := false) rfl (by decide) ?_
        simp (disch := omega) only [go_sem, ↓reduceIte, Nat.reduceEqDiff, Nat.reduceLT, Nat.reduceLeDiff, Nat.reduceAdd, Nat.reduceSub, Nat.reduceMul, reduceCtorEq, Int.reduceToNat, Int.reduceNeg, secG_len, ptsG_len, bne_self_eq_false, Bool.or_self, Bool.or_false, Bool.false_or]
        repeat refine And.intro (by first | omega | assumption | (simp only [List.length_append, List.length_cons, List.length_nil]; omega) | (intros; first | omega | assumption | (simp_all; done) | grind)) ?_   -- r3.3
        refine s_00101100 _ ?_
        simp (disch := omega) only [go_sem, ↓reduceIte, Nat.reduceEqDiff, Nat.reduceLT, Nat.reduceLeDiff, Nat.reduceAdd, Nat.reduceSub, Nat.reduceMul, reduceCtorEq, Int.reduceToNat, Int.reduceNeg, secG_len, ptsG_len, bne_self_eq_false, Bool.or_self, Bool.or_false, Bool.false_or] <;> first | rfl | omega | simp | simp_all
    have s_00001100 : ∀ ρ, keepC [0, 4, 5, 28, 29] ρ = mkE O [(0, encF l), (4, .bx (eFault f)), (5, .bx (eSight x)), (28, .agg [vi f.fKind, vi f.fAt, vi f.fUntil]), (29, .sl 3 1 fun i => [[vi f.fKind, vi f.fAt, vi f.fUntil]].getD i [])] → Y 6 #[false, false, false, false, true, true, false, false] ρ := by
      intro ρ hρ
      clear s_11111111 s_11111110 s_11111100 s_11111000 s_11101100 s_11110000 s_11101000 s_11001100 s_10101100 s_11100000 s_11001000 s_10101000
      refine hY 5 _ [0, 4, 5, 28, 29] [0, 2] _ (by kernel_rfl) rfl ⟨?_, ?_, trivial⟩
      · show opX _ _ _ _ _ _
        rw [hρ]
        refine opX_of (f := false) rfl (by decide) ?_
        simp (disch := omega) only [go_sem, ↓reduceIte, Nat.reduceEqDiff, Nat.reduceLT, Nat.reduceLeDiff, Nat.reduceAdd, Nat.reduceSub, Nat.reduceMul, reduceCtorEq, Int.reduceToNat, Int.reduceNeg, secG_len, ptsG_len, bne_self_eq_false, Bool.or_self, Bool.or_false, Bool.false_or]
        repeat refine And.intro (by first | omega | assumption | (simp only [List.length_append, List.length_cons, List.length_nil]; omega) | (intros; first | omega | assumption | (simp_all; done) | grind)) ?_   -- r3.3
        refine s_10001100 _ ?_
        simp (disch := omega) only [go_sem, ↓reduceIte, Nat.reduceEqDiff, Nat.reduceLT, Nat.reduceLeDiff, Nat.reduceAdd, Nat.reduceSub, Nat.reduceMul, reduceCtorEq, Int.reduceToNat, Int.reduceNeg, secG_len, ptsG_len, bne_self_eq_false, Bool.or_self, Bool.or_false, Bool.false_or] <;> first | rfl | omega | simp | simp_all
      · show opX _ _ _ _ _ _
        rw [hρ]
        refine opX_of (f := false) rfl (by decide) ?_
        simp (disch := omega) only [go_sem, ↓reduceIte, Nat.reduceEqDiff, Nat.reduceLT, Nat.reduceLeDiff, Nat.reduceAdd, Nat.reduceSub, Nat.reduceMul, reduceCtorEq, Int.reduceToNat, Int.reduceNeg, secG_len, ptsG_len, bne_self_eq_false, Bool.or_self, Bool.or_false, Bool.false_or]
        repeat refine And.intro (by first | omega | assumption | (simp only [List.length_append, List.length_cons, List.length_nil]; omega) | (intros; first | omega | assumption | (simp_all; done) | grind)) ?_   -- r3.3
        refine s_00101100 _ ?_
        simp (disch := omega) only [go_sem, ↓reduceIte, Nat.reduceEqDiff, Nat.reduceLT, Nat.reduceLeDiff, Nat.reduceAdd, Nat.reduceSub, Nat.reduceMul, reduceCtorEq, Int.reduceToNat, Int.reduceNeg, secG_len, ptsG_len, bne_self_eq_false, Bool.or_self, Bool.or_false, Bool.false_or] <;> first | rfl | omega | simp | simp_all
    have s_10000000 : ∀ ρ, keepC [0, 4, 5, 24] ρ = mkE O [(0, encF l), (4, .bx (eFault f)), (5, .bx (eSight x)), (24, .agg [vi f.fKind, vi f.fAt, vi f.fUntil])] → Y 7 #[true, false, false, false, false, false, false, false] ρ := by
      intro ρ hρ
      clear s_11111111 s_11111110 s_11111100 s_11111000 s_11101100 s_11110000 s_11101000 s_11001100 s_10101100 s_11100000 s_11001000 s_10101000 s_10001100 s_00101100 s_00101000 s_00001100
      refine hY 6 _ [0, 4, 5, 24] [1, 2, 4] _ (by kernel_rfl) rfl ⟨?_, ?_, ?_, trivial⟩
      · show opX _ _ _ _ _ _
        rw [hρ]
        refine opX_of (f := true) rfl (by decide) ?_
        simp (disch := omega) only [go_sem, ↓reduceIte, Nat.reduceEqDiff, Nat.reduceLT, Nat.reduceLeDiff, Nat.reduceAdd, Nat.reduceSub, Nat.reduceMul, reduceCtorEq, Int.reduceToNat, Int.reduceNeg, secG_len, ptsG_len, bne_self_eq_false, Bool.or_self, Bool.or_false, Bool.false_or]
        repeat refine And.intro (by first | omega | assumption | (simp only [List.length_append, List.length_cons, List.length_nil]; omega) | (intros; first | omega | assumption | (simp_all; done) | grind)) ?_   -- r3.3
        refine s_11000000 _ ?_
        simp (disch := omega) only [go_sem, ↓reduceIte, Nat.reduceEqDiff, Nat.reduceLT, Nat.reduceLeDiff, Nat.reduceAdd, Nat.reduceSub, Nat.reduceMul, reduceCtorEq, Int.reduceToNat, Int.reduceNeg, secG_len, ptsG_len, bne_self_eq_false, Bool.or_self, Bool.or_false, Bool.false_or] <;> first | rfl | omega | simp | simp_all
      · show opX _ _ _ _ _ _
        rw [hρ]
        refine opX_of (f := false) rfl (by decide) ?_
        simp (disch := omega) only [go_sem, ↓reduceIte, Nat.reduceEqDiff, Nat.reduceLT, Nat.reduceLeDiff, Nat.reduceAdd, Nat.reduceSub, Nat.reduceMul, reduceCtorEq, Int.reduceToNat, Int.reduceNeg, secG_len, ptsG_len, bne_self_eq_false, Bool.or_self, Bool.or_false, Bool.false_or]
        repeat refine And.intro (by first | omega | assumption | (simp only [List.length_append, List.length_cons, List.length_nil]; omega) | (intros; first | omega | assumption | (simp_all; done) | grind)) ?_   -- r3.3
        refine s_10100000 _ ?_
        simp (disch := omega) only [go_sem, ↓reduceIte, Nat.reduceEqDiff, Nat.reduceLT, Nat.reduceLeDiff, Nat.reduceAdd, Nat.reduceSub, Nat.reduceMul, reduceCtorEq, Int.reduceToNat, Int.reduceNeg, secG_len, ptsG_len, bne_self_eq_false, Bool.or_self, Bool.or_false, Bool.false_or] <;> first | rfl | omega | simp | simp_all
      · show opX _ _ _ _ _ _
        rw [hρ]
        refine opX_of (f := false) rfl (by decide) ?_
        simp (disch := omega) only [go_sem, ↓reduceIte, Nat.reduceEqDiff, Nat.reduceLT, Nat.reduceLeDiff, Nat.reduceAdd, Nat.reduceSub, Nat.reduceMul, reduceCtorEq, Int.reduceToNat, Int.reduceNeg, secG_len, ptsG_len, bne_self_eq_false, Bool.or_self, Bool.or_false, Bool.false_or]
        repeat refine And.intro (by first | omega | assumption | (simp only [List.length_append, List.length_cons, List.length_nil]; omega) | (intros; first | omega | assumption | (simp_all; done) | grind)) ?_   -- r3.3
        refine s_10001000 _ ?_
        simp (disch := omega) only [go_sem, ↓reduceIte, Nat.reduceEqDiff, Nat.reduceLT, Nat.reduceLeDiff, Nat.reduceAdd, Nat.reduceSub, Nat.reduceMul, reduceCtorEq, Int.reduceToNat, Int.reduceNeg, secG_len, ptsG_len, bne_self_eq_false, Bool.or_self, Bool.or_false, Bool.false_or] <;> first | rfl | omega | simp | simp_all
    have s_00100000 : ∀ ρ, keepC [0, 4, 5, 26] ρ = mkE O [(0, encF l), (4, .bx (eFault f)), (5, .bx (eSight x)), (26, encF l)] → Y 7 #[false, false, true, false, false, false, false, false] ρ := by
      intro ρ hρ
      clear s_11111111 s_11111110 s_11111100 s_11111000 s_11101100 s_11110000 s_11101000 s_11001100 s_10101100 s_11100000 s_11001000 s_10101000 s_10001100 s_00101100 s_11000000 s_10001000 s_00001100
      refine hY 6 _ [0, 4, 5, 26] [0, 4] _ (by kernel_rfl) rfl ⟨?_, ?_, trivial⟩
      · show opX _ _ _ _ _ _
        rw [hρ]
        refine opX_of (f := false) rfl (by decide) ?_
        simp (disch := omega) only [go_sem, ↓reduceIte, Nat.reduceEqDiff, Nat.reduceLT, Nat.reduceLeDiff, Nat.reduceAdd, Nat.reduceSub, Nat.reduceMul, reduceCtorEq, Int.reduceToNat, Int.reduceNeg, secG_len, ptsG_len, bne_self_eq_false, Bool.or_self, Bool.or_false, Bool.false_or]
        repeat refine And.intro (by first | omega | assumption | (simp only [List.length_append, List.length_cons, List.length_nil]; omega) | (intros; first | omega | assumption | (simp_all; done) | grind)) ?_   -- r3.3
        refine s_10100000 _ ?_
        simp (disch := omega) only [go_sem, ↓reduceIte, Nat.reduceEqDiff, Nat.reduceLT, Nat.reduceLeDiff, Nat.reduceAdd, Nat.reduceSub, Nat.reduceMul, reduceCtorEq, Int.reduceToNat, Int.reduceNeg, secG_len, ptsG_len, bne_self_eq_false, Bool.or_self, Bool.or_false, Bool.false_or] <;> first | rfl | omega | simp | simp_all
      · show opX _ _ _ _ _ _
        rw [hρ]
        refine opX_of (f := false) rfl (by decide) ?_
        simp (disch := omega) only [go_sem, ↓reduceIte, Nat.reduceEqDiff, Nat.reduceLT, Nat.reduceLeDiff, Nat.reduceAdd, Nat.reduceSub, Nat.reduceMul, reduceCtorEq, Int.reduceToNat, Int.reduceNeg, secG_len, ptsG_len, bne_self_eq_false, Bool.or_self, Bool.or_false, Bool.false_or]
        repeat refine And.intro (by first | omega | assumption | (simp only [List.length_append, List.length_cons, List.length_nil]; omega) | (intros; first | omega | assumption | (simp_all; done) | grind)) ?_   -- r3.3
        refine s_00101000 _ ?_
        simp (disch := omega) only [go_sem, ↓reduceIte, Nat.reduceEqDiff, Nat.reduceLT, Nat.reduceLeDiff, Nat.reduceAdd, Nat.reduceSub, Nat.reduceMul, reduceCtorEq, Int.reduceToNat, Int.reduceNeg, secG_len, ptsG_len, bne_self_eq_false, Bool.or_self, Bool.or_false, Bool.false_or] <;> first | rfl | omega | simp | simp_all
    have s_00001000 : ∀ ρ, keepC [0, 4, 5, 28] ρ = mkE O [(0, encF l), (4, .bx (eFault f)), (5, .bx (eSight x)), (28, .agg [vi f.fKind, vi f.fAt, vi f.fUntil])] → Y 7 #[false, false, false, false, true, false, false, false] ρ := by
      intro ρ hρ
      clear s_11111111 s_11111110 s_11111100 s_11111000 s_11101100 s_11110000 s_11101000 s_11001100 s_10101100 s_11100000 s_11001000 s_10101000 s_10001100 s_00101100 s_11000000 s_10100000
      refine hY 6 _ [0, 4, 5, 28] [0, 2, 5] _ (by kernel_rfl) rfl ⟨?_, ?_, ?_, trivial⟩
      · show opX _ _ _ _ _ _
        rw [hρ]
        refine opX_of (f := false) rfl (by decide) ?_
        simp (disch := omega) only [go_sem, ↓reduceIte, Nat.reduceEqDiff, Nat.reduceLT, Nat.reduceLeDiff, Nat.reduceAdd, Nat.reduceSub, Nat.reduceMul, reduceCtorEq, Int.reduceToNat, Int.reduceNeg, secG_len, ptsG_len, bne_self_eq_false, Bool.or_self, Bool.or_false, Bool.false_or]
        repeat refine And.intro (by first | omega | assumption | (simp only [List.length_append, List.length_cons, List.length_nil]; omega) | (intros; first | omega | assumption | (simp_all; done) | grind)) ?_   -- r3.3
        refine s_10001000 _ ?_
        simp (disch := omega) only [go_sem, ↓reduceIte, Nat.reduceEqDiff, Nat.reduceLT, Nat.reduceLeDiff, Nat.reduceAdd, Nat.reduceSub, Nat.reduceMul, reduceCtorEq, Int.reduceToNat, Int.reduceNeg, secG_len, ptsG_len, bne_self_eq_false, Bool.or_self, Bool.or_false, Bool.false_or] <;> first | rfl | omega | simp | simp_all
      · show opX _ _ _ _ _ _
        rw [hρ]
        refine opX_of (f := false) rfl (by decide) ?_
        simp (disch := omega) only [go_sem, ↓reduceIte, Nat.reduceEqDiff, Nat.reduceLT, Nat.reduceLeDiff, Nat.reduceAdd, Nat.reduceSub, Nat.reduceMul, reduceCtorEq, Int.reduceToNat, Int.reduceNeg, secG_len, ptsG_len, bne_self_eq_false, Bool.or_self, Bool.or_false, Bool.false_or]
        repeat refine And.intro (by first | omega | assumption | (simp only [List.length_append, List.length_cons, List.length_nil]; omega) | (intros; first | omega | assumption | (simp_all; done) | grind)) ?_   -- r3.3
        refine s_00101000 _ ?_
        simp (disch := omega) only [go_sem, ↓reduceIte, Nat.reduceEqDiff, Nat.reduceLT, Nat.reduceLeDiff, Nat.reduceAdd, Nat.reduceSub, Nat.reduceMul, reduceCtorEq, Int.reduceToNat, Int.reduceNeg, secG_len, ptsG_len, bne_self_eq_false, Bool.or_self, Bool.or_false, Bool.false_or] <;> first | rfl | omega | simp | simp_all
      · show opX _ _ _ _ _ _
        rw [hρ]
        refine opX_of (f := false) rfl (by decide) ?_
        simp (disch := omega) only [go_sem, ↓reduceIte, Nat.reduceEqDiff, Nat.reduceLT, Nat.reduceLeDiff, Nat.reduceAdd, Nat.reduceSub, Nat.reduceMul, reduceCtorEq, Int.reduceToNat, Int.reduceNeg, secG_len, ptsG_len, bne_self_eq_false, Bool.or_self, Bool.or_false, Bool.false_or]
        repeat refine And.intro (by first | omega | assumption | (simp only [List.length_append, List.length_cons, List.length_nil]; omega) | (intros; first | omega | assumption | (simp_all; done) | grind)) ?_   -- r3.3
        refine s_00001100 _ ?_
        simp (disch := omega) only [go_sem, ↓reduceIte, Nat.reduceEqDiff, Nat.reduceLT, Nat.reduceLeDiff, Nat.reduceAdd, Nat.reduceSub, Nat.reduceMul, reduceCtorEq, Int.reduceToNat, Int.reduceNeg, secG_len, ptsG_len, bne_self_eq_false, Bool.or_self, Bool.or_false, Bool.false_or] <;> first | rfl | omega | simp | simp_all
    have s_00000000 : ∀ ρ, keepC [0, 4, 5] ρ = mkE O [(0, encF l), (4, .bx (eFault f)), (5, .bx (eSight x))] → Y 8 #[false, false, false, false, false, false, false, false] ρ := by
      intro ρ hρ
      clear s_11111111 s_11111110 s_11111100 s_11111000 s_11101100 s_11110000 s_11101000 s_11001100 s_10101100 s_11100000 s_11001000 s_10101000 s_10001100 s_00101100 s_11000000 s_10100000 s_10001000 s_00101000 s_00001100
      refine hY 7 _ [0, 4, 5] [0, 2, 4] _ (by kernel_rfl) rfl ⟨?_, ?_, ?_, trivial⟩
      · show opX _ _ _ _ _ _
        rw [hρ]
        refine opX_of (f := false) rfl (by decide) ?_
        simp (disch := omega) only [go_sem, ↓reduceIte, Nat.reduceEqDiff, Nat.reduceLT, Nat.reduceLeDiff, Nat.reduceAdd, Nat.reduceSub, Nat.reduceMul, reduceCtorEq, Int.reduceToNat, Int.reduceNeg, secG_len, ptsG_len, bne_self_eq_false, Bool.or_self, Bool.or_false, Bool.false_or]
        repeat refine And.intro (by first | omega | assumption | (simp only [List.length_append, List.length_cons, List.length_nil]; omega) | (intros; first | omega | assumption | (simp_all; done) | grind)) ?_   -- r3.3
        refine s_10000000 _ ?_
        simp (disch := omega) only [go_sem, ↓reduceIte, Nat.reduceEqDiff, Nat.reduceLT, Nat.reduceLeDiff, Nat.reduceAdd, Nat.reduceSub, Nat.reduceMul, reduceCtorEq, Int.reduceToNat, Int.reduceNeg, secG_len, ptsG_len, bne_self_eq_false, Bool.or_self, Bool.or_false, Bool.false_or] <;> first | rfl | omega | simp | simp_all
      · show opX _ _ _ _ _ _
        rw [hρ]
        refine opX_of (f := false) rfl (by decide) ?_
        simp (disch := omega) only [go_sem, ↓reduceIte, Nat.reduceEqDiff, Nat.reduceLT, Nat.reduceLeDiff, Nat.reduceAdd, Nat.reduceSub, Nat.reduceMul, reduceCtorEq, Int.reduceToNat, Int.reduceNeg, secG_len, ptsG_len, bne_self_eq_false, Bool.or_self, Bool.or_false, Bool.false_or]
        repeat refine And.intro (by first | omega | assumption | (simp only [List.length_append, List.length_cons, List.length_nil]; omega) | (intros; first | omega | assumption | (simp_all; done) | grind)) ?_   -- r3.3
        refine s_00100000 _ ?_
        simp (disch := omega) only [go_sem, ↓reduceIte, Nat.reduceEqDiff, Nat.reduceLT, Nat.reduceLeDiff, Nat.reduceAdd, Nat.reduceSub, Nat.reduceMul, reduceCtorEq, Int.reduceToNat, Int.reduceNeg, secG_len, ptsG_len, bne_self_eq_false, Bool.or_self, Bool.or_false, Bool.false_or] <;> first | rfl | omega | simp | simp_all
      · show opX _ _ _ _ _ _
        rw [hρ]
        refine opX_of (f := false) rfl (by decide) ?_
        simp (disch := omega) only [go_sem, ↓reduceIte, Nat.reduceEqDiff, Nat.reduceLT, Nat.reduceLeDiff, Nat.reduceAdd, Nat.reduceSub, Nat.reduceMul, reduceCtorEq, Int.reduceToNat, Int.reduceNeg, secG_len, ptsG_len, bne_self_eq_false, Bool.or_self, Bool.or_false, Bool.false_or]
        repeat refine And.intro (by first | omega | assumption | (simp only [List.length_append, List.length_cons, List.length_nil]; omega) | (intros; first | omega | assumption | (simp_all; done) | grind)) ?_   -- r3.3
        refine s_00001000 _ ?_
        simp (disch := omega) only [go_sem, ↓reduceIte, Nat.reduceEqDiff, Nat.reduceLT, Nat.reduceLeDiff, Nat.reduceAdd, Nat.reduceSub, Nat.reduceMul, reduceCtorEq, Int.reduceToNat, Int.reduceNeg, secG_len, ptsG_len, bne_self_eq_false, Bool.or_self, Bool.or_false, Bool.false_or] <;> first | rfl | omega | simp | simp_all
    refine s_00000000 _ ?_
    simp (disch := omega) only [go_sem, ↓reduceIte, Nat.reduceEqDiff, Nat.reduceLT, Nat.reduceLeDiff, Nat.reduceAdd, Nat.reduceSub, Nat.reduceMul, reduceCtorEq, Int.reduceToNat, Int.reduceNeg, secG_len, ptsG_len, bne_self_eq_false, Bool.or_self, Bool.or_false, Bool.false_or] <;> first | rfl | omega | simp | simp_all

end Go.Sg
