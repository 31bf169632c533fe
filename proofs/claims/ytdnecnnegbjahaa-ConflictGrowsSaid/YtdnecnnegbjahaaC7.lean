/- The law that conflicts grow: with one setting or section more, routes still conflict. Printed by genw.py. -/
import Derived.Test.YtdnecnnegbjahaaC4
set_option linter.unusedVariables false
set_option linter.unusedSimpArgs false
namespace Go.Sg
open Go.Proofs
abbrev zRt : List DV := [.v (.string { data := #[] }), vi 0, vi 0, .v (.slice none 0 0), .v (.slice none 0 0), .v (.slice none 0 0), vi 0, vi 0, .v (.slice none 0 0), .v (.slice none 0 0), .v (.slice none 0 0), .v (.slice none 0 0), .v (.slice none 0 0), .v (.slice none 0 0)]
def rtCf (a : Route) (x : Setting) : Route := ⟨a.fName, a.fEntry, a.fExit, a.fPath, a.fPoints, a.fSections, a.fApproach, a.fLength, a.fOver, a.fOverPoints, a.fOverSections, a.fFlank ++ [x], a.fGuards, a.fGaps⟩
def rtDo (a : Route) (x : Setting) : Route := ⟨a.fName, a.fEntry, a.fExit, a.fPath, a.fPoints, a.fSections, a.fApproach, a.fLength, a.fOver, x :: a.fOverPoints, a.fOverSections, a.fFlank, a.fGuards, a.fGaps⟩
def rtEs (a : Route) (c : Int) : Route := ⟨a.fName, a.fEntry, a.fExit, a.fPath, a.fPoints, a.fSections ++ [c], a.fApproach, a.fLength, a.fOver, a.fOverPoints, a.fOverSections, a.fFlank, a.fGuards, a.fGaps⟩
def rtFv (a : Route) (c : Int) : Route := ⟨a.fName, a.fEntry, a.fExit, a.fPath, a.fPoints, a.fSections, a.fApproach, a.fLength, a.fOver, a.fOverPoints, c :: a.fOverSections, a.fFlank, a.fGuards, a.fGaps⟩
theorem sml_C {a : Route} {x : Setting} (h : smlB a = true) : Sml (rtCf a x) := by unfold smlB at h; have h := of_decide_eq_true h; constructor <;> simp [rtCf] <;> omega
theorem sml_D {a : Route} {x : Setting} (h : smlB a = true) : Sml (rtDo a x) := by unfold smlB at h; have h := of_decide_eq_true h; constructor <;> simp [rtDo] <;> omega
theorem sml_E {a : Route} {c : Int} (h : smlB a = true) : Sml (rtEs a c) := by unfold smlB at h; have h := of_decide_eq_true h; constructor <;> simp [rtEs] <;> omega
theorem sml_F {a : Route} {c : Int} (h : smlB a = true) : Sml (rtFv a c) := by unfold smlB at h; have h := of_decide_eq_true h; constructor <;> simp [rtFv] <;> omega
theorem bet_ne {a b : Route} : betB a b ≠ 0 ↔ agrB (setL a) (setL b) = false ∨ metB a.fSections b.fSections = true ∨ beyB a b = true ∨ ovlB a b = true := by
  unfold betB bt1 bt2 bt3
  cases agrB (setL a) (setL b) <;> cases metB a.fSections b.fSections <;> cases beyB a b <;> cases ovlB a b <;> simp
theorem agr_mono {l l' m : List Setting} (h : ∀ s ∈ l, s ∈ l') (hf : agrB l m = false) : agrB l' m = false := by
  cases hc : agrB l' m with
  | false => rfl
  | true =>
    rw [agr_iff] at hc
    have : agrB l m = true := (agr_iff l m).2 fun s hs => hc s (h s hs)
    rw [this] at hf; cases hf
theorem met_mono {l l' m : List Int} (h : ∀ s ∈ l, s ∈ l') (hf : metB l m = true) : metB l' m = true := by
  rw [met_iff] at hf ⊢
  obtain ⟨x, h1, h2⟩ := hf
  exact ⟨x, h x h1, h2⟩
theorem met_mono' {l l' m : List Int} (h : ∀ s ∈ l, s ∈ l') (hf : metB m l = true) : metB m l' = true := by
  rw [met_symm] at hf ⊢; exact met_mono h hf
theorem grow_C {a b : Route} {x : Setting} (h : betB a b ≠ 0) : betB (rtCf a x) b ≠ 0 := by
  rw [bet_ne] at h ⊢
  rcases h with h | h | h | h
  · exact .inl (agr_mono (fun s hs => by rw [setL_eq] at hs ⊢; simp only [rtCf, List.mem_append] at hs ⊢; rcases hs with (h | h) | h <;> simp [h]) h)
  · exact .inr (.inl h)
  · exact .inr (.inr (.inl h))
  · exact .inr (.inr (.inr h))
theorem grow_D {a b : Route} {x : Setting} (h : betB a b ≠ 0) : betB (rtDo a x) b ≠ 0 := by
  rw [bet_ne] at h ⊢
  rcases h with h | h | h | h
  · exact .inl (agr_mono (fun s hs => by rw [setL_eq] at hs ⊢; simp only [rtDo, List.mem_append, List.mem_cons] at hs ⊢; rcases hs with (h | h) | h <;> simp [h]) h)
  · exact .inr (.inl h)
  · exact .inr (.inr (.inl h))
  · exact .inr (.inr (.inr h))
theorem grow_E {a b : Route} {c : Int} (h : betB a b ≠ 0) : betB (rtEs a c) b ≠ 0 := by
  rw [bet_ne] at h ⊢
  have hm : ∀ s ∈ a.fSections, s ∈ (rtEs a c).fSections := fun s hs => by simp [rtEs, hs]
  rcases h with h | h | h | h
  · exact .inl h
  · exact .inr (.inl (met_mono hm h))
  · refine .inr (.inr (.inl ?_))
    unfold beyB at h ⊢
    rw [Bool.or_eq_true, Bool.and_eq_true, Bool.and_eq_true] at h ⊢
    rcases h with h | h
    · exact .inl h
    · exact .inr ⟨met_mono' hm h.1, h.2⟩
  · exact .inr (.inr (.inr h))
theorem grow_F {a b : Route} {c : Int} (h : betB a b ≠ 0) : betB (rtFv a c) b ≠ 0 := by
  rw [bet_ne] at h ⊢
  have hm : ∀ s ∈ a.fOverSections, s ∈ (rtFv a c).fOverSections := fun s hs => by simp [rtFv, hs]
  rcases h with h | h | h | h
  · exact .inl h
  · exact .inr (.inl h)
  · refine .inr (.inr (.inl ?_))
    unfold beyB at h ⊢
    rw [Bool.or_eq_true, Bool.and_eq_true, Bool.and_eq_true] at h ⊢
    rcases h with h | h
    · exact .inl ⟨met_mono hm h.1, h.2⟩
    · exact .inr h
  · refine .inr (.inr (.inr ?_))
    unfold ovlB at h ⊢
    rw [Bool.and_eq_true, Bool.and_eq_true] at h ⊢
    exact ⟨⟨met_mono hm h.1.1, h.1.2⟩, h.2⟩

set_option maxRecDepth 20000 in
set_option maxHeartbeats 8000000 in
theorem law15_ConflictGrows_ok (O : Env) (a b : Route) (x : Setting) (c : Int) (ka : okRoute a) (kb : okRoute b) : PCall Try.prog O 11 [.agg (eRoute a), .agg (eRoute b), .agg (eSetting x), vi c] (vb true) := by
  -- signalling/signallinglaw15.ConflictGrows
  refine pcall_of_aw Try.func11 rfl (by kernel_rfl) ?_
  refine aw_seq fun K0 hK0 => ?_
  refine aw_reg [0, 1, 2, 3] (by kernel_rfl) ?_   -- r0.0
  simp (disch := omega) only [go_sem, ↓reduceIte, Nat.reduceEqDiff, Nat.reduceLT, Nat.reduceLeDiff, Nat.reduceAdd, Nat.reduceSub, Nat.reduceMul, reduceCtorEq, Int.reduceToNat, Int.reduceNeg, rtCf, rtDo, rtEs, rtFv]
  repeat refine And.intro (by first | omega | assumption | (simp only [List.length_append, List.length_cons, List.length_nil]; omega) | (intros; first | omega | assumption | (simp_all; done) | grind)) ?_   -- r0.0
  refine hK0 _ ?_; clear hK0
  refine aw_seq fun K1 hK1 => ?_
  refine aw_seq fun K2 hK2 => ?_
  refine aw_reg [3, 4, 5, 6] (by kernel_rfl) ?_   -- r1.1
  simp (disch := omega) only [go_sem, ↓reduceIte, Nat.reduceEqDiff, Nat.reduceLT, Nat.reduceLeDiff, Nat.reduceAdd, Nat.reduceSub, Nat.reduceMul, reduceCtorEq, Int.reduceToNat, Int.reduceNeg, rtCf, rtDo, rtEs, rtFv]
  repeat refine And.intro (by first | omega | assumption | (simp only [List.length_append, List.length_cons, List.length_nil]; omega) | (intros; first | omega | assumption | (simp_all; done) | grind)) ?_   -- r1.1
  refine callG_of _ (law15_small_ok _ a (bnd_of ka)) ?_   -- r1.1#0
  simp (disch := omega) only [go_sem, ↓reduceIte, Nat.reduceEqDiff, Nat.reduceLT, Nat.reduceLeDiff, Nat.reduceAdd, Nat.reduceSub, Nat.reduceMul, reduceCtorEq, Int.reduceToNat, Int.reduceNeg, rtCf, rtDo, rtEs, rtFv]
  repeat refine And.intro (by first | omega | assumption | (simp only [List.length_append, List.length_cons, List.length_nil]; omega) | (intros; first | omega | assumption | (simp_all; done) | grind)) ?_   -- r1.1
  refine callC_to (fun g0 => law15_small_ok _ b (bnd_of kb)) ?_ ?_ ?_   -- r1.1#1
  · first | exact fun _ => trivial | simp
  · rfl
  simp (disch := omega) only [go_sem, ↓reduceIte, Nat.reduceEqDiff, Nat.reduceLT, Nat.reduceLeDiff, Nat.reduceAdd, Nat.reduceSub, Nat.reduceMul, reduceCtorEq, Int.reduceToNat, Int.reduceNeg, rtCf, rtDo, rtEs, rtFv]
  repeat refine And.intro (by first | omega | assumption | (simp only [List.length_append, List.length_cons, List.length_nil]; omega) | (intros; first | omega | assumption | (simp_all; done) | grind)) ?_   -- r1.1
  refine callC_to (fun g1 => conflict_Between_ok _ a b (sml_of (by revert g1; cases smlB a <;> cases smlB b <;> simp)) (sml_of (by revert g1; cases smlB a <;> cases smlB b <;> simp))) ?_ ?_ ?_   -- r1.1#2
  · first | exact fun _ => trivial | simp
  · rfl
  simp (disch := omega) only [go_sem, ↓reduceIte, Nat.reduceEqDiff, Nat.reduceLT, Nat.reduceLeDiff, Nat.reduceAdd, Nat.reduceSub, Nat.reduceMul, reduceCtorEq, Int.reduceToNat, Int.reduceNeg, rtCf, rtDo, rtEs, rtFv]
  repeat refine And.intro (by first | omega | assumption | (simp only [List.length_append, List.length_cons, List.length_nil]; omega) | (intros; first | omega | assumption | (simp_all; done) | grind)) ?_   -- r1.1
  refine hK2 _ ?_; clear hK2
  refine aw_cond _ (by rfl) (rfl) (fun c0 => ?_) (fun c0 => ?_)   -- c0
  · try simp only [decide_eq_true_eq, decide_eq_false_iff_not, Bool.not_eq_true', Bool.not_eq_false', beq_iff_eq, bne_iff_ne, beq_eq_false_iff_ne, bne_eq_false_iff_eq, Bool.not_eq_true, Bool.not_eq_false, Int.not_lt, Int.not_le, Nat.not_lt, Nat.not_le, ne_eq, Int.ofNat_inj, Bool.and_eq_true, Bool.or_eq_true, Bool.and_eq_false_iff, Bool.or_eq_false_iff, Bool.not_eq_eq_eq_not, Bool.not_true, Bool.not_false] at c0   -- c0.t
    refine aw_seq fun K3 hK3 => ?_
    refine aw_reg [] (by kernel_rfl) ?_   -- r2.2
    simp (disch := omega) only [go_sem, ↓reduceIte, Nat.reduceEqDiff, Nat.reduceLT, Nat.reduceLeDiff, Nat.reduceAdd, Nat.reduceSub, Nat.reduceMul, reduceCtorEq, Int.reduceToNat, Int.reduceNeg, rtCf, rtDo, rtEs, rtFv]
    repeat refine And.intro (by first | omega | assumption | (simp only [List.length_append, List.length_cons, List.length_nil]; omega) | (intros; first | omega | assumption | (simp_all; done) | grind)) ?_   -- r2.2
    refine callG_of _ (law15_alive_ok _ ) ?_   -- r2.2#0
    simp (disch := omega) only [go_sem, ↓reduceIte, Nat.reduceEqDiff, Nat.reduceLT, Nat.reduceLeDiff, Nat.reduceAdd, Nat.reduceSub, Nat.reduceMul, reduceCtorEq, Int.reduceToNat, Int.reduceNeg, rtCf, rtDo, rtEs, rtFv]
    repeat refine And.intro (by first | omega | assumption | (simp only [List.length_append, List.length_cons, List.length_nil]; omega) | (intros; first | omega | assumption | (simp_all; done) | grind)) ?_   -- r2.2
    refine hK3 _ ?_; clear hK3
    refine aw_ret ?_
    refine ret_tmp 8 rfl (by simp (disch := omega) only [go_sem, ↓reduceIte, Nat.reduceEqDiff, Nat.reduceLT, Nat.reduceLeDiff, Nat.reduceAdd, Nat.reduceSub, Nat.reduceMul, reduceCtorEq, Int.reduceToNat, Int.reduceNeg, rtCf, rtDo, rtEs, rtFv]) ?_   -- ret0
    exact Exp.is (by simp (disch := omega) only [go_sem, ↓reduceIte, Nat.reduceEqDiff, Nat.reduceLT, Nat.reduceLeDiff, Nat.reduceAdd, Nat.reduceSub, Nat.reduceMul, reduceCtorEq, Int.reduceToNat, Int.reduceNeg, rtCf, rtDo, rtEs, rtFv] <;> refine congrArg vb ?_ <;> (first | assumption | omega | (simp only [List.length_append, List.length_cons, List.length_nil] at *; omega) | (simp_all; done))) rfl rfl
  · try simp only [decide_eq_true_eq, decide_eq_false_iff_not, Bool.not_eq_true', Bool.not_eq_false', beq_iff_eq, bne_iff_ne, beq_eq_false_iff_ne, bne_eq_false_iff_eq, Bool.not_eq_true, Bool.not_eq_false, Int.not_lt, Int.not_le, Nat.not_lt, Nat.not_le, ne_eq, Int.ofNat_inj, Bool.and_eq_true, Bool.or_eq_true, Bool.and_eq_false_iff, Bool.or_eq_false_iff, Bool.not_eq_eq_eq_not, Bool.not_true, Bool.not_false] at c0   -- c0.f
    have sa := sml_of c0.1.1
    have sb := sml_of c0.1.2
    have h0 := c0.2
    obtain ⟨l1, l2, l3, l4, l5⟩ := sa
    refine aw_skip ?_
    refine hK1 _ ?_; clear hK1
    refine aw_seq fun K4 hK4 => ?_
    refine aw_drawX [3, 4, 5, 6] [] [] mixed (by kernel_rfl) (fun Y hY hYm hY0 => ?_)
    have t12 : ∀ ρ, keepC [3, 4, 5, 6, 28, 29, 30, 31, 9, 10, 11, 12] ρ = mkE O [(3, vi c), (4, .bx (eRoute a)), (5, .bx (eRoute b)), (6, .bx (eSetting x)), (28, .agg (eRoute a)), (29, .agg (eRoute a)), (30, .agg (eRoute a)), (31, .agg (eRoute a)), (9, .bx (eRoute a)), (10, .bx (eRoute a)), (11, .bx (eRoute a)), (12, .bx (eRoute a))] → Y 0 #[true, true, true, true, true, true, true, true, true, true, true, true] ρ := by
      intro ρ hρ
      refine hY0 _ [3, 4, 5, 6, 28, 29, 30, 31, 9, 10, 11, 12] _ (by kernel_rfl) ?_
      rw [hρ]
      clear hY hYm hY0 hρ
      simp (disch := omega) only [go_sem, ↓reduceIte, Nat.reduceEqDiff, Nat.reduceLT, Nat.reduceLeDiff, Nat.reduceAdd, Nat.reduceSub, Nat.reduceMul, reduceCtorEq, Int.reduceToNat, Int.reduceNeg, rtCf, rtDo, rtEs, rtFv]
      repeat refine And.intro (by first | omega | assumption | (simp only [List.length_append, List.length_cons, List.length_nil]; omega) | (intros; first | omega | assumption | (simp_all; done) | grind)) ?_   -- r3.3
      refine hK4 _ ?_; clear hK4
      refine aw_seq fun K5 hK5 => ?_
      refine aw_drawX [3, 4, 5, 6, 9, 10, 11, 12] [6] [] mixed (by kernel_rfl) (fun Y hY hYm hY0 => ?_)   -- r4.4
      have s_111111111 : ∀ ρ, keepC [3, 4, 5, 6, 9, 10, 11, 12, 33, 34, 36, 37, 38, 39] ρ = mkE O [(3, vi c), (4, .bx (eRoute a)), (5, .bx (eRoute b)), (6, .bx (eSetting x)), (9, .bx (eRoute (rtCf a x))), (10, .bx (eRoute a)), (11, .bx (eRoute a)), (12, .bx (eRoute a)), (33, .bp 4 11), (34, encS a.fFlank), (36, .agg [vi x.fEl, vi x.fPos]), (37, .sl 2 1 fun i => [[vi x.fEl, vi x.fPos]].getD i []), (38, encS (a.fFlank ++ [x])), (39, .bp 9 11)] → Y 0 #[true, true, true, true, true, true, true, true, true] ρ := by
        intro ρ hρ
        refine hY0 _ [3, 4, 5, 6, 9, 10, 11, 12, 33, 34, 36, 37, 38, 39] _ (by kernel_rfl) ?_
        rw [hρ]
        clear hY hYm hY0 hρ
        simp (disch := omega) only [go_sem, ↓reduceIte, Nat.reduceEqDiff, Nat.reduceLT, Nat.reduceLeDiff, Nat.reduceAdd, Nat.reduceSub, Nat.reduceMul, reduceCtorEq, Int.reduceToNat, Int.reduceNeg, rtCf, rtDo, rtEs, rtFv]
        repeat refine And.intro (by first | omega | assumption | (simp only [List.length_append, List.length_cons, List.length_nil]; omega) | (intros; first | omega | assumption | (simp_all; done) | grind)) ?_   -- r4.4
        refine hK5 _ ?_; clear hK5
        refine aw_seq fun K6 hK6 => ?_
        refine aw_regIp [3, 4, 5, 6, 9, 10, 11, 12] [] [1, 4] (by kernel_rfl) (fun q hq => ?_) (by kernel_rfl)   -- r5.5
        cases hq
        simp (disch := omega) only [go_sem, ↓reduceIte, Nat.reduceEqDiff, Nat.reduceLT, Nat.reduceLeDiff, Nat.reduceAdd, Nat.reduceSub, Nat.reduceMul, reduceCtorEq, Int.reduceToNat, Int.reduceNeg, rtCf, rtDo, rtEs, rtFv]
        repeat refine And.intro (by first | omega | assumption | (simp only [List.length_append, List.length_cons, List.length_nil]; omega) | (intros; first | omega | assumption | (simp_all; done) | grind)) ?_   -- r5.5
        refine settle_of (encL _ eSetting (x :: a.fOverPoints)) (RWk.frzL eSetting (x :: a.fOverPoints)) rfl ?_
        simp (disch := omega) only [go_sem, ↓reduceIte, Nat.reduceEqDiff, Nat.reduceLT, Nat.reduceLeDiff, Nat.reduceAdd, Nat.reduceSub, Nat.reduceMul, reduceCtorEq, Int.reduceToNat, Int.reduceNeg, rtCf, rtDo, rtEs, rtFv]
        repeat refine And.intro (by first | omega | assumption | (simp only [List.length_append, List.length_cons, List.length_nil]; omega) | (intros; first | omega | assumption | (simp_all; done) | grind)) ?_   -- r5.5
        refine hK6 _ ?_; clear hK6
        refine aw_seq fun K7 hK7 => ?_
        refine aw_regIp [3, 4, 5, 9, 10, 11, 12] [] [6] (by kernel_rfl) (fun q hq => ?_) (by kernel_rfl)   -- r6.6
        cases hq
        simp (disch := omega) only [go_sem, ↓reduceIte, Nat.reduceEqDiff, Nat.reduceLT, Nat.reduceLeDiff, Nat.reduceAdd, Nat.reduceSub, Nat.reduceMul, reduceCtorEq, Int.reduceToNat, Int.reduceNeg, rtCf, rtDo, rtEs, rtFv]
        repeat refine And.intro (by first | omega | assumption | (simp only [List.length_append, List.length_cons, List.length_nil]; omega) | (intros; first | omega | assumption | (simp_all; done) | grind)) ?_   -- r6.6
        refine settle_of (encL _ eI _) (RWk.frzL eI _) rfl ?_
        simp (disch := omega) only [go_sem, ↓reduceIte, Nat.reduceEqDiff, Nat.reduceLT, Nat.reduceLeDiff, Nat.reduceAdd, Nat.reduceSub, Nat.reduceMul, reduceCtorEq, Int.reduceToNat, Int.reduceNeg, rtCf, rtDo, rtEs, rtFv]
        repeat refine And.intro (by first | omega | assumption | (simp only [List.length_append, List.length_cons, List.length_nil]; omega) | (intros; first | omega | assumption | (simp_all; done) | grind)) ?_   -- r6.6
        refine hK7 _ ?_; clear hK7
        refine aw_seq fun K8 hK8 => ?_
        refine aw_regIp [3, 4, 5, 9, 10, 11, 12] [] [1, 4] (by kernel_rfl) (fun q hq => ?_) (by kernel_rfl)   -- r7.7
        cases hq
        simp (disch := omega) only [go_sem, ↓reduceIte, Nat.reduceEqDiff, Nat.reduceLT, Nat.reduceLeDiff, Nat.reduceAdd, Nat.reduceSub, Nat.reduceMul, reduceCtorEq, Int.reduceToNat, Int.reduceNeg, rtCf, rtDo, rtEs, rtFv]
        repeat refine And.intro (by first | omega | assumption | (simp only [List.length_append, List.length_cons, List.length_nil]; omega) | (intros; first | omega | assumption | (simp_all; done) | grind)) ?_   -- r7.7
        refine settle_of (encL _ eI (c :: a.fOverSections)) (RWk.frzL eI (c :: a.fOverSections)) rfl ?_
        simp (disch := omega) only [go_sem, ↓reduceIte, Nat.reduceEqDiff, Nat.reduceLT, Nat.reduceLeDiff, Nat.reduceAdd, Nat.reduceSub, Nat.reduceMul, reduceCtorEq, Int.reduceToNat, Int.reduceNeg, rtCf, rtDo, rtEs, rtFv]
        repeat refine And.intro (by first | omega | assumption | (simp only [List.length_append, List.length_cons, List.length_nil]; omega) | (intros; first | omega | assumption | (simp_all; done) | grind)) ?_   -- r7.7
        refine hK8 _ ?_; clear hK8
        refine aw_seq fun K9 hK9 => ?_
        refine aw_reg [5, 9, 10, 11, 12] (by kernel_rfl) ?_   -- r8.8
        simp (disch := omega) only [go_sem, ↓reduceIte, Nat.reduceEqDiff, Nat.reduceLT, Nat.reduceLeDiff, Nat.reduceAdd, Nat.reduceSub, Nat.reduceMul, reduceCtorEq, Int.reduceToNat, Int.reduceNeg, rtCf, rtDo, rtEs, rtFv]
        repeat refine And.intro (by first | omega | assumption | (simp only [List.length_append, List.length_cons, List.length_nil]; omega) | (intros; first | omega | assumption | (simp_all; done) | grind)) ?_   -- r8.8
        refine callG_of _ (conflict_Between_ok _ (rtCf a x) b (sml_C c0.1.1) sb) ?_   -- r8.8#0
        simp (disch := omega) only [go_sem, ↓reduceIte, Nat.reduceEqDiff, Nat.reduceLT, Nat.reduceLeDiff, Nat.reduceAdd, Nat.reduceSub, Nat.reduceMul, reduceCtorEq, Int.reduceToNat, Int.reduceNeg, rtCf, rtDo, rtEs, rtFv]
        repeat refine And.intro (by first | omega | assumption | (simp only [List.length_append, List.length_cons, List.length_nil]; omega) | (intros; first | omega | assumption | (simp_all; done) | grind)) ?_   -- r8.8
        refine callC_to (fun g2 => conflict_Between_ok _ (rtDo a x) b (sml_D c0.1.1) sb) ?_ ?_ ?_   -- r8.8#1
        · first | exact fun _ => trivial | simp
        · rfl
        simp (disch := omega) only [go_sem, ↓reduceIte, Nat.reduceEqDiff, Nat.reduceLT, Nat.reduceLeDiff, Nat.reduceAdd, Nat.reduceSub, Nat.reduceMul, reduceCtorEq, Int.reduceToNat, Int.reduceNeg, rtCf, rtDo, rtEs, rtFv]
        repeat refine And.intro (by first | omega | assumption | (simp only [List.length_append, List.length_cons, List.length_nil]; omega) | (intros; first | omega | assumption | (simp_all; done) | grind)) ?_   -- r8.8
        refine callC_to (fun g3 => conflict_Between_ok _ (rtEs a c) b (sml_E c0.1.1) sb) ?_ ?_ ?_   -- r8.8#2
        · first | exact fun _ => trivial | simp
        · rfl
        simp (disch := omega) only [go_sem, ↓reduceIte, Nat.reduceEqDiff, Nat.reduceLT, Nat.reduceLeDiff, Nat.reduceAdd, Nat.reduceSub, Nat.reduceMul, reduceCtorEq, Int.reduceToNat, Int.reduceNeg, rtCf, rtDo, rtEs, rtFv]
        repeat refine And.intro (by first | omega | assumption | (simp only [List.length_append, List.length_cons, List.length_nil]; omega) | (intros; first | omega | assumption | (simp_all; done) | grind)) ?_   -- r8.8
        refine callC_to (fun g4 => conflict_Between_ok _ (rtFv a c) b (sml_F c0.1.1) sb) ?_ ?_ ?_   -- r8.8#3
        · first | exact fun _ => trivial | simp
        · rfl
        simp (disch := omega) only [go_sem, ↓reduceIte, Nat.reduceEqDiff, Nat.reduceLT, Nat.reduceLeDiff, Nat.reduceAdd, Nat.reduceSub, Nat.reduceMul, reduceCtorEq, Int.reduceToNat, Int.reduceNeg, rtCf, rtDo, rtEs, rtFv]
        repeat refine And.intro (by first | omega | assumption | (simp only [List.length_append, List.length_cons, List.length_nil]; omega) | (intros; first | omega | assumption | (simp_all; done) | grind)) ?_   -- r8.8
        refine callC_to (fun g5 => law15_alive_ok _ ) ?_ ?_ ?_   -- r8.8#4
        · first | exact fun _ => trivial | simp
        · rfl
        simp (disch := omega) only [go_sem, ↓reduceIte, Nat.reduceEqDiff, Nat.reduceLT, Nat.reduceLeDiff, Nat.reduceAdd, Nat.reduceSub, Nat.reduceMul, reduceCtorEq, Int.reduceToNat, Int.reduceNeg, rtCf, rtDo, rtEs, rtFv]
        repeat refine And.intro (by first | omega | assumption | (simp only [List.length_append, List.length_cons, List.length_nil]; omega) | (intros; first | omega | assumption | (simp_all; done) | grind)) ?_   -- r8.8
        refine hK9 _ ?_; clear hK9
        refine aw_ret ?_
        refine ret_tmp 8 rfl (by simp (disch := omega) only [go_sem, ↓reduceIte, Nat.reduceEqDiff, Nat.reduceLT, Nat.reduceLeDiff, Nat.reduceAdd, Nat.reduceSub, Nat.reduceMul, reduceCtorEq, Int.reduceToNat, Int.reduceNeg, rtCf, rtDo, rtEs, rtFv]) ?_   -- ret1
        exact Exp.is (by simp (disch := omega) only [go_sem, ↓reduceIte, Nat.reduceEqDiff, Nat.reduceLT, Nat.reduceLeDiff, Nat.reduceAdd, Nat.reduceSub, Nat.reduceMul, reduceCtorEq, Int.reduceToNat, Int.reduceNeg, rtCf, rtDo, rtEs, rtFv] <;> refine congrArg vb ?_ <;> (have g1 := grow_C (x := x) h0; have g2 := grow_D (x := x) h0; have g3 := grow_E (c := c) h0; have g4 := grow_F (c := c) h0; simp; exact ⟨⟨⟨g1, g2⟩, g3⟩, g4⟩)) rfl rfl
      have s_111111110 : ∀ ρ, keepC [3, 4, 5, 6, 9, 10, 11, 12, 33, 34, 36, 37, 38, 39] ρ = mkE O [(3, vi c), (4, .bx (eRoute a)), (5, .bx (eRoute b)), (6, .bx (eSetting x)), (9, .bx (eRoute a)), (10, .bx (eRoute a)), (11, .bx (eRoute a)), (12, .bx (eRoute a)), (33, .bp 4 11), (34, encS a.fFlank), (36, .agg [vi x.fEl, vi x.fPos]), (37, .sl 2 1 fun i => [[vi x.fEl, vi x.fPos]].getD i []), (38, encS (a.fFlank ++ [x])), (39, .bp 9 11)] → Y 1 #[true, true, true, true, true, true, true, true, false] ρ := by
        intro ρ hρ
        refine hY 0 _ [3, 4, 5, 6, 9, 10, 11, 12, 33, 34, 36, 37, 38, 39] [8] _ (by kernel_rfl) rfl ⟨?_, trivial⟩
        · show opX _ _ _ _ _ _
          rw [hρ]
          refine opX_of (f := false) rfl (by decide) ?_
          simp (disch := omega) only [go_sem, ↓reduceIte, Nat.reduceEqDiff, Nat.reduceLT, Nat.reduceLeDiff, Nat.reduceAdd, Nat.reduceSub, Nat.reduceMul, reduceCtorEq, Int.reduceToNat, Int.reduceNeg, rtCf, rtDo, rtEs, rtFv]
          repeat refine And.intro (by first | omega | assumption | (simp only [List.length_append, List.length_cons, List.length_nil]; omega) | (intros; first | omega | assumption | (simp_all; done) | grind)) ?_   -- r4.4
          refine s_111111111 _ ?_
          simp (disch := omega) only [go_sem, ↓reduceIte, Nat.reduceEqDiff, Nat.reduceLT, Nat.reduceLeDiff, Nat.reduceAdd, Nat.reduceSub, Nat.reduceMul, reduceCtorEq, Int.reduceToNat, Int.reduceNeg, rtCf, rtDo, rtEs, rtFv] <;> first | rfl | omega | simp | simp_all
      have s_111111100 : ∀ ρ, keepC [3, 4, 5, 6, 9, 10, 11, 12, 33, 34, 36, 37, 38] ρ = mkE O [(3, vi c), (4, .bx (eRoute a)), (5, .bx (eRoute b)), (6, .bx (eSetting x)), (9, .bx (eRoute a)), (10, .bx (eRoute a)), (11, .bx (eRoute a)), (12, .bx (eRoute a)), (33, .bp 4 11), (34, encS a.fFlank), (36, .agg [vi x.fEl, vi x.fPos]), (37, .sl 2 1 fun i => [[vi x.fEl, vi x.fPos]].getD i []), (38, encS (a.fFlank ++ [x]))] → Y 2 #[true, true, true, true, true, true, true, false, false] ρ := by
        intro ρ hρ
        clear s_111111111
        refine hY 1 _ [3, 4, 5, 6, 9, 10, 11, 12, 33, 34, 36, 37, 38] [7] _ (by kernel_rfl) rfl ⟨?_, trivial⟩
        · show opX _ _ _ _ _ _
          rw [hρ]
          refine opX_of (f := false) rfl (by decide) ?_
          simp (disch := omega) only [go_sem, ↓reduceIte, Nat.reduceEqDiff, Nat.reduceLT, Nat.reduceLeDiff, Nat.reduceAdd, Nat.reduceSub, Nat.reduceMul, reduceCtorEq, Int.reduceToNat, Int.reduceNeg, rtCf, rtDo, rtEs, rtFv]
          repeat refine And.intro (by first | omega | assumption | (simp only [List.length_append, List.length_cons, List.length_nil]; omega) | (intros; first | omega | assumption | (simp_all; done) | grind)) ?_   -- r4.4
          refine s_111111110 _ ?_
          simp (disch := omega) only [go_sem, ↓reduceIte, Nat.reduceEqDiff, Nat.reduceLT, Nat.reduceLeDiff, Nat.reduceAdd, Nat.reduceSub, Nat.reduceMul, reduceCtorEq, Int.reduceToNat, Int.reduceNeg, rtCf, rtDo, rtEs, rtFv] <;> first | rfl | omega | simp | simp_all
      have s_111111000 : ∀ ρ, keepC [3, 4, 5, 6, 9, 10, 11, 12, 33, 34, 35, 36, 37] ρ = mkE O [(3, vi c), (4, .bx (eRoute a)), (5, .bx (eRoute b)), (6, .bx (eSetting x)), (9, .bx (eRoute a)), (10, .bx (eRoute a)), (11, .bx (eRoute a)), (12, .bx (eRoute a)), (33, .bp 4 11), (34, encS a.fFlank), (35, .row 62 2 (a.fFlank.map eSetting)), (36, .agg [vi x.fEl, vi x.fPos]), (37, .sl 2 1 fun i => [[vi x.fEl, vi x.fPos]].getD i [])] → Y 3 #[true, true, true, true, true, true, false, false, false] ρ := by
        intro ρ hρ
        clear s_111111111 s_111111110
        refine hY 2 _ [3, 4, 5, 6, 9, 10, 11, 12, 33, 34, 35, 36, 37] [6] _ (by kernel_rfl) rfl ⟨?_, trivial⟩
        · show opX _ _ _ _ _ _
          rw [hρ]
          refine opX_of (f := true) rfl (by decide) ?_
          simp (disch := omega) only [go_sem, ↓reduceIte, Nat.reduceEqDiff, Nat.reduceLT, Nat.reduceLeDiff, Nat.reduceAdd, Nat.reduceSub, Nat.reduceMul, reduceCtorEq, Int.reduceToNat, Int.reduceNeg, rtCf, rtDo, rtEs, rtFv]
          repeat refine And.intro (by first | omega | assumption | (simp only [List.length_append, List.length_cons, List.length_nil]; omega) | (intros; first | omega | assumption | (simp_all; done) | grind)) ?_   -- r4.4
          refine settle_of (encL _ eSetting _) (RWk.frzL eSetting _) rfl ?_
          refine s_111111100 _ ?_
          simp (disch := omega) only [go_sem, ↓reduceIte, Nat.reduceEqDiff, Nat.reduceLT, Nat.reduceLeDiff, Nat.reduceAdd, Nat.reduceSub, Nat.reduceMul, reduceCtorEq, Int.reduceToNat, Int.reduceNeg, rtCf, rtDo, rtEs, rtFv] <;> first | rfl | omega | simp | simp_all
      have s_111110000 : ∀ ρ, keepC [3, 4, 5, 6, 9, 10, 11, 12, 33, 34, 35, 36] ρ = mkE O [(3, vi c), (4, .bx (eRoute a)), (5, .bx (eRoute b)), (6, .bx (eSetting x)), (9, .bx (eRoute a)), (10, .bx (eRoute a)), (11, .bx (eRoute a)), (12, .bx (eRoute a)), (33, .bp 4 11), (34, encS a.fFlank), (35, .row 62 2 (a.fFlank.map eSetting)), (36, .agg [vi x.fEl, vi x.fPos])] → Y 4 #[true, true, true, true, true, false, false, false, false] ρ := by
        intro ρ hρ
        clear s_111111111 s_111111110 s_111111100
        refine hY 3 _ [3, 4, 5, 6, 9, 10, 11, 12, 33, 34, 35, 36] [5] _ (by kernel_rfl) rfl ⟨?_, trivial⟩
        · show opX _ _ _ _ _ _
          rw [hρ]
          refine opX_of (f := false) rfl (by decide) ?_
          simp (disch := omega) only [go_sem, ↓reduceIte, Nat.reduceEqDiff, Nat.reduceLT, Nat.reduceLeDiff, Nat.reduceAdd, Nat.reduceSub, Nat.reduceMul, reduceCtorEq, Int.reduceToNat, Int.reduceNeg, rtCf, rtDo, rtEs, rtFv]
          repeat refine And.intro (by first | omega | assumption | (simp only [List.length_append, List.length_cons, List.length_nil]; omega) | (intros; first | omega | assumption | (simp_all; done) | grind)) ?_   -- r4.4
          refine s_111111000 _ ?_
          simp (disch := omega) only [go_sem, ↓reduceIte, Nat.reduceEqDiff, Nat.reduceLT, Nat.reduceLeDiff, Nat.reduceAdd, Nat.reduceSub, Nat.reduceMul, reduceCtorEq, Int.reduceToNat, Int.reduceNeg, rtCf, rtDo, rtEs, rtFv] <;> first | rfl | omega | simp | simp_all
      have s_111011000 : ∀ ρ, keepC [3, 4, 5, 6, 9, 10, 11, 12, 32, 33, 34, 36, 37] ρ = mkE O [(3, vi c), (4, .bx (eRoute a)), (5, .bx (eRoute b)), (6, .bx (eSetting x)), (9, .bx (eRoute a)), (10, .bx (eRoute a)), (11, .bx (eRoute a)), (12, .bx (eRoute a)), (32, .row 62 2 []), (33, .bp 4 11), (34, encS a.fFlank), (36, .agg [vi x.fEl, vi x.fPos]), (37, .sl 2 1 fun i => [[vi x.fEl, vi x.fPos]].getD i [])] → Y 4 #[true, true, true, false, true, true, false, false, false] ρ := by
        intro ρ hρ
        clear s_111111111 s_111111110 s_111111100
        refine hY 3 _ [3, 4, 5, 6, 9, 10, 11, 12, 32, 33, 34, 36, 37] [3] _ (by kernel_rfl) rfl ⟨?_, trivial⟩
        · show opX _ _ _ _ _ _
          rw [hρ]
          refine opX_of (f := false) rfl (by decide) ?_
          simp (disch := omega) only [go_sem, ↓reduceIte, Nat.reduceEqDiff, Nat.reduceLT, Nat.reduceLeDiff, Nat.reduceAdd, Nat.reduceSub, Nat.reduceMul, reduceCtorEq, Int.reduceToNat, Int.reduceNeg, rtCf, rtDo, rtEs, rtFv]
          repeat refine And.intro (by first | omega | assumption | (simp only [List.length_append, List.length_cons, List.length_nil]; omega) | (intros; first | omega | assumption | (simp_all; done) | grind)) ?_   -- r4.4
          refine s_111111000 _ ?_
          simp (disch := omega) only [go_sem, ↓reduceIte, Nat.reduceEqDiff, Nat.reduceLT, Nat.reduceLeDiff, Nat.reduceAdd, Nat.reduceSub, Nat.reduceMul, reduceCtorEq, Int.reduceToNat, Int.reduceNeg, rtCf, rtDo, rtEs, rtFv] <;> first | rfl | omega | simp | simp_all
      have s_111100000 : ∀ ρ, keepC [3, 4, 5, 6, 9, 10, 11, 12, 33, 34, 35] ρ = mkE O [(3, vi c), (4, .bx (eRoute a)), (5, .bx (eRoute b)), (6, .bx (eSetting x)), (9, .bx (eRoute a)), (10, .bx (eRoute a)), (11, .bx (eRoute a)), (12, .bx (eRoute a)), (33, .bp 4 11), (34, encS a.fFlank), (35, .row 62 2 (a.fFlank.map eSetting))] → Y 5 #[true, true, true, true, false, false, false, false, false] ρ := by
        intro ρ hρ
        clear s_111111111 s_111111110 s_111111100 s_111111000 s_111011000
        refine hY 4 _ [3, 4, 5, 6, 9, 10, 11, 12, 33, 34, 35] [4] _ (by kernel_rfl) rfl ⟨?_, trivial⟩
        · show opX _ _ _ _ _ _
          rw [hρ]
          refine opX_of (f := false) rfl (by decide) ?_
          simp (disch := omega) only [go_sem, ↓reduceIte, Nat.reduceEqDiff, Nat.reduceLT, Nat.reduceLeDiff, Nat.reduceAdd, Nat.reduceSub, Nat.reduceMul, reduceCtorEq, Int.reduceToNat, Int.reduceNeg, rtCf, rtDo, rtEs, rtFv]
          repeat refine And.intro (by first | omega | assumption | (simp only [List.length_append, List.length_cons, List.length_nil]; omega) | (intros; first | omega | assumption | (simp_all; done) | grind)) ?_   -- r4.4
          refine s_111110000 _ ?_
          simp (disch := omega) only [go_sem, ↓reduceIte, Nat.reduceEqDiff, Nat.reduceLT, Nat.reduceLeDiff, Nat.reduceAdd, Nat.reduceSub, Nat.reduceMul, reduceCtorEq, Int.reduceToNat, Int.reduceNeg, rtCf, rtDo, rtEs, rtFv] <;> first | rfl | omega | simp | simp_all
      have s_111010000 : ∀ ρ, keepC [3, 4, 5, 6, 9, 10, 11, 12, 32, 33, 34, 36] ρ = mkE O [(3, vi c), (4, .bx (eRoute a)), (5, .bx (eRoute b)), (6, .bx (eSetting x)), (9, .bx (eRoute a)), (10, .bx (eRoute a)), (11, .bx (eRoute a)), (12, .bx (eRoute a)), (32, .row 62 2 []), (33, .bp 4 11), (34, encS a.fFlank), (36, .agg [vi x.fEl, vi x.fPos])] → Y 5 #[true, true, true, false, true, false, false, false, false] ρ := by
        intro ρ hρ
        clear s_111111111 s_111111110 s_111111100 s_111111000
        refine hY 4 _ [3, 4, 5, 6, 9, 10, 11, 12, 32, 33, 34, 36] [3, 5] _ (by kernel_rfl) rfl ⟨?_, ?_, trivial⟩
        · show opX _ _ _ _ _ _
          rw [hρ]
          refine opX_of (f := false) rfl (by decide) ?_
          simp (disch := omega) only [go_sem, ↓reduceIte, Nat.reduceEqDiff, Nat.reduceLT, Nat.reduceLeDiff, Nat.reduceAdd, Nat.reduceSub, Nat.reduceMul, reduceCtorEq, Int.reduceToNat, Int.reduceNeg, rtCf, rtDo, rtEs, rtFv]
          repeat refine And.intro (by first | omega | assumption | (simp only [List.length_append, List.length_cons, List.length_nil]; omega) | (intros; first | omega | assumption | (simp_all; done) | grind)) ?_   -- r4.4
          refine s_111110000 _ ?_
          simp (disch := omega) only [go_sem, ↓reduceIte, Nat.reduceEqDiff, Nat.reduceLT, Nat.reduceLeDiff, Nat.reduceAdd, Nat.reduceSub, Nat.reduceMul, reduceCtorEq, Int.reduceToNat, Int.reduceNeg, rtCf, rtDo, rtEs, rtFv] <;> first | rfl | omega | simp | simp_all
        · show opX _ _ _ _ _ _
          rw [hρ]
          refine opX_of (f := false) rfl (by decide) ?_
          simp (disch := omega) only [go_sem, ↓reduceIte, Nat.reduceEqDiff, Nat.reduceLT, Nat.reduceLeDiff, Nat.reduceAdd, Nat.reduceSub, Nat.reduceMul, reduceCtorEq, Int.reduceToNat, Int.reduceNeg, rtCf, rtDo, rtEs, rtFv]
          repeat refine And.intro (by first | omega | assumption | (simp only [List.length_append, List.length_cons, List.length_nil]; omega) | (intros; first | omega | assumption | (simp_all; done) | grind)) ?_   -- r4.4
          refine s_111011000 _ ?_
          simp (disch := omega) only [go_sem, ↓reduceIte, Nat.reduceEqDiff, Nat.reduceLT, Nat.reduceLeDiff, Nat.reduceAdd, Nat.reduceSub, Nat.reduceMul, reduceCtorEq, Int.reduceToNat, Int.reduceNeg, rtCf, rtDo, rtEs, rtFv] <;> first | rfl | omega | simp | simp_all
      have s_110011000 : ∀ ρ, keepC [3, 4, 5, 6, 9, 10, 11, 12, 32, 33, 36, 37] ρ = mkE O [(3, vi c), (4, .bx (eRoute a)), (5, .bx (eRoute b)), (6, .bx (eSetting x)), (9, .bx (eRoute a)), (10, .bx (eRoute a)), (11, .bx (eRoute a)), (12, .bx (eRoute a)), (32, .row 62 2 []), (33, .bp 4 11), (36, .agg [vi x.fEl, vi x.fPos]), (37, .sl 2 1 fun i => [[vi x.fEl, vi x.fPos]].getD i [])] → Y 5 #[true, true, false, false, true, true, false, false, false] ρ := by
        intro ρ hρ
        clear s_111111111 s_111111110 s_111111100 s_111111000 s_111110000
        refine hY 4 _ [3, 4, 5, 6, 9, 10, 11, 12, 32, 33, 36, 37] [2] _ (by kernel_rfl) rfl ⟨?_, trivial⟩
        · show opX _ _ _ _ _ _
          rw [hρ]
          refine opX_of (f := false) rfl (by decide) ?_
          simp (disch := omega) only [go_sem, ↓reduceIte, Nat.reduceEqDiff, Nat.reduceLT, Nat.reduceLeDiff, Nat.reduceAdd, Nat.reduceSub, Nat.reduceMul, reduceCtorEq, Int.reduceToNat, Int.reduceNeg, rtCf, rtDo, rtEs, rtFv]
          repeat refine And.intro (by first | omega | assumption | (simp only [List.length_append, List.length_cons, List.length_nil]; omega) | (intros; first | omega | assumption | (simp_all; done) | grind)) ?_   -- r4.4
          refine s_111011000 _ ?_
          simp (disch := omega) only [go_sem, ↓reduceIte, Nat.reduceEqDiff, Nat.reduceLT, Nat.reduceLeDiff, Nat.reduceAdd, Nat.reduceSub, Nat.reduceMul, reduceCtorEq, Int.reduceToNat, Int.reduceNeg, rtCf, rtDo, rtEs, rtFv] <;> first | rfl | omega | simp | simp_all
      have s_011011000 : ∀ ρ, keepC [3, 4, 5, 6, 9, 10, 11, 12, 33, 34, 36, 37] ρ = mkE O [(3, vi c), (4, .bx (eRoute a)), (5, .bx (eRoute b)), (6, .bx (eSetting x)), (9, .bx (eRoute a)), (10, .bx (eRoute a)), (11, .bx (eRoute a)), (12, .bx (eRoute a)), (33, .bp 4 11), (34, encS a.fFlank), (36, .agg [vi x.fEl, vi x.fPos]), (37, .sl 2 1 fun i => [[vi x.fEl, vi x.fPos]].getD i [])] → Y 5 #[false, true, true, false, true, true, false, false, false] ρ := by
        intro ρ hρ
        clear s_111111111 s_111111110 s_111111100 s_111111000 s_111110000
        refine hY 4 _ [3, 4, 5, 6, 9, 10, 11, 12, 33, 34, 36, 37] [0] _ (by kernel_rfl) rfl ⟨?_, trivial⟩
        · show opX _ _ _ _ _ _
          rw [hρ]
          refine opX_of (f := false) rfl (by decide) ?_
          simp (disch := omega) only [go_sem, ↓reduceIte, Nat.reduceEqDiff, Nat.reduceLT, Nat.reduceLeDiff, Nat.reduceAdd, Nat.reduceSub, Nat.reduceMul, reduceCtorEq, Int.reduceToNat, Int.reduceNeg, rtCf, rtDo, rtEs, rtFv]
          repeat refine And.intro (by first | omega | assumption | (simp only [List.length_append, List.length_cons, List.length_nil]; omega) | (intros; first | omega | assumption | (simp_all; done) | grind)) ?_   -- r4.4
          refine s_111011000 _ ?_
          simp (disch := omega) only [go_sem, ↓reduceIte, Nat.reduceEqDiff, Nat.reduceLT, Nat.reduceLeDiff, Nat.reduceAdd, Nat.reduceSub, Nat.reduceMul, reduceCtorEq, Int.reduceToNat, Int.reduceNeg, rtCf, rtDo, rtEs, rtFv] <;> first | rfl | omega | simp | simp_all
      have s_111000000 : ∀ ρ, keepC [3, 4, 5, 6, 9, 10, 11, 12, 32, 33, 34] ρ = mkE O [(3, vi c), (4, .bx (eRoute a)), (5, .bx (eRoute b)), (6, .bx (eSetting x)), (9, .bx (eRoute a)), (10, .bx (eRoute a)), (11, .bx (eRoute a)), (12, .bx (eRoute a)), (32, .row 62 2 []), (33, .bp 4 11), (34, encS a.fFlank)] → Y 6 #[true, true, true, false, false, false, false, false, false] ρ := by
        intro ρ hρ
        clear s_111111111 s_111111110 s_111111100 s_111111000 s_111110000 s_111011000 s_110011000 s_011011000
        refine hY 5 _ [3, 4, 5, 6, 9, 10, 11, 12, 32, 33, 34] [3, 4] _ (by kernel_rfl) rfl ⟨?_, ?_, trivial⟩
        · show opX _ _ _ _ _ _
          rw [hρ]
          refine opX_of (f := false) rfl (by decide) ?_
          simp (disch := omega) only [go_sem, ↓reduceIte, Nat.reduceEqDiff, Nat.reduceLT, Nat.reduceLeDiff, Nat.reduceAdd, Nat.reduceSub, Nat.reduceMul, reduceCtorEq, Int.reduceToNat, Int.reduceNeg, rtCf, rtDo, rtEs, rtFv]
          repeat refine And.intro (by first | omega | assumption | (simp only [List.length_append, List.length_cons, List.length_nil]; omega) | (intros; first | omega | assumption | (simp_all; done) | grind)) ?_   -- r4.4
          refine s_111100000 _ ?_
          simp (disch := omega) only [go_sem, ↓reduceIte, Nat.reduceEqDiff, Nat.reduceLT, Nat.reduceLeDiff, Nat.reduceAdd, Nat.reduceSub, Nat.reduceMul, reduceCtorEq, Int.reduceToNat, Int.reduceNeg, rtCf, rtDo, rtEs, rtFv] <;> first | rfl | omega | simp | simp_all
        · show opX _ _ _ _ _ _
          rw [hρ]
          refine opX_of (f := false) rfl (by decide) ?_
          simp (disch := omega) only [go_sem, ↓reduceIte, Nat.reduceEqDiff, Nat.reduceLT, Nat.reduceLeDiff, Nat.reduceAdd, Nat.reduceSub, Nat.reduceMul, reduceCtorEq, Int.reduceToNat, Int.reduceNeg, rtCf, rtDo, rtEs, rtFv]
          repeat refine And.intro (by first | omega | assumption | (simp only [List.length_append, List.length_cons, List.length_nil]; omega) | (intros; first | omega | assumption | (simp_all; done) | grind)) ?_   -- r4.4
          refine s_111010000 _ ?_
          simp (disch := omega) only [go_sem, ↓reduceIte, Nat.reduceEqDiff, Nat.reduceLT, Nat.reduceLeDiff, Nat.reduceAdd, Nat.reduceSub, Nat.reduceMul, reduceCtorEq, Int.reduceToNat, Int.reduceNeg, rtCf, rtDo, rtEs, rtFv] <;> first | rfl | omega | simp | simp_all
      have s_110010000 : ∀ ρ, keepC [3, 4, 5, 6, 9, 10, 11, 12, 32, 33, 36] ρ = mkE O [(3, vi c), (4, .bx (eRoute a)), (5, .bx (eRoute b)), (6, .bx (eSetting x)), (9, .bx (eRoute a)), (10, .bx (eRoute a)), (11, .bx (eRoute a)), (12, .bx (eRoute a)), (32, .row 62 2 []), (33, .bp 4 11), (36, .agg [vi x.fEl, vi x.fPos])] → Y 6 #[true, true, false, false, true, false, false, false, false] ρ := by
        intro ρ hρ
        clear s_111111111 s_111111110 s_111111100 s_111111000 s_111110000 s_111011000 s_111100000 s_011011000
        refine hY 5 _ [3, 4, 5, 6, 9, 10, 11, 12, 32, 33, 36] [2, 5] _ (by kernel_rfl) rfl ⟨?_, ?_, trivial⟩
        · show opX _ _ _ _ _ _
          rw [hρ]
          refine opX_of (f := false) rfl (by decide) ?_
          simp (disch := omega) only [go_sem, ↓reduceIte, Nat.reduceEqDiff, Nat.reduceLT, Nat.reduceLeDiff, Nat.reduceAdd, Nat.reduceSub, Nat.reduceMul, reduceCtorEq, Int.reduceToNat, Int.reduceNeg, rtCf, rtDo, rtEs, rtFv]
          repeat refine And.intro (by first | omega | assumption | (simp only [List.length_append, List.length_cons, List.length_nil]; omega) | (intros; first | omega | assumption | (simp_all; done) | grind)) ?_   -- r4.4
          refine s_111010000 _ ?_
          simp (disch := omega) only [go_sem, ↓reduceIte, Nat.reduceEqDiff, Nat.reduceLT, Nat.reduceLeDiff, Nat.reduceAdd, Nat.reduceSub, Nat.reduceMul, reduceCtorEq, Int.reduceToNat, Int.reduceNeg, rtCf, rtDo, rtEs, rtFv] <;> first | rfl | omega | simp | simp_all
        · show opX _ _ _ _ _ _
          rw [hρ]
          refine opX_of (f := false) rfl (by decide) ?_
          simp (disch := omega) only [go_sem, ↓reduceIte, Nat.reduceEqDiff, Nat.reduceLT, Nat.reduceLeDiff, Nat.reduceAdd, Nat.reduceSub, Nat.reduceMul, reduceCtorEq, Int.reduceToNat, Int.reduceNeg, rtCf, rtDo, rtEs, rtFv]
          repeat refine And.intro (by first | omega | assumption | (simp only [List.length_append, List.length_cons, List.length_nil]; omega) | (intros; first | omega | assumption | (simp_all; done) | grind)) ?_   -- r4.4
          refine s_110011000 _ ?_
          simp (disch := omega) only [go_sem, ↓reduceIte, Nat.reduceEqDiff, Nat.reduceLT, Nat.reduceLeDiff, Nat.reduceAdd, Nat.reduceSub, Nat.reduceMul, reduceCtorEq, Int.reduceToNat, Int.reduceNeg, rtCf, rtDo, rtEs, rtFv] <;> first | rfl | omega | simp | simp_all
      have s_100011000 : ∀ ρ, keepC [3, 4, 5, 6, 9, 10, 11, 12, 32, 36, 37] ρ = mkE O [(3, vi c), (4, .bx (eRoute a)), (5, .bx (eRoute b)), (6, .bx (eSetting x)), (9, .bx (eRoute a)), (10, .bx (eRoute a)), (11, .bx (eRoute a)), (12, .bx (eRoute a)), (32, .row 62 2 []), (36, .agg [vi x.fEl, vi x.fPos]), (37, .sl 2 1 fun i => [[vi x.fEl, vi x.fPos]].getD i [])] → Y 6 #[true, false, false, false, true, true, false, false, false] ρ := by
        intro ρ hρ
        clear s_111111111 s_111111110 s_111111100 s_111111000 s_111110000 s_111011000 s_111100000 s_111010000 s_011011000
        refine hY 5 _ [3, 4, 5, 6, 9, 10, 11, 12, 32, 36, 37] [1] _ (by kernel_rfl) rfl ⟨?_, trivial⟩
        · show opX _ _ _ _ _ _
          rw [hρ]
          refine opX_of (f := false) rfl (by decide) ?_
          simp (disch := omega) only [go_sem, ↓reduceIte, Nat.reduceEqDiff, Nat.reduceLT, Nat.reduceLeDiff, Nat.reduceAdd, Nat.reduceSub, Nat.reduceMul, reduceCtorEq, Int.reduceToNat, Int.reduceNeg, rtCf, rtDo, rtEs, rtFv]
          repeat refine And.intro (by first | omega | assumption | (simp only [List.length_append, List.length_cons, List.length_nil]; omega) | (intros; first | omega | assumption | (simp_all; done) | grind)) ?_   -- r4.4
          refine s_110011000 _ ?_
          simp (disch := omega) only [go_sem, ↓reduceIte, Nat.reduceEqDiff, Nat.reduceLT, Nat.reduceLeDiff, Nat.reduceAdd, Nat.reduceSub, Nat.reduceMul, reduceCtorEq, Int.reduceToNat, Int.reduceNeg, rtCf, rtDo, rtEs, rtFv] <;> first | rfl | omega | simp | simp_all
      have s_011010000 : ∀ ρ, keepC [3, 4, 5, 6, 9, 10, 11, 12, 33, 34, 36] ρ = mkE O [(3, vi c), (4, .bx (eRoute a)), (5, .bx (eRoute b)), (6, .bx (eSetting x)), (9, .bx (eRoute a)), (10, .bx (eRoute a)), (11, .bx (eRoute a)), (12, .bx (eRoute a)), (33, .bp 4 11), (34, encS a.fFlank), (36, .agg [vi x.fEl, vi x.fPos])] → Y 6 #[false, true, true, false, true, false, false, false, false] ρ := by
        intro ρ hρ
        clear s_111111111 s_111111110 s_111111100 s_111111000 s_111110000 s_111011000 s_111100000 s_110011000
        refine hY 5 _ [3, 4, 5, 6, 9, 10, 11, 12, 33, 34, 36] [0, 5] _ (by kernel_rfl) rfl ⟨?_, ?_, trivial⟩
        · show opX _ _ _ _ _ _
          rw [hρ]
          refine opX_of (f := false) rfl (by decide) ?_
          simp (disch := omega) only [go_sem, ↓reduceIte, Nat.reduceEqDiff, Nat.reduceLT, Nat.reduceLeDiff, Nat.reduceAdd, Nat.reduceSub, Nat.reduceMul, reduceCtorEq, Int.reduceToNat, Int.reduceNeg, rtCf, rtDo, rtEs, rtFv]
          repeat refine And.intro (by first | omega | assumption | (simp only [List.length_append, List.length_cons, List.length_nil]; omega) | (intros; first | omega | assumption | (simp_all; done) | grind)) ?_   -- r4.4
          refine s_111010000 _ ?_
          simp (disch := omega) only [go_sem, ↓reduceIte, Nat.reduceEqDiff, Nat.reduceLT, Nat.reduceLeDiff, Nat.reduceAdd, Nat.reduceSub, Nat.reduceMul, reduceCtorEq, Int.reduceToNat, Int.reduceNeg, rtCf, rtDo, rtEs, rtFv] <;> first | rfl | omega | simp | simp_all
        · show opX _ _ _ _ _ _
          rw [hρ]
          refine opX_of (f := false) rfl (by decide) ?_
          simp (disch := omega) only [go_sem, ↓reduceIte, Nat.reduceEqDiff, Nat.reduceLT, Nat.reduceLeDiff, Nat.reduceAdd, Nat.reduceSub, Nat.reduceMul, reduceCtorEq, Int.reduceToNat, Int.reduceNeg, rtCf, rtDo, rtEs, rtFv]
          repeat refine And.intro (by first | omega | assumption | (simp only [List.length_append, List.length_cons, List.length_nil]; omega) | (intros; first | omega | assumption | (simp_all; done) | grind)) ?_   -- r4.4
          refine s_011011000 _ ?_
          simp (disch := omega) only [go_sem, ↓reduceIte, Nat.reduceEqDiff, Nat.reduceLT, Nat.reduceLeDiff, Nat.reduceAdd, Nat.reduceSub, Nat.reduceMul, reduceCtorEq, Int.reduceToNat, Int.reduceNeg, rtCf, rtDo, rtEs, rtFv] <;> first | rfl | omega | simp | simp_all
      have s_010011000 : ∀ ρ, keepC [3, 4, 5, 6, 9, 10, 11, 12, 33, 36, 37] ρ = mkE O [(3, vi c), (4, .bx (eRoute a)), (5, .bx (eRoute b)), (6, .bx (eSetting x)), (9, .bx (eRoute a)), (10, .bx (eRoute a)), (11, .bx (eRoute a)), (12, .bx (eRoute a)), (33, .bp 4 11), (36, .agg [vi x.fEl, vi x.fPos]), (37, .sl 2 1 fun i => [[vi x.fEl, vi x.fPos]].getD i [])] → Y 6 #[false, true, false, false, true, true, false, false, false] ρ := by
        intro ρ hρ
        clear s_111111111 s_111111110 s_111111100 s_111111000 s_111110000 s_111011000 s_111100000 s_111010000
        refine hY 5 _ [3, 4, 5, 6, 9, 10, 11, 12, 33, 36, 37] [0, 2] _ (by kernel_rfl) rfl ⟨?_, ?_, trivial⟩
        · show opX _ _ _ _ _ _
          rw [hρ]
          refine opX_of (f := false) rfl (by decide) ?_
          simp (disch := omega) only [go_sem, ↓reduceIte, Nat.reduceEqDiff, Nat.reduceLT, Nat.reduceLeDiff, Nat.reduceAdd, Nat.reduceSub, Nat.reduceMul, reduceCtorEq, Int.reduceToNat, Int.reduceNeg, rtCf, rtDo, rtEs, rtFv]
          repeat refine And.intro (by first | omega | assumption | (simp only [List.length_append, List.length_cons, List.length_nil]; omega) | (intros; first | omega | assumption | (simp_all; done) | grind)) ?_   -- r4.4
          refine s_110011000 _ ?_
          simp (disch := omega) only [go_sem, ↓reduceIte, Nat.reduceEqDiff, Nat.reduceLT, Nat.reduceLeDiff, Nat.reduceAdd, Nat.reduceSub, Nat.reduceMul, reduceCtorEq, Int.reduceToNat, Int.reduceNeg, rtCf, rtDo, rtEs, rtFv] <;> first | rfl | omega | simp | simp_all
        · show opX _ _ _ _ _ _
          rw [hρ]
          refine opX_of (f := false) rfl (by decide) ?_
          simp (disch := omega) only [go_sem, ↓reduceIte, Nat.reduceEqDiff, Nat.reduceLT, Nat.reduceLeDiff, Nat.reduceAdd, Nat.reduceSub, Nat.reduceMul, reduceCtorEq, Int.reduceToNat, Int.reduceNeg, rtCf, rtDo, rtEs, rtFv]
          repeat refine And.intro (by first | omega | assumption | (simp only [List.length_append, List.length_cons, List.length_nil]; omega) | (intros; first | omega | assumption | (simp_all; done) | grind)) ?_   -- r4.4
          refine s_011011000 _ ?_
          simp (disch := omega) only [go_sem, ↓reduceIte, Nat.reduceEqDiff, Nat.reduceLT, Nat.reduceLeDiff, Nat.reduceAdd, Nat.reduceSub, Nat.reduceMul, reduceCtorEq, Int.reduceToNat, Int.reduceNeg, rtCf, rtDo, rtEs, rtFv] <;> first | rfl | omega | simp | simp_all
      have s_110000000 : ∀ ρ, keepC [3, 4, 5, 6, 9, 10, 11, 12, 32, 33] ρ = mkE O [(3, vi c), (4, .bx (eRoute a)), (5, .bx (eRoute b)), (6, .bx (eSetting x)), (9, .bx (eRoute a)), (10, .bx (eRoute a)), (11, .bx (eRoute a)), (12, .bx (eRoute a)), (32, .row 62 2 []), (33, .bp 4 11)] → Y 7 #[true, true, false, false, false, false, false, false, false] ρ := by
        intro ρ hρ
        clear s_111111111 s_111111110 s_111111100 s_111111000 s_111110000 s_111011000 s_111100000 s_111010000 s_110011000 s_011011000 s_100011000 s_011010000 s_010011000
        refine hY 6 _ [3, 4, 5, 6, 9, 10, 11, 12, 32, 33] [2, 4] _ (by kernel_rfl) rfl ⟨?_, ?_, trivial⟩
        · show opX _ _ _ _ _ _
          rw [hρ]
          refine opX_of (f := false) rfl (by decide) ?_
          simp (disch := omega) only [go_sem, ↓reduceIte, Nat.reduceEqDiff, Nat.reduceLT, Nat.reduceLeDiff, Nat.reduceAdd, Nat.reduceSub, Nat.reduceMul, reduceCtorEq, Int.reduceToNat, Int.reduceNeg, rtCf, rtDo, rtEs, rtFv]
          repeat refine And.intro (by first | omega | assumption | (simp only [List.length_append, List.length_cons, List.length_nil]; omega) | (intros; first | omega | assumption | (simp_all; done) | grind)) ?_   -- r4.4
          refine s_111000000 _ ?_
          simp (disch := omega) only [go_sem, ↓reduceIte, Nat.reduceEqDiff, Nat.reduceLT, Nat.reduceLeDiff, Nat.reduceAdd, Nat.reduceSub, Nat.reduceMul, reduceCtorEq, Int.reduceToNat, Int.reduceNeg, rtCf, rtDo, rtEs, rtFv] <;> first | rfl | omega | simp | simp_all
        · show opX _ _ _ _ _ _
          rw [hρ]
          refine opX_of (f := false) rfl (by decide) ?_
          simp (disch := omega) only [go_sem, ↓reduceIte, Nat.reduceEqDiff, Nat.reduceLT, Nat.reduceLeDiff, Nat.reduceAdd, Nat.reduceSub, Nat.reduceMul, reduceCtorEq, Int.reduceToNat, Int.reduceNeg, rtCf, rtDo, rtEs, rtFv]
          repeat refine And.intro (by first | omega | assumption | (simp only [List.length_append, List.length_cons, List.length_nil]; omega) | (intros; first | omega | assumption | (simp_all; done) | grind)) ?_   -- r4.4
          refine s_110010000 _ ?_
          simp (disch := omega) only [go_sem, ↓reduceIte, Nat.reduceEqDiff, Nat.reduceLT, Nat.reduceLeDiff, Nat.reduceAdd, Nat.reduceSub, Nat.reduceMul, reduceCtorEq, Int.reduceToNat, Int.reduceNeg, rtCf, rtDo, rtEs, rtFv] <;> first | rfl | omega | simp | simp_all
      have s_100010000 : ∀ ρ, keepC [3, 4, 5, 6, 9, 10, 11, 12, 32, 36] ρ = mkE O [(3, vi c), (4, .bx (eRoute a)), (5, .bx (eRoute b)), (6, .bx (eSetting x)), (9, .bx (eRoute a)), (10, .bx (eRoute a)), (11, .bx (eRoute a)), (12, .bx (eRoute a)), (32, .row 62 2 []), (36, .agg [vi x.fEl, vi x.fPos])] → Y 7 #[true, false, false, false, true, false, false, false, false] ρ := by
        intro ρ hρ
        clear s_111111111 s_111111110 s_111111100 s_111111000 s_111110000 s_111011000 s_111100000 s_111010000 s_110011000 s_011011000 s_111000000 s_011010000 s_010011000
        refine hY 6 _ [3, 4, 5, 6, 9, 10, 11, 12, 32, 36] [1, 5] _ (by kernel_rfl) rfl ⟨?_, ?_, trivial⟩
        · show opX _ _ _ _ _ _
          rw [hρ]
          refine opX_of (f := false) rfl (by decide) ?_
          simp (disch := omega) only [go_sem, ↓reduceIte, Nat.reduceEqDiff, Nat.reduceLT, Nat.reduceLeDiff, Nat.reduceAdd, Nat.reduceSub, Nat.reduceMul, reduceCtorEq, Int.reduceToNat, Int.reduceNeg, rtCf, rtDo, rtEs, rtFv]
          repeat refine And.intro (by first | omega | assumption | (simp only [List.length_append, List.length_cons, List.length_nil]; omega) | (intros; first | omega | assumption | (simp_all; done) | grind)) ?_   -- r4.4
          refine s_110010000 _ ?_
          simp (disch := omega) only [go_sem, ↓reduceIte, Nat.reduceEqDiff, Nat.reduceLT, Nat.reduceLeDiff, Nat.reduceAdd, Nat.reduceSub, Nat.reduceMul, reduceCtorEq, Int.reduceToNat, Int.reduceNeg, rtCf, rtDo, rtEs, rtFv] <;> first | rfl | omega | simp | simp_all
        · show opX _ _ _ _ _ _
          rw [hρ]
          refine opX_of (f := false) rfl (by decide) ?_
          simp (disch := omega) only [go_sem, ↓reduceIte, Nat.reduceEqDiff, Nat.reduceLT, Nat.reduceLeDiff, Nat.reduceAdd, Nat.reduceSub, Nat.reduceMul, reduceCtorEq, Int.reduceToNat, Int.reduceNeg, rtCf, rtDo, rtEs, rtFv]
          repeat refine And.intro (by first | omega | assumption | (simp only [List.length_append, List.length_cons, List.length_nil]; omega) | (intros; first | omega | assumption | (simp_all; done) | grind)) ?_   -- r4.4
          refine s_100011000 _ ?_
          simp (disch := omega) only [go_sem, ↓reduceIte, Nat.reduceEqDiff, Nat.reduceLT, Nat.reduceLeDiff, Nat.reduceAdd, Nat.reduceSub, Nat.reduceMul, reduceCtorEq, Int.reduceToNat, Int.reduceNeg, rtCf, rtDo, rtEs, rtFv] <;> first | rfl | omega | simp | simp_all
      have s_011000000 : ∀ ρ, keepC [3, 4, 5, 6, 9, 10, 11, 12, 33, 34] ρ = mkE O [(3, vi c), (4, .bx (eRoute a)), (5, .bx (eRoute b)), (6, .bx (eSetting x)), (9, .bx (eRoute a)), (10, .bx (eRoute a)), (11, .bx (eRoute a)), (12, .bx (eRoute a)), (33, .bp 4 11), (34, encS a.fFlank)] → Y 7 #[false, true, true, false, false, false, false, false, false] ρ := by
        intro ρ hρ
        clear s_111111111 s_111111110 s_111111100 s_111111000 s_111110000 s_111011000 s_111100000 s_111010000 s_110011000 s_011011000 s_110010000 s_100011000 s_010011000
        refine hY 6 _ [3, 4, 5, 6, 9, 10, 11, 12, 33, 34] [0, 4] _ (by kernel_rfl) rfl ⟨?_, ?_, trivial⟩
        · show opX _ _ _ _ _ _
          rw [hρ]
          refine opX_of (f := false) rfl (by decide) ?_
          simp (disch := omega) only [go_sem, ↓reduceIte, Nat.reduceEqDiff, Nat.reduceLT, Nat.reduceLeDiff, Nat.reduceAdd, Nat.reduceSub, Nat.reduceMul, reduceCtorEq, Int.reduceToNat, Int.reduceNeg, rtCf, rtDo, rtEs, rtFv]
          repeat refine And.intro (by first | omega | assumption | (simp only [List.length_append, List.length_cons, List.length_nil]; omega) | (intros; first | omega | assumption | (simp_all; done) | grind)) ?_   -- r4.4
          refine s_111000000 _ ?_
          simp (disch := omega) only [go_sem, ↓reduceIte, Nat.reduceEqDiff, Nat.reduceLT, Nat.reduceLeDiff, Nat.reduceAdd, Nat.reduceSub, Nat.reduceMul, reduceCtorEq, Int.reduceToNat, Int.reduceNeg, rtCf, rtDo, rtEs, rtFv] <;> first | rfl | omega | simp | simp_all
        · show opX _ _ _ _ _ _
          rw [hρ]
          refine opX_of (f := false) rfl (by decide) ?_
          simp (disch := omega) only [go_sem, ↓reduceIte, Nat.reduceEqDiff, Nat.reduceLT, Nat.reduceLeDiff, Nat.reduceAdd, Nat.reduceSub, Nat.reduceMul, reduceCtorEq, Int.reduceToNat, Int.reduceNeg, rtCf, rtDo, rtEs, rtFv]
          repeat refine And.intro (by first | omega | assumption | (simp only [List.length_append, List.length_cons, List.length_nil]; omega) | (intros; first | omega | assumption | (simp_all; done) | grind)) ?_   -- r4.4
          refine s_011010000 _ ?_
          simp (disch := omega) only [go_sem, ↓reduceIte, Nat.reduceEqDiff, Nat.reduceLT, Nat.reduceLeDiff, Nat.reduceAdd, Nat.reduceSub, Nat.reduceMul, reduceCtorEq, Int.reduceToNat, Int.reduceNeg, rtCf, rtDo, rtEs, rtFv] <;> first | rfl | omega | simp | simp_all
      have s_010010000 : ∀ ρ, keepC [3, 4, 5, 6, 9, 10, 11, 12, 33, 36] ρ = mkE O [(3, vi c), (4, .bx (eRoute a)), (5, .bx (eRoute b)), (6, .bx (eSetting x)), (9, .bx (eRoute a)), (10, .bx (eRoute a)), (11, .bx (eRoute a)), (12, .bx (eRoute a)), (33, .bp 4 11), (36, .agg [vi x.fEl, vi x.fPos])] → Y 7 #[false, true, false, false, true, false, false, false, false] ρ := by
        intro ρ hρ
        clear s_111111111 s_111111110 s_111111100 s_111111000 s_111110000 s_111011000 s_111100000 s_111010000 s_110011000 s_011011000 s_111000000 s_100011000
        refine hY 6 _ [3, 4, 5, 6, 9, 10, 11, 12, 33, 36] [0, 2, 5] _ (by kernel_rfl) rfl ⟨?_, ?_, ?_, trivial⟩
        · show opX _ _ _ _ _ _
          rw [hρ]
          refine opX_of (f := false) rfl (by decide) ?_
          simp (disch := omega) only [go_sem, ↓reduceIte, Nat.reduceEqDiff, Nat.reduceLT, Nat.reduceLeDiff, Nat.reduceAdd, Nat.reduceSub, Nat.reduceMul, reduceCtorEq, Int.reduceToNat, Int.reduceNeg, rtCf, rtDo, rtEs, rtFv]
          repeat refine And.intro (by first | omega | assumption | (simp only [List.length_append, List.length_cons, List.length_nil]; omega) | (intros; first | omega | assumption | (simp_all; done) | grind)) ?_   -- r4.4
          refine s_110010000 _ ?_
          simp (disch := omega) only [go_sem, ↓reduceIte, Nat.reduceEqDiff, Nat.reduceLT, Nat.reduceLeDiff, Nat.reduceAdd, Nat.reduceSub, Nat.reduceMul, reduceCtorEq, Int.reduceToNat, Int.reduceNeg, rtCf, rtDo, rtEs, rtFv] <;> first | rfl | omega | simp | simp_all
        · show opX _ _ _ _ _ _
          rw [hρ]
          refine opX_of (f := false) rfl (by decide) ?_
          simp (disch := omega) only [go_sem, ↓reduceIte, Nat.reduceEqDiff, Nat.reduceLT, Nat.reduceLeDiff, Nat.reduceAdd, Nat.reduceSub, Nat.reduceMul, reduceCtorEq, Int.reduceToNat, Int.reduceNeg, rtCf, rtDo, rtEs, rtFv]
          repeat refine And.intro (by first | omega | assumption | (simp only [List.length_append, List.length_cons, List.length_nil]; omega) | (intros; first | omega | assumption | (simp_all; done) | grind)) ?_   -- r4.4
          refine s_011010000 _ ?_
          simp (disch := omega) only [go_sem, ↓reduceIte, Nat.reduceEqDiff, Nat.reduceLT, Nat.reduceLeDiff, Nat.reduceAdd, Nat.reduceSub, Nat.reduceMul, reduceCtorEq, Int.reduceToNat, Int.reduceNeg, rtCf, rtDo, rtEs, rtFv] <;> first | rfl | omega | simp | simp_all
        · show opX _ _ _ _ _ _
          rw [hρ]
          refine opX_of (f := false) rfl (by decide) ?_
          simp (disch := omega) only [go_sem, ↓reduceIte, Nat.reduceEqDiff, Nat.reduceLT, Nat.reduceLeDiff, Nat.reduceAdd, Nat.reduceSub, Nat.reduceMul, reduceCtorEq, Int.reduceToNat, Int.reduceNeg, rtCf, rtDo, rtEs, rtFv]
          repeat refine And.intro (by first | omega | assumption | (simp only [List.length_append, List.length_cons, List.length_nil]; omega) | (intros; first | omega | assumption | (simp_all; done) | grind)) ?_   -- r4.4
          refine s_010011000 _ ?_
          simp (disch := omega) only [go_sem, ↓reduceIte, Nat.reduceEqDiff, Nat.reduceLT, Nat.reduceLeDiff, Nat.reduceAdd, Nat.reduceSub, Nat.reduceMul, reduceCtorEq, Int.reduceToNat, Int.reduceNeg, rtCf, rtDo, rtEs, rtFv] <;> first | rfl | omega | simp | simp_all
      have s_000011000 : ∀ ρ, keepC [3, 4, 5, 6, 9, 10, 11, 12, 36, 37] ρ = mkE O [(3, vi c), (4, .bx (eRoute a)), (5, .bx (eRoute b)), (6, .bx (eSetting x)), (9, .bx (eRoute a)), (10, .bx (eRoute a)), (11, .bx (eRoute a)), (12, .bx (eRoute a)), (36, .agg [vi x.fEl, vi x.fPos]), (37, .sl 2 1 fun i => [[vi x.fEl, vi x.fPos]].getD i [])] → Y 7 #[false, false, false, false, true, true, false, false, false] ρ := by
        intro ρ hρ
        clear s_111111111 s_111111110 s_111111100 s_111111000 s_111110000 s_111011000 s_111100000 s_111010000 s_110011000 s_011011000 s_111000000 s_110010000 s_011010000
        refine hY 6 _ [3, 4, 5, 6, 9, 10, 11, 12, 36, 37] [0, 1] _ (by kernel_rfl) rfl ⟨?_, ?_, trivial⟩
        · show opX _ _ _ _ _ _
          rw [hρ]
          refine opX_of (f := false) rfl (by decide) ?_
          simp (disch := omega) only [go_sem, ↓reduceIte, Nat.reduceEqDiff, Nat.reduceLT, Nat.reduceLeDiff, Nat.reduceAdd, Nat.reduceSub, Nat.reduceMul, reduceCtorEq, Int.reduceToNat, Int.reduceNeg, rtCf, rtDo, rtEs, rtFv]
          repeat refine And.intro (by first | omega | assumption | (simp only [List.length_append, List.length_cons, List.length_nil]; omega) | (intros; first | omega | assumption | (simp_all; done) | grind)) ?_   -- r4.4
          refine s_100011000 _ ?_
          simp (disch := omega) only [go_sem, ↓reduceIte, Nat.reduceEqDiff, Nat.reduceLT, Nat.reduceLeDiff, Nat.reduceAdd, Nat.reduceSub, Nat.reduceMul, reduceCtorEq, Int.reduceToNat, Int.reduceNeg, rtCf, rtDo, rtEs, rtFv] <;> first | rfl | omega | simp | simp_all
        · show opX _ _ _ _ _ _
          rw [hρ]
          refine opX_of (f := false) rfl (by decide) ?_
          simp (disch := omega) only [go_sem, ↓reduceIte, Nat.reduceEqDiff, Nat.reduceLT, Nat.reduceLeDiff, Nat.reduceAdd, Nat.reduceSub, Nat.reduceMul, reduceCtorEq, Int.reduceToNat, Int.reduceNeg, rtCf, rtDo, rtEs, rtFv]
          repeat refine And.intro (by first | omega | assumption | (simp only [List.length_append, List.length_cons, List.length_nil]; omega) | (intros; first | omega | assumption | (simp_all; done) | grind)) ?_   -- r4.4
          refine s_010011000 _ ?_
          simp (disch := omega) only [go_sem, ↓reduceIte, Nat.reduceEqDiff, Nat.reduceLT, Nat.reduceLeDiff, Nat.reduceAdd, Nat.reduceSub, Nat.reduceMul, reduceCtorEq, Int.reduceToNat, Int.reduceNeg, rtCf, rtDo, rtEs, rtFv] <;> first | rfl | omega | simp | simp_all
      have s_100000000 : ∀ ρ, keepC [3, 4, 5, 6, 9, 10, 11, 12, 32] ρ = mkE O [(3, vi c), (4, .bx (eRoute a)), (5, .bx (eRoute b)), (6, .bx (eSetting x)), (9, .bx (eRoute a)), (10, .bx (eRoute a)), (11, .bx (eRoute a)), (12, .bx (eRoute a)), (32, .row 62 2 [])] → Y 8 #[true, false, false, false, false, false, false, false, false] ρ := by
        intro ρ hρ
        clear s_111111111 s_111111110 s_111111100 s_111111000 s_111110000 s_111011000 s_111100000 s_111010000 s_110011000 s_011011000 s_111000000 s_110010000 s_100011000 s_011010000 s_010011000 s_011000000 s_010010000 s_000011000
        refine hY 7 _ [3, 4, 5, 6, 9, 10, 11, 12, 32] [1, 4] _ (by kernel_rfl) rfl ⟨?_, ?_, trivial⟩
        · show opX _ _ _ _ _ _
          rw [hρ]
          refine opX_of (f := false) rfl (by decide) ?_
          simp (disch := omega) only [go_sem, ↓reduceIte, Nat.reduceEqDiff, Nat.reduceLT, Nat.reduceLeDiff, Nat.reduceAdd, Nat.reduceSub, Nat.reduceMul, reduceCtorEq, Int.reduceToNat, Int.reduceNeg, rtCf, rtDo, rtEs, rtFv]
          repeat refine And.intro (by first | omega | assumption | (simp only [List.length_append, List.length_cons, List.length_nil]; omega) | (intros; first | omega | assumption | (simp_all; done) | grind)) ?_   -- r4.4
          refine s_110000000 _ ?_
          simp (disch := omega) only [go_sem, ↓reduceIte, Nat.reduceEqDiff, Nat.reduceLT, Nat.reduceLeDiff, Nat.reduceAdd, Nat.reduceSub, Nat.reduceMul, reduceCtorEq, Int.reduceToNat, Int.reduceNeg, rtCf, rtDo, rtEs, rtFv] <;> first | rfl | omega | simp | simp_all
        · show opX _ _ _ _ _ _
          rw [hρ]
          refine opX_of (f := false) rfl (by decide) ?_
          simp (disch := omega) only [go_sem, ↓reduceIte, Nat.reduceEqDiff, Nat.reduceLT, Nat.reduceLeDiff, Nat.reduceAdd, Nat.reduceSub, Nat.reduceMul, reduceCtorEq, Int.reduceToNat, Int.reduceNeg, rtCf, rtDo, rtEs, rtFv]
          repeat refine And.intro (by first | omega | assumption | (simp only [List.length_append, List.length_cons, List.length_nil]; omega) | (intros; first | omega | assumption | (simp_all; done) | grind)) ?_   -- r4.4
          refine s_100010000 _ ?_
          simp (disch := omega) only [go_sem, ↓reduceIte, Nat.reduceEqDiff, Nat.reduceLT, Nat.reduceLeDiff, Nat.reduceAdd, Nat.reduceSub, Nat.reduceMul, reduceCtorEq, Int.reduceToNat, Int.reduceNeg, rtCf, rtDo, rtEs, rtFv] <;> first | rfl | omega | simp | simp_all
      have s_010000000 : ∀ ρ, keepC [3, 4, 5, 6, 9, 10, 11, 12, 33] ρ = mkE O [(3, vi c), (4, .bx (eRoute a)), (5, .bx (eRoute b)), (6, .bx (eSetting x)), (9, .bx (eRoute a)), (10, .bx (eRoute a)), (11, .bx (eRoute a)), (12, .bx (eRoute a)), (33, .bp 4 11)] → Y 8 #[false, true, false, false, false, false, false, false, false] ρ := by
        intro ρ hρ
        clear s_111111111 s_111111110 s_111111100 s_111111000 s_111110000 s_111011000 s_111100000 s_111010000 s_110011000 s_011011000 s_111000000 s_110010000 s_100011000 s_011010000 s_010011000 s_100010000 s_000011000
        refine hY 7 _ [3, 4, 5, 6, 9, 10, 11, 12, 33] [0, 2, 4] _ (by kernel_rfl) rfl ⟨?_, ?_, ?_, trivial⟩
        · show opX _ _ _ _ _ _
          rw [hρ]
          refine opX_of (f := false) rfl (by decide) ?_
          simp (disch := omega) only [go_sem, ↓reduceIte, Nat.reduceEqDiff, Nat.reduceLT, Nat.reduceLeDiff, Nat.reduceAdd, Nat.reduceSub, Nat.reduceMul, reduceCtorEq, Int.reduceToNat, Int.reduceNeg, rtCf, rtDo, rtEs, rtFv]
          repeat refine And.intro (by first | omega | assumption | (simp only [List.length_append, List.length_cons, List.length_nil]; omega) | (intros; first | omega | assumption | (simp_all; done) | grind)) ?_   -- r4.4
          refine s_110000000 _ ?_
          simp (disch := omega) only [go_sem, ↓reduceIte, Nat.reduceEqDiff, Nat.reduceLT, Nat.reduceLeDiff, Nat.reduceAdd, Nat.reduceSub, Nat.reduceMul, reduceCtorEq, Int.reduceToNat, Int.reduceNeg, rtCf, rtDo, rtEs, rtFv] <;> first | rfl | omega | simp | simp_all
        · show opX _ _ _ _ _ _
          rw [hρ]
          refine opX_of (f := false) rfl (by decide) ?_
          simp (disch := omega) only [go_sem, ↓reduceIte, Nat.reduceEqDiff, Nat.reduceLT, Nat.reduceLeDiff, Nat.reduceAdd, Nat.reduceSub, Nat.reduceMul, reduceCtorEq, Int.reduceToNat, Int.reduceNeg, rtCf, rtDo, rtEs, rtFv]
          repeat refine And.intro (by first | omega | assumption | (simp only [List.length_append, List.length_cons, List.length_nil]; omega) | (intros; first | omega | assumption | (simp_all; done) | grind)) ?_   -- r4.4
          refine s_011000000 _ ?_
          simp (disch := omega) only [go_sem, ↓reduceIte, Nat.reduceEqDiff, Nat.reduceLT, Nat.reduceLeDiff, Nat.reduceAdd, Nat.reduceSub, Nat.reduceMul, reduceCtorEq, Int.reduceToNat, Int.reduceNeg, rtCf, rtDo, rtEs, rtFv] <;> first | rfl | omega | simp | simp_all
        · show opX _ _ _ _ _ _
          rw [hρ]
          refine opX_of (f := false) rfl (by decide) ?_
          simp (disch := omega) only [go_sem, ↓reduceIte, Nat.reduceEqDiff, Nat.reduceLT, Nat.reduceLeDiff, Nat.reduceAdd, Nat.reduceSub, Nat.reduceMul, reduceCtorEq, Int.reduceToNat, Int.reduceNeg, rtCf, rtDo, rtEs, rtFv]
          repeat refine And.intro (by first | omega | assumption | (simp only [List.length_append, List.length_cons, List.length_nil]; omega) | (intros; first | omega | assumption | (simp_all; done) | grind)) ?_   -- r4.4
          refine s_010010000 _ ?_
          simp (disch := omega) only [go_sem, ↓reduceIte, Nat.reduceEqDiff, Nat.reduceLT, Nat.reduceLeDiff, Nat.reduceAdd, Nat.reduceSub, Nat.reduceMul, reduceCtorEq, Int.reduceToNat, Int.reduceNeg, rtCf, rtDo, rtEs, rtFv] <;> first | rfl | omega | simp | simp_all
      have s_000010000 : ∀ ρ, keepC [3, 4, 5, 6, 9, 10, 11, 12, 36] ρ = mkE O [(3, vi c), (4, .bx (eRoute a)), (5, .bx (eRoute b)), (6, .bx (eSetting x)), (9, .bx (eRoute a)), (10, .bx (eRoute a)), (11, .bx (eRoute a)), (12, .bx (eRoute a)), (36, .agg [vi x.fEl, vi x.fPos])] → Y 8 #[false, false, false, false, true, false, false, false, false] ρ := by
        intro ρ hρ
        clear s_111111111 s_111111110 s_111111100 s_111111000 s_111110000 s_111011000 s_111100000 s_111010000 s_110011000 s_011011000 s_111000000 s_110010000 s_100011000 s_011010000 s_010011000 s_110000000 s_011000000
        refine hY 7 _ [3, 4, 5, 6, 9, 10, 11, 12, 36] [0, 1, 5] _ (by kernel_rfl) rfl ⟨?_, ?_, ?_, trivial⟩
        · show opX _ _ _ _ _ _
          rw [hρ]
          refine opX_of (f := false) rfl (by decide) ?_
          simp (disch := omega) only [go_sem, ↓reduceIte, Nat.reduceEqDiff, Nat.reduceLT, Nat.reduceLeDiff, Nat.reduceAdd, Nat.reduceSub, Nat.reduceMul, reduceCtorEq, Int.reduceToNat, Int.reduceNeg, rtCf, rtDo, rtEs, rtFv]
          repeat refine And.intro (by first | omega | assumption | (simp only [List.length_append, List.length_cons, List.length_nil]; omega) | (intros; first | omega | assumption | (simp_all; done) | grind)) ?_   -- r4.4
          refine s_100010000 _ ?_
          simp (disch := omega) only [go_sem, ↓reduceIte, Nat.reduceEqDiff, Nat.reduceLT, Nat.reduceLeDiff, Nat.reduceAdd, Nat.reduceSub, Nat.reduceMul, reduceCtorEq, Int.reduceToNat, Int.reduceNeg, rtCf, rtDo, rtEs, rtFv] <;> first | rfl | omega | simp | simp_all
        · show opX _ _ _ _ _ _
          rw [hρ]
          refine opX_of (f := false) rfl (by decide) ?_
          simp (disch := omega) only [go_sem, ↓reduceIte, Nat.reduceEqDiff, Nat.reduceLT, Nat.reduceLeDiff, Nat.reduceAdd, Nat.reduceSub, Nat.reduceMul, reduceCtorEq, Int.reduceToNat, Int.reduceNeg, rtCf, rtDo, rtEs, rtFv]
          repeat refine And.intro (by first | omega | assumption | (simp only [List.length_append, List.length_cons, List.length_nil]; omega) | (intros; first | omega | assumption | (simp_all; done) | grind)) ?_   -- r4.4
          refine s_010010000 _ ?_
          simp (disch := omega) only [go_sem, ↓reduceIte, Nat.reduceEqDiff, Nat.reduceLT, Nat.reduceLeDiff, Nat.reduceAdd, Nat.reduceSub, Nat.reduceMul, reduceCtorEq, Int.reduceToNat, Int.reduceNeg, rtCf, rtDo, rtEs, rtFv] <;> first | rfl | omega | simp | simp_all
        · show opX _ _ _ _ _ _
          rw [hρ]
          refine opX_of (f := false) rfl (by decide) ?_
          simp (disch := omega) only [go_sem, ↓reduceIte, Nat.reduceEqDiff, Nat.reduceLT, Nat.reduceLeDiff, Nat.reduceAdd, Nat.reduceSub, Nat.reduceMul, reduceCtorEq, Int.reduceToNat, Int.reduceNeg, rtCf, rtDo, rtEs, rtFv]
          repeat refine And.intro (by first | omega | assumption | (simp only [List.length_append, List.length_cons, List.length_nil]; omega) | (intros; first | omega | assumption | (simp_all; done) | grind)) ?_   -- r4.4
          refine s_000011000 _ ?_
          simp (disch := omega) only [go_sem, ↓reduceIte, Nat.reduceEqDiff, Nat.reduceLT, Nat.reduceLeDiff, Nat.reduceAdd, Nat.reduceSub, Nat.reduceMul, reduceCtorEq, Int.reduceToNat, Int.reduceNeg, rtCf, rtDo, rtEs, rtFv] <;> first | rfl | omega | simp | simp_all
      have s_000000000 : ∀ ρ, keepC [3, 4, 5, 6, 9, 10, 11, 12] ρ = mkE O [(3, vi c), (4, .bx (eRoute a)), (5, .bx (eRoute b)), (6, .bx (eSetting x)), (9, .bx (eRoute a)), (10, .bx (eRoute a)), (11, .bx (eRoute a)), (12, .bx (eRoute a))] → Y 9 #[false, false, false, false, false, false, false, false, false] ρ := by
        intro ρ hρ
        clear s_111111111 s_111111110 s_111111100 s_111111000 s_111110000 s_111011000 s_111100000 s_111010000 s_110011000 s_011011000 s_111000000 s_110010000 s_100011000 s_011010000 s_010011000 s_110000000 s_100010000 s_011000000 s_010010000 s_000011000
        refine hY 8 _ [3, 4, 5, 6, 9, 10, 11, 12] [0, 1, 4] _ (by kernel_rfl) rfl ⟨?_, ?_, ?_, trivial⟩
        · show opX _ _ _ _ _ _
          rw [hρ]
          refine opX_of (f := false) rfl (by decide) ?_
          simp (disch := omega) only [go_sem, ↓reduceIte, Nat.reduceEqDiff, Nat.reduceLT, Nat.reduceLeDiff, Nat.reduceAdd, Nat.reduceSub, Nat.reduceMul, reduceCtorEq, Int.reduceToNat, Int.reduceNeg, rtCf, rtDo, rtEs, rtFv]
          repeat refine And.intro (by first | omega | assumption | (simp only [List.length_append, List.length_cons, List.length_nil]; omega) | (intros; first | omega | assumption | (simp_all; done) | grind)) ?_   -- r4.4
          refine s_100000000 _ ?_
          simp (disch := omega) only [go_sem, ↓reduceIte, Nat.reduceEqDiff, Nat.reduceLT, Nat.reduceLeDiff, Nat.reduceAdd, Nat.reduceSub, Nat.reduceMul, reduceCtorEq, Int.reduceToNat, Int.reduceNeg, rtCf, rtDo, rtEs, rtFv] <;> first | rfl | omega | simp | simp_all
        · show opX _ _ _ _ _ _
          rw [hρ]
          refine opX_of (f := false) rfl (by decide) ?_
          simp (disch := omega) only [go_sem, ↓reduceIte, Nat.reduceEqDiff, Nat.reduceLT, Nat.reduceLeDiff, Nat.reduceAdd, Nat.reduceSub, Nat.reduceMul, reduceCtorEq, Int.reduceToNat, Int.reduceNeg, rtCf, rtDo, rtEs, rtFv]
          repeat refine And.intro (by first | omega | assumption | (simp only [List.length_append, List.length_cons, List.length_nil]; omega) | (intros; first | omega | assumption | (simp_all; done) | grind)) ?_   -- r4.4
          refine s_010000000 _ ?_
          simp (disch := omega) only [go_sem, ↓reduceIte, Nat.reduceEqDiff, Nat.reduceLT, Nat.reduceLeDiff, Nat.reduceAdd, Nat.reduceSub, Nat.reduceMul, reduceCtorEq, Int.reduceToNat, Int.reduceNeg, rtCf, rtDo, rtEs, rtFv] <;> first | rfl | omega | simp | simp_all
        · show opX _ _ _ _ _ _
          rw [hρ]
          refine opX_of (f := false) rfl (by decide) ?_
          simp (disch := omega) only [go_sem, ↓reduceIte, Nat.reduceEqDiff, Nat.reduceLT, Nat.reduceLeDiff, Nat.reduceAdd, Nat.reduceSub, Nat.reduceMul, reduceCtorEq, Int.reduceToNat, Int.reduceNeg, rtCf, rtDo, rtEs, rtFv]
          repeat refine And.intro (by first | omega | assumption | (simp only [List.length_append, List.length_cons, List.length_nil]; omega) | (intros; first | omega | assumption | (simp_all; done) | grind)) ?_   -- r4.4
          refine s_000010000 _ ?_
          simp (disch := omega) only [go_sem, ↓reduceIte, Nat.reduceEqDiff, Nat.reduceLT, Nat.reduceLeDiff, Nat.reduceAdd, Nat.reduceSub, Nat.reduceMul, reduceCtorEq, Int.reduceToNat, Int.reduceNeg, rtCf, rtDo, rtEs, rtFv] <;> first | rfl | omega | simp | simp_all
      refine s_000000000 _ ?_
      simp (disch := omega) only [go_sem, ↓reduceIte, Nat.reduceEqDiff, Nat.reduceLT, Nat.reduceLeDiff, Nat.reduceAdd, Nat.reduceSub, Nat.reduceMul, reduceCtorEq, Int.reduceToNat, Int.reduceNeg, rtCf, rtDo, rtEs, rtFv] <;> first | rfl | omega | simp | simp_all
    have main : ∀ (m : Nat) (b0 b1 b2 b3 b4 b5 b6 b7 b8 b9 b10 b11 : Bool), cB b0 + cB b1 + cB b2 + cB b3 + cB b4 + cB b5 + cB b6 + cB b7 + cB b8 + cB b9 + cB b10 + cB b11 = m → (b8 = true → b4 = true) → (b9 = true → b5 = true) → (b10 = true → b6 = true) → (b11 = true → b7 = true) → ∀ ρ, keepC [3, 4, 5, 6, 28, 29, 30, 31, 9, 10, 11, 12] ρ = mkE O [(3, vi c), (4, .bx (eRoute a)), (5, .bx (eRoute b)), (6, .bx (eSetting x)), (28, selD b0 (.agg (eRoute a))), (29, selD b1 (.agg (eRoute a))), (30, selD b2 (.agg (eRoute a))), (31, selD b3 (.agg (eRoute a))), (9, sel2 b8 b4 (.bx (eRoute a)) (.bx zRt)), (10, sel2 b9 b5 (.bx (eRoute a)) (.bx zRt)), (11, sel2 b10 b6 (.bx (eRoute a)) (.bx zRt)), (12, sel2 b11 b7 (.bx (eRoute a)) (.bx zRt))] → Y m #[b0, b1, b2, b3, b4, b5, b6, b7, b8, b9, b10, b11] ρ := by
      intro m
      induction m with
      | zero =>
        intro b0 b1 b2 b3 b4 b5 b6 b7 b8 b9 b10 b11 hm i8 i9 i10 i11 ρ hρ
        have hc : ∀ b, cB b = 0 → b = true := fun b h => by cases b; cases h; rfl
        have e0 : b0 = true := hc b0 (by omega)
        have e1 : b1 = true := hc b1 (by omega)
        have e2 : b2 = true := hc b2 (by omega)
        have e3 : b3 = true := hc b3 (by omega)
        have e4 : b4 = true := hc b4 (by omega)
        have e5 : b5 = true := hc b5 (by omega)
        have e6 : b6 = true := hc b6 (by omega)
        have e7 : b7 = true := hc b7 (by omega)
        have e8 : b8 = true := hc b8 (by omega)
        have e9 : b9 = true := hc b9 (by omega)
        have e10 : b10 = true := hc b10 (by omega)
        have e11 : b11 = true := hc b11 (by omega)
        subst e0 e1 e2 e3 e4 e5 e6 e7 e8 e9 e10 e11
        exact t12 ρ hρ
      | succ m ih =>
        intro b0 b1 b2 b3 b4 b5 b6 b7 b8 b9 b10 b11 hm i8 i9 i10 i11 ρ hρ
        have hex : ∃ i, i < 12 ∧ #[b0, b1, b2, b3, b4, b5, b6, b7, b8, b9, b10, b11].getD i true = false := by
          clear ih hρ t12 hY hYm hY0
          cases b0
          · exact ⟨0, by omega, rfl⟩
          cases b1
          · exact ⟨1, by omega, rfl⟩
          cases b2
          · exact ⟨2, by omega, rfl⟩
          cases b3
          · exact ⟨3, by omega, rfl⟩
          cases b4
          · exact ⟨4, by omega, rfl⟩
          cases b5
          · exact ⟨5, by omega, rfl⟩
          cases b6
          · exact ⟨6, by omega, rfl⟩
          cases b7
          · exact ⟨7, by omega, rfl⟩
          cases b8
          · exact ⟨8, by omega, rfl⟩
          cases b9
          · exact ⟨9, by omega, rfl⟩
          cases b10
          · exact ⟨10, by omega, rfl⟩
          cases b11
          · exact ⟨11, by omega, rfl⟩
          exact absurd hm (by simp [cB])
        refine hYm m _ [3, 4, 5, 6, 28, 29, 30, 31, 9, 10, 11, 12] _ (by kernel_rfl) rfl hex ?_
        clear hY hYm hY0 t12 hex
        intro i o hun ho hdep
        have hi : i < 12 := (List.getElem?_eq_some_iff.1 ho).1
        match i, hi with
        | 0, _ =>
          obtain rfl : b0 = false := hun
          obtain rfl := Option.some.inj ho
          clear hdep
          rw [hρ]
          show opI _ _ _ false _ _
          simp (disch := omega) only [go_sem, ↓reduceIte, Nat.reduceEqDiff, Nat.reduceLT, Nat.reduceLeDiff, Nat.reduceAdd, Nat.reduceSub, Nat.reduceMul, reduceCtorEq, Int.reduceToNat, Int.reduceNeg, rtCf, rtDo, rtEs, rtFv]
          repeat refine And.intro (by first | omega | assumption | (simp only [List.length_append, List.length_cons, List.length_nil]; omega) | (intros; first | omega | assumption | (simp_all; done) | grind)) ?_   -- r3.3
          refine ih true b1 b2 b3 b4 b5 b6 b7 b8 b9 b10 b11 ?_ i8 i9 i10 i11 _ ?_
          · simp only [cB, cond_true, cond_false] at hm ⊢; omega
          · simp (disch := omega) only [go_sem, ↓reduceIte, Nat.reduceEqDiff, Nat.reduceLT, Nat.reduceLeDiff, Nat.reduceAdd, Nat.reduceSub, Nat.reduceMul, reduceCtorEq, Int.reduceToNat, Int.reduceNeg, rtCf, rtDo, rtEs, rtFv] <;> first | rfl | simp
        | 1, _ =>
          obtain rfl : b1 = false := hun
          obtain rfl := Option.some.inj ho
          clear hdep
          rw [hρ]
          show opI _ _ _ false _ _
          simp (disch := omega) only [go_sem, ↓reduceIte, Nat.reduceEqDiff, Nat.reduceLT, Nat.reduceLeDiff, Nat.reduceAdd, Nat.reduceSub, Nat.reduceMul, reduceCtorEq, Int.reduceToNat, Int.reduceNeg, rtCf, rtDo, rtEs, rtFv]
          repeat refine And.intro (by first | omega | assumption | (simp only [List.length_append, List.length_cons, List.length_nil]; omega) | (intros; first | omega | assumption | (simp_all; done) | grind)) ?_   -- r3.3
          refine ih b0 true b2 b3 b4 b5 b6 b7 b8 b9 b10 b11 ?_ i8 i9 i10 i11 _ ?_
          · simp only [cB, cond_true, cond_false] at hm ⊢; omega
          · simp (disch := omega) only [go_sem, ↓reduceIte, Nat.reduceEqDiff, Nat.reduceLT, Nat.reduceLeDiff, Nat.reduceAdd, Nat.reduceSub, Nat.reduceMul, reduceCtorEq, Int.reduceToNat, Int.reduceNeg, rtCf, rtDo, rtEs, rtFv] <;> first | rfl | simp
        | 2, _ =>
          obtain rfl : b2 = false := hun
          obtain rfl := Option.some.inj ho
          clear hdep
          rw [hρ]
          show opI _ _ _ false _ _
          simp (disch := omega) only [go_sem, ↓reduceIte, Nat.reduceEqDiff, Nat.reduceLT, Nat.reduceLeDiff, Nat.reduceAdd, Nat.reduceSub, Nat.reduceMul, reduceCtorEq, Int.reduceToNat, Int.reduceNeg, rtCf, rtDo, rtEs, rtFv]
          repeat refine And.intro (by first | omega | assumption | (simp only [List.length_append, List.length_cons, List.length_nil]; omega) | (intros; first | omega | assumption | (simp_all; done) | grind)) ?_   -- r3.3
          refine ih b0 b1 true b3 b4 b5 b6 b7 b8 b9 b10 b11 ?_ i8 i9 i10 i11 _ ?_
          · simp only [cB, cond_true, cond_false] at hm ⊢; omega
          · simp (disch := omega) only [go_sem, ↓reduceIte, Nat.reduceEqDiff, Nat.reduceLT, Nat.reduceLeDiff, Nat.reduceAdd, Nat.reduceSub, Nat.reduceMul, reduceCtorEq, Int.reduceToNat, Int.reduceNeg, rtCf, rtDo, rtEs, rtFv] <;> first | rfl | simp
        | 3, _ =>
          obtain rfl : b3 = false := hun
          obtain rfl := Option.some.inj ho
          clear hdep
          rw [hρ]
          show opI _ _ _ false _ _
          simp (disch := omega) only [go_sem, ↓reduceIte, Nat.reduceEqDiff, Nat.reduceLT, Nat.reduceLeDiff, Nat.reduceAdd, Nat.reduceSub, Nat.reduceMul, reduceCtorEq, Int.reduceToNat, Int.reduceNeg, rtCf, rtDo, rtEs, rtFv]
          repeat refine And.intro (by first | omega | assumption | (simp only [List.length_append, List.length_cons, List.length_nil]; omega) | (intros; first | omega | assumption | (simp_all; done) | grind)) ?_   -- r3.3
          refine ih b0 b1 b2 true b4 b5 b6 b7 b8 b9 b10 b11 ?_ i8 i9 i10 i11 _ ?_
          · simp only [cB, cond_true, cond_false] at hm ⊢; omega
          · simp (disch := omega) only [go_sem, ↓reduceIte, Nat.reduceEqDiff, Nat.reduceLT, Nat.reduceLeDiff, Nat.reduceAdd, Nat.reduceSub, Nat.reduceMul, reduceCtorEq, Int.reduceToNat, Int.reduceNeg, rtCf, rtDo, rtEs, rtFv] <;> first | rfl | simp
        | 4, _ =>
          obtain rfl : b4 = false := hun
          obtain rfl := Option.some.inj ho
          have n8 : b8 = false := by cases hc : b8 with
            | false => rfl
            | true => exact absurd (i8 hc) (by decide)
          subst n8
          clear hdep
          rw [hρ]
          show opI _ _ _ false _ _
          simp (disch := omega) only [go_sem, ↓reduceIte, Nat.reduceEqDiff, Nat.reduceLT, Nat.reduceLeDiff, Nat.reduceAdd, Nat.reduceSub, Nat.reduceMul, reduceCtorEq, Int.reduceToNat, Int.reduceNeg, rtCf, rtDo, rtEs, rtFv]
          repeat refine And.intro (by first | omega | assumption | (simp only [List.length_append, List.length_cons, List.length_nil]; omega) | (intros; first | omega | assumption | (simp_all; done) | grind)) ?_   -- r3.3
          refine ih b0 b1 b2 b3 true b5 b6 b7 false b9 b10 b11 ?_ (fun h => by cases h) i9 i10 i11 _ ?_
          · simp only [cB, cond_true, cond_false] at hm ⊢; omega
          · simp (disch := omega) only [go_sem, ↓reduceIte, Nat.reduceEqDiff, Nat.reduceLT, Nat.reduceLeDiff, Nat.reduceAdd, Nat.reduceSub, Nat.reduceMul, reduceCtorEq, Int.reduceToNat, Int.reduceNeg, rtCf, rtDo, rtEs, rtFv] <;> first | rfl | simp
        | 5, _ =>
          obtain rfl : b5 = false := hun
          obtain rfl := Option.some.inj ho
          have n9 : b9 = false := by cases hc : b9 with
            | false => rfl
            | true => exact absurd (i9 hc) (by decide)
          subst n9
          clear hdep
          rw [hρ]
          show opI _ _ _ false _ _
          simp (disch := omega) only [go_sem, ↓reduceIte, Nat.reduceEqDiff, Nat.reduceLT, Nat.reduceLeDiff, Nat.reduceAdd, Nat.reduceSub, Nat.reduceMul, reduceCtorEq, Int.reduceToNat, Int.reduceNeg, rtCf, rtDo, rtEs, rtFv]
          repeat refine And.intro (by first | omega | assumption | (simp only [List.length_append, List.length_cons, List.length_nil]; omega) | (intros; first | omega | assumption | (simp_all; done) | grind)) ?_   -- r3.3
          refine ih b0 b1 b2 b3 b4 true b6 b7 b8 false b10 b11 ?_ i8 (fun h => by cases h) i10 i11 _ ?_
          · simp only [cB, cond_true, cond_false] at hm ⊢; omega
          · simp (disch := omega) only [go_sem, ↓reduceIte, Nat.reduceEqDiff, Nat.reduceLT, Nat.reduceLeDiff, Nat.reduceAdd, Nat.reduceSub, Nat.reduceMul, reduceCtorEq, Int.reduceToNat, Int.reduceNeg, rtCf, rtDo, rtEs, rtFv] <;> first | rfl | simp
        | 6, _ =>
          obtain rfl : b6 = false := hun
          obtain rfl := Option.some.inj ho
          have n10 : b10 = false := by cases hc : b10 with
            | false => rfl
            | true => exact absurd (i10 hc) (by decide)
          subst n10
          clear hdep
          rw [hρ]
          show opI _ _ _ false _ _
          simp (disch := omega) only [go_sem, ↓reduceIte, Nat.reduceEqDiff, Nat.reduceLT, Nat.reduceLeDiff, Nat.reduceAdd, Nat.reduceSub, Nat.reduceMul, reduceCtorEq, Int.reduceToNat, Int.reduceNeg, rtCf, rtDo, rtEs, rtFv]
          repeat refine And.intro (by first | omega | assumption | (simp only [List.length_append, List.length_cons, List.length_nil]; omega) | (intros; first | omega | assumption | (simp_all; done) | grind)) ?_   -- r3.3
          refine ih b0 b1 b2 b3 b4 b5 true b7 b8 b9 false b11 ?_ i8 i9 (fun h => by cases h) i11 _ ?_
          · simp only [cB, cond_true, cond_false] at hm ⊢; omega
          · simp (disch := omega) only [go_sem, ↓reduceIte, Nat.reduceEqDiff, Nat.reduceLT, Nat.reduceLeDiff, Nat.reduceAdd, Nat.reduceSub, Nat.reduceMul, reduceCtorEq, Int.reduceToNat, Int.reduceNeg, rtCf, rtDo, rtEs, rtFv] <;> first | rfl | simp
        | 7, _ =>
          obtain rfl : b7 = false := hun
          obtain rfl := Option.some.inj ho
          have n11 : b11 = false := by cases hc : b11 with
            | false => rfl
            | true => exact absurd (i11 hc) (by decide)
          subst n11
          clear hdep
          rw [hρ]
          show opI _ _ _ false _ _
          simp (disch := omega) only [go_sem, ↓reduceIte, Nat.reduceEqDiff, Nat.reduceLT, Nat.reduceLeDiff, Nat.reduceAdd, Nat.reduceSub, Nat.reduceMul, reduceCtorEq, Int.reduceToNat, Int.reduceNeg, rtCf, rtDo, rtEs, rtFv]
          repeat refine And.intro (by first | omega | assumption | (simp only [List.length_append, List.length_cons, List.length_nil]; omega) | (intros; first | omega | assumption | (simp_all; done) | grind)) ?_   -- r3.3
          refine ih b0 b1 b2 b3 b4 b5 b6 true b8 b9 b10 false ?_ i8 i9 i10 (fun h => by cases h) _ ?_
          · simp only [cB, cond_true, cond_false] at hm ⊢; omega
          · simp (disch := omega) only [go_sem, ↓reduceIte, Nat.reduceEqDiff, Nat.reduceLT, Nat.reduceLeDiff, Nat.reduceAdd, Nat.reduceSub, Nat.reduceMul, reduceCtorEq, Int.reduceToNat, Int.reduceNeg, rtCf, rtDo, rtEs, rtFv] <;> first | rfl | simp
        | 8, _ =>
          obtain rfl : b8 = false := hun
          obtain rfl := Option.some.inj ho
          have e4 : b4 = true := hdep ⟨4, .phase⟩ (by simp) rfl
          have e5 : b5 = true := hdep ⟨5, .phase⟩ (by simp) rfl
          have e6 : b6 = true := hdep ⟨6, .phase⟩ (by simp) rfl
          have e7 : b7 = true := hdep ⟨7, .phase⟩ (by simp) rfl
          have e0 : b0 = true := hdep ⟨0, .data⟩ (by simp) rfl
          subst e4 e5 e6 e7 e0
          clear hdep
          rw [hρ]
          show opI _ _ _ false _ _
          simp (disch := omega) only [go_sem, ↓reduceIte, Nat.reduceEqDiff, Nat.reduceLT, Nat.reduceLeDiff, Nat.reduceAdd, Nat.reduceSub, Nat.reduceMul, reduceCtorEq, Int.reduceToNat, Int.reduceNeg, rtCf, rtDo, rtEs, rtFv]
          repeat refine And.intro (by first | omega | assumption | (simp only [List.length_append, List.length_cons, List.length_nil]; omega) | (intros; first | omega | assumption | (simp_all; done) | grind)) ?_   -- r3.3
          refine ih true b1 b2 b3 true true true true true b9 b10 b11 ?_ (fun _ => rfl) (fun _ => rfl) (fun _ => rfl) (fun _ => rfl) _ ?_
          · simp only [cB, cond_true, cond_false] at hm ⊢; omega
          · simp (disch := omega) only [go_sem, ↓reduceIte, Nat.reduceEqDiff, Nat.reduceLT, Nat.reduceLeDiff, Nat.reduceAdd, Nat.reduceSub, Nat.reduceMul, reduceCtorEq, Int.reduceToNat, Int.reduceNeg, rtCf, rtDo, rtEs, rtFv] <;> first | rfl | simp
        | 9, _ =>
          obtain rfl : b9 = false := hun
          obtain rfl := Option.some.inj ho
          have e4 : b4 = true := hdep ⟨4, .phase⟩ (by simp) rfl
          have e5 : b5 = true := hdep ⟨5, .phase⟩ (by simp) rfl
          have e6 : b6 = true := hdep ⟨6, .phase⟩ (by simp) rfl
          have e7 : b7 = true := hdep ⟨7, .phase⟩ (by simp) rfl
          have e0 : b0 = true := hdep ⟨0, .phase⟩ (by simp) rfl
          have e1 : b1 = true := hdep ⟨1, .data⟩ (by simp) rfl
          have e8 : b8 = true := hdep ⟨8, .phase⟩ (by simp) rfl
          subst e4 e5 e6 e7 e0 e1 e8
          clear hdep
          rw [hρ]
          show opI _ _ _ false _ _
          simp (disch := omega) only [go_sem, ↓reduceIte, Nat.reduceEqDiff, Nat.reduceLT, Nat.reduceLeDiff, Nat.reduceAdd, Nat.reduceSub, Nat.reduceMul, reduceCtorEq, Int.reduceToNat, Int.reduceNeg, rtCf, rtDo, rtEs, rtFv]
          repeat refine And.intro (by first | omega | assumption | (simp only [List.length_append, List.length_cons, List.length_nil]; omega) | (intros; first | omega | assumption | (simp_all; done) | grind)) ?_   -- r3.3
          refine ih true true b2 b3 true true true true true true b10 b11 ?_ (fun _ => rfl) (fun _ => rfl) (fun _ => rfl) (fun _ => rfl) _ ?_
          · simp only [cB, cond_true, cond_false] at hm ⊢; omega
          · simp (disch := omega) only [go_sem, ↓reduceIte, Nat.reduceEqDiff, Nat.reduceLT, Nat.reduceLeDiff, Nat.reduceAdd, Nat.reduceSub, Nat.reduceMul, reduceCtorEq, Int.reduceToNat, Int.reduceNeg, rtCf, rtDo, rtEs, rtFv] <;> first | rfl | simp
        | 10, _ =>
          obtain rfl : b10 = false := hun
          obtain rfl := Option.some.inj ho
          have e4 : b4 = true := hdep ⟨4, .phase⟩ (by simp) rfl
          have e5 : b5 = true := hdep ⟨5, .phase⟩ (by simp) rfl
          have e6 : b6 = true := hdep ⟨6, .phase⟩ (by simp) rfl
          have e7 : b7 = true := hdep ⟨7, .phase⟩ (by simp) rfl
          have e0 : b0 = true := hdep ⟨0, .phase⟩ (by simp) rfl
          have e1 : b1 = true := hdep ⟨1, .phase⟩ (by simp) rfl
          have e2 : b2 = true := hdep ⟨2, .data⟩ (by simp) rfl
          have e8 : b8 = true := hdep ⟨8, .phase⟩ (by simp) rfl
          have e9 : b9 = true := hdep ⟨9, .phase⟩ (by simp) rfl
          subst e4 e5 e6 e7 e0 e1 e2 e8 e9
          clear hdep
          rw [hρ]
          show opI _ _ _ false _ _
          simp (disch := omega) only [go_sem, ↓reduceIte, Nat.reduceEqDiff, Nat.reduceLT, Nat.reduceLeDiff, Nat.reduceAdd, Nat.reduceSub, Nat.reduceMul, reduceCtorEq, Int.reduceToNat, Int.reduceNeg, rtCf, rtDo, rtEs, rtFv]
          repeat refine And.intro (by first | omega | assumption | (simp only [List.length_append, List.length_cons, List.length_nil]; omega) | (intros; first | omega | assumption | (simp_all; done) | grind)) ?_   -- r3.3
          refine ih true true true b3 true true true true true true true b11 ?_ (fun _ => rfl) (fun _ => rfl) (fun _ => rfl) (fun _ => rfl) _ ?_
          · simp only [cB, cond_true, cond_false] at hm ⊢; omega
          · simp (disch := omega) only [go_sem, ↓reduceIte, Nat.reduceEqDiff, Nat.reduceLT, Nat.reduceLeDiff, Nat.reduceAdd, Nat.reduceSub, Nat.reduceMul, reduceCtorEq, Int.reduceToNat, Int.reduceNeg, rtCf, rtDo, rtEs, rtFv] <;> first | rfl | simp
        | 11, _ =>
          obtain rfl : b11 = false := hun
          obtain rfl := Option.some.inj ho
          have e4 : b4 = true := hdep ⟨4, .phase⟩ (by simp) rfl
          have e5 : b5 = true := hdep ⟨5, .phase⟩ (by simp) rfl
          have e6 : b6 = true := hdep ⟨6, .phase⟩ (by simp) rfl
          have e7 : b7 = true := hdep ⟨7, .phase⟩ (by simp) rfl
          have e0 : b0 = true := hdep ⟨0, .phase⟩ (by simp) rfl
          have e1 : b1 = true := hdep ⟨1, .phase⟩ (by simp) rfl
          have e2 : b2 = true := hdep ⟨2, .phase⟩ (by simp) rfl
          have e3 : b3 = true := hdep ⟨3, .data⟩ (by simp) rfl
          have e8 : b8 = true := hdep ⟨8, .phase⟩ (by simp) rfl
          have e9 : b9 = true := hdep ⟨9, .phase⟩ (by simp) rfl
          have e10 : b10 = true := hdep ⟨10, .phase⟩ (by simp) rfl
          subst e4 e5 e6 e7 e0 e1 e2 e3 e8 e9 e10
          clear hdep
          rw [hρ]
          show opI _ _ _ false _ _
          simp (disch := omega) only [go_sem, ↓reduceIte, Nat.reduceEqDiff, Nat.reduceLT, Nat.reduceLeDiff, Nat.reduceAdd, Nat.reduceSub, Nat.reduceMul, reduceCtorEq, Int.reduceToNat, Int.reduceNeg, rtCf, rtDo, rtEs, rtFv]
          repeat refine And.intro (by first | omega | assumption | (simp only [List.length_append, List.length_cons, List.length_nil]; omega) | (intros; first | omega | assumption | (simp_all; done) | grind)) ?_   -- r3.3
          refine ih true true true true true true true true true true true true ?_ (fun _ => rfl) (fun _ => rfl) (fun _ => rfl) (fun _ => rfl) _ ?_
          · simp only [cB, cond_true, cond_false] at hm ⊢; omega
          · simp (disch := omega) only [go_sem, ↓reduceIte, Nat.reduceEqDiff, Nat.reduceLT, Nat.reduceLeDiff, Nat.reduceAdd, Nat.reduceSub, Nat.reduceMul, reduceCtorEq, Int.reduceToNat, Int.reduceNeg, rtCf, rtDo, rtEs, rtFv] <;> first | rfl | simp
    refine main 12 false false false false false false false false false false false false rfl (fun h => by cases h) (fun h => by cases h) (fun h => by cases h) (fun h => by cases h) _ ?_
    simp (disch := omega) only [go_sem, ↓reduceIte, Nat.reduceEqDiff, Nat.reduceLT, Nat.reduceLeDiff, Nat.reduceAdd, Nat.reduceSub, Nat.reduceMul, reduceCtorEq, Int.reduceToNat, Int.reduceNeg, rtCf, rtDo, rtEs, rtFv] <;> first | rfl | simp

end Go.Sg
