/- Contracts of the comparison of schedules and its law. Printed by genw.py. -/
import Derived.Test.YtbndgcddihbhlaaSgB
import Derived.Test.YtbndgcddihbhlaaSt
import Derived.Test.YtbndgcddihbhlaaSgC
import Derived.KernelRfl
set_option linter.unusedVariables false
set_option linter.unusedSimpArgs false
set_option maxRecDepth 8000
namespace Go.Sg
open Go.Proofs
attribute [go_sem] i64id
abbrev encSt (l : List (List Int)) : DV := encL 1 (fun l : (List Int) => [encL 1 eI l]) l
def cmpI (a b : Int) : Int := if a < b then -1 else if b < a then 1 else 0
def cmpL : List Int → List Int → Int
  | [], [] => 0
  | [], _ :: _ => -1
  | _ :: _, [] => 1
  | a :: l, b :: m => if cmpI a b = 0 then cmpL l m else cmpI a b
def cmpS : List (List Int) → List (List Int) → Int
  | [], [] => 0
  | [], _ :: _ => -1
  | _ :: _, [] => 1
  | a :: l, b :: m => if cmpL a b = 0 then cmpS l m else cmpL a b
def betS (a b : Schedule) : Bool := if a.fCost ≠ b.fCost then decide (a.fCost < b.fCost) else decide (cmpS a.fStarts b.fStarts < 0)
theorem cmp_isNaN_int_ok (O : Env) (a : Int) : PCall Try.prog O 71 [vi a] (vb false) := by
  refine pcall_of_aw Try.func71 rfl (by kernel_rfl) ?_
  refine aw_seq fun K0 hK0 => ?_
  refine aw_reg [0] (by kernel_rfl) ?_
  simp (disch := omega) only [go_sem, seval]
  repeat refine And.intro obl ?_
  refine hK0 _ ?_; clear hK0
  refine aw_seq fun K1 hK1 => ?_
  refine aw_reg [0] (by kernel_rfl) ?_
  simp (disch := omega) only [go_sem, seval]
  repeat refine And.intro obl ?_
  refine hK1 _ ?_; clear hK1
  refine aw_ret ?_
  refine ret_tmp 2 rfl (by simp (disch := omega) only [go_sem, seval]) ?_
  exact Exp.is (by simp (disch := omega) only [go_sem, seval] <;> refine congrArg vb ?_ <;> (simp)) rfl rfl
theorem cmp_Compare_int_ok (O : Env) (a b : Int) : PCall Try.prog O 64 [vi a, vi b] (vi (cmpI a b)) := by
  refine pcall_of_aw Try.func64 rfl (by kernel_rfl) ?_
  refine aw_seq fun K0 hK0 => ?_
  refine aw_reg [0, 1] (by kernel_rfl) ?_
  simp (disch := omega) only [go_sem, seval]
  repeat refine And.intro obl ?_
  refine hK0 _ ?_; clear hK0
  refine aw_seq fun K1 hK1 => ?_
  refine aw_reg [0, 1] (by kernel_rfl) ?_
  simp (disch := omega) only [go_sem, seval]
  repeat refine And.intro obl ?_
  refine callG_of _ (cmp_isNaN_int_ok _ _) ?_
  simp (disch := omega) only [go_sem, seval]
  repeat refine And.intro obl ?_
  refine hK1 _ ?_; clear hK1
  refine aw_seq fun K2 hK2 => ?_
  refine aw_reg [0, 1, 5] (by kernel_rfl) ?_
  simp (disch := omega) only [go_sem, seval]
  repeat refine And.intro obl ?_
  refine callG_of _ (cmp_isNaN_int_ok _ _) ?_
  simp (disch := omega) only [go_sem, seval]
  repeat refine And.intro obl ?_
  refine hK2 _ ?_; clear hK2
  refine aw_seq fun K3 hK3 => ?_
  refine aw_seq fun K4 hK4 => ?_
  refine aw_reg [0, 1, 5, 6] (by kernel_rfl) ?_
  simp (disch := omega) only [go_sem, seval]
  repeat refine And.intro obl ?_
  refine hK4 _ ?_; clear hK4
  refine aw_cond false (by rfl) (rfl) (fun h => by cases h) (fun _ => ?_)
  refine aw_skip ?_
  refine hK3 _ ?_; clear hK3
  refine aw_seq fun K5 hK5 => ?_
  refine aw_seq fun K6 hK6 => ?_
  refine aw_reg [0, 1, 6] (by kernel_rfl) ?_
  simp (disch := omega) only [go_sem, seval]
  repeat refine And.intro obl ?_
  refine hK6 _ ?_; clear hK6
  refine aw_cond false (by rfl) (rfl) (fun h => by cases h) (fun _ => ?_)
  refine aw_skip ?_
  refine hK5 _ ?_; clear hK5
  refine aw_seq fun K7 hK7 => ?_
  refine aw_seq fun K8 hK8 => ?_
  refine aw_reg [0, 1] (by kernel_rfl) ?_
  simp (disch := omega) only [go_sem, seval]
  repeat refine And.intro obl ?_
  refine hK8 _ ?_; clear hK8
  refine aw_cond _ (by rfl) (rfl) (fun c2 => ?_) (fun c2 => ?_)
  · try simp only [push_cast] at c2
    refine aw_seq fun K9 hK9 => ?_
    refine aw_reg [] (by kernel_rfl) ?_
    simp (disch := omega) only [go_sem, seval]
    repeat refine And.intro obl ?_
    refine hK9 _ ?_; clear hK9
    refine aw_ret ?_
    refine ret_tmp 4 rfl (by simp (disch := omega) only [go_sem, seval]) ?_
    exact Exp.is (by simp (disch := omega) only [go_sem, seval] <;> (simp only [cmpI]; split <;> first | rfl | (split <;> first | rfl | omega) | omega)) rfl rfl
  · try simp only [push_cast] at c2
    refine aw_skip ?_
    refine hK7 _ ?_; clear hK7
    refine aw_seq fun K10 hK10 => ?_
    refine aw_seq fun K11 hK11 => ?_
    refine aw_reg [0, 1] (by kernel_rfl) ?_
    simp (disch := omega) only [go_sem, seval]
    repeat refine And.intro obl ?_
    refine hK11 _ ?_; clear hK11
    refine aw_cond _ (by rfl) (rfl) (fun c3 => ?_) (fun c3 => ?_)
    · try simp only [push_cast] at c3
      refine aw_seq fun K12 hK12 => ?_
      refine aw_reg [] (by kernel_rfl) ?_
      simp (disch := omega) only [go_sem, seval]
      repeat refine And.intro obl ?_
      refine hK12 _ ?_; clear hK12
      refine aw_ret ?_
      refine ret_tmp 4 rfl (by simp (disch := omega) only [go_sem, seval]) ?_
      exact Exp.is (by simp (disch := omega) only [go_sem, seval] <;> (simp only [cmpI]; split <;> first | rfl | (split <;> first | rfl | omega) | omega)) rfl rfl
    · try simp only [push_cast] at c3
      refine aw_skip ?_
      refine hK10 _ ?_; clear hK10
      refine aw_seq fun K13 hK13 => ?_
      refine aw_reg [] (by kernel_rfl) ?_
      simp (disch := omega) only [go_sem, seval]
      repeat refine And.intro obl ?_
      refine hK13 _ ?_; clear hK13
      refine aw_ret ?_
      refine ret_tmp 4 rfl (by simp (disch := omega) only [go_sem, seval]) ?_
      exact Exp.is (by simp (disch := omega) only [go_sem, seval] <;> (simp only [cmpI]; split <;> first | rfl | (split <;> first | rfl | omega) | omega)) rfl rfl
theorem cmpL_lt {a b : List Int} {i : Nat} (h : cmpL a b = cmpL (a.drop i) (b.drop i)) (h1 : i < a.length) (h2 : i < b.length) : cmpL a b = if cmpI (a.getD i default) (b.getD i default) = 0 then cmpL (a.drop (i + 1)) (b.drop (i + 1)) else cmpI (a.getD i default) (b.getD i default) := by
  rw [h, dropD default h1, dropD default h2]; rfl
theorem cmpL_ge {a b : List Int} {i : Nat} (h : cmpL a b = cmpL (a.drop i) (b.drop i)) (h1 : i < a.length) (h2 : b.length ≤ i) : cmpL a b = 1 := by rw [h, dropD default h1, dropE h2]; rfl
theorem cmpL_le {a b : List Int} {i : Nat} (h : cmpL a b = cmpL (a.drop i) (b.drop i)) (h1 : a.length ≤ i) (h2 : i < b.length) : cmpL a b = -1 := by rw [h, dropE h1, dropD default h2]; rfl
theorem cmpL_eq {a b : List Int} {i : Nat} (h : cmpL a b = cmpL (a.drop i) (b.drop i)) (h1 : a.length ≤ i) (h2 : b.length ≤ i) : cmpL a b = 0 := by rw [h, dropE h1, dropE h2]; rfl
theorem betS_e {a b : Schedule} (h : a.fCost = b.fCost) : betS a b = decide (cmpS a.fStarts b.fStarts < 0) := by rw [betS, if_neg (by omega)]
theorem cmpL_s1 {a b : List Int} {i : Nat} (h : cmpL a b = cmpL (a.drop i) (b.drop i)) (h1 : i < a.length) (h2 : i < b.length) (c : a.getD i default < b.getD i default) : cmpL a b = -1 := by rw [cmpL_lt h h1 h2, cmpI, if_pos c]; rfl
theorem cmpL_s2 {a b : List Int} {i : Nat} (h : cmpL a b = cmpL (a.drop i) (b.drop i)) (h1 : i < a.length) (h2 : i < b.length) (c : b.getD i default < a.getD i default) : cmpL a b = 1 := by rw [cmpL_lt h h1 h2, cmpI, if_neg (Int.not_lt.2 (Int.le_of_lt c)), if_pos c]; rfl
theorem cmpL_s3 {a b : List Int} {i : Nat} (h : cmpL a b = cmpL (a.drop i) (b.drop i)) (h1 : i < a.length) (h2 : i < b.length) (c1 : b.getD i default ≤ a.getD i default) (c2 : a.getD i default ≤ b.getD i default) : cmpL a b = cmpL (a.drop (i + 1)) (b.drop (i + 1)) := by rw [cmpL_lt h h1 h2, cmpI, if_neg (Int.not_lt.2 c1), if_neg (Int.not_lt.2 c2)]; rfl
theorem cmpS_lt {a b : List (List Int)} {i : Nat} (h : cmpS a b = cmpS (a.drop i) (b.drop i)) (h1 : i < a.length) (h2 : i < b.length) : cmpS a b = if cmpL (a.getD i default) (b.getD i default) = 0 then cmpS (a.drop (i + 1)) (b.drop (i + 1)) else cmpL (a.getD i default) (b.getD i default) := by
  rw [h, dropD default h1, dropD default h2]; rfl
theorem cmpS_ge {a b : List (List Int)} {i : Nat} (h : cmpS a b = cmpS (a.drop i) (b.drop i)) (h1 : i < a.length) (h2 : b.length ≤ i) : cmpS a b = 1 := by rw [h, dropD default h1, dropE h2]; rfl
theorem cmpS_le {a b : List (List Int)} {i : Nat} (h : cmpS a b = cmpS (a.drop i) (b.drop i)) (h1 : a.length ≤ i) (h2 : i < b.length) : cmpS a b = -1 := by rw [h, dropE h1, dropD default h2]; rfl
theorem cmpS_eq {a b : List (List Int)} {i : Nat} (h : cmpS a b = cmpS (a.drop i) (b.drop i)) (h1 : a.length ≤ i) (h2 : b.length ≤ i) : cmpS a b = 0 := by rw [h, dropE h1, dropE h2]; rfl
theorem betS_n {a b : Schedule} (h : a.fCost = b.fCost) {i : Nat} (h0 : i ≤ a.fStarts.length) (h1 : i ≤ b.fStarts.length) (h2 : cmpS a.fStarts b.fStarts = cmpS (a.fStarts.drop i) (b.fStarts.drop i)) (h3 : a.fStarts.length ≤ i ∨ b.fStarts.length ≤ i) : decide (a.fStarts.length < b.fStarts.length) = betS a b := by
  rw [betS_e h]
  rcases Nat.lt_trichotomy a.fStarts.length b.fStarts.length with g | g | g
  · rw [cmpS_le h2 (by omega) (by omega), decide_eq_true g]; rfl
  · rw [cmpS_eq h2 (by omega) (by omega), decide_eq_false (by omega)]; rfl
  · rw [cmpS_ge h2 (by omega) (by omega), decide_eq_false (by omega)]; rfl
structure Cmp {α : Type} (c : α → α → Int) : Prop where
  zero : ∀ a b, c a b = 0 ↔ a = b
  neg : ∀ a b, c b a = - c a b
  tr : ∀ a b d, c a b < 0 → c b d < 0 → c a d < 0
def lexC {α : Type} (c : α → α → Int) : List α → List α → Int
  | [], [] => 0
  | [], _ :: _ => -1
  | _ :: _, [] => 1
  | a :: l, b :: m => if c a b = 0 then lexC c l m else c a b
theorem lexC_cmp {α : Type} {c : α → α → Int} (h : Cmp c) : Cmp (lexC c) where
  zero := by
    intro a
    induction a with
    | nil => intro b; cases b <;> simp [lexC]
    | cons x l ih =>
      intro b
      cases b with
      | nil => simp [lexC]
      | cons y m =>
        simp only [lexC, List.cons.injEq]
        by_cases e : c x y = 0
        · rw [if_pos e, ih m]; simp [(h.zero x y).1 e]
        · rw [if_neg e]; simp [e, mt (h.zero x y).2 e]
  neg := by
    intro a
    induction a with
    | nil => intro b; cases b <;> simp [lexC]
    | cons x l ih =>
      intro b
      cases b with
      | nil => simp [lexC]
      | cons y m =>
        have hn := h.neg x y
        simp only [lexC]
        by_cases e : c x y = 0
        · rw [if_pos e, if_pos (by omega), ih m]
        · rw [if_neg e, if_neg (by omega), hn]
  tr := by
    intro a
    induction a with
    | nil =>
      intro b d h1 h2
      cases d with
      | nil => cases b <;> simp [lexC] at h1 h2
      | cons z n => simp [lexC]
    | cons x l ih =>
      intro b d h1 h2
      cases b with
      | nil => simp [lexC] at h1
      | cons y m =>
        cases d with
        | nil => simp [lexC] at h2
        | cons z n =>
          simp only [lexC] at h1 h2 ⊢
          by_cases e1 : c x y = 0
          · rw [if_pos e1] at h1
            obtain rfl := (h.zero x y).1 e1
            by_cases e2 : c x z = 0
            · rw [if_pos e2] at h2 ⊢; exact ih m n h1 h2
            · rw [if_neg e2] at h2 ⊢; exact h2
          · rw [if_neg e1] at h1
            by_cases e2 : c y z = 0
            · rw [if_pos e2] at h2
              obtain rfl := (h.zero y z).1 e2
              rw [if_neg e1]; exact h1
            · rw [if_neg e2] at h2
              have := h.tr x y z h1 h2
              rw [if_neg (by omega)]; exact this
theorem cmpI_cmp : Cmp cmpI where
  zero := fun a b => by unfold cmpI; split <;> (try split) <;> constructor <;> intro h <;> omega
  neg := fun a b => by unfold cmpI; split <;> (try split) <;> (try split) <;> omega
  tr := fun a b d => by unfold cmpI; split <;> (try split) <;> (try split) <;> (try split) <;> intro h1 h2 <;> (try split) <;> omega
theorem cmpL_lex : ∀ a b : List Int, cmpL a b = lexC cmpI a b
  | [], [] => rfl
  | [], _ :: _ => rfl
  | _ :: _, [] => rfl
  | a :: l, b :: m => by simp only [cmpL, lexC, cmpL_lex l m]
theorem cmpL_cmp : Cmp cmpL := by rw [show cmpL = lexC cmpI from funext fun a => funext fun b => cmpL_lex a b]; exact lexC_cmp cmpI_cmp
theorem cmpS_lex : ∀ a b : List (List Int), cmpS a b = lexC cmpL a b
  | [], [] => rfl
  | [], _ :: _ => rfl
  | _ :: _, [] => rfl
  | a :: l, b :: m => by simp only [cmpS, lexC, cmpS_lex l m]
theorem cmpS_cmp : Cmp cmpS := by rw [show cmpS = lexC cmpL from funext fun a => funext fun b => cmpS_lex a b]; exact lexC_cmp cmpL_cmp
theorem betS_iff (a b : Schedule) : betS a b = true ↔ a.fCost < b.fCost ∨ a.fCost = b.fCost ∧ cmpS a.fStarts b.fStarts < 0 := by
  unfold betS
  split
  · rw [decide_eq_true_eq]; omega
  · rw [decide_eq_true_eq]; omega
theorem slices_Compare_int_ok (O : Env) (a b : List Int) : PCall Try.prog O 38 [encI a, encI b] (vi (cmpL a b)) := by
  refine pcall_has 0 rfl (.sl _ _ _) fun ha => ?_
  refine pcall_has 1 rfl (.sl _ _ _) fun hb => ?_
  refine pcall_of_aw Try.func38 rfl (by kernel_rfl) ?_
  refine aw_seq fun K0 hK0 => ?_
  refine aw_reg [0, 1] (by kernel_rfl) ?_
  simp (disch := omega) only [go_sem, seval]
  repeat refine And.intro obl ?_
  refine hK0 _ ?_; clear hK0
  refine aw_seq fun K1 hK1 => ?_
  refine aw_seq fun K2 hK2 => ?_
  refine aw_reg [0, 1] (by kernel_rfl) ?_
  simp (disch := omega) only [go_sem, seval]
  repeat refine And.intro obl ?_
  refine hK2 _ ?_; clear hK2
  refine aw_block ?_
  refine aw_loopK [0, 1, 9, 10, 11] (fun n ρ => ∃ i, n = a.length - i ∧ (i ≤ a.length) ∧ (i ≤ b.length) ∧ (cmpL a b = cmpL (a.drop i) (b.drop i)) ∧ ρ = mkE O [(0, encI a), (1, encI b), (9, encI a), (10, vi (a.length : Nat)), (11, vi (i : Nat))]) _ ⟨0, rfl, ?_, ?_, ?_, ?_⟩ ?_
  · exact dfl
  · exact dfl
  · rfl
  · simp (disch := omega) only [go_sem, seval] <;> first | rfl | omega | simp | simp_all
  rintro n ρ ⟨i, rfl, l0_0, l0_1, l0_2, rfl⟩ K3 hK3
  refine aw_seq fun K4 hK4 => ?_
  refine aw_reg [0, 1, 9, 10, 11] (by kernel_rfl) ?_
  simp (disch := omega) only [go_sem, seval]
  repeat refine And.intro obl ?_
  refine hK4 _ ?_; clear hK4
  refine aw_seq fun K5 hK5 => ?_
  refine aw_cond _ (by rfl) (rfl) (fun c0 => ?_) (fun c0 => ?_)
  · try simp only [push_cast] at c0
    refine aw_skip ?_
    refine hK5 _ ?_; clear hK5
    refine aw_seq fun K6 hK6 => ?_
    refine aw_block ?_
    refine aw_seq fun K7 hK7 => ?_
    refine aw_reg [0, 1, 9, 10, 11] (by kernel_rfl) ?_
    simp (disch := omega) only [go_sem, seval]
    repeat refine And.intro obl ?_
    refine hK7 _ ?_; clear hK7
    refine aw_seq fun K8 hK8 => ?_
    refine aw_seq fun K9 hK9 => ?_
    refine aw_reg [0, 1, 5, 6, 9, 10, 11] (by kernel_rfl) ?_
    simp (disch := omega) only [go_sem, seval]
    repeat refine And.intro obl ?_
    refine hK9 _ ?_; clear hK9
    refine aw_cond _ (by rfl) (rfl) (fun c1 => ?_) (fun c1 => ?_)
    · try simp only [push_cast] at c1
      refine aw_seq fun K10 hK10 => ?_
      refine aw_reg [] (by kernel_rfl) ?_
      simp (disch := omega) only [go_sem, seval]
      repeat refine And.intro obl ?_
      refine hK10 _ ?_; clear hK10
      refine aw_ret ?_
      refine ret_tmp 4 rfl (by simp (disch := omega) only [go_sem, seval]) ?_
      exact Exp.is (by simp (disch := omega) only [go_sem, seval] <;> (rw [cmpL_ge l0_2 c0 c1])) rfl rfl
    · try simp only [push_cast] at c1
      refine aw_skip ?_
      refine hK8 _ ?_; clear hK8
      refine aw_seq fun K11 hK11 => ?_
      refine aw_reg [0, 1, 5, 6, 9, 10, 11] (by kernel_rfl) ?_
      simp (disch := omega) only [go_sem, seval]
      repeat refine And.intro obl ?_
      refine hK11 _ ?_; clear hK11
      refine aw_seq fun K12 hK12 => ?_
      refine aw_reg [0, 1, 6, 7, 9, 10, 11] (by kernel_rfl) ?_
      simp (disch := omega) only [go_sem, seval]
      repeat refine And.intro obl ?_
      refine callG_of _ (cmp_Compare_int_ok _ (a.getD i default) (b.getD i default)) ?_
      simp (disch := omega) only [go_sem, seval]
      repeat refine And.intro obl ?_
      refine hK12 _ ?_; clear hK12
      refine aw_seq fun K13 hK13 => ?_
      refine aw_reg [0, 1, 8, 9, 10, 11] (by kernel_rfl) ?_
      simp (disch := omega) only [go_sem, seval]
      repeat refine And.intro obl ?_
      refine hK13 _ ?_; clear hK13
      refine aw_cond _ (by rfl) (rfl) (fun c2 => ?_) (fun c2 => ?_)
      · try simp only [push_cast] at c2
        refine aw_seq fun K14 hK14 => ?_
        refine aw_reg [8] (by kernel_rfl) ?_
        simp (disch := omega) only [go_sem, seval]
        repeat refine And.intro obl ?_
        refine hK14 _ ?_; clear hK14
        refine aw_ret ?_
        refine ret_tmp 4 rfl (by simp (disch := omega) only [go_sem, seval]) ?_
        exact Exp.is (by simp (disch := omega) only [go_sem, seval] <;> (rw [cmpL_lt l0_2 c0 c1, if_neg c2])) rfl rfl
      · try simp only [push_cast] at c2
        refine aw_skip ?_
        refine hK6 _ ?_; clear hK6
        refine aw_reg [0, 1, 9, 10, 11] (by kernel_rfl) ?_
        simp (disch := omega) only [go_sem, seval]
        repeat refine And.intro obl ?_
        refine hK3 _ _ ?_ ⟨i + 1, rfl, ?_, ?_, ?_, ?_⟩
        · exact dfl
        · exact dfl
        · exact dfl
        · rw [cmpL_lt l0_2 c0 c1, if_pos c2]
        · simp (disch := omega) only [go_sem, seval] <;> first | rfl | omega | simp | simp_all
  · try simp only [push_cast] at c0
    refine aw_exit ?_
    refine hK1 _ ?_; clear hK1
    refine aw_seq fun K15 hK15 => ?_
    refine aw_seq fun K16 hK16 => ?_
    refine aw_reg [0, 1] (by kernel_rfl) ?_
    simp (disch := omega) only [go_sem, seval]
    repeat refine And.intro obl ?_
    refine hK16 _ ?_; clear hK16
    refine aw_cond _ (by rfl) (rfl) (fun c3 => ?_) (fun c3 => ?_)
    · try simp only [push_cast] at c3
      refine aw_seq fun K17 hK17 => ?_
      refine aw_reg [] (by kernel_rfl) ?_
      simp (disch := omega) only [go_sem, seval]
      repeat refine And.intro obl ?_
      refine hK17 _ ?_; clear hK17
      refine aw_ret ?_
      refine ret_tmp 4 rfl (by simp (disch := omega) only [go_sem, seval]) ?_
      exact Exp.is (by simp (disch := omega) only [go_sem, seval] <;> (rw [cmpL_le l0_2 (by omega) (by omega)])) rfl rfl
    · try simp only [push_cast] at c3
      refine aw_skip ?_
      refine hK15 _ ?_; clear hK15
      refine aw_seq fun K18 hK18 => ?_
      refine aw_reg [] (by kernel_rfl) ?_
      simp (disch := omega) only [go_sem, seval]
      repeat refine And.intro obl ?_
      refine hK18 _ ?_; clear hK18
      refine aw_ret ?_
      refine ret_tmp 4 rfl (by simp (disch := omega) only [go_sem, seval]) ?_
      exact Exp.is (by simp (disch := omega) only [go_sem, seval] <;> (rw [cmpL_eq l0_2 (by omega) (by omega)])) rfl rfl
theorem slices_CompareFunc_int_ok (O : Env) (a b : List (List Int)) : PCall Try.prog O 37 [encSt a, encSt b, .fn 38 [] []] (vi (cmpS a b)) := by
  refine pcall_has 0 rfl (.sl _ _ _) fun ha => ?_
  refine pcall_has 1 rfl (.sl _ _ _) fun hb => ?_
  refine pcall_of_aw Try.func37 rfl (by kernel_rfl) ?_
  refine aw_seq fun K0 hK0 => ?_
  refine aw_reg [0, 1, 2] (by kernel_rfl) ?_
  simp (disch := omega) only [go_sem, seval]
  repeat refine And.intro obl ?_
  refine hK0 _ ?_; clear hK0
  refine aw_seq fun K1 hK1 => ?_
  refine aw_seq fun K2 hK2 => ?_
  refine aw_reg [0, 1, 2] (by kernel_rfl) ?_
  simp (disch := omega) only [go_sem, seval]
  repeat refine And.intro obl ?_
  refine hK2 _ ?_; clear hK2
  refine aw_block ?_
  refine aw_loopK [0, 1, 2, 11, 12, 13] (fun n ρ => ∃ i, n = a.length - i ∧ (i ≤ a.length) ∧ (i ≤ b.length) ∧ (cmpS a b = cmpS (a.drop i) (b.drop i)) ∧ ρ = mkE O [(0, encSt a), (1, encSt b), (2, .fn 38 [] []), (11, encSt a), (12, vi (a.length : Nat)), (13, vi (i : Nat))]) _ ⟨0, rfl, ?_, ?_, ?_, ?_⟩ ?_
  · exact dfl
  · exact dfl
  · rfl
  · simp (disch := omega) only [go_sem, seval] <;> first | rfl | omega | simp | simp_all
  rintro n ρ ⟨i, rfl, l0_0, l0_1, l0_2, rfl⟩ K3 hK3
  refine aw_seq fun K4 hK4 => ?_
  refine aw_reg [0, 1, 2, 11, 12, 13] (by kernel_rfl) ?_
  simp (disch := omega) only [go_sem, seval]
  repeat refine And.intro obl ?_
  refine hK4 _ ?_; clear hK4
  refine aw_seq fun K5 hK5 => ?_
  refine aw_cond _ (by rfl) (rfl) (fun c0 => ?_) (fun c0 => ?_)
  · try simp only [push_cast] at c0
    refine aw_skip ?_
    refine hK5 _ ?_; clear hK5
    refine aw_seq fun K6 hK6 => ?_
    refine aw_block ?_
    refine aw_seq fun K7 hK7 => ?_
    refine aw_reg [0, 1, 2, 11, 12, 13] (by kernel_rfl) ?_
    simp (disch := omega) only [go_sem, seval]
    repeat refine And.intro obl ?_
    refine hK7 _ ?_; clear hK7
    refine aw_seq fun K8 hK8 => ?_
    refine aw_seq fun K9 hK9 => ?_
    refine aw_reg [0, 1, 2, 7, 8, 11, 12, 13, 16] (by kernel_rfl) ?_
    simp (disch := omega) only [go_sem, seval]
    repeat refine And.intro obl ?_
    refine hK9 _ ?_; clear hK9
    refine aw_cond _ (by rfl) (rfl) (fun c1 => ?_) (fun c1 => ?_)
    · try simp only [push_cast] at c1
      refine aw_seq fun K10 hK10 => ?_
      refine aw_reg [] (by kernel_rfl) ?_
      simp (disch := omega) only [go_sem, seval]
      repeat refine And.intro obl ?_
      refine hK10 _ ?_; clear hK10
      refine aw_ret ?_
      refine ret_tmp 6 rfl (by simp (disch := omega) only [go_sem, seval]) ?_
      exact Exp.is (by simp (disch := omega) only [go_sem, seval] <;> (rw [cmpS_ge l0_2 c0 c1])) rfl rfl
    · try simp only [push_cast] at c1
      refine aw_skip ?_
      refine hK8 _ ?_; clear hK8
      refine aw_seq fun K11 hK11 => ?_
      refine aw_reg [0, 1, 2, 7, 8, 11, 12, 13, 16] (by kernel_rfl) ?_
      simp (disch := omega) only [go_sem, seval]
      repeat refine And.intro obl ?_
      refine hK11 _ ?_; clear hK11
      refine aw_seq fun K12 hK12 => ?_
      refine aw_reg [0, 1, 2, 8, 9, 11, 12, 13, 16, 22, 23, 24] (by kernel_rfl) ?_
      simp (disch := omega) only [go_sem, seval]
      repeat refine And.intro obl ?_
      refine callG_of _ (slices_Compare_int_ok _ (a.getD i default) (b.getD i default)) ?_
      simp (disch := omega) only [go_sem, seval]
      repeat refine And.intro obl ?_
      refine hK12 _ ?_; clear hK12
      refine aw_seq fun K13 hK13 => ?_
      refine aw_reg [0, 1, 2, 10, 11, 12, 13] (by kernel_rfl) ?_
      simp (disch := omega) only [go_sem, seval]
      repeat refine And.intro obl ?_
      refine hK13 _ ?_; clear hK13
      refine aw_cond _ (by rfl) (rfl) (fun c2 => ?_) (fun c2 => ?_)
      · try simp only [push_cast] at c2
        refine aw_seq fun K14 hK14 => ?_
        refine aw_reg [10] (by kernel_rfl) ?_
        simp (disch := omega) only [go_sem, seval]
        repeat refine And.intro obl ?_
        refine hK14 _ ?_; clear hK14
        refine aw_ret ?_
        refine ret_tmp 6 rfl (by simp (disch := omega) only [go_sem, seval]) ?_
        exact Exp.is (by simp (disch := omega) only [go_sem, seval] <;> (rw [cmpS_lt l0_2 c0 c1, if_neg c2])) rfl rfl
      · try simp only [push_cast] at c2
        refine aw_skip ?_
        refine hK6 _ ?_; clear hK6
        refine aw_reg [0, 1, 2, 11, 12, 13] (by kernel_rfl) ?_
        simp (disch := omega) only [go_sem, seval]
        repeat refine And.intro obl ?_
        refine hK3 _ _ ?_ ⟨i + 1, rfl, ?_, ?_, ?_, ?_⟩
        · exact dfl
        · exact dfl
        · exact dfl
        · rw [cmpS_lt l0_2 c0 c1, if_pos c2]
        · simp (disch := omega) only [go_sem, seval] <;> first | rfl | omega | simp | simp_all
  · try simp only [push_cast] at c0
    refine aw_exit ?_
    refine hK1 _ ?_; clear hK1
    refine aw_seq fun K15 hK15 => ?_
    refine aw_seq fun K16 hK16 => ?_
    refine aw_reg [0, 1] (by kernel_rfl) ?_
    simp (disch := omega) only [go_sem, seval]
    repeat refine And.intro obl ?_
    refine hK16 _ ?_; clear hK16
    refine aw_cond _ (by rfl) (rfl) (fun c3 => ?_) (fun c3 => ?_)
    · try simp only [push_cast] at c3
      refine aw_seq fun K17 hK17 => ?_
      refine aw_reg [] (by kernel_rfl) ?_
      simp (disch := omega) only [go_sem, seval]
      repeat refine And.intro obl ?_
      refine hK17 _ ?_; clear hK17
      refine aw_ret ?_
      refine ret_tmp 6 rfl (by simp (disch := omega) only [go_sem, seval]) ?_
      exact Exp.is (by simp (disch := omega) only [go_sem, seval] <;> (rw [cmpS_le l0_2 (by omega) (by omega)])) rfl rfl
    · try simp only [push_cast] at c3
      refine aw_skip ?_
      refine hK15 _ ?_; clear hK15
      refine aw_seq fun K18 hK18 => ?_
      refine aw_reg [] (by kernel_rfl) ?_
      simp (disch := omega) only [go_sem, seval]
      repeat refine And.intro obl ?_
      refine hK18 _ ?_; clear hK18
      refine aw_ret ?_
      refine ret_tmp 6 rfl (by simp (disch := omega) only [go_sem, seval]) ?_
      exact Exp.is (by simp (disch := omega) only [go_sem, seval] <;> (rw [cmpS_eq l0_2 (by omega) (by omega)])) rfl rfl
theorem ref49_compare_ok (O : Env) (a b : List Int) : PCall Try.prog O 39 [encI a, encI b] (vi (cmpL a b)) := by
  refine pcall_has 0 rfl (.sl _ _ _) fun ha => ?_
  refine pcall_has 1 rfl (.sl _ _ _) fun hb => ?_
  refine pcall_of_aw Try.func39 rfl (by kernel_rfl) ?_
  refine aw_seq fun K0 hK0 => ?_
  refine aw_reg [0, 1] (by kernel_rfl) ?_
  simp (disch := omega) only [go_sem, seval]
  repeat refine And.intro obl ?_
  refine hK0 _ ?_; clear hK0
  refine aw_seq fun K1 hK1 => ?_
  refine aw_seq fun K2 hK2 => ?_
  refine aw_reg [0, 1] (by kernel_rfl) ?_
  simp (disch := omega) only [go_sem, seval]
  repeat refine And.intro obl ?_
  refine hK2 _ ?_; clear hK2
  refine aw_block ?_
  refine aw_loopK [0, 1, 5] (fun n ρ => ∃ i, n = a.length - i ∧ (i ≤ a.length) ∧ (i ≤ b.length) ∧ (cmpL a b = cmpL (a.drop i) (b.drop i)) ∧ ρ = mkE O [(0, encI a), (1, encI b), (5, vi (i : Nat))]) _ ⟨0, rfl, ?_, ?_, ?_, ?_⟩ ?_
  · exact dfl
  · exact dfl
  · rfl
  · simp (disch := omega) only [go_sem, seval] <;> first | rfl | omega | simp | simp_all
  rintro n ρ ⟨i, rfl, l0_0, l0_1, l0_2, rfl⟩ K3 hK3
  refine aw_seq fun K4 hK4 => ?_
  refine aw_seq fun K5 hK5 => ?_
  refine aw_reg [0, 1, 5] (by kernel_rfl) ?_
  simp (disch := omega) only [go_sem, seval]
  repeat refine And.intro obl ?_
  refine hK5 _ ?_; clear hK5
  refine aw_cond _ (by rfl) (rfl) (fun c0 => ?_) (fun c0 => ?_)
  · try simp only [push_cast] at c0
    refine aw_skip ?_
    refine hK4 _ ?_; clear hK4
    refine aw_seq fun K6 hK6 => ?_
    refine aw_block ?_
    refine aw_seq fun K7 hK7 => ?_
    refine aw_seq fun K8 hK8 => ?_
    refine aw_regDc [0, 1, 5] [] mixed (by kernel_rfl) ?_
    simp (disch := omega) only [go_sem, seval]
    repeat refine And.intro obl ?_
    refine hK8 _ ?_; clear hK8
    refine aw_cond _ (by rfl) (rfl) (fun c1 => ?_) (fun c1 => ?_)
    · try simp only [push_cast] at c1
      refine aw_seq fun K9 hK9 => ?_
      refine aw_reg [] (by kernel_rfl) ?_
      simp (disch := omega) only [go_sem, seval]
      repeat refine And.intro obl ?_
      refine hK9 _ ?_; clear hK9
      refine aw_ret ?_
      refine ret_tmp 4 rfl (by simp (disch := omega) only [go_sem, seval]) ?_
      exact Exp.is (by simp (disch := omega) only [go_sem, seval] <;> (rw [cmpL_s1 l0_2 c0.1 c0.2 c1])) rfl rfl
    · try simp only [push_cast] at c1
      refine aw_skip ?_
      refine hK7 _ ?_; clear hK7
      refine aw_seq fun K10 hK10 => ?_
      refine aw_regDc [0, 1, 5] [] mixed (by kernel_rfl) ?_
      simp (disch := omega) only [go_sem, seval]
      repeat refine And.intro obl ?_
      refine hK10 _ ?_; clear hK10
      refine aw_cond _ (by rfl) (rfl) (fun c2 => ?_) (fun c2 => ?_)
      · try simp only [push_cast] at c2
        refine aw_seq fun K11 hK11 => ?_
        refine aw_reg [] (by kernel_rfl) ?_
        simp (disch := omega) only [go_sem, seval]
        repeat refine And.intro obl ?_
        refine hK11 _ ?_; clear hK11
        refine aw_ret ?_
        refine ret_tmp 4 rfl (by simp (disch := omega) only [go_sem, seval]) ?_
        exact Exp.is (by simp (disch := omega) only [go_sem, seval] <;> (rw [cmpL_s2 l0_2 c0.1 c0.2 c2])) rfl rfl
      · try simp only [push_cast] at c2
        refine aw_skip ?_
        refine hK6 _ ?_; clear hK6
        refine aw_reg [0, 1, 5] (by kernel_rfl) ?_
        simp (disch := omega) only [go_sem, seval]
        repeat refine And.intro obl ?_
        refine hK3 _ _ ?_ ⟨i + 1, rfl, ?_, ?_, ?_, ?_⟩
        · exact dfl
        · exact dfl
        · exact dfl
        · exact cmpL_s3 l0_2 c0.1 c0.2 c1 c2
        · simp (disch := omega) only [go_sem, seval] <;> first | rfl | omega | simp | simp_all
  · try simp only [push_cast] at c0
    refine aw_exit ?_
    refine hK1 _ ?_; clear hK1
    refine aw_seq fun K12 hK12 => ?_
    refine aw_seq fun K13 hK13 => ?_
    refine aw_reg [0, 1] (by kernel_rfl) ?_
    simp (disch := omega) only [go_sem, seval]
    repeat refine And.intro obl ?_
    refine hK13 _ ?_; clear hK13
    refine aw_cond _ (by rfl) (rfl) (fun c3 => ?_) (fun c3 => ?_)
    · try simp only [push_cast] at c3
      refine aw_seq fun K14 hK14 => ?_
      refine aw_reg [] (by kernel_rfl) ?_
      simp (disch := omega) only [go_sem, seval]
      repeat refine And.intro obl ?_
      refine hK14 _ ?_; clear hK14
      refine aw_ret ?_
      refine ret_tmp 4 rfl (by simp (disch := omega) only [go_sem, seval]) ?_
      exact Exp.is (by simp (disch := omega) only [go_sem, seval] <;> (rw [cmpL_le l0_2 (by omega) (by omega)])) rfl rfl
    · try simp only [push_cast] at c3
      refine aw_skip ?_
      refine hK12 _ ?_; clear hK12
      refine aw_seq fun K15 hK15 => ?_
      refine aw_seq fun K16 hK16 => ?_
      refine aw_reg [0, 1] (by kernel_rfl) ?_
      simp (disch := omega) only [go_sem, seval]
      repeat refine And.intro obl ?_
      refine hK16 _ ?_; clear hK16
      refine aw_cond _ (by rfl) (rfl) (fun c4 => ?_) (fun c4 => ?_)
      · try simp only [push_cast] at c4
        refine aw_seq fun K17 hK17 => ?_
        refine aw_reg [] (by kernel_rfl) ?_
        simp (disch := omega) only [go_sem, seval]
        repeat refine And.intro obl ?_
        refine hK17 _ ?_; clear hK17
        refine aw_ret ?_
        refine ret_tmp 4 rfl (by simp (disch := omega) only [go_sem, seval]) ?_
        exact Exp.is (by simp (disch := omega) only [go_sem, seval] <;> (rw [cmpL_ge l0_2 (by omega) (by omega)])) rfl rfl
      · try simp only [push_cast] at c4
        refine aw_skip ?_
        refine hK15 _ ?_; clear hK15
        refine aw_seq fun K18 hK18 => ?_
        refine aw_reg [] (by kernel_rfl) ?_
        simp (disch := omega) only [go_sem, seval]
        repeat refine And.intro obl ?_
        refine hK18 _ ?_; clear hK18
        refine aw_ret ?_
        refine ret_tmp 4 rfl (by simp (disch := omega) only [go_sem, seval]) ?_
        exact Exp.is (by simp (disch := omega) only [go_sem, seval] <;> (rw [cmpL_eq l0_2 (by omega) (by omega)])) rfl rfl
theorem dispatch_Better_ok (O : Env) (a b : Schedule) : PCall Try.prog O 17 [.agg (eSchedule a), .agg (eSchedule b)] (vb (betS a b)) := by
  refine pcall_of_aw Try.func17 rfl (by kernel_rfl) ?_
  refine aw_seq fun K0 hK0 => ?_
  refine aw_reg [0, 1] (by kernel_rfl) ?_
  simp (disch := omega) only [go_sem, seval]
  repeat refine And.intro obl ?_
  refine hK0 _ ?_; clear hK0
  refine aw_seq fun K1 hK1 => ?_
  refine aw_seq fun K2 hK2 => ?_
  refine aw_reg [2, 3] (by kernel_rfl) ?_
  simp (disch := omega) only [go_sem, seval]
  repeat refine And.intro obl ?_
  refine hK2 _ ?_; clear hK2
  refine aw_cond _ (by rfl) (rfl) (fun c0 => ?_) (fun c0 => ?_)
  · try simp only [push_cast] at c0
    refine aw_seq fun K3 hK3 => ?_
    refine aw_reg [2, 3] (by kernel_rfl) ?_
    simp (disch := omega) only [go_sem, seval]
    repeat refine And.intro obl ?_
    refine hK3 _ ?_; clear hK3
    refine aw_ret ?_
    refine ret_tmp 4 rfl (by simp (disch := omega) only [go_sem, seval]) ?_
    exact Exp.is (by simp (disch := omega) only [go_sem, seval] <;> refine congrArg vb ?_ <;> (rw [betS, if_pos c0])) rfl rfl
  · try simp only [push_cast] at c0
    refine aw_skip ?_
    refine hK1 _ ?_; clear hK1
    refine aw_seq fun K4 hK4 => ?_
    refine aw_reg [2, 3] (by kernel_rfl) ?_
    simp (disch := omega) only [go_sem, seval]
    repeat refine And.intro obl ?_
    refine callG_of _ (slices_CompareFunc_int_ok _ a.fStarts b.fStarts) ?_
    simp (disch := omega) only [go_sem, seval]
    repeat refine And.intro obl ?_
    refine hK4 _ ?_; clear hK4
    refine aw_ret ?_
    refine ret_tmp 4 rfl (by simp (disch := omega) only [go_sem, seval]) ?_
    exact Exp.is (by simp (disch := omega) only [go_sem, seval] <;> refine congrArg vb ?_ <;> (rw [betS, if_neg (by omega)])) rfl rfl
theorem ref49_Better_ok (O : Env) (a b : Schedule) : PCall Try.prog O 18 [.agg (eSchedule a), .agg (eSchedule b)] (vb (betS a b)) := by
  refine pcall_has 0 rfl (.agg (d := encSt a.fStarts) (by simp [eSchedule]) (.sl _ _ _)) fun ha => ?_
  refine pcall_has 1 rfl (.agg (d := encSt b.fStarts) (by simp [eSchedule]) (.sl _ _ _)) fun hb => ?_
  refine pcall_of_aw Try.func18 rfl (by kernel_rfl) ?_
  refine aw_seq fun K0 hK0 => ?_
  refine aw_reg [0, 1] (by kernel_rfl) ?_
  simp (disch := omega) only [go_sem, seval]
  repeat refine And.intro obl ?_
  refine hK0 _ ?_; clear hK0
  refine aw_seq fun K1 hK1 => ?_
  refine aw_seq fun K2 hK2 => ?_
  refine aw_reg [2, 3] (by kernel_rfl) ?_
  simp (disch := omega) only [go_sem, seval]
  repeat refine And.intro obl ?_
  refine hK2 _ ?_; clear hK2
  refine aw_cond _ (by rfl) (rfl) (fun c0 => ?_) (fun c0 => ?_)
  · try simp only [push_cast] at c0
    refine aw_seq fun K3 hK3 => ?_
    refine aw_reg [2, 3] (by kernel_rfl) ?_
    simp (disch := omega) only [go_sem, seval]
    repeat refine And.intro obl ?_
    refine hK3 _ ?_; clear hK3
    refine aw_ret ?_
    refine ret_tmp 4 rfl (by simp (disch := omega) only [go_sem, seval]) ?_
    exact Exp.is (by simp (disch := omega) only [go_sem, seval] <;> refine congrArg vb ?_ <;> (rw [betS, if_pos c0])) rfl rfl
  · try simp only [push_cast] at c0
    refine aw_skip ?_
    refine hK1 _ ?_; clear hK1
    refine aw_seq fun K4 hK4 => ?_
    refine aw_seq fun K5 hK5 => ?_
    refine aw_reg [2, 3] (by kernel_rfl) ?_
    simp (disch := omega) only [go_sem, seval]
    repeat refine And.intro obl ?_
    refine hK5 _ ?_; clear hK5
    refine aw_block ?_
    refine aw_loopK [2, 3, 5] (fun n ρ => ∃ i, n = a.fStarts.length - i ∧ (i ≤ a.fStarts.length) ∧ (i ≤ b.fStarts.length) ∧ (cmpS a.fStarts b.fStarts = cmpS (a.fStarts.drop i) (b.fStarts.drop i)) ∧ ρ = mkE O [(2, .bx (eSchedule a)), (3, .bx (eSchedule b)), (5, vi (i : Nat))]) _ ⟨0, rfl, ?_, ?_, ?_, ?_⟩ ?_
    · exact dfl
    · exact dfl
    · rfl
    · simp (disch := omega) only [go_sem, seval] <;> first | rfl | omega | simp | simp_all
    rintro n ρ ⟨i, rfl, l0_0, l0_1, l0_2, rfl⟩ K6 hK6
    refine aw_seq fun K7 hK7 => ?_
    refine aw_seq fun K8 hK8 => ?_
    refine aw_reg [2, 3, 5] (by kernel_rfl) ?_
    simp (disch := omega) only [go_sem, seval]
    repeat refine And.intro obl ?_
    refine hK8 _ ?_; clear hK8
    refine aw_cond _ (by rfl) (rfl) (fun c1 => ?_) (fun c1 => ?_)
    · try simp only [push_cast] at c1
      refine aw_skip ?_
      refine hK7 _ ?_; clear hK7
      refine aw_seq fun K9 hK9 => ?_
      refine aw_block ?_
      refine aw_seq fun K10 hK10 => ?_
      refine aw_regDc [2, 3, 5] [] mixed (by kernel_rfl) ?_
      simp (disch := omega) only [go_sem, seval]
      repeat refine And.intro obl ?_
      refine callD_to (ref49_compare_ok _ (a.fStarts.getD i default) (b.fStarts.getD i default)) ?_ ?_
      · rfl
      simp (disch := omega) only [go_sem, seval]
      repeat refine And.intro obl ?_
      refine hK10 _ ?_; clear hK10
      refine aw_seq fun K11 hK11 => ?_
      refine aw_reg [2, 3, 5, 6] (by kernel_rfl) ?_
      simp (disch := omega) only [go_sem, seval]
      repeat refine And.intro obl ?_
      refine hK11 _ ?_; clear hK11
      refine aw_cond _ (by rfl) (rfl) (fun c2 => ?_) (fun c2 => ?_)
      · try simp only [push_cast] at c2
        refine aw_seq fun K12 hK12 => ?_
        refine aw_reg [6] (by kernel_rfl) ?_
        simp (disch := omega) only [go_sem, seval]
        repeat refine And.intro obl ?_
        refine hK12 _ ?_; clear hK12
        refine aw_ret ?_
        refine ret_tmp 4 rfl (by simp (disch := omega) only [go_sem, seval]) ?_
        exact Exp.is (by simp (disch := omega) only [go_sem, seval] <;> refine congrArg vb ?_ <;> (rw [betS_e c0, cmpS_lt l0_2 c1.1 c1.2, if_neg c2])) rfl rfl
      · try simp only [push_cast] at c2
        refine aw_skip ?_
        refine hK9 _ ?_; clear hK9
        refine aw_reg [2, 3, 5] (by kernel_rfl) ?_
        simp (disch := omega) only [go_sem, seval]
        repeat refine And.intro obl ?_
        refine hK6 _ _ ?_ ⟨i + 1, rfl, ?_, ?_, ?_, ?_⟩
        · exact dfl
        · exact dfl
        · exact dfl
        · exact (cmpS_lt l0_2 c1.1 c1.2).trans (if_pos c2)
        · simp (disch := omega) only [go_sem, seval] <;> first | rfl | omega | simp | simp_all
    · try simp only [push_cast] at c1
      refine aw_exit ?_
      refine hK4 _ ?_; clear hK4
      refine aw_seq fun K13 hK13 => ?_
      refine aw_reg [2, 3] (by kernel_rfl) ?_
      simp (disch := omega) only [go_sem, seval]
      repeat refine And.intro obl ?_
      refine hK13 _ ?_; clear hK13
      refine aw_ret ?_
      refine ret_tmp 4 rfl (by simp (disch := omega) only [go_sem, seval]) ?_
      exact Exp.is (by simp (disch := omega) only [go_sem, seval] <;> refine congrArg vb ?_ <;> (exact betS_n c0 l0_0 l0_1 l0_2 c1)) rfl rfl
theorem ref49_Same_ok (O : Env) (a b : Schedule) : PCall Try.prog O 13 [.agg (eSchedule a), .agg (eSchedule b)] (vb (!betS a b && !betS b a)) := by
  refine pcall_of_aw Try.func13 rfl (by kernel_rfl) ?_
  refine aw_seq fun K0 hK0 => ?_
  refine aw_reg [0, 1] (by kernel_rfl) ?_
  simp (disch := omega) only [go_sem, seval]
  repeat refine And.intro obl ?_
  refine hK0 _ ?_; clear hK0
  refine aw_seq fun K1 hK1 => ?_
  refine aw_reg [2, 3] (by kernel_rfl) ?_
  simp (disch := omega) only [go_sem, seval]
  repeat refine And.intro obl ?_
  refine callG_of _ (ref49_Better_ok _ a b) ?_
  simp (disch := omega) only [go_sem, seval]
  repeat refine And.intro obl ?_
  refine callC_to (fun g0 => ref49_Better_ok _ b a) ?_ ?_ ?_
  · first | exact fun _ => trivial | simp
  · rfl
  simp (disch := omega) only [go_sem, seval]
  repeat refine And.intro obl ?_
  refine hK1 _ ?_; clear hK1
  refine aw_ret ?_
  refine ret_tmp 4 rfl (by simp (disch := omega) only [go_sem, seval]) ?_
  exact Exp.is (by simp (disch := omega) only [go_sem, seval] <;> refine congrArg vb ?_ <;> (exact dfl)) rfl rfl
end Go.Sg
