/- What drafts can be reached; the contract of earliest. Printed by genw.py. -/
import Derived.Test.YtbndgcddihbhlaaSgB
import Derived.Test.YtbndgcddihbhlaaD9
set_option linter.unusedVariables false
set_option linter.unusedSimpArgs false
set_option maxRecDepth 8000
namespace Go.Sg
open Go.Proofs
inductive Rch (tr : List Trip) (c : Cl) : Pl → Dr → Prop
  | b : Rch tr c (fun _ => 0) (bgD tr)
  | s {a : Pl} {d : Dr} {i : Nat} (h : Rch tr c a d) (hi : i < tr.length) (ha : a i < (tr.getD i default).fStops.length) : Rch tr c (upA a i (a i + 1)) (plD tr c d a i)
def sA (a : Pl) : Nat := a 0 + a 1 + a 2 + a 3
def Full (tr : List Trip) (c : Cl) (d : Dr) : Prop := Rch tr c (enA tr) d
section
variable {tr : List Trip} {c : Cl} {d : Dr} {a : Pl} {i : Nat}
theorem Rch.pk (ho : Ok tr) (h : Rch tr c a d) : (∀ i, i < tr.length → a i ≤ (tr.getD i default).fStops.length) ∧ ∀ i, tr.length ≤ i → a i = 0 := by
  induction h with
  | b => exact ⟨fun _ _ => Nat.zero_le _, fun _ _ => rfl⟩
  | s h hi ha ih =>
    refine ⟨fun k hk => ?_, fun k hk => ?_⟩
    · unfold upA; split
      · rename_i e; subst e; omega
      · exact ih.1 k hk
    · unfold upA; rw [if_neg (by omega)]; exact ih.2 k hk
theorem sA_s (hi : i < 4) : sA (upA a i (a i + 1)) = sA a + 1 := by
  unfold sA upA
  rcases (show i = 0 ∨ i = 1 ∨ i = 2 ∨ i = 3 by omega) with rfl | rfl | rfl | rfl <;> simp <;> omega
theorem Rch.le4 (ho : Ok tr) (h : Rch tr c a d) (k : Nat) : a k ≤ 4 := by
  have hp := h.pk ho
  rcases Nat.lt_or_ge k tr.length with q | q
  · have := hp.1 k q; have := ho.l k q; omega
  · rw [hp.2 k q]; omega
theorem drL_get0 (d : Dr) (a : Pl) (h : a 0 < 16) : (drL d).getD (a 0) .any = vi (d (a 0 / 4) (a 0 % 4)) := by
  unfold drL
  rw [List.getD_eq_getElem?_getD, List.getElem?_map, List.getElem?_range h]
  rfl
theorem Rch.sum (ho : Ok tr) (h : Rch tr c a d) : sA a ≤ 16 := by
  have hp := h.pk ho
  have hn := ho.n
  have key : ∀ k, k < 4 → a k ≤ 4 := fun k hk => by
    rcases Nat.lt_or_ge k tr.length with q | q
    · have := hp.1 k q; have := ho.l k q; omega
    · rw [hp.2 k q]; omega
  have := key 0 (by omega); have := key 1 (by omega); have := key 2 (by omega); have := key 3 (by omega)
  unfold sA; omega
theorem Rch.bn (ho : Ok tr) (h : Rch tr c a d) : Bn d (1073745824 + 4000 * (sA a : Int)) := by
  induction h with
  | b =>
    intro x y
    unfold bgD
    split
    · rename_i h
      have := bgR_b ho h.1 y h.2
      have := (ho.l x h.1).2
      simp only [sA]; omega
    · simp only [sA]; omega
  | @s a d i h hi ha ih =>
    have hn := ho.n
    rw [sA_s (by omega)]
    intro x y
    unfold plD
    split
    · rename_i h
      have := plR_b (c := c) ho ih hi ha h.2.1 y h.2.2
      have := (ho.l x h.2.1).2
      omega
    · have := ih x y; omega
theorem Rch.bd (ho : Ok tr) (h : Rch tr c a d) : Bn d 1099511617776 := fun x y => by
  have h1 := h.bn ho x y
  have h2 := h.sum ho
  omega
theorem Rch.bd' (ho : Ok tr) (h : Rch tr c a d) : Bd d := fun x y => by
  have h1 := h.bd ho x y
  omega
theorem Rch.full (ho : Ok tr) (h : Rch tr c a d) (hf : ∀ k, k < tr.length → a k = (tr.getD k default).fStops.length) : Full tr c d := by
  have : a = enA tr := by
    funext k
    unfold enA
    split
    · rename_i hk; exact hf k hk
    · rename_i hk; exact (h.pk ho).2 k (by omega)
  subst this
  exact h
theorem ret_cellR {P : Program} {ρ : Env} {fn : Func} {O : Env} {cs : List DV} {R : DV → Prop} (a t : Nat) (hf : fn.results = #[.cell a t]) (h1 : hi ρ = outer O) (h2 : ρ a = .bx cs) (h3 : ldOf P t = some (some cs.length)) (h4 : sh (.agg cs) = .agg cs) (hR : R (.agg cs)) : retQ P fn O (fun O' r' => O' = O ∧ R r') .ret ρ :=
  ⟨O, .agg cs, out_of_hi h1, fun _ => frOk.refl _, fun _ h => h, by rw [hf]; exact ⟨rfl, cs, h2, .inl ⟨h3, by rw [h4]; exact RWk.refl _⟩⟩, rfl, hR⟩
theorem nat_neg (p : Nat) : ((p : Int) < 0) = False := by apply propext; simp
end
theorem nx_s {p : Nat → Prop} {i : Nat} (h : ∀ k, k < i → p k) (h2 : p i) : ∀ k, k < i + 1 → p k := fun k hk => by
  rcases Nat.lt_or_eq_of_le (Nat.le_of_lt_succ hk) with q | q
  · exact h k q
  · subst q; exact h2
def NxI (tr : List Trip) (a : Pl) (i : Nat) (x : Int) : Prop := (x = -1 ∧ ∀ k, k < i → a k = (tr.getD k default).fStops.length) ∨ ∃ p : Nat, x = (p : Int) ∧ p < tr.length ∧ a p < (tr.getD p default).fStops.length ∧ a p < 4
set_option maxHeartbeats 4000000 in
theorem dispatch_problem_earliest_ok (O : Env) (tr : List Trip) (c : Cl) (ho : Ok tr) : ECall Try.prog O 47 [prV tr c] (fun O' r' => O' = O ∧ ∃ d, Full tr c d ∧ r' = .agg (drL d)) := by
  have hn := ho.n
  refine ecall_of_aw Try.func47 rfl (by kernel_rfl) ?_
  refine aw_seq fun K0 hK0 => ?_
  refine aw_reg [0] (by kernel_rfl) ?_
  simp (disch := omega) only [go_sem, seval, drL_get0, nat_neg, Int.reduceLT, decide_true, decide_false]
  repeat refine And.intro obl ?_
  refine hK0 _ ?_; clear hK0
  refine aw_seq fun K1 hK1 => ?_
  refine aw_reg [0, 2] (by kernel_rfl) ?_
  simp (disch := omega) only [go_sem, seval, drL_get0, nat_neg, Int.reduceLT, decide_true, decide_false]
  repeat refine And.intro obl ?_
  refine callG_of _ (dispatch_problem_begin_ok _ tr c ho) ?_
  simp (disch := omega) only [go_sem, seval, drL_get0, nat_neg, Int.reduceLT, decide_true, decide_false]
  repeat refine And.intro obl ?_
  refine hK1 _ ?_; clear hK1
  refine aw_seq fun K2 hK2 => ?_
  refine aw_reg [0, 2, 3] (by kernel_rfl) ?_
  simp (disch := omega) only [go_sem, seval, drL_get0, nat_neg, Int.reduceLT, decide_true, decide_false]
  repeat refine And.intro obl ?_
  refine hK2 _ ?_; clear hK2
  refine aw_block ?_
  refine aw_loopK [0, 2, 3, 4] (fun n ρ => ∃ a, ∃ d, n = 16 - sA a ∧ (Rch tr c a d) ∧ ρ = mkE O [(0, prV tr c), (2, .bx (drL (fun _ _ => 0))), (3, .bx (drL d)), (4, .bx (plL a))]) _ ⟨fun _ => 0, bgD tr, rfl, ?_, ?_⟩ ?_
  · exact Rch.b
  · simp (disch := omega) only [go_sem, seval, drL_get0, nat_neg, Int.reduceLT, decide_true, decide_false] <;> rfl
  rintro n ρ ⟨a, d, rfl, l0_0, rfl⟩ K3 hK3
  refine aw_block ?_
  refine aw_seq fun K4 hK4 => ?_
  refine aw_reg [0, 2, 3, 4] (by kernel_rfl) ?_
  simp (disch := omega) only [go_sem, seval, drL_get0, nat_neg, Int.reduceLT, decide_true, decide_false]
  repeat refine And.intro obl ?_
  refine hK4 _ ?_; clear hK4
  refine aw_seq fun K5 hK5 => ?_
  refine aw_seq fun K6 hK6 => ?_
  refine aw_reg [0, 2, 3, 4, 5] (by kernel_rfl) ?_
  simp (disch := omega) only [go_sem, seval, drL_get0, nat_neg, Int.reduceLT, decide_true, decide_false]
  repeat refine And.intro obl ?_
  refine hK6 _ ?_; clear hK6
  refine aw_block ?_
  refine aw_loopK [0, 2, 3, 4, 5, 13, 14, 15] (fun n ρ => ∃ i, ∃ x, n = tr.length - i ∧ (i ≤ tr.length) ∧ (NxI tr a i x) ∧ ρ = mkE O [(0, prV tr c), (2, .bx (drL (fun _ _ => 0))), (3, .bx (drL d)), (4, .bx (plL a)), (5, vi x), (13, encTr tr), (14, vi (tr.length : Nat)), (15, vi (i : Nat))]) _ ⟨0, -1, rfl, ?_, ?_, ?_⟩ ?_
  · exact dfl
  · exact .inl ⟨rfl, fun _ h => absurd h (by omega)⟩
  · simp (disch := omega) only [go_sem, seval, drL_get0, nat_neg, Int.reduceLT, decide_true, decide_false] <;> first | rfl | omega | simp | simp_all
  rintro n ρ ⟨i, x, rfl, l1_0, l1_1, rfl⟩ K7 hK7
  rcases l1_1 with ⟨rfl, hz⟩ | ⟨p, rfl, hp1, hp2, hp3⟩
  · skip
    refine aw_seq fun K8 hK8 => ?_
    refine aw_reg [0, 2, 3, 4, 5, 10, 11, 12, 13, 14, 15] (by kernel_rfl) ?_
    simp (disch := omega) only [go_sem, seval, drL_get0, nat_neg, Int.reduceLT, decide_true, decide_false]
    repeat refine And.intro obl ?_
    refine hK8 _ ?_; clear hK8
    refine aw_seq fun K9 hK9 => ?_
    refine aw_cond _ (by rfl) (rfl) (fun c0 => ?_) (fun c0 => ?_)
    · try simp only [push_cast] at c0
      refine aw_skip ?_
      refine hK9 _ ?_; clear hK9
      refine aw_seq fun K10 hK10 => ?_
      refine aw_block ?_
      refine aw_seq fun K11 hK11 => ?_
      have h0 := l0_0.le4 ho 0
      have hai := (l0_0.pk ho).1 i (by assumption)
      have hli := ho.l i (by assumption)
      refine aw_reg [0, 2, 3, 4, 5, 10, 11, 12, 13, 14, 15] (by kernel_rfl) ?_
      simp (disch := omega) only [go_sem, seval, drL_get0, nat_neg, Int.reduceLT, decide_true, decide_false]
      repeat refine And.intro obl ?_
      refine hK11 _ ?_; clear hK11
      refine aw_seq fun K12 hK12 => ?_
      refine aw_seq fun K13 hK13 => ?_
      refine aw_regDc [0, 2, 3, 4, 5, 6, 7, 10, 11, 12, 13, 14, 15] [] mixed (by kernel_rfl) ?_
      simp (disch := omega) only [go_sem, seval, drL_get0, nat_neg, Int.reduceLT, decide_true, decide_false]
      repeat refine And.intro obl ?_
      refine hK13 _ ?_; clear hK13
      refine aw_cond _ (by rfl) (rfl) (fun c1 => ?_) (fun c1 => ?_)
      · try simp only [push_cast] at c1
        refine aw_exit ?_
        refine hK10 _ ?_; clear hK10
        refine aw_reg [0, 2, 3, 4, 5, 10, 11, 12, 13, 14, 15] (by kernel_rfl) ?_
        simp (disch := omega) only [go_sem, seval, drL_get0, nat_neg, Int.reduceLT, decide_true, decide_false]
        repeat refine And.intro obl ?_
        refine hK7 _ _ ?_ ⟨i + 1, -1, rfl, ?_, ?_, ?_⟩
        · exact dfl
        · exact dfl
        · exact .inl ⟨rfl, nx_s hz (by assumption)⟩
        · simp (disch := omega) only [go_sem, seval, drL_get0, nat_neg, Int.reduceLT, decide_true, decide_false] <;> first | rfl | omega | simp | simp_all
      · try simp only [push_cast] at c1
        refine aw_skip ?_
        refine hK12 _ ?_; clear hK12
        refine aw_seq fun K14 hK14 => ?_
        refine aw_regDc [0, 2, 3, 4, 5, 6, 10, 11, 12, 13, 14, 15] [] mixed (by kernel_rfl) ?_
        simp (disch := omega) only [go_sem, seval, drL_get0, nat_neg, Int.reduceLT, decide_true, decide_false]
        repeat refine And.intro obl ?_
        refine hK14 _ ?_; clear hK14
        refine aw_cond true (by rfl) (rfl) (fun _ => ?_) (fun h => by cases h)
        refine aw_reg [0, 2, 3, 4, 6, 10, 11, 12, 13, 14, 15] (by kernel_rfl) ?_
        simp (disch := omega) only [go_sem, seval, drL_get0, nat_neg, Int.reduceLT, decide_true, decide_false]
        repeat refine And.intro obl ?_
        refine hK10 _ ?_; clear hK10
        refine aw_reg [0, 2, 3, 4, 5, 10, 11, 12, 13, 14, 15] (by kernel_rfl) ?_
        simp (disch := omega) only [go_sem, seval, drL_get0, nat_neg, Int.reduceLT, decide_true, decide_false]
        repeat refine And.intro obl ?_
        refine hK7 _ _ ?_ ⟨i + 1, (i : Nat), rfl, ?_, ?_, ?_⟩
        · exact dfl
        · exact dfl
        · exact .inr ⟨i, rfl, by assumption, by omega, by omega⟩
        · simp (disch := omega) only [go_sem, seval, drL_get0, nat_neg, Int.reduceLT, decide_true, decide_false] <;> first | rfl | omega | simp | simp_all
    · try simp only [push_cast] at c0
      refine aw_exit ?_
      refine hK5 _ ?_; clear hK5
      refine aw_seq fun K15 hK15 => ?_
      refine aw_seq fun K16 hK16 => ?_
      refine aw_reg [0, 2, 3, 4, 5] (by kernel_rfl) ?_
      simp (disch := omega) only [go_sem, seval, drL_get0, nat_neg, Int.reduceLT, decide_true, decide_false]
      repeat refine And.intro obl ?_
      refine hK16 _ ?_; clear hK16
      refine aw_cond true (by rfl) (rfl) (fun _ => ?_) (fun h => by cases h)
      refine aw_seq fun K17 hK17 => ?_
      refine aw_reg [2, 3] (by kernel_rfl) ?_
      simp (disch := omega) only [go_sem, seval, drL_get0, nat_neg, Int.reduceLT, decide_true, decide_false]
      repeat refine And.intro obl ?_
      refine hK17 _ ?_; clear hK17
      refine aw_ret ?_
      refine ret_cellR 2 60 rfl (by simp (disch := omega) only [go_sem, seval, drL_get0, nat_neg, Int.reduceLT, decide_true, decide_false]) (by simp (disch := omega) only [go_sem, seval, drL_get0, nat_neg, Int.reduceLT, decide_true, decide_false]) (by simp (disch := omega) only [go_sem, seval, drL_get0, nat_neg, Int.reduceLT, decide_true, decide_false]) (by simp (disch := omega) only [go_sem, seval, drL_get0, nat_neg, Int.reduceLT, decide_true, decide_false]) (⟨d, l0_0.full ho fun k hk => hz k (by omega), rfl⟩)
  · skip
    refine aw_seq fun K18 hK18 => ?_
    refine aw_reg [0, 2, 3, 4, 5, 10, 11, 12, 13, 14, 15] (by kernel_rfl) ?_
    simp (disch := omega) only [go_sem, seval, drL_get0, nat_neg, Int.reduceLT, decide_true, decide_false]
    repeat refine And.intro obl ?_
    refine hK18 _ ?_; clear hK18
    refine aw_seq fun K19 hK19 => ?_
    refine aw_cond _ (by rfl) (rfl) (fun c4 => ?_) (fun c4 => ?_)
    · try simp only [push_cast] at c4
      refine aw_skip ?_
      refine hK19 _ ?_; clear hK19
      refine aw_seq fun K20 hK20 => ?_
      refine aw_block ?_
      refine aw_seq fun K21 hK21 => ?_
      have h0 := l0_0.le4 ho 0
      have hai := (l0_0.pk ho).1 i (by assumption)
      have hli := ho.l i (by assumption)
      refine aw_reg [0, 2, 3, 4, 5, 10, 11, 12, 13, 14, 15] (by kernel_rfl) ?_
      simp (disch := omega) only [go_sem, seval, drL_get0, nat_neg, Int.reduceLT, decide_true, decide_false]
      repeat refine And.intro obl ?_
      refine hK21 _ ?_; clear hK21
      refine aw_seq fun K22 hK22 => ?_
      refine aw_seq fun K23 hK23 => ?_
      refine aw_regDc [0, 2, 3, 4, 5, 6, 7, 10, 11, 12, 13, 14, 15] [] mixed (by kernel_rfl) ?_
      simp (disch := omega) only [go_sem, seval, drL_get0, nat_neg, Int.reduceLT, decide_true, decide_false]
      repeat refine And.intro obl ?_
      refine hK23 _ ?_; clear hK23
      refine aw_cond _ (by rfl) (rfl) (fun c5 => ?_) (fun c5 => ?_)
      · try simp only [push_cast] at c5
        refine aw_exit ?_
        refine hK20 _ ?_; clear hK20
        refine aw_reg [0, 2, 3, 4, 5, 10, 11, 12, 13, 14, 15] (by kernel_rfl) ?_
        simp (disch := omega) only [go_sem, seval, drL_get0, nat_neg, Int.reduceLT, decide_true, decide_false]
        repeat refine And.intro obl ?_
        refine hK7 _ _ ?_ ⟨i + 1, (p : Nat), rfl, ?_, ?_, ?_⟩
        · exact dfl
        · exact dfl
        · exact .inr ⟨p, rfl, hp1, hp2, hp3⟩
        · simp (disch := omega) only [go_sem, seval, drL_get0, nat_neg, Int.reduceLT, decide_true, decide_false] <;> first | rfl | omega | simp | simp_all
      · try simp only [push_cast] at c5
        refine aw_skip ?_
        refine hK22 _ ?_; clear hK22
        refine aw_seq fun K24 hK24 => ?_
        refine aw_regDc [0, 2, 3, 4, 5, 6, 10, 11, 12, 13, 14, 15] [] mixed (by kernel_rfl) ?_
        simp (disch := omega) only [go_sem, seval, drL_get0, nat_neg, Int.reduceLT, decide_true, decide_false]
        repeat refine And.intro obl ?_
        refine hK24 _ ?_; clear hK24
        refine aw_cond _ (by rfl) (rfl) (fun c6 => ?_) (fun c6 => ?_)
        · try simp only [push_cast] at c6
          refine aw_reg [0, 2, 3, 4, 6, 10, 11, 12, 13, 14, 15] (by kernel_rfl) ?_
          simp (disch := omega) only [go_sem, seval, drL_get0, nat_neg, Int.reduceLT, decide_true, decide_false]
          repeat refine And.intro obl ?_
          refine hK20 _ ?_; clear hK20
          refine aw_reg [0, 2, 3, 4, 5, 10, 11, 12, 13, 14, 15] (by kernel_rfl) ?_
          simp (disch := omega) only [go_sem, seval, drL_get0, nat_neg, Int.reduceLT, decide_true, decide_false]
          repeat refine And.intro obl ?_
          refine hK7 _ _ ?_ ⟨i + 1, (i : Nat), rfl, ?_, ?_, ?_⟩
          · exact dfl
          · exact dfl
          · exact .inr ⟨i, rfl, by assumption, by omega, by omega⟩
          · simp (disch := omega) only [go_sem, seval, drL_get0, nat_neg, Int.reduceLT, decide_true, decide_false] <;> first | rfl | omega | simp | simp_all
        · try simp only [push_cast] at c6
          refine aw_skip ?_
          refine hK20 _ ?_; clear hK20
          refine aw_reg [0, 2, 3, 4, 5, 10, 11, 12, 13, 14, 15] (by kernel_rfl) ?_
          simp (disch := omega) only [go_sem, seval, drL_get0, nat_neg, Int.reduceLT, decide_true, decide_false]
          repeat refine And.intro obl ?_
          refine hK7 _ _ ?_ ⟨i + 1, (p : Nat), rfl, ?_, ?_, ?_⟩
          · exact dfl
          · exact dfl
          · exact .inr ⟨p, rfl, hp1, hp2, hp3⟩
          · simp (disch := omega) only [go_sem, seval, drL_get0, nat_neg, Int.reduceLT, decide_true, decide_false] <;> first | rfl | omega | simp | simp_all
    · try simp only [push_cast] at c4
      refine aw_exit ?_
      refine hK5 _ ?_; clear hK5
      refine aw_seq fun K25 hK25 => ?_
      refine aw_seq fun K26 hK26 => ?_
      refine aw_reg [0, 2, 3, 4, 5] (by kernel_rfl) ?_
      simp (disch := omega) only [go_sem, seval, drL_get0, nat_neg, Int.reduceLT, decide_true, decide_false]
      repeat refine And.intro obl ?_
      refine hK26 _ ?_; clear hK26
      refine aw_cond false (by rfl) (rfl) (fun h => by cases h) (fun _ => ?_)
      refine aw_skip ?_
      refine hK25 _ ?_; clear hK25
      refine aw_seq fun K27 hK27 => ?_
      refine aw_reg [0, 2, 3, 4, 5] (by kernel_rfl) ?_
      simp (disch := omega) only [go_sem, seval, drL_get0, nat_neg, Int.reduceLT, decide_true, decide_false]
      repeat refine And.intro obl ?_
      refine callG_of _ (dispatch_problem_place_ok _ tr c d a p ho (l0_0.bd ho) hp1 hp2 (l0_0.pk ho).1) ?_
      simp (disch := omega) only [go_sem, seval, drL_get0, nat_neg, Int.reduceLT, decide_true, decide_false]
      repeat refine And.intro obl ?_
      refine hK27 _ ?_; clear hK27
      refine aw_reg [0, 2, 3, 4, 5] (by kernel_rfl) ?_
      simp (disch := omega) only [go_sem, seval, drL_get0, nat_neg, Int.reduceLT, decide_true, decide_false]
      repeat refine And.intro obl ?_
      have hsm := l0_0.sum ho
      have hss := sA_s (a := a) (i := p) (by omega)
      have hs2 := (l0_0.s (c := c) hp1 hp2).sum ho
      refine hK3 _ _ ?_ ⟨upA a p (a p + 1), plD tr c d a p, rfl, ?_, ?_⟩
      · exact dfl
      · exact l0_0.s hp1 hp2
      · simp (disch := omega) only [go_sem, seval, drL_get0, nat_neg, Int.reduceLT, decide_true, decide_false] <;> first | rfl | omega | simp | simp_all
end Go.Sg
