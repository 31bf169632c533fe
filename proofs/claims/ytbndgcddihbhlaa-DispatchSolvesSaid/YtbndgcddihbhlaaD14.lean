/- The reference's search, walked. Printed by genw.py. -/
import Derived.Test.YtbndgcddihbhlaaSgB
import Derived.Test.YtbndgcddihbhlaaD13
set_option linter.unusedVariables false
set_option linter.unusedSimpArgs false
set_option maxRecDepth 8000
namespace Go.Sg
open Go.Proofs
theorem effF_callV {P : Program} {ρ : Env} {f : Operand} {args : Array Operand} {ts : Array TypeId} {d : Option Nat} {K : Env → Prop} : effF P ρ (.call ⟨.value f, args, ts⟩) d K = effG P ρ (.call ⟨.value f, args, ts⟩) d K := by cases d <;> rfl
theorem callG_ex {P : Program} {ρ : Env} {f : FuncId} {l : List DV} {k : Env → DV → Prop} {t : Tg k} {R : Env → DV → Prop} (h : ECall P ρ f l R) (hk : ∀ O' r, R O' r → k O' r) : CallG P ρ f l k t := ⟨R, h, hk⟩
set_option maxHeartbeats 8000000 in
theorem search_step (O : Env) (t : Table) (tr : List Trip) (fu : Nat) (ih : SE t tr fu) (s : Nat) (st : St) (cost : Int) (b0 : Schedule) (f0 : Bool) (hO : O s = .bx (sxL t tr b0 f0)) (hk : chkI t tr = 0) (hs : SmT t) (hq : Sq tr st cost) (hr : rem tr st < fu + 1) : ECall Try.prog O 33 [.bp s 0, encSt st, vi cost] fun O' r => O' = set O s (.bx (sxL t tr (seF t tr (fu + 1) st cost (b0, f0)).1 (seF t tr (fu + 1) st cost (b0, f0)).2)) ∧ r = .tup [] := by
  have ho := ok_chk hk
  have hP := (chk0 hk).2.2.1
  have hn := ho.n
  have hn2 := hq.k.n
  have hcb := hq.c
  have hlo := hq.k.lo
  have hrl := rem_le ho st
  obtain ⟨O1, rfl⟩ : ∃ O1, O = set O1 s (.bx (sxL t tr b0 f0)) := ⟨O, by funext k; rw [set_apply]; split <;> simp_all⟩
  have hle : st.length ≤ 100 := by omega
  refine ecall_of_aw Try.func33 rfl (by kernel_rfl) ?_
  refine aw_seq fun K0 hK0 => ?_
  refine aw_reg [0, 1, 2] (by kernel_rfl) ?_
  simp (disch := omega) only [go_sem, seval, outer_set, set_set, hi_set', sxL, List.cons_append, List.nil_append, Nat.mul_one, Nat.zero_add, Nat.add_zero]
  repeat refine And.intro obl ?_
  refine hK0 _ ?_; clear hK0
  refine aw_seq fun K1 hK1 => ?_
  refine aw_seq fun K2 hK2 => ?_
  refine aw_reg [0, 1, 2, 6] (by kernel_rfl) ?_
  simp (disch := omega) only [go_sem, seval, outer_set, set_set, hi_set', sxL, List.cons_append, List.nil_append, Nat.mul_one, Nat.zero_add, Nat.add_zero]
  repeat refine And.intro obl ?_
  refine hK2 _ ?_; clear hK2
  refine aw_block ?_
  refine aw_loopK [0, 1, 2, 6, 7] (fun n ρ => ∃ i, ∃ b, ∃ f, ∃ dn, n = st.length - i ∧ (i ≤ st.length) ∧ (seI t tr (seF t tr fu) st cost (b0, f0) i = ((b, f), dn)) ∧ ρ = mkE (set O1 s (.bx (sxL t tr b f))) [(0, .bp (s + 100000) 0), (1, encSt st), (2, vi cost), (6, vb dn), (7, vi (i : Nat))]) _ ⟨0, b0, f0, true, rfl, ?_, ?_, ?_⟩ ?_
  · exact dfl
  · rfl
  · simp (disch := omega) only [go_sem, seval, outer_set, set_set, hi_set', sxL, List.cons_append, List.nil_append, Nat.mul_one, Nat.zero_add, Nat.add_zero] <;> first | rfl | omega | simp | simp_all
  rintro n ρ ⟨i, b, f, dn, rfl, l0_0, l0_1, rfl⟩ K3 hK3
  refine aw_seq fun K4 hK4 => ?_
  refine aw_seq fun K5 hK5 => ?_
  refine aw_reg [0, 1, 2, 6, 7] (by kernel_rfl) ?_
  simp (disch := omega) only [go_sem, seval, outer_set, set_set, hi_set', sxL, List.cons_append, List.nil_append, Nat.mul_one, Nat.zero_add, Nat.add_zero]
  repeat refine And.intro obl ?_
  refine hK5 _ ?_; clear hK5
  refine aw_cond _ (by rfl) (rfl) (fun c0 => ?_) (fun c0 => ?_)
  · try simp only [push_cast] at c0
    refine aw_skip ?_
    refine hK4 _ ?_; clear hK4
    refine aw_seq fun K6 hK6 => ?_
    refine aw_block ?_
    refine aw_seq fun K7 hK7 => ?_
    refine aw_seq fun K8 hK8 => ?_
    have hli := ho.l i (by omega)
    have hki := hq.k.l i (by omega)
    refine aw_regDc [0, 1, 2, 6, 7] [] mixed (by kernel_rfl) ?_
    simp (disch := omega) only [go_sem, seval, outer_set, set_set, hi_set', sxL, List.cons_append, List.nil_append, Nat.mul_one, Nat.zero_add, Nat.add_zero]
    repeat refine And.intro obl ?_
    refine hK8 _ ?_; clear hK8
    refine aw_cond _ (by rfl) (rfl) (fun c1 => ?_) (fun c1 => ?_)
    · try simp only [push_cast] at c1
      refine aw_exit ?_
      refine hK6 _ ?_; clear hK6
      refine aw_reg [0, 1, 2, 6, 7] (by kernel_rfl) ?_
      simp (disch := omega) only [go_sem, seval, outer_set, set_set, hi_set', sxL, List.cons_append, List.nil_append, Nat.mul_one, Nat.zero_add, Nat.add_zero]
      repeat refine And.intro obl ?_
      refine hK3 _ _ ?_ ⟨i + 1, b, f, dn, rfl, ?_, ?_, ?_⟩
      · exact dfl
      · exact dfl
      · rw [seI, if_pos (by omega), l0_1]
      · simp (disch := omega) only [go_sem, seval, outer_set, set_set, hi_set', sxL, List.cons_append, List.nil_append, Nat.mul_one, Nat.zero_add, Nat.add_zero] <;> first | rfl | omega | simp | simp_all
    · try simp only [push_cast] at c1
      refine aw_skip ?_
      refine hK7 _ ?_; clear hK7
      refine aw_seq fun K9 hK9 => ?_
      refine aw_reg [0, 1, 2, 7] (by kernel_rfl) ?_
      simp (disch := omega) only [go_sem, seval, outer_set, set_set, hi_set', sxL, List.cons_append, List.nil_append, Nat.mul_one, Nat.zero_add, Nat.add_zero]
      repeat refine And.intro obl ?_
      refine hK9 _ ?_; clear hK9
      refine aw_seq fun K10 hK10 => ?_
      have hlt : (st.getD i default).length < (tr.getD i default).fStops.length := by omega
      refine aw_reg [0, 1, 2, 6, 7] (by kernel_rfl) ?_
      simp (disch := omega) only [go_sem, seval, outer_set, set_set, hi_set', sxL, List.cons_append, List.nil_append, Nat.mul_one, Nat.zero_add, Nat.add_zero]
      repeat refine And.intro obl ?_
      refine callG_of _ (ref49_Search_place_ok _ (s + 100000) t tr b f st i (by simp (disch := omega) only [go_sem, seval, outer_set, set_set, hi_set', sxL, List.cons_append, List.nil_append, Nat.mul_one, Nat.zero_add, Nat.add_zero]) hk hs _ hq.k (by omega) (by omega)) ?_
      simp (disch := omega) only [go_sem, seval, outer_set, set_set, hi_set', sxL, List.cons_append, List.nil_append, Nat.mul_one, Nat.zero_add, Nat.add_zero]
      repeat refine And.intro obl ?_
      refine hK10 _ ?_; clear hK10
      refine aw_seq fun K11 hK11 => ?_
      refine aw_regV [0, 1, 2, 6, 7, 8] [9] [0, 1, 2, 6, 7, 8, 36, 37, 38, 39, 40, 41, 42, 43, 44, 45, 46, 47, 48, 49, 50] [0, 1, 2, 3, 4, 5, 6, 7, 8, 9, 10, 11, 12, 13, 14] [15] [16] [(9, 44, 50)] mixed (by kernel_rfl) (by rfl) (by rfl) (by simp only [ptA, List.filterMap_cons, List.filterMap_nil, List.getElem?_cons_succ, List.getElem?_cons_zero]; rfl) ?_
      simp (disch := omega) only [go_sem, seval, outer_set, set_set, hi_set', sxL, List.cons_append, List.nil_append, Nat.mul_one, Nat.zero_add, Nat.add_zero]
      repeat refine And.intro obl ?_
      refine And.intro (by rfl) ?_
      try simp (disch := omega) only [go_sem, seval, outer_set, set_set, hi_set', sxL, List.cons_append, List.nil_append, Nat.mul_one, Nat.zero_add, Nat.add_zero]
      repeat refine And.intro obl ?_
      refine hK11 _ ?_; clear hK11
      have hlx : ∀ k, k < st.length → (st.getD k default).length ≤ 100 := fun k hk => by have := hq.k.l k (by omega); have := ho.l k (by omega); omega
      have hdl := dl_b (t := t) ho hq.k (i := i) (by omega) hlt
      unfold dlF at hdl
      have hrm := rem_wi (v := rpF t tr st i) hq.k.n (i := i) (by omega) hlt
      have hrp := rpI_b (t := t) ho hq.k (i := i) (by omega) hlt st.length (by omega)
      have hrq : rpF t tr st i = rpI t tr st i st.length := rfl
      have hsi := ho.s i _ (show i < tr.length by omega) hlt
      refine aw_regI [0, 1, 2, 6, 7, 8, 9] [] [0, 1, 2, 3, 4, 5, 6, 7, 8, 9, 10, 11, 12, 13, 14] [14] mixed (by kernel_rfl) (fun q hq => ?_) (by kernel_rfl)
      cases hq
      simp (disch := omega) only [go_sem, seval, outer_set, set_set, hi_set', sxL, List.cons_append, List.nil_append, Nat.mul_one, Nat.zero_add, Nat.add_zero]
      repeat refine And.intro obl ?_
      refine callD_to (ref49_with_ok _ st i (rpF t tr st i) (by omega) hlx) ?_ ?_
      · rfl
      simp (disch := omega) only [go_sem, seval, outer_set, set_set, hi_set', sxL, List.cons_append, List.nil_append, Nat.mul_one, Nat.zero_add, Nat.add_zero]
      repeat refine And.intro obl ?_
      rw [effF_callV]
      simp (disch := omega) only [go_sem, seval, outer_set, set_set, hi_set', sxL, List.cons_append, List.nil_append, Nat.mul_one, Nat.zero_add, Nat.add_zero]
      repeat refine And.intro obl ?_
      refine callG_ex (ih _ (s + 100000) (wiF st i (rpF t tr st i)) (cost + dlF tr t st i) b f (by simp (disch := omega) only [go_sem, seval, outer_set, set_set, hi_set', sxL, List.cons_append, List.nil_append, Nat.mul_one, Nat.zero_add, Nat.add_zero]) (hq.s ho (by omega) hlt) (by omega)) ?_
      rintro O2 r2 ⟨rfl, rfl⟩
      simp (disch := omega) only [go_sem, seval, outer_set, set_set, hi_set', sxL, List.cons_append, List.nil_append, Nat.mul_one, Nat.zero_add, Nat.add_zero]
      repeat refine And.intro obl ?_
      refine hK6 _ ?_; clear hK6
      refine aw_reg [0, 1, 2, 6, 7] (by kernel_rfl) ?_
      simp (disch := omega) only [go_sem, seval, outer_set, set_set, hi_set', sxL, List.cons_append, List.nil_append, Nat.mul_one, Nat.zero_add, Nat.add_zero]
      repeat refine And.intro obl ?_
      refine hK3 _ _ ?_ ⟨i + 1, (seF t tr fu (wiF st i (rpF t tr st i)) (cost + dlF tr t st i) (b, f)).1, (seF t tr fu (wiF st i (rpF t tr st i)) (cost + dlF tr t st i) (b, f)).2, false, rfl, ?_, ?_, ?_⟩
      · exact dfl
      · exact dfl
      · rw [seI, if_neg (by omega), l0_1]
      · simp (disch := omega) only [go_sem, seval, outer_set, set_set, hi_set', sxL, List.cons_append, List.nil_append, Nat.mul_one, Nat.zero_add, Nat.add_zero] <;> first | rfl | omega | simp | simp_all
  · try simp only [push_cast] at c0
    refine aw_exit ?_
    refine hK1 _ ?_; clear hK1
    refine aw_seq fun K12 hK12 => ?_
    refine aw_seq fun K13 hK13 => ?_
    refine aw_reg [0, 1, 2, 6] (by kernel_rfl) ?_
    simp (disch := omega) only [go_sem, seval, outer_set, set_set, hi_set', sxL, List.cons_append, List.nil_append, Nat.mul_one, Nat.zero_add, Nat.add_zero]
    repeat refine And.intro obl ?_
    refine hK13 _ ?_; clear hK13
    refine aw_cond _ (by rfl) (rfl) (fun c2 => ?_) (fun c2 => ?_)
    · try simp only [push_cast] at c2
      refine aw_ret ?_
      try simp only [thenQ_ret, blockQ_ret, blockQ_exit, blockQ_normal, thenQ_exit, thenQ_normal, ↓reduceIte]
      refine ret_box (s := s) (cs0 := sxL t tr b0 f0) (cs := sxL t tr b f) (by first | exact .inl rfl | exact .inr rfl) (by rw [set_apply, if_pos rfl]; try rfl) rfl rfl rfl rfl ?_ ⟨?_, rfl⟩
      · simp (disch := omega) only [go_sem, seval, outer_set, set_set, hi_set', sxL, List.cons_append, List.nil_append, Nat.mul_one, Nat.zero_add, Nat.add_zero]
      · rw [show seF t tr (fu + 1) st cost (b0, f0) = (b, f) from (seF_f (by rw [show st.length = i by omega, l0_1]; simpa using c2)).trans (by rw [show st.length = i by omega, l0_1])]
    · try simp only [push_cast] at c2
      refine aw_skip ?_
      refine hK12 _ ?_; clear hK12
      refine aw_seq fun K14 hK14 => ?_
      refine aw_reg [0, 1, 2] (by kernel_rfl) ?_
      simp (disch := omega) only [go_sem, seval, outer_set, set_set, hi_set', sxL, List.cons_append, List.nil_append, Nat.mul_one, Nat.zero_add, Nat.add_zero]
      repeat refine And.intro obl ?_
      refine hK14 _ ?_; clear hK14
      refine aw_seq fun K15 hK15 => ?_
      refine aw_regDc [0, 10] [] mixed (by kernel_rfl) ?_
      simp (disch := omega) only [go_sem, seval, outer_set, set_set, hi_set', sxL, List.cons_append, List.nil_append, Nat.mul_one, Nat.zero_add, Nat.add_zero]
      repeat refine And.intro obl ?_
      refine callC_to (fun g0 => ref49_Better_ok _ ⟨st, cost⟩ b) ?_ ?_ ?_
      · first | exact fun _ => trivial | simp
      · rfl
      simp (disch := omega) only [go_sem, seval, outer_set, set_set, hi_set', sxL, List.cons_append, List.nil_append, Nat.mul_one, Nat.zero_add, Nat.add_zero]
      repeat refine And.intro obl ?_
      refine hK15 _ ?_; clear hK15
      refine aw_cond _ (by rfl) (rfl) (fun c3 => ?_) (fun c3 => ?_)
      · try simp only [push_cast] at c3
        refine aw_seq fun K16 hK16 => ?_
        refine aw_reg [0, 10] (by kernel_rfl) ?_
        simp (disch := omega) only [go_sem, seval, outer_set, set_set, hi_set', sxL, List.cons_append, List.nil_append, Nat.mul_one, Nat.zero_add, Nat.add_zero]
        repeat refine And.intro obl ?_
        refine hK16 _ ?_; clear hK16
        refine aw_reg [0] (by kernel_rfl) ?_
        simp (disch := omega) only [go_sem, seval, outer_set, set_set, hi_set', sxL, List.cons_append, List.nil_append, Nat.mul_one, Nat.zero_add, Nat.add_zero]
        repeat refine And.intro obl ?_
        try simp only [thenQ_ret, blockQ_ret, blockQ_exit, blockQ_normal, thenQ_exit, thenQ_normal, ↓reduceIte]
        refine ret_box (s := s) (cs0 := sxL t tr b0 f0) (cs := sxL t tr ⟨st, cost⟩ true) (by first | exact .inl rfl | exact .inr rfl) (by rw [set_apply, if_pos rfl]; try rfl) rfl rfl rfl rfl ?_ ⟨?_, rfl⟩
        · simp (disch := omega) only [go_sem, seval, outer_set, set_set, hi_set', sxL, List.cons_append, List.nil_append, Nat.mul_one, Nat.zero_add, Nat.add_zero]
        · have hd : dn = true := by simpa using c2
          have hbf : (b, f) = (b0, f0) := by
            have := seI_t (t := t) (tr := tr) (g := seF t tr fu) (st := st) (cost := cost) (b := (b0, f0)) i (by rw [l0_1]; exact hd)
            rw [l0_1] at this
            exact this
          cases hbf
          rw [seF_t (by rw [show st.length = i by omega, l0_1]; exact hd) (by simpa using c3)]; first | done | rfl | (rw [set_set]; rfl)
      · try simp only [push_cast] at c3
        refine aw_skip ?_
        try simp only [thenQ_ret, blockQ_ret, blockQ_exit, blockQ_normal, thenQ_exit, thenQ_normal, ↓reduceIte]
        refine ret_box (s := s) (cs0 := sxL t tr b0 f0) (cs := sxL t tr b f) (by first | exact .inl rfl | exact .inr rfl) (by rw [set_apply, if_pos rfl]; try rfl) rfl rfl rfl rfl ?_ ⟨?_, rfl⟩
        · simp (disch := omega) only [go_sem, seval, outer_set, set_set, hi_set', sxL, List.cons_append, List.nil_append, Nat.mul_one, Nat.zero_add, Nat.add_zero]
        · have hd : dn = true := by simpa using c2
          have hbf : (b, f) = (b0, f0) := by
            have := seI_t (t := t) (tr := tr) (g := seF t tr fu) (st := st) (cost := cost) (b := (b0, f0)) i (by rw [l0_1]; exact hd)
            rw [l0_1] at this
            exact this
          cases hbf
          rw [seF_n (by rw [show st.length = i by omega, l0_1]; exact hd) (by simpa using c3)]; first | done | rfl | (rw [set_set]; rfl)
end Go.Sg
