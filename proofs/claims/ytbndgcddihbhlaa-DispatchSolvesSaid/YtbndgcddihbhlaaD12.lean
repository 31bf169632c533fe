/- The reference's with and place. Printed by genw.py. -/
import Derived.Test.YtbndgcddihbhlaaSgB
import Derived.Test.YtbndgcddihbhlaaD11
set_option linter.unusedVariables false
set_option linter.unusedSimpArgs false
set_option maxRecDepth 8000
namespace Go.Sg
open Go.Proofs
abbrev St := List (List Int)
def wiF (st : St) (i : Nat) (v : Int) : St := (List.range st.length).map fun k => if k = i then st.getD k default ++ [v] else st.getD k default
theorem wi_s {st : St} {i k : Nat} {v : Int} : ((List.range k).map fun k => if k = i then st.getD k default ++ [v] else st.getD k default) ++ [if k = i then st.getD k default ++ [v] else st.getD k default] = (List.range (k + 1)).map fun k => if k = i then st.getD k default ++ [v] else st.getD k default := by
  rw [List.range_succ, List.map_append]; rfl
def wiP (st : St) (i : Nat) (v : Int) (k : Nat) : St := (List.range k).map fun k => if k = i then st.getD k default ++ [v] else st.getD k default
theorem wiP_t {st : St} {i k : Nat} {v : Int} (h : k = i) : wiP st i v k ++ [st.getD k default ++ [v]] = wiP st i v (k + 1) := by
  unfold wiP; rw [← wi_s, if_pos h]
theorem wiP_f {st : St} {i k : Nat} {v : Int} (h : ¬ k = i) : wiP st i v k ++ [st.getD k default] = wiP st i v (k + 1) := by
  unfold wiP; rw [← wi_s, if_neg h]
theorem wiP_len {st : St} {i k : Nat} {v : Int} : (wiP st i v k).length = k := by simp [wiP]
def sxL (t : Table) (tr : List Trip) (b : Schedule) (f : Bool) : List DV := eTable t ++ [encTr tr, encSt b.fStarts, vi b.fCost, vb f]
def rpJ (t : Table) (tr : List Trip) (st : St) (i x : Nat) (v : Int) : Nat → Int
  | 0 => v
  | y + 1 => if x ≠ i ∧ clB t ((tr.getD x default).fStops.getD y default) ((tr.getD i default).fStops.getD (st.getD i default).length default) = true then (if rpJ t tr st i x v y < (st.getD x default).getD y default + ((tr.getD x default).fStops.getD y default).fRun then (st.getD x default).getD y default + ((tr.getD x default).fStops.getD y default).fRun else rpJ t tr st i x v y) else rpJ t tr st i x v y
def rp0 (tr : List Trip) (st : St) (i : Nat) : Int :=
  if 0 < (st.getD i default).length then (if ((tr.getD i default).fStops.getD (st.getD i default).length default).fDue < (st.getD i default).getD ((st.getD i default).length - 1) default + ((tr.getD i default).fStops.getD ((st.getD i default).length - 1) default).fRun then (st.getD i default).getD ((st.getD i default).length - 1) default + ((tr.getD i default).fStops.getD ((st.getD i default).length - 1) default).fRun else ((tr.getD i default).fStops.getD (st.getD i default).length default).fDue) else ((tr.getD i default).fStops.getD (st.getD i default).length default).fDue
def rpI (t : Table) (tr : List Trip) (st : St) (i : Nat) : Nat → Int
  | 0 => rp0 tr st i
  | x + 1 => rpJ t tr st i x (rpI t tr st i x) (st.getD x default).length
def rpF (t : Table) (tr : List Trip) (st : St) (i : Nat) : Int := rpI t tr st i st.length
structure Sk (tr : List Trip) (st : St) (N : Int) : Prop where
  lo : 1073741824 ≤ N ∧ N ≤ 1099511617776
  n : st.length = tr.length
  l : ∀ i, i < tr.length → (st.getD i default).length ≤ (tr.getD i default).fStops.length
  b : ∀ i j, i < tr.length → j < (st.getD i default).length → 0 ≤ (st.getD i default).getD j default ∧ (st.getD i default).getD j default ≤ N
theorem rpJ_b {t : Table} {tr : List Trip} {st : St} (ho : Ok tr) {N : Int} (hs : Sk tr st N) {i x : Nat} (hx : x < tr.length) {v : Int} (hv : 0 ≤ v ∧ v ≤ N + 1000) : ∀ y, y ≤ (st.getD x default).length → 0 ≤ rpJ t tr st i x v y ∧ rpJ t tr st i x v y ≤ N + 1000
  | 0, _ => hv
  | y + 1, hy => by
    have h0 := hs.lo
    have h1 := rpJ_b (t := t) (i := i) ho hs hx hv y (by omega)
    have h2 := hs.b x y hx (by omega)
    have h3 := ho.s x y hx (by have := hs.l x hx; omega)
    unfold rpJ
    split <;> (try split) <;> omega
theorem rp0_b {tr : List Trip} {st : St} (ho : Ok tr) {N : Int} (hs : Sk tr st N) {i : Nat} (hi : i < tr.length) (hl : (st.getD i default).length < (tr.getD i default).fStops.length) : 0 ≤ rp0 tr st i ∧ rp0 tr st i ≤ N + 1000 := by
  have h0 := hs.lo
  have h3 := ho.s i _ hi hl
  unfold rp0
  split
  · rename_i h
    have h2 := hs.b i ((st.getD i default).length - 1) hi (by omega)
    have h4 := ho.s i ((st.getD i default).length - 1) hi (by omega)
    split <;> omega
  · omega
theorem rpI_b {t : Table} {tr : List Trip} {st : St} (ho : Ok tr) {N : Int} (hs : Sk tr st N) {i : Nat} (hi : i < tr.length) (hl : (st.getD i default).length < (tr.getD i default).fStops.length) : ∀ x, x ≤ tr.length → 0 ≤ rpI t tr st i x ∧ rpI t tr st i x ≤ N + 1000
  | 0, _ => rp0_b ho hs hi hl
  | x + 1, hx => rpJ_b ho hs (by omega) (rpI_b ho hs hi hl x (by omega)) _ (Nat.le_refl _)
set_option maxHeartbeats 2000000 in
theorem ref49_with_ok (O : Env) (st : St) (i : Nat) (v : Int) (hb : st.length ≤ 100) (hl : ∀ k, k < st.length → (st.getD k default).length ≤ 100) : PCall Try.prog O 62 [encSt st, vi (i : Nat), vi v] (encSt (wiF st i v)) := by
  refine pcall_has 0 rfl (.sl _ _ _) fun hn => ?_
  refine pcall_of_aw Try.func62 rfl (by kernel_rfl) ?_
  refine aw_seq fun K0 hK0 => ?_
  refine aw_reg [0, 1, 2] (by kernel_rfl) ?_
  simp (disch := omega) only [go_sem, seval]
  repeat refine And.intro obl ?_
  refine hK0 _ ?_; clear hK0
  refine aw_seq fun K1 hK1 => ?_
  refine aw_reg [0, 1, 2] (by kernel_rfl) ?_
  simp (disch := omega) only [go_sem, seval]
  repeat refine And.intro obl ?_
  refine hK1 _ ?_; clear hK1
  refine aw_seq fun K2 hK2 => ?_
  refine aw_seq fun K3 hK3 => ?_
  refine aw_reg [0, 1, 2, 7] (by kernel_rfl) ?_
  simp (disch := omega) only [go_sem, seval]
  repeat refine And.intro obl ?_
  refine hK3 _ ?_; clear hK3
  refine aw_block ?_
  refine aw_nilR 7 23 1 eLI rfl rfl ?_
  refine aw_loopK [0, 1, 2, 7, 8] (fun n ρ => ∃ k, n = st.length - k ∧ (k ≤ st.length) ∧ ρ = mkE O [(0, encSt st), (1, vi (i : Nat)), (2, vi v), (7, rowL 23 1 eLI (wiP st i v k)), (8, vi (k : Nat))]) _ ⟨0, rfl, ?_, ?_⟩ ?_
  · exact dfl
  · simp (disch := omega) only [go_sem, seval] <;> first | rfl | omega | simp | simp_all
  rintro n ρ ⟨k, rfl, l0_0, rfl⟩ K4 hK4
  refine aw_seq fun K5 hK5 => ?_
  refine aw_seq fun K6 hK6 => ?_
  refine aw_reg [0, 1, 2, 7, 8] (by kernel_rfl) ?_
  simp (disch := omega) only [go_sem, seval]
  repeat refine And.intro obl ?_
  refine hK6 _ ?_; clear hK6
  refine aw_cond _ (by rfl) (rfl) (fun c0 => ?_) (fun c0 => ?_)
  · try simp only [push_cast] at c0
    refine aw_skip ?_
    refine hK5 _ ?_; clear hK5
    refine aw_seq fun K7 hK7 => ?_
    refine aw_block ?_
    refine aw_seq fun K8 hK8 => ?_
    refine aw_reg [0, 1, 2, 7, 8] (by kernel_rfl) ?_
    simp (disch := omega) only [go_sem, seval]
    repeat refine And.intro obl ?_
    refine hK8 _ ?_; clear hK8
    refine aw_seq fun K9 hK9 => ?_
    refine aw_nilR 9 3 1 eI rfl rfl ?_
    refine aw_reg [0, 1, 2, 7, 8, 9] (by kernel_rfl) ?_
    simp (disch := omega) only [go_sem, seval]
    repeat refine And.intro obl ?_
    refine hK9 _ ?_; clear hK9
    refine aw_seq fun K10 hK10 => ?_
    refine aw_seq fun K11 hK11 => ?_
    refine aw_reg [0, 1, 2, 7, 8, 9] (by kernel_rfl) ?_
    simp (disch := omega) only [go_sem, seval]
    repeat refine And.intro obl ?_
    refine hK11 _ ?_; clear hK11
    refine aw_cond _ (by rfl) (rfl) (fun c1 => ?_) (fun c1 => ?_)
    · try simp only [push_cast] at c1
      refine aw_reg [0, 1, 2, 7, 8, 9] (by kernel_rfl) ?_
      simp (disch := omega) only [go_sem, seval]
      repeat refine And.intro obl ?_
      refine hK10 _ ?_; clear hK10
      refine aw_frzL 9 _ rfl rfl ?_
      have hw : (wiP st i v k).length = k := wiP_len
      refine aw_reg [0, 1, 2, 7, 8, 9] (by kernel_rfl) ?_
      simp (disch := omega) only [go_sem, seval]
      repeat refine And.intro obl ?_
      refine hK7 _ ?_; clear hK7
      refine aw_reg [0, 1, 2, 7, 8] (by kernel_rfl) ?_
      simp (disch := omega) only [go_sem, seval]
      repeat refine And.intro obl ?_
      refine hK4 _ _ ?_ ⟨k + 1, rfl, ?_, ?_⟩
      · exact dfl
      · exact dfl
      · simp (disch := omega) only [go_sem, seval] <;> (rw [wiP_t (by omega)]; rfl)
    · try simp only [push_cast] at c1
      refine aw_skip ?_
      refine hK10 _ ?_; clear hK10
      refine aw_frzL 9 _ rfl rfl ?_
      have hw : (wiP st i v k).length = k := wiP_len
      refine aw_reg [0, 1, 2, 7, 8, 9] (by kernel_rfl) ?_
      simp (disch := omega) only [go_sem, seval]
      repeat refine And.intro obl ?_
      refine hK7 _ ?_; clear hK7
      refine aw_reg [0, 1, 2, 7, 8] (by kernel_rfl) ?_
      simp (disch := omega) only [go_sem, seval]
      repeat refine And.intro obl ?_
      refine hK4 _ _ ?_ ⟨k + 1, rfl, ?_, ?_⟩
      · exact dfl
      · exact dfl
      · simp (disch := omega) only [go_sem, seval] <;> (rw [wiP_f (by omega)]; rfl)
  · try simp only [push_cast] at c0
    refine aw_exit ?_
    refine hK2 _ ?_; clear hK2
    refine aw_seq fun K12 hK12 => ?_
    refine aw_frzL 7 _ rfl rfl ?_
    refine aw_reg [7] (by kernel_rfl) ?_
    simp (disch := omega) only [go_sem, seval]
    repeat refine And.intro obl ?_
    refine hK12 _ ?_; clear hK12
    refine aw_ret ?_
    refine ret_tmp 6 rfl (by simp (disch := omega) only [go_sem, seval]) ?_
    exact Exp.encL rfl (by rw [show k = st.length by omega]; rfl)
theorem rpJ_t {t : Table} {tr : List Trip} {st : St} {i x y : Nat} {v : Int} (h : ¬ x = i ∧ clB t ((tr.getD x default).fStops.getD y default) ((tr.getD i default).fStops.getD (st.getD i default).length default) = true) : (if rpJ t tr st i x v y < (st.getD x default).getD y default + ((tr.getD x default).fStops.getD y default).fRun then (st.getD x default).getD y default + ((tr.getD x default).fStops.getD y default).fRun else rpJ t tr st i x v y) = rpJ t tr st i x v (y + 1) := by
  conv => rhs; unfold rpJ
  rw [if_pos h]
theorem rpJ_f {t : Table} {tr : List Trip} {st : St} {i x y : Nat} {v : Int} (h : ¬ (¬ x = i ∧ clB t ((tr.getD x default).fStops.getD y default) ((tr.getD i default).fStops.getD (st.getD i default).length default) = true)) : rpJ t tr st i x v y = rpJ t tr st i x v (y + 1) := by
  conv => rhs; unfold rpJ
  rw [if_neg h]
set_option maxHeartbeats 4000000 in
theorem ref49_Search_place_ok (O : Env) (s : Nat) (t : Table) (tr : List Trip) (b : Schedule) (f : Bool) (st : St) (i : Nat) (hO : O s = .bx (sxL t tr b f)) (hk : chkI t tr = 0) (hs : SmT t) (N : Int) (hq : Sk tr st N) (hi : i < tr.length) (hl : (st.getD i default).length < (tr.getD i default).fStops.length) : PCall Try.prog O 61 [.bp s 0, encSt st, vi (i : Nat)] (vi (rpF t tr st i)) := by
  have hlo := hq.lo
  have ho := ok_chk hk
  have hP := (chk0 hk).2.2.1
  have hn := ho.n
  have hX : outer O (s + 100000) = .bx (sxL t tr b f) := by rw [outer_hi, hO]; rfl
  have hn2 := hq.n
  have hli := ho.l i hi
  have hsi := ho.s i _ hi hl
  refine pcall_has 1 rfl (.sl _ _ _) fun hn0 => ?_
  refine pcall_of_aw Try.func61 rfl (by kernel_rfl) ?_
  refine aw_seq fun K0 hK0 => ?_
  refine aw_reg [0, 1, 2] (by kernel_rfl) ?_
  simp (disch := omega) only [go_sem, seval, Nat.mul_one, Nat.zero_add, Nat.add_zero, hX, sxL, List.cons_append, List.nil_append]
  repeat refine And.intro obl ?_
  refine hK0 _ ?_; clear hK0
  refine aw_seq fun K1 hK1 => ?_
  refine aw_reg [0, 1, 2] (by kernel_rfl) ?_
  simp (disch := omega) only [go_sem, seval, Nat.mul_one, Nat.zero_add, Nat.add_zero, hX, sxL, List.cons_append, List.nil_append]
  repeat refine And.intro obl ?_
  refine hK1 _ ?_; clear hK1
  refine aw_seq fun K2 hK2 => ?_
  refine aw_reg [0, 1, 2, 7] (by kernel_rfl) ?_
  simp (disch := omega) only [go_sem, seval, Nat.mul_one, Nat.zero_add, Nat.add_zero, hX, sxL, List.cons_append, List.nil_append]
  repeat refine And.intro obl ?_
  refine hK2 _ ?_; clear hK2
  refine aw_seq fun K3 hK3 => ?_
  refine aw_reg [0, 1, 2, 7, 8] (by kernel_rfl) ?_
  simp (disch := omega) only [go_sem, seval, Nat.mul_one, Nat.zero_add, Nat.add_zero, hX, sxL, List.cons_append, List.nil_append]
  repeat refine And.intro obl ?_
  refine hK3 _ ?_; clear hK3
  refine aw_seqJ [0, 1, 2, 8, 9] (fun ρ => ρ = mkE O [(0, .bp (s + 100000) 0), (1, encSt st), (2, vi (i : Nat)), (8, .bx (eStop ((tr.getD i default).fStops.getD (st.getD i default).length default))), (9, vi (rp0 tr st i))]) (fun K4 hK4 => ?_) ?_
  · skip
    refine aw_seq fun K5 hK5 => ?_
    refine aw_reg [0, 1, 2, 7, 8, 9] (by kernel_rfl) ?_
    simp (disch := omega) only [go_sem, seval, Nat.mul_one, Nat.zero_add, Nat.add_zero, hX, sxL, List.cons_append, List.nil_append]
    repeat refine And.intro obl ?_
    refine hK5 _ ?_; clear hK5
    refine aw_cond _ (by rfl) (rfl) (fun c0 => ?_) (fun c0 => ?_)
    · try simp only [push_cast] at c0
      have hbi := hq.b i ((st.getD i default).length - 1) hi (by omega)
      have hsj := ho.s i ((st.getD i default).length - 1) hi (by omega)
      refine aw_regDc [0, 1, 2, 7, 8, 9] [] mixed (by kernel_rfl) ?_
      simp (disch := omega) only [go_sem, seval, Nat.mul_one, Nat.zero_add, Nat.add_zero, hX, sxL, List.cons_append, List.nil_append]
      repeat refine And.intro obl ?_
      refine hK4 _ ?_
      · simp (disch := omega) only [go_sem, seval, Nat.mul_one, Nat.zero_add, Nat.add_zero, hX, sxL, List.cons_append, List.nil_append] <;> (unfold rp0; rw [if_pos c0])
    · try simp only [push_cast] at c0
      refine aw_skip ?_
      refine hK4 _ ?_
      · simp (disch := omega) only [go_sem, seval, Nat.mul_one, Nat.zero_add, Nat.add_zero, hX, sxL, List.cons_append, List.nil_append] <;> (unfold rp0; rw [if_neg (by omega)])
  rintro ρ rfl
  refine aw_seq fun K6 hK6 => ?_
  refine aw_seq fun K7 hK7 => ?_
  refine aw_reg [0, 1, 2, 8, 9] (by kernel_rfl) ?_
  simp (disch := omega) only [go_sem, seval, Nat.mul_one, Nat.zero_add, Nat.add_zero, hX, sxL, List.cons_append, List.nil_append]
  repeat refine And.intro obl ?_
  refine hK7 _ ?_; clear hK7
  refine aw_block ?_
  refine aw_loopK [0, 1, 2, 8, 10, 9] (fun n ρ => ∃ x, n = st.length - x ∧ (x ≤ st.length) ∧ ρ = mkE O [(0, .bp (s + 100000) 0), (1, encSt st), (2, vi (i : Nat)), (8, .bx (eStop ((tr.getD i default).fStops.getD (st.getD i default).length default))), (10, vi (x : Nat)), (9, vi (rpI t tr st i x))]) _ ⟨0, rfl, ?_, ?_⟩ ?_
  · exact dfl
  · simp (disch := omega) only [go_sem, seval, Nat.mul_one, Nat.zero_add, Nat.add_zero, hX, sxL, List.cons_append, List.nil_append] <;> first | rfl | omega | simp | simp_all
  rintro n ρ ⟨x, rfl, l0_0, rfl⟩ K8 hK8
  refine aw_seq fun K9 hK9 => ?_
  refine aw_seq fun K10 hK10 => ?_
  refine aw_reg [0, 1, 2, 8, 9, 10] (by kernel_rfl) ?_
  simp (disch := omega) only [go_sem, seval, Nat.mul_one, Nat.zero_add, Nat.add_zero, hX, sxL, List.cons_append, List.nil_append]
  repeat refine And.intro obl ?_
  refine hK10 _ ?_; clear hK10
  refine aw_cond _ (by rfl) (rfl) (fun c1 => ?_) (fun c1 => ?_)
  · try simp only [push_cast] at c1
    refine aw_skip ?_
    refine hK9 _ ?_; clear hK9
    refine aw_seq fun K11 hK11 => ?_
    refine aw_block ?_
    refine aw_seq fun K12 hK12 => ?_
    have hlx := hq.l x (by omega)
    have hlx2 := ho.l x (by omega)
    refine aw_reg [0, 1, 2, 8, 9, 10] (by kernel_rfl) ?_
    simp (disch := omega) only [go_sem, seval, Nat.mul_one, Nat.zero_add, Nat.add_zero, hX, sxL, List.cons_append, List.nil_append]
    repeat refine And.intro obl ?_
    refine hK12 _ ?_; clear hK12
    refine aw_block ?_
    refine aw_loopK [0, 1, 2, 8, 10, 9, 11] (fun n ρ => ∃ y, n = (st.getD x default).length - y ∧ (y ≤ (st.getD x default).length) ∧ ρ = mkE O [(0, .bp (s + 100000) 0), (1, encSt st), (2, vi (i : Nat)), (8, .bx (eStop ((tr.getD i default).fStops.getD (st.getD i default).length default))), (10, vi (x : Nat)), (9, vi (rpJ t tr st i x (rpI t tr st i x) y)), (11, vi (y : Nat))]) _ ⟨0, rfl, ?_, ?_⟩ ?_
    · exact dfl
    · simp (disch := omega) only [go_sem, seval, Nat.mul_one, Nat.zero_add, Nat.add_zero, hX, sxL, List.cons_append, List.nil_append] <;> first | rfl | omega | simp | simp_all
    rintro n ρ ⟨y, rfl, l1_0, rfl⟩ K13 hK13
    refine aw_seq fun K14 hK14 => ?_
    refine aw_seq fun K15 hK15 => ?_
    refine aw_reg [0, 1, 2, 8, 9, 10, 11] (by kernel_rfl) ?_
    simp (disch := omega) only [go_sem, seval, Nat.mul_one, Nat.zero_add, Nat.add_zero, hX, sxL, List.cons_append, List.nil_append]
    repeat refine And.intro obl ?_
    refine hK15 _ ?_; clear hK15
    refine aw_cond _ (by rfl) (rfl) (fun c2 => ?_) (fun c2 => ?_)
    · try simp only [push_cast] at c2
      refine aw_skip ?_
      refine hK14 _ ?_; clear hK14
      refine aw_seq fun K16 hK16 => ?_
      refine aw_block ?_
      refine aw_seq fun K17 hK17 => ?_
      refine aw_reg [0, 1, 2, 8, 9, 10, 11] (by kernel_rfl) ?_
      simp (disch := omega) only [go_sem, seval, Nat.mul_one, Nat.zero_add, Nat.add_zero, hX, sxL, List.cons_append, List.nil_append]
      repeat refine And.intro obl ?_
      refine hK17 _ ?_; clear hK17
      refine aw_seq fun K18 hK18 => ?_
      refine aw_regDc [0, 1, 2, 8, 9, 10, 11, 12] [] mixed (by kernel_rfl) ?_
      simp (disch := omega) only [go_sem, seval, Nat.mul_one, Nat.zero_add, Nat.add_zero, hX, sxL, List.cons_append, List.nil_append]
      repeat refine And.intro obl ?_
      refine callC_to (fun g0 => ref49_conflict_ok _ t ((tr.getD x default).fStops.getD y default) ((tr.getD i default).fStops.getD (st.getD i default).length default) (pl_at hP (by omega) (by omega)) (pl_at hP hi hl) hs) ?_ ?_ ?_
      · first | exact fun _ => trivial | simp
      · rfl
      simp (disch := omega) only [go_sem, seval, Nat.mul_one, Nat.zero_add, Nat.add_zero, hX, sxL, List.cons_append, List.nil_append]
      repeat refine And.intro obl ?_
      refine hK18 _ ?_; clear hK18
      refine aw_cond _ (by rfl) (rfl) (fun c3 => ?_) (fun c3 => ?_)
      · try simp only [push_cast] at c3
        have hbx := hq.b x y (by omega) (by omega)
        have hsx := ho.s x y (by omega) (by omega)
        have hrj := rpJ_b (t := t) (i := i) (x := x) ho hq (by omega) (rpI_b (t := t) ho hq hi hl x (by omega)) y (by omega)
        refine aw_regDc [0, 1, 2, 8, 9, 10, 11, 12] [] mixed (by kernel_rfl) ?_
        simp (disch := omega) only [go_sem, seval, Nat.mul_one, Nat.zero_add, Nat.add_zero, hX, sxL, List.cons_append, List.nil_append]
        repeat refine And.intro obl ?_
        refine hK16 _ ?_; clear hK16
        refine aw_reg [0, 1, 2, 8, 9, 10, 11] (by kernel_rfl) ?_
        simp (disch := omega) only [go_sem, seval, Nat.mul_one, Nat.zero_add, Nat.add_zero, hX, sxL, List.cons_append, List.nil_append]
        repeat refine And.intro obl ?_
        refine hK13 _ _ ?_ ⟨y + 1, rfl, ?_, ?_⟩
        · exact dfl
        · exact dfl
        · simp (disch := omega) only [go_sem, seval, Nat.mul_one, Nat.zero_add, Nat.add_zero, hX, sxL, List.cons_append, List.nil_append] <;> (rw [rpJ_t c3]; rfl)
      · try simp only [push_cast] at c3
        refine aw_skip ?_
        refine hK16 _ ?_; clear hK16
        refine aw_reg [0, 1, 2, 8, 9, 10, 11] (by kernel_rfl) ?_
        simp (disch := omega) only [go_sem, seval, Nat.mul_one, Nat.zero_add, Nat.add_zero, hX, sxL, List.cons_append, List.nil_append]
        repeat refine And.intro obl ?_
        refine hK13 _ _ ?_ ⟨y + 1, rfl, ?_, ?_⟩
        · exact dfl
        · exact dfl
        · simp (disch := omega) only [go_sem, seval, Nat.mul_one, Nat.zero_add, Nat.add_zero, hX, sxL, List.cons_append, List.nil_append] <;> (rw [← rpJ_f (fun q => c3.elim q.1 (by rw [q.2]; simp))]; rfl)
    · try simp only [push_cast] at c2
      refine aw_exit ?_
      refine hK11 _ ?_; clear hK11
      refine aw_reg [0, 1, 2, 8, 9, 10] (by kernel_rfl) ?_
      simp (disch := omega) only [go_sem, seval, Nat.mul_one, Nat.zero_add, Nat.add_zero, hX, sxL, List.cons_append, List.nil_append]
      repeat refine And.intro obl ?_
      refine hK8 _ _ ?_ ⟨x + 1, rfl, ?_, ?_⟩
      · exact dfl
      · exact dfl
      · simp (disch := omega) only [go_sem, seval, Nat.mul_one, Nat.zero_add, Nat.add_zero, hX, sxL, List.cons_append, List.nil_append] <;> (rw [show y = (st.getD x default).length by omega]; rfl)
  · try simp only [push_cast] at c1
    refine aw_exit ?_
    refine hK6 _ ?_; clear hK6
    refine aw_seq fun K19 hK19 => ?_
    refine aw_reg [9] (by kernel_rfl) ?_
    simp (disch := omega) only [go_sem, seval, Nat.mul_one, Nat.zero_add, Nat.add_zero, hX, sxL, List.cons_append, List.nil_append]
    repeat refine And.intro obl ?_
    refine hK19 _ ?_; clear hK19
    refine aw_ret ?_
    refine ret_tmp 6 rfl (by simp (disch := omega) only [go_sem, seval, Nat.mul_one, Nat.zero_add, Nat.add_zero, hX, sxL, List.cons_append, List.nil_append]) ?_
    exact Exp.is (by simp (disch := omega) only [go_sem, seval, Nat.mul_one, Nat.zero_add, Nat.add_zero, hX, sxL, List.cons_append, List.nil_append] <;> (rw [show x = st.length by omega]; rfl)) rfl rfl
end Go.Sg
