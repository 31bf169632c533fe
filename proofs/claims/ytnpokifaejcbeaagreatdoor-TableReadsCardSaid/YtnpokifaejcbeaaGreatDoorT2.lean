/- Contracts of the checks of tables, second part: a route. Printed by genw.py. -/
import Derived.Test.YtnpokifaejcbeaaGreatDoorSgObl
import Derived.Test.YtnpokifaejcbeaaGreatDoorT1
import Derived.Test.YtnpokifaejcbeaaGreatDoorSgGrow
import Derived.Test.YtnpokifaejcbeaaGreatDoorShelf
set_option linter.unusedVariables false
set_option linter.unusedSimpArgs false
set_option maxRecDepth 8000
namespace Go.Sg
open Go.Proofs
abbrev encLI (ls : List (List Int)) : DV := encL 1 (fun l => [encI l]) ls
def bitsL (u : List Bool) : List DV := u.map vb
theorem bitsL_len (u : List Bool) : (bitsL u).length = u.length := by simp [bitsL]
theorem bitsL_get {u : List Bool} {k : Nat} (h : k < u.length) : (bitsL u).getD k .any = vb (u.getD k false) := by
  simp [bitsL, List.getD_eq_getElem?_getD, h]
theorem bitsL_no {u : List Bool} {k : Nat} (h : u.length ≤ k) : (bitsL u).getD k .any = .any := by
  simp [bitsL, List.getD_eq_getElem?_getD, h]
theorem bitsL_set {u : List Bool} {k : Nat} {b : Bool} : (bitsL u).set k (.v (.bool b)) = bitsL (u.set k b) := by
  unfold bitsL; rw [List.map_set]
theorem bitsL_spl {u : List Bool} {k : Nat} {b : Bool} (h : k < u.length) : spl k [.v (.bool b)] (bitsL u) = bitsL (u.set k b) := by
  rw [spl_eq (by simp [bitsL]; omega)]
  unfold bitsL
  rw [List.map_set, List.set_eq_take_append_cons_drop, if_pos (by simpa using h)]
  simp
abbrev iN (l : List Int) (i : Nat) : Int := l.getD i default
def secB (t : Table) (l : List Int) (i : Nat) : Bool := decide (0 ≤ iN l i ∧ iN l i < t.fSections) && (List.range i).all fun k => !(iN l k == iN l i)
def secsB (t : Table) (l : List Int) : Bool := (List.range l.length).all (secB t l)
def rtO (t : Table) (r : Route) : Bool := decide (0 ≤ r.fEntry ∧ r.fEntry < t.fSignals ∧ -1 ≤ r.fExit ∧ r.fExit < t.fSignals ∧ 1 ≤ r.fPath.length ∧ r.fPath.length ≤ 12 ∧ 1 ≤ r.fLength ∧ 0 < r.fSections.length ∧ 0 ≤ r.fApproach ∧ r.fApproach < t.fSections)
def rtB (t : Table) (r : Route) : Bool := rtO t r && secsB t (r.fSections ++ r.fOverSections)
/-- u says which numbers stand among the first i of l. -/
def usd (l : List Int) (u : List Bool) (i : Nat) : Prop := u.length = 24 ∧ ∀ j : Nat, j < 24 → (u.getD j false = true ↔ ∃ k, k < i ∧ iN l k = (j : Int))
theorem usd_0 (l : List Int) : usd l (List.replicate 24 false) 0 := ⟨rfl, fun j hj => by
  rw [List.getD_eq_getElem?_getD, List.getElem?_replicate, if_pos hj]
  exact ⟨fun h => by simp at h, fun ⟨k, hk, _⟩ => absurd hk (Nat.not_lt_zero _)⟩⟩
theorem usd_s {l : List Int} {u : List Bool} {i : Nat} (h : usd l u i) (h1 : 0 ≤ iN l i) (h2 : iN l i < 24) : usd l (u.set (iN l i).toNat true) (i + 1) := ⟨by rw [List.length_set]; exact h.1, fun j hj => by
  have hl := h.1
  by_cases e : (iN l i).toNat = j
  · subst e
    constructor
    · intro _; exact ⟨i, by omega, by omega⟩
    · intro _; rw [List.getD_eq_getElem?_getD, List.getElem?_set_self (by omega)]; rfl
  · rw [List.getD_eq_getElem?_getD, List.getElem?_set_ne e, ← List.getD_eq_getElem?_getD, h.2 j hj]
    constructor
    · rintro ⟨k, hk, hj'⟩; exact ⟨k, by omega, hj'⟩
    · rintro ⟨k, hk, hj'⟩
      refine ⟨k, ?_, hj'⟩
      rcases Nat.lt_or_eq_of_le (Nat.le_of_lt_succ hk) with q | q
      · exact q
      · subst q; exact absurd (by omega) e⟩
theorem usd_f {t : Table} {l : List Int} {u : List Bool} {i : Nat} (h : usd l u i) (h1 : 0 ≤ iN l i) (h2 : iN l i < 24) (hu : u.getD (iN l i).toNat false = true) : secB t l i = false := by
  obtain ⟨k, hk, e⟩ := (h.2 _ (by omega)).1 hu
  unfold secB
  rw [rg_f hk (by rw [Bool.not_eq_false', beq_iff_eq]; omega), Bool.and_false]
theorem usd_t {t : Table} {l : List Int} {u : List Bool} {i : Nat} (h : usd l u i) (h1 : 0 ≤ iN l i) (h2 : iN l i < t.fSections) (h3 : iN l i < 24) (hu : u.getD (iN l i).toNat false = false) : secB t l i = true := by
  unfold secB
  rw [decide_eq_true ⟨h1, h2⟩, Bool.true_and, List.all_eq_true]
  intro k hk
  have hk := List.mem_range.1 hk
  rw [Bool.not_eq_true', beq_eq_false_iff_ne]
  intro e
  rw [(h.2 _ (by omega)).2 ⟨k, hk, by omega⟩] at hu
  cases hu

def growRenI : Go.Shelf.Ren := ⟨fun | 4 => 155 | n => n, fun | 22 => 32 | 25 => 3 | n => n, fun | n => n⟩
theorem growLaysI : Go.Proofs.Lays8.n4 Tryz.prog growRenI := {
  mixed := by kernel_rfl
  f4 := ⟨Tryz.f155.name, by decide, Tryz.func155.trans (congrArg some (by kernel_rfl))⟩
  t0 := Tryz.underlying0
  a0 := Tryz.isAgg0
  z0 := Tryz.sizeOf0
  v0 := Tryz.zeroValue0
  t3 := Tryz.underlying3
  a3 := Tryz.isAgg3
  z3 := Tryz.sizeOf3
  v3 := Tryz.zeroValue3
  t4 := Tryz.underlying4
  a4 := Tryz.isAgg4
  z4 := Tryz.sizeOf4
  v4 := Tryz.zeroValue4
  t9 := Tryz.underlying9
  a9 := Tryz.isAgg9
  z9 := Tryz.sizeOf9
  v9 := Tryz.zeroValue9
  t20 := Tryz.underlying20
  a20 := Tryz.isAgg20
  z20 := Tryz.sizeOf20
  v20 := Tryz.zeroValue20
  t22 := Tryz.underlying32
  a22 := Tryz.isAgg32
  z22 := Tryz.sizeOf32
  v22 := Tryz.zeroValue32 }
theorem slices_Grow_int_ok (O : Env) (n : Nat) (hn : 0 < n) (hb : n ≤ 1000000) : PCall Tryz.prog O 155 [.v (.slice none 0 0), vi n] (rowL 3 1 eI []) :=
  pcall_grow growLaysI rfl rfl (show slE Tryz.prog 32 = some (3, 1, 8) by kernel_rfl) (show zcOf Tryz.prog 3 = some [.int .i64 0] by kernel_rfl) (by decide) rfl rfl O n hn (by omega) (by omega)
theorem slices_Grow_int_r (O : Env) (n : Nat) (hb : n ≤ 1000000) : PCall Tryz.prog O 155 [.v (.slice none 0 0), vi n] (rowL 3 1 eI []) := by
  rcases Nat.eq_zero_or_pos n with h | h
  · subst h; exact pcall_grow0 growLaysI rfl rfl O 3 1
  · exact slices_Grow_int_ok O n h hb

theorem slices_Concat_int_r (O : Env) (ls : List (List Int)) (hb : ls.flatten.length ≤ 100000) : PCall Tryz.prog O 100 [encLI ls] (rowL 3 1 eI ls.flatten) := by
  -- slices.Concat[[]int,int]
  refine pcall_has 0 rfl (.sl _ _ _) fun hl => ?_
  refine pcall_of_aw Tryz.func100 rfl (by kernel_rfl) ?_
  refine aw_seq fun K0 hK0 => ?_
  refine aw_reg [0] (by kernel_rfl) ?_
  simp (disch := omega) only [go_sem, ↓reduceIte, Nat.reduceEqDiff, Nat.reduceLT, Nat.reduceLeDiff, Nat.reduceAdd, Nat.reduceSub, Nat.reduceMul, reduceCtorEq, Int.reduceToNat, Int.reduceNeg, i64id]
  repeat refine And.intro obl ?_
  refine hK0 _ ?_; clear hK0
  refine aw_seq fun K1 hK1 => ?_
  refine aw_reg [0] (by kernel_rfl) ?_
  simp (disch := omega) only [go_sem, ↓reduceIte, Nat.reduceEqDiff, Nat.reduceLT, Nat.reduceLeDiff, Nat.reduceAdd, Nat.reduceSub, Nat.reduceMul, reduceCtorEq, Int.reduceToNat, Int.reduceNeg, i64id]
  repeat refine And.intro obl ?_
  refine hK1 _ ?_; clear hK1
  refine aw_seq fun K2 hK2 => ?_
  refine aw_seq fun K3 hK3 => ?_
  refine aw_reg [0, 3] (by kernel_rfl) ?_
  simp (disch := omega) only [go_sem, ↓reduceIte, Nat.reduceEqDiff, Nat.reduceLT, Nat.reduceLeDiff, Nat.reduceAdd, Nat.reduceSub, Nat.reduceMul, reduceCtorEq, Int.reduceToNat, Int.reduceNeg, i64id]
  repeat refine And.intro obl ?_
  refine hK3 _ ?_; clear hK3
  refine aw_block ?_
  refine aw_loopK [0, 3, 9, 10, 11] (fun n ρ => ∃ i, ∃ s, n = ls.length - i ∧ (i ≤ ls.length) ∧ (s + (ls.drop i).flatten.length = ls.flatten.length) ∧ ρ = mkE O [(0, encLI ls), (3, vi (s : Nat)), (9, encLI ls), (10, vi (ls.length : Nat)), (11, vi (i : Nat))]) _ ⟨0, 0, rfl, ?_, ?_, ?_⟩ ?_
  · exact dfl
  · simp
  · simp (disch := omega) only [go_sem, ↓reduceIte, Nat.reduceEqDiff, Nat.reduceLT, Nat.reduceLeDiff, Nat.reduceAdd, Nat.reduceSub, Nat.reduceMul, reduceCtorEq, Int.reduceToNat, Int.reduceNeg, i64id] <;> first | rfl | omega | simp | simp_all
  rintro n ρ ⟨i, s, rfl, l0_0, l0_1, rfl⟩ K4 hK4
  refine aw_seq fun K5 hK5 => ?_
  refine aw_reg [0, 3, 9, 10, 11] (by kernel_rfl) ?_
  simp (disch := omega) only [go_sem, ↓reduceIte, Nat.reduceEqDiff, Nat.reduceLT, Nat.reduceLeDiff, Nat.reduceAdd, Nat.reduceSub, Nat.reduceMul, reduceCtorEq, Int.reduceToNat, Int.reduceNeg, i64id]
  repeat refine And.intro obl ?_
  refine hK5 _ ?_; clear hK5
  refine aw_seq fun K6 hK6 => ?_
  refine aw_cond _ (by rfl) (rfl) (fun c0 => ?_) (fun c0 => ?_)
  · try simp only [push_cast] at c0
    refine aw_skip ?_
    refine hK6 _ ?_; clear hK6
    refine aw_seq fun K7 hK7 => ?_
    refine aw_block ?_
    refine aw_seq fun K8 hK8 => ?_
    refine aw_reg [0, 3, 9, 10, 11] (by kernel_rfl) ?_
    simp (disch := omega) only [go_sem, ↓reduceIte, Nat.reduceEqDiff, Nat.reduceLT, Nat.reduceLeDiff, Nat.reduceAdd, Nat.reduceSub, Nat.reduceMul, reduceCtorEq, Int.reduceToNat, Int.reduceNeg, i64id]
    repeat refine And.intro obl ?_
    refine hK8 _ ?_; clear hK8
    refine aw_seq fun K9 hK9 => ?_
    have hs : s + (ls.getD i default).length + (ls.drop (i + 1)).flatten.length = ls.flatten.length := by rw [← l0_1, dropD default c0, List.flatten_cons, List.length_append]; omega
    refine aw_reg [0, 3, 5, 9, 10, 11, 13] (by kernel_rfl) ?_
    simp (disch := omega) only [go_sem, ↓reduceIte, Nat.reduceEqDiff, Nat.reduceLT, Nat.reduceLeDiff, Nat.reduceAdd, Nat.reduceSub, Nat.reduceMul, reduceCtorEq, Int.reduceToNat, Int.reduceNeg, i64id]
    repeat refine And.intro obl ?_
    refine hK9 _ ?_; clear hK9
    refine aw_seq fun K10 hK10 => ?_
    refine aw_reg [0, 3, 9, 10, 11] (by kernel_rfl) ?_
    simp (disch := omega) only [go_sem, ↓reduceIte, Nat.reduceEqDiff, Nat.reduceLT, Nat.reduceLeDiff, Nat.reduceAdd, Nat.reduceSub, Nat.reduceMul, reduceCtorEq, Int.reduceToNat, Int.reduceNeg, i64id]
    repeat refine And.intro obl ?_
    refine hK10 _ ?_; clear hK10
    refine aw_cond _ (by rfl) (rfl) (fun c1 => ?_) (fun c1 => ?_)
    · try simp only [push_cast] at c1
      omega
    · try simp only [push_cast] at c1
      refine aw_skip ?_
      refine hK7 _ ?_; clear hK7
      refine aw_reg [0, 3, 9, 10, 11] (by kernel_rfl) ?_
      simp (disch := omega) only [go_sem, ↓reduceIte, Nat.reduceEqDiff, Nat.reduceLT, Nat.reduceLeDiff, Nat.reduceAdd, Nat.reduceSub, Nat.reduceMul, reduceCtorEq, Int.reduceToNat, Int.reduceNeg, i64id]
      repeat refine And.intro obl ?_
      refine hK4 _ _ ?_ ⟨i + 1, s + (ls.getD i default).length, rfl, ?_, ?_, ?_⟩
      · exact dfl
      · exact dfl
      · exact hs
      · simp (disch := omega) only [go_sem, ↓reduceIte, Nat.reduceEqDiff, Nat.reduceLT, Nat.reduceLeDiff, Nat.reduceAdd, Nat.reduceSub, Nat.reduceMul, reduceCtorEq, Int.reduceToNat, Int.reduceNeg, i64id] <;> first | rfl | omega | simp | simp_all
  · try simp only [push_cast] at c0
    refine aw_exit ?_
    refine hK2 _ ?_; clear hK2
    refine aw_seq fun K11 hK11 => ?_
    refine aw_reg [0, 3] (by kernel_rfl) ?_
    simp (disch := omega) only [go_sem, ↓reduceIte, Nat.reduceEqDiff, Nat.reduceLT, Nat.reduceLeDiff, Nat.reduceAdd, Nat.reduceSub, Nat.reduceMul, reduceCtorEq, Int.reduceToNat, Int.reduceNeg, i64id]
    repeat refine And.intro obl ?_
    refine callG_of _ (slices_Grow_int_r _ s (by omega)) ?_
    simp (disch := omega) only [go_sem, ↓reduceIte, Nat.reduceEqDiff, Nat.reduceLT, Nat.reduceLeDiff, Nat.reduceAdd, Nat.reduceSub, Nat.reduceMul, reduceCtorEq, Int.reduceToNat, Int.reduceNeg, i64id]
    repeat refine And.intro obl ?_
    refine hK11 _ ?_; clear hK11
    refine aw_seq fun K12 hK12 => ?_
    refine aw_seq fun K13 hK13 => ?_
    refine aw_reg [0, 6] (by kernel_rfl) ?_
    simp (disch := omega) only [go_sem, ↓reduceIte, Nat.reduceEqDiff, Nat.reduceLT, Nat.reduceLeDiff, Nat.reduceAdd, Nat.reduceSub, Nat.reduceMul, reduceCtorEq, Int.reduceToNat, Int.reduceNeg, i64id]
    repeat refine And.intro obl ?_
    refine hK13 _ ?_; clear hK13
    refine aw_block ?_
    refine aw_loopK [6, 25, 26, 27] (fun n ρ => ∃ j, ∃ out, n = ls.length - j ∧ (j ≤ ls.length) ∧ (out ++ (ls.drop j).flatten = ls.flatten) ∧ ρ = mkE O [(6, rowL 3 1 eI out), (25, encLI ls), (26, vi (ls.length : Nat)), (27, vi (j : Nat))]) _ ⟨0, [], rfl, ?_, ?_, ?_⟩ ?_
    · exact dfl
    · rfl
    · simp (disch := omega) only [go_sem, ↓reduceIte, Nat.reduceEqDiff, Nat.reduceLT, Nat.reduceLeDiff, Nat.reduceAdd, Nat.reduceSub, Nat.reduceMul, reduceCtorEq, Int.reduceToNat, Int.reduceNeg, i64id] <;> first | rfl | omega | simp | simp_all
    rintro n ρ ⟨j, out, rfl, l1_0, l1_1, rfl⟩ K14 hK14
    refine aw_seq fun K15 hK15 => ?_
    refine aw_reg [0, 6, 25, 26, 27] (by kernel_rfl) ?_
    simp (disch := omega) only [go_sem, ↓reduceIte, Nat.reduceEqDiff, Nat.reduceLT, Nat.reduceLeDiff, Nat.reduceAdd, Nat.reduceSub, Nat.reduceMul, reduceCtorEq, Int.reduceToNat, Int.reduceNeg, i64id]
    repeat refine And.intro obl ?_
    refine hK15 _ ?_; clear hK15
    refine aw_seq fun K16 hK16 => ?_
    refine aw_cond _ (by rfl) (rfl) (fun c2 => ?_) (fun c2 => ?_)
    · try simp only [push_cast] at c2
      refine aw_skip ?_
      refine hK16 _ ?_; clear hK16
      refine aw_seq fun K17 hK17 => ?_
      refine aw_block ?_
      refine aw_seq fun K18 hK18 => ?_
      refine aw_reg [0, 6, 25, 26, 27] (by kernel_rfl) ?_
      simp (disch := omega) only [go_sem, ↓reduceIte, Nat.reduceEqDiff, Nat.reduceLT, Nat.reduceLeDiff, Nat.reduceAdd, Nat.reduceSub, Nat.reduceMul, reduceCtorEq, Int.reduceToNat, Int.reduceNeg, i64id]
      repeat refine And.intro obl ?_
      refine hK18 _ ?_; clear hK18
      have hs : (out ++ ls.getD j default).length ≤ ls.flatten.length := by rw [← l1_1, dropD default c2, List.flatten_cons, List.length_append, List.length_append, List.length_append]; omega
      rw [List.length_append] at hs
      refine aw_reg [0, 6, 8, 25, 26, 27, 29] (by kernel_rfl) ?_
      simp (disch := omega) only [go_sem, ↓reduceIte, Nat.reduceEqDiff, Nat.reduceLT, Nat.reduceLeDiff, Nat.reduceAdd, Nat.reduceSub, Nat.reduceMul, reduceCtorEq, Int.reduceToNat, Int.reduceNeg, i64id]
      repeat refine And.intro obl ?_
      refine hK17 _ ?_; clear hK17
      refine aw_reg [0, 6, 25, 26, 27] (by kernel_rfl) ?_
      simp (disch := omega) only [go_sem, ↓reduceIte, Nat.reduceEqDiff, Nat.reduceLT, Nat.reduceLeDiff, Nat.reduceAdd, Nat.reduceSub, Nat.reduceMul, reduceCtorEq, Int.reduceToNat, Int.reduceNeg, i64id]
      repeat refine And.intro obl ?_
      refine hK14 _ _ ?_ ⟨j + 1, out ++ ls.getD j default, rfl, ?_, ?_, ?_⟩
      · exact dfl
      · exact dfl
      · rw [← l1_1, dropD default c2, List.flatten_cons, List.append_assoc]
      · simp (disch := omega) only [go_sem, ↓reduceIte, Nat.reduceEqDiff, Nat.reduceLT, Nat.reduceLeDiff, Nat.reduceAdd, Nat.reduceSub, Nat.reduceMul, reduceCtorEq, Int.reduceToNat, Int.reduceNeg, i64id] <;> first | rfl | omega | simp | simp_all
    · try simp only [push_cast] at c2
      refine aw_exit ?_
      refine hK12 _ ?_; clear hK12
      refine aw_seq fun K19 hK19 => ?_
      refine aw_reg [6] (by kernel_rfl) ?_
      simp (disch := omega) only [go_sem, ↓reduceIte, Nat.reduceEqDiff, Nat.reduceLT, Nat.reduceLeDiff, Nat.reduceAdd, Nat.reduceSub, Nat.reduceMul, reduceCtorEq, Int.reduceToNat, Int.reduceNeg, i64id]
      repeat refine And.intro obl ?_
      refine hK19 _ ?_; clear hK19
      refine aw_ret ?_
      refine ret_tmp 2 rfl (by simp (disch := omega) only [go_sem, ↓reduceIte, Nat.reduceEqDiff, Nat.reduceLT, Nat.reduceLeDiff, Nat.reduceAdd, Nat.reduceSub, Nat.reduceMul, reduceCtorEq, Int.reduceToNat, Int.reduceNeg, i64id]) ?_
      exact Exp.ownL rfl (by omega) rfl rfl (by rw [← l1_1, dropE c2]; simp)

theorem slices_Concat_int_ok (O : Env) (ls : List (List Int)) (hb : ls.flatten.length ≤ 100000) : PCall Tryz.prog O 100 [encLI ls] (encI ls.flatten) := pcall_encL (slices_Concat_int_r O ls hb)
theorem cat2I (O : Env) (a b : List Int) (hb : (a ++ b).length ≤ 100000) : PCall Tryz.prog O 100 [encLI [a, b]] (encI (a ++ b)) := by
  have := slices_Concat_int_ok O [a, b] (by simpa using hb)
  simpa using this

theorem ref16_sections_ok (O : Env) (t : Table) (l : List Int) : PCall Tryz.prog O 101 [.agg (eTable t), encI l] (vb (secsB t l)) := by
  -- signalling/signallingref16.sections
  refine pcall_has 1 rfl (.sl _ _ _) fun hl => ?_
  refine pcall_of_aw Tryz.func101 rfl (by kernel_rfl) ?_
  refine aw_seq fun K0 hK0 => ?_
  refine aw_reg [0, 1] (by kernel_rfl) ?_
  simp (disch := omega) only [go_sem, ↓reduceIte, Nat.reduceEqDiff, Nat.reduceLT, Nat.reduceLeDiff, Nat.reduceAdd, Nat.reduceSub, Nat.reduceMul, reduceCtorEq, Int.reduceToNat, Int.reduceNeg]
  repeat refine And.intro obl ?_
  refine hK0 _ ?_; clear hK0
  refine aw_seq fun K1 hK1 => ?_
  refine aw_seq fun K2 hK2 => ?_
  refine aw_reg [1, 2] (by kernel_rfl) ?_
  simp (disch := omega) only [go_sem, ↓reduceIte, Nat.reduceEqDiff, Nat.reduceLT, Nat.reduceLeDiff, Nat.reduceAdd, Nat.reduceSub, Nat.reduceMul, reduceCtorEq, Int.reduceToNat, Int.reduceNeg]
  repeat refine And.intro obl ?_
  refine hK2 _ ?_; clear hK2
  refine aw_block ?_
  refine aw_loopK [1, 2, 8, 9, 10] (fun n ρ => ∃ i, n = l.length - i ∧ (i ≤ l.length) ∧ (rgTo (secB t l) i) ∧ ρ = mkE O [(1, encI l), (2, .bx (eTable t)), (8, encI l), (9, vi (l.length : Nat)), (10, vi (i : Nat))]) _ ⟨0, rfl, ?_, ?_, ?_⟩ ?_
  · exact dfl
  · exact rgTo_0 _
  · simp (disch := omega) only [go_sem, ↓reduceIte, Nat.reduceEqDiff, Nat.reduceLT, Nat.reduceLeDiff, Nat.reduceAdd, Nat.reduceSub, Nat.reduceMul, reduceCtorEq, Int.reduceToNat, Int.reduceNeg] <;> first | rfl | omega | simp | simp_all
  rintro n ρ ⟨i, rfl, l0_0, l0_1, rfl⟩ K3 hK3
  refine aw_seq fun K4 hK4 => ?_
  refine aw_reg [1, 2, 8, 9, 10] (by kernel_rfl) ?_
  simp (disch := omega) only [go_sem, ↓reduceIte, Nat.reduceEqDiff, Nat.reduceLT, Nat.reduceLeDiff, Nat.reduceAdd, Nat.reduceSub, Nat.reduceMul, reduceCtorEq, Int.reduceToNat, Int.reduceNeg]
  repeat refine And.intro obl ?_
  refine hK4 _ ?_; clear hK4
  refine aw_seq fun K5 hK5 => ?_
  refine aw_cond _ (by rfl) (rfl) (fun c0 => ?_) (fun c0 => ?_)
  · try simp only [push_cast] at c0
    refine aw_skip ?_
    refine hK5 _ ?_; clear hK5
    refine aw_seq fun K6 hK6 => ?_
    refine aw_block ?_
    refine aw_seq fun K7 hK7 => ?_
    refine aw_reg [1, 2, 8, 9, 10] (by kernel_rfl) ?_
    simp (disch := omega) only [go_sem, ↓reduceIte, Nat.reduceEqDiff, Nat.reduceLT, Nat.reduceLeDiff, Nat.reduceAdd, Nat.reduceSub, Nat.reduceMul, reduceCtorEq, Int.reduceToNat, Int.reduceNeg]
    repeat refine And.intro obl ?_
    refine hK7 _ ?_; clear hK7
    refine aw_seq fun K8 hK8 => ?_
    refine aw_seq fun K9 hK9 => ?_
    refine aw_reg [1, 2, 5, 6, 8, 9, 10] (by kernel_rfl) ?_
    simp (disch := omega) only [go_sem, ↓reduceIte, Nat.reduceEqDiff, Nat.reduceLT, Nat.reduceLeDiff, Nat.reduceAdd, Nat.reduceSub, Nat.reduceMul, reduceCtorEq, Int.reduceToNat, Int.reduceNeg]
    repeat refine And.intro obl ?_
    refine hK9 _ ?_; clear hK9
    refine aw_cond _ (by rfl) (rfl) (fun c1 => ?_) (fun c1 => ?_)
    · try simp only [push_cast] at c1
      refine aw_seq fun K10 hK10 => ?_
      refine aw_reg [] (by kernel_rfl) ?_
      simp (disch := omega) only [go_sem, ↓reduceIte, Nat.reduceEqDiff, Nat.reduceLT, Nat.reduceLeDiff, Nat.reduceAdd, Nat.reduceSub, Nat.reduceMul, reduceCtorEq, Int.reduceToNat, Int.reduceNeg]
      repeat refine And.intro obl ?_
      refine hK10 _ ?_; clear hK10
      refine aw_ret ?_
      refine ret_tmp 4 rfl (by simp (disch := omega) only [go_sem, ↓reduceIte, Nat.reduceEqDiff, Nat.reduceLT, Nat.reduceLeDiff, Nat.reduceAdd, Nat.reduceSub, Nat.reduceMul, reduceCtorEq, Int.reduceToNat, Int.reduceNeg]) ?_
      exact Exp.is (by simp (disch := omega) only [go_sem, ↓reduceIte, Nat.reduceEqDiff, Nat.reduceLT, Nat.reduceLeDiff, Nat.reduceAdd, Nat.reduceSub, Nat.reduceMul, reduceCtorEq, Int.reduceToNat, Int.reduceNeg] <;> refine congrArg vb ?_ <;> (rw [secsB, rg_f c0 (by rw [secB, decide_eq_false (by simp only [iN]; omega)]; rfl)])) rfl rfl
    · try simp only [push_cast] at c1
      refine aw_skip ?_
      refine hK8 _ ?_; clear hK8
      refine aw_seq fun K11 hK11 => ?_
      refine aw_reg [1, 2, 5, 6, 8, 9, 10] (by kernel_rfl) ?_
      simp (disch := omega) only [go_sem, ↓reduceIte, Nat.reduceEqDiff, Nat.reduceLT, Nat.reduceLeDiff, Nat.reduceAdd, Nat.reduceSub, Nat.reduceMul, reduceCtorEq, Int.reduceToNat, Int.reduceNeg]
      repeat refine And.intro obl ?_
      refine hK11 _ ?_; clear hK11
      refine aw_block ?_
      refine aw_loopK [1, 2, 8, 9, 10, 6, 23, 24] (fun n ρ => ∃ k, n = i - k ∧ (k ≤ i) ∧ (rgTo (fun k => !(iN l k == iN l i)) k) ∧ ρ = mkE O [(1, encI l), (2, .bx (eTable t)), (8, encI l), (9, vi (l.length : Nat)), (10, vi (i : Nat)), (6, vi (iN l i)), (23, vi (i : Nat)), (24, vi (k : Nat))]) _ ⟨0, rfl, ?_, ?_, ?_⟩ ?_
      · exact dfl
      · exact rgTo_0 _
      · simp (disch := omega) only [go_sem, ↓reduceIte, Nat.reduceEqDiff, Nat.reduceLT, Nat.reduceLeDiff, Nat.reduceAdd, Nat.reduceSub, Nat.reduceMul, reduceCtorEq, Int.reduceToNat, Int.reduceNeg] <;> first | rfl | omega | simp | simp_all
      rintro n ρ ⟨k, rfl, l1_0, l1_1, rfl⟩ K12 hK12
      refine aw_seq fun K13 hK13 => ?_
      refine aw_reg [1, 2, 6, 8, 9, 10, 23, 24] (by kernel_rfl) ?_
      simp (disch := omega) only [go_sem, ↓reduceIte, Nat.reduceEqDiff, Nat.reduceLT, Nat.reduceLeDiff, Nat.reduceAdd, Nat.reduceSub, Nat.reduceMul, reduceCtorEq, Int.reduceToNat, Int.reduceNeg]
      repeat refine And.intro obl ?_
      refine hK13 _ ?_; clear hK13
      refine aw_seq fun K14 hK14 => ?_
      refine aw_cond _ (by rfl) (rfl) (fun c2 => ?_) (fun c2 => ?_)
      · try simp only [push_cast] at c2
        refine aw_skip ?_
        refine hK14 _ ?_; clear hK14
        refine aw_seq fun K15 hK15 => ?_
        refine aw_block ?_
        refine aw_seq fun K16 hK16 => ?_
        refine aw_reg [1, 2, 6, 8, 9, 10, 23, 24] (by kernel_rfl) ?_
        simp (disch := omega) only [go_sem, ↓reduceIte, Nat.reduceEqDiff, Nat.reduceLT, Nat.reduceLeDiff, Nat.reduceAdd, Nat.reduceSub, Nat.reduceMul, reduceCtorEq, Int.reduceToNat, Int.reduceNeg]
        repeat refine And.intro obl ?_
        refine hK16 _ ?_; clear hK16
        refine aw_seq fun K17 hK17 => ?_
        refine aw_reg [1, 2, 6, 7, 8, 9, 10, 23, 24] (by kernel_rfl) ?_
        simp (disch := omega) only [go_sem, ↓reduceIte, Nat.reduceEqDiff, Nat.reduceLT, Nat.reduceLeDiff, Nat.reduceAdd, Nat.reduceSub, Nat.reduceMul, reduceCtorEq, Int.reduceToNat, Int.reduceNeg]
        repeat refine And.intro obl ?_
        refine hK17 _ ?_; clear hK17
        refine aw_cond _ (by rfl) (rfl) (fun c3 => ?_) (fun c3 => ?_)
        · try simp only [push_cast] at c3
          refine aw_seq fun K18 hK18 => ?_
          refine aw_reg [] (by kernel_rfl) ?_
          simp (disch := omega) only [go_sem, ↓reduceIte, Nat.reduceEqDiff, Nat.reduceLT, Nat.reduceLeDiff, Nat.reduceAdd, Nat.reduceSub, Nat.reduceMul, reduceCtorEq, Int.reduceToNat, Int.reduceNeg]
          repeat refine And.intro obl ?_
          refine hK18 _ ?_; clear hK18
          refine aw_ret ?_
          refine ret_tmp 4 rfl (by simp (disch := omega) only [go_sem, ↓reduceIte, Nat.reduceEqDiff, Nat.reduceLT, Nat.reduceLeDiff, Nat.reduceAdd, Nat.reduceSub, Nat.reduceMul, reduceCtorEq, Int.reduceToNat, Int.reduceNeg]) ?_
          exact Exp.is (by simp (disch := omega) only [go_sem, ↓reduceIte, Nat.reduceEqDiff, Nat.reduceLT, Nat.reduceLeDiff, Nat.reduceAdd, Nat.reduceSub, Nat.reduceMul, reduceCtorEq, Int.reduceToNat, Int.reduceNeg] <;> refine congrArg vb ?_ <;> (rw [secsB, rg_f c0 (by rw [secB, rg_f c2 (by simp only [iN] at *; simpa using c3), Bool.and_false])])) rfl rfl
        · try simp only [push_cast] at c3
          refine aw_skip ?_
          refine hK15 _ ?_; clear hK15
          refine aw_reg [1, 2, 6, 8, 9, 10, 23, 24] (by kernel_rfl) ?_
          simp (disch := omega) only [go_sem, ↓reduceIte, Nat.reduceEqDiff, Nat.reduceLT, Nat.reduceLeDiff, Nat.reduceAdd, Nat.reduceSub, Nat.reduceMul, reduceCtorEq, Int.reduceToNat, Int.reduceNeg]
          repeat refine And.intro obl ?_
          refine hK12 _ _ ?_ ⟨k + 1, rfl, ?_, ?_, ?_⟩
          · exact dfl
          · exact dfl
          · exact rgTo_s l1_1 (by simp only [iN] at *; simpa using c3)
          · simp (disch := omega) only [go_sem, ↓reduceIte, Nat.reduceEqDiff, Nat.reduceLT, Nat.reduceLeDiff, Nat.reduceAdd, Nat.reduceSub, Nat.reduceMul, reduceCtorEq, Int.reduceToNat, Int.reduceNeg] <;> first | rfl | omega | simp | simp_all
      · try simp only [push_cast] at c2
        refine aw_exit ?_
        refine hK6 _ ?_; clear hK6
        refine aw_reg [1, 2, 8, 9, 10] (by kernel_rfl) ?_
        simp (disch := omega) only [go_sem, ↓reduceIte, Nat.reduceEqDiff, Nat.reduceLT, Nat.reduceLeDiff, Nat.reduceAdd, Nat.reduceSub, Nat.reduceMul, reduceCtorEq, Int.reduceToNat, Int.reduceNeg]
        repeat refine And.intro obl ?_
        refine hK3 _ _ ?_ ⟨i + 1, rfl, ?_, ?_, ?_⟩
        · exact dfl
        · exact dfl
        · exact rgTo_s l0_1 (by rw [secB, rg_t l1_1 (by omega), decide_eq_true (by simp only [iN]; omega)]; rfl)
        · simp (disch := omega) only [go_sem, ↓reduceIte, Nat.reduceEqDiff, Nat.reduceLT, Nat.reduceLeDiff, Nat.reduceAdd, Nat.reduceSub, Nat.reduceMul, reduceCtorEq, Int.reduceToNat, Int.reduceNeg] <;> first | rfl | omega | simp | simp_all
  · try simp only [push_cast] at c0
    refine aw_exit ?_
    refine hK1 _ ?_; clear hK1
    refine aw_seq fun K19 hK19 => ?_
    refine aw_reg [] (by kernel_rfl) ?_
    simp (disch := omega) only [go_sem, ↓reduceIte, Nat.reduceEqDiff, Nat.reduceLT, Nat.reduceLeDiff, Nat.reduceAdd, Nat.reduceSub, Nat.reduceMul, reduceCtorEq, Int.reduceToNat, Int.reduceNeg]
    repeat refine And.intro obl ?_
    refine hK19 _ ?_; clear hK19
    refine aw_ret ?_
    refine ret_tmp 4 rfl (by simp (disch := omega) only [go_sem, ↓reduceIte, Nat.reduceEqDiff, Nat.reduceLT, Nat.reduceLeDiff, Nat.reduceAdd, Nat.reduceSub, Nat.reduceMul, reduceCtorEq, Int.reduceToNat, Int.reduceNeg]) ?_
    exact Exp.is (by simp (disch := omega) only [go_sem, ↓reduceIte, Nat.reduceEqDiff, Nat.reduceLT, Nat.reduceLeDiff, Nat.reduceAdd, Nat.reduceSub, Nat.reduceMul, reduceCtorEq, Int.reduceToNat, Int.reduceNeg] <;> refine congrArg vb ?_ <;> (rw [secsB, rg_t l0_1 (by omega)])) rfl rfl

theorem within_t (O : Env) {a n : Int} (h : 0 ≤ a ∧ a < n) : PCall Tryz.prog O 44 [vi a, vi n] (vb true) := by
  have := table_within_ok O a n
  rwa [decide_eq_true h] at this
theorem within_f (O : Env) {a n : Int} (h : ¬ (0 ≤ a ∧ a < n)) : PCall Tryz.prog O 44 [vi a, vi n] (vb false) := by
  have := table_within_ok O a n
  rwa [decide_eq_false h] at this
theorem ne_len {α : Type} {l : List α} : l = [] ↔ l.length = 0 := List.length_eq_zero_iff.symm
theorem rt_no {t : Table} {r : Route} (h : rtO t r = false) : rtB t r = false := by rw [rtB, h]; rfl
theorem rt_ns {t : Table} {r : Route} (h : secsB t (r.fSections ++ r.fOverSections) = false) : rtB t r = false := by rw [rtB, h, Bool.and_false]

theorem table_routeRight_ok (O : Env) (t : Table) (r : Route) (hs : t.fSections ≤ 24) (hb : (r.fSections ++ r.fOverSections).length ≤ 100000) : PCall Tryz.prog O 46 [.agg (eTable t), .agg (eRoute r)] (vb (rtB t r)) := by
  -- signalling/table.routeRight
  refine pcall_has 1 rfl (.agg (d := encL 3 eStep r.fPath) (by simp [eRoute]) (.sl _ _ _)) fun hq => ?_
  refine pcall_has 1 rfl (.agg (d := encI r.fSections) (by simp [eRoute]) (.sl _ _ _)) fun h5 => ?_
  refine pcall_of_aw Tryz.func46 rfl (by kernel_rfl) ?_
  refine aw_seq fun K0 hK0 => ?_
  refine aw_reg [0, 1] (by kernel_rfl) ?_
  simp (disch := omega) only [go_sem, ↓reduceIte, Nat.reduceEqDiff, Nat.reduceLT, Nat.reduceLeDiff, Nat.reduceAdd, Nat.reduceSub, Nat.reduceMul, reduceCtorEq, Int.reduceToNat, Int.reduceNeg, bitsL_len, bitsL_get, bitsL_no, bitsL_spl, bitsL_set, Nat.mul_one, Bool.not_false, Bool.not_true]
  repeat refine And.intro obl ?_
  refine hK0 _ ?_; clear hK0
  refine aw_seq fun K1 hK1 => ?_
  refine aw_seq fun K2 hK2 => ?_
  refine aw_reg [2, 3] (by kernel_rfl) ?_
  simp (disch := omega) only [go_sem, ↓reduceIte, Nat.reduceEqDiff, Nat.reduceLT, Nat.reduceLeDiff, Nat.reduceAdd, Nat.reduceSub, Nat.reduceMul, reduceCtorEq, Int.reduceToNat, Int.reduceNeg, bitsL_len, bitsL_get, bitsL_no, bitsL_spl, bitsL_set, Nat.mul_one, Bool.not_false, Bool.not_true]
  repeat refine And.intro obl ?_
  refine callG_of _ (table_within_ok _ r.fEntry t.fSignals) ?_
  simp (disch := omega) only [go_sem, ↓reduceIte, Nat.reduceEqDiff, Nat.reduceLT, Nat.reduceLeDiff, Nat.reduceAdd, Nat.reduceSub, Nat.reduceMul, reduceCtorEq, Int.reduceToNat, Int.reduceNeg, bitsL_len, bitsL_get, bitsL_no, bitsL_spl, bitsL_set, Nat.mul_one, Bool.not_false, Bool.not_true]
  repeat refine And.intro obl ?_
  refine callC_to (fun g0 => table_within_ok _ r.fExit t.fSignals) ?_ ?_ ?_
  · first | exact fun _ => trivial | simp
  · rfl
  simp (disch := omega) only [go_sem, ↓reduceIte, Nat.reduceEqDiff, Nat.reduceLT, Nat.reduceLeDiff, Nat.reduceAdd, Nat.reduceSub, Nat.reduceMul, reduceCtorEq, Int.reduceToNat, Int.reduceNeg, bitsL_len, bitsL_get, bitsL_no, bitsL_spl, bitsL_set, Nat.mul_one, Bool.not_false, Bool.not_true]
  repeat refine And.intro obl ?_
  refine hK2 _ ?_; clear hK2
  refine aw_cond _ (by rfl) (rfl) (fun c0 => ?_) (fun c0 => ?_)
  · try simp only [push_cast] at c0
    refine aw_seq fun K3 hK3 => ?_
    refine aw_reg [] (by kernel_rfl) ?_
    simp (disch := omega) only [go_sem, ↓reduceIte, Nat.reduceEqDiff, Nat.reduceLT, Nat.reduceLeDiff, Nat.reduceAdd, Nat.reduceSub, Nat.reduceMul, reduceCtorEq, Int.reduceToNat, Int.reduceNeg, bitsL_len, bitsL_get, bitsL_no, bitsL_spl, bitsL_set, Nat.mul_one, Bool.not_false, Bool.not_true]
    repeat refine And.intro obl ?_
    refine hK3 _ ?_; clear hK3
    refine aw_ret ?_
    refine ret_tmp 4 rfl (by simp (disch := omega) only [go_sem, ↓reduceIte, Nat.reduceEqDiff, Nat.reduceLT, Nat.reduceLeDiff, Nat.reduceAdd, Nat.reduceSub, Nat.reduceMul, reduceCtorEq, Int.reduceToNat, Int.reduceNeg, bitsL_len, bitsL_get, bitsL_no, bitsL_spl, bitsL_set, Nat.mul_one, Bool.not_false, Bool.not_true]) ?_
    exact Exp.is (by simp (disch := omega) only [go_sem, ↓reduceIte, Nat.reduceEqDiff, Nat.reduceLT, Nat.reduceLeDiff, Nat.reduceAdd, Nat.reduceSub, Nat.reduceMul, reduceCtorEq, Int.reduceToNat, Int.reduceNeg, bitsL_len, bitsL_get, bitsL_no, bitsL_spl, bitsL_set, Nat.mul_one, Bool.not_false, Bool.not_true] <;> refine congrArg vb ?_ <;> (exact (rt_no (t := t) (r := r) (decide_eq_false (by omega))).symm)) rfl rfl
  · try simp only [push_cast] at c0
    refine aw_skip ?_
    refine hK1 _ ?_; clear hK1
    refine aw_seq fun K4 hK4 => ?_
    refine aw_seq fun K5 hK5 => ?_
    refine aw_reg [2, 3] (by kernel_rfl) ?_
    simp (disch := omega) only [go_sem, ↓reduceIte, Nat.reduceEqDiff, Nat.reduceLT, Nat.reduceLeDiff, Nat.reduceAdd, Nat.reduceSub, Nat.reduceMul, reduceCtorEq, Int.reduceToNat, Int.reduceNeg, bitsL_len, bitsL_get, bitsL_no, bitsL_spl, bitsL_set, Nat.mul_one, Bool.not_false, Bool.not_true]
    repeat refine And.intro obl ?_
    refine hK5 _ ?_; clear hK5
    refine aw_cond _ (by rfl) (rfl) (fun c1 => ?_) (fun c1 => ?_)
    · try simp only [push_cast] at c1
      refine aw_seq fun K6 hK6 => ?_
      refine aw_reg [] (by kernel_rfl) ?_
      simp (disch := omega) only [go_sem, ↓reduceIte, Nat.reduceEqDiff, Nat.reduceLT, Nat.reduceLeDiff, Nat.reduceAdd, Nat.reduceSub, Nat.reduceMul, reduceCtorEq, Int.reduceToNat, Int.reduceNeg, bitsL_len, bitsL_get, bitsL_no, bitsL_spl, bitsL_set, Nat.mul_one, Bool.not_false, Bool.not_true]
      repeat refine And.intro obl ?_
      refine hK6 _ ?_; clear hK6
      refine aw_ret ?_
      refine ret_tmp 4 rfl (by simp (disch := omega) only [go_sem, ↓reduceIte, Nat.reduceEqDiff, Nat.reduceLT, Nat.reduceLeDiff, Nat.reduceAdd, Nat.reduceSub, Nat.reduceMul, reduceCtorEq, Int.reduceToNat, Int.reduceNeg, bitsL_len, bitsL_get, bitsL_no, bitsL_spl, bitsL_set, Nat.mul_one, Bool.not_false, Bool.not_true]) ?_
      exact Exp.is (by simp (disch := omega) only [go_sem, ↓reduceIte, Nat.reduceEqDiff, Nat.reduceLT, Nat.reduceLeDiff, Nat.reduceAdd, Nat.reduceSub, Nat.reduceMul, reduceCtorEq, Int.reduceToNat, Int.reduceNeg, bitsL_len, bitsL_get, bitsL_no, bitsL_spl, bitsL_set, Nat.mul_one, Bool.not_false, Bool.not_true] <;> refine congrArg vb ?_ <;> (exact (rt_no (t := t) (r := r) (decide_eq_false (by omega))).symm)) rfl rfl
    · try simp only [push_cast] at c1
      refine aw_skip ?_
      refine hK4 _ ?_; clear hK4
      refine aw_seq fun K7 hK7 => ?_
      refine aw_reg [2, 3] (by kernel_rfl) ?_
      simp (disch := omega) only [go_sem, ↓reduceIte, Nat.reduceEqDiff, Nat.reduceLT, Nat.reduceLeDiff, Nat.reduceAdd, Nat.reduceSub, Nat.reduceMul, reduceCtorEq, Int.reduceToNat, Int.reduceNeg, bitsL_len, bitsL_get, bitsL_no, bitsL_spl, bitsL_set, Nat.mul_one, Bool.not_false, Bool.not_true]
      repeat refine And.intro obl ?_
      refine hK7 _ ?_; clear hK7
      refine aw_seq fun K8 hK8 => ?_
      refine aw_seq fun K9 hK9 => ?_
      refine aw_reg [2, 3, 5] (by kernel_rfl) ?_
      simp (disch := omega) only [go_sem, ↓reduceIte, Nat.reduceEqDiff, Nat.reduceLT, Nat.reduceLeDiff, Nat.reduceAdd, Nat.reduceSub, Nat.reduceMul, reduceCtorEq, Int.reduceToNat, Int.reduceNeg, bitsL_len, bitsL_get, bitsL_no, bitsL_spl, bitsL_set, Nat.mul_one, Bool.not_false, Bool.not_true]
      repeat refine And.intro obl ?_
      refine callG_of _ (pcall_args [encLI [r.fSections, r.fOverSections]] (.cons (RWk.litL [r.fSections, r.fOverSections] rfl rfl) .nil) (cat2I _ r.fSections r.fOverSections hb)) ?_
      simp (disch := omega) only [go_sem, ↓reduceIte, Nat.reduceEqDiff, Nat.reduceLT, Nat.reduceLeDiff, Nat.reduceAdd, Nat.reduceSub, Nat.reduceMul, reduceCtorEq, Int.reduceToNat, Int.reduceNeg, bitsL_len, bitsL_get, bitsL_no, bitsL_spl, bitsL_set, Nat.mul_one, Bool.not_false, Bool.not_true]
      repeat refine And.intro obl ?_
      refine hK9 _ ?_; clear hK9
      refine aw_block ?_
      refine aw_loopK [2, 3, 5, 48, 49, 50] (fun n ρ => ∃ i, ∃ u, n = (r.fSections ++ r.fOverSections).length - i ∧ (i ≤ (r.fSections ++ r.fOverSections).length) ∧ (rgTo (secB t (r.fSections ++ r.fOverSections)) i) ∧ (u.length = 24) ∧ (usd (r.fSections ++ r.fOverSections) u i) ∧ ρ = mkE O [(2, .bx (eTable t)), (3, .bx (eRoute r)), (5, .bx (bitsL u)), (48, encI (r.fSections ++ r.fOverSections)), (49, vi ((r.fSections ++ r.fOverSections).length : Nat)), (50, vi (i : Nat))]) _ ⟨0, List.replicate 24 false, rfl, ?_, ?_, ?_, ?_, ?_⟩ ?_
      · exact dfl
      · exact rgTo_0 _
      · rfl
      · exact usd_0 _
      · simp (disch := omega) only [go_sem, ↓reduceIte, Nat.reduceEqDiff, Nat.reduceLT, Nat.reduceLeDiff, Nat.reduceAdd, Nat.reduceSub, Nat.reduceMul, reduceCtorEq, Int.reduceToNat, Int.reduceNeg, bitsL_len, bitsL_get, bitsL_no, bitsL_spl, bitsL_set, Nat.mul_one, Bool.not_false, Bool.not_true] <;> first | rfl | omega | simp | simp_all
      rintro n ρ ⟨i, u, rfl, l0_0, l0_1, l0_2, l0_3, rfl⟩ K10 hK10
      rcases (show (0 ≤ (r.fSections ++ r.fOverSections).getD i default ∧ (r.fSections ++ r.fOverSections).getD i default < t.fSections) ∨ (¬ (0 ≤ (r.fSections ++ r.fOverSections).getD i default ∧ (r.fSections ++ r.fOverSections).getD i default < t.fSections) ∧ ((r.fSections ++ r.fOverSections).getD i default).toNat < 24) ∨ (¬ (0 ≤ (r.fSections ++ r.fOverSections).getD i default ∧ (r.fSections ++ r.fOverSections).getD i default < t.fSections) ∧ 24 ≤ ((r.fSections ++ r.fOverSections).getD i default).toNat) by omega) with hw | ⟨hw, hx⟩ | ⟨hw, hx⟩
      · skip
        refine aw_seq fun K11 hK11 => ?_
        refine aw_reg [2, 3, 5, 48, 49, 50] (by kernel_rfl) ?_
        simp (disch := omega) only [go_sem, ↓reduceIte, Nat.reduceEqDiff, Nat.reduceLT, Nat.reduceLeDiff, Nat.reduceAdd, Nat.reduceSub, Nat.reduceMul, reduceCtorEq, Int.reduceToNat, Int.reduceNeg, bitsL_len, bitsL_get, bitsL_no, bitsL_spl, bitsL_set, Nat.mul_one, Bool.not_false, Bool.not_true]
        repeat refine And.intro obl ?_
        refine hK11 _ ?_; clear hK11
        refine aw_seq fun K12 hK12 => ?_
        refine aw_cond _ (by rfl) (rfl) (fun c2 => ?_) (fun c2 => ?_)
        · try simp only [push_cast] at c2
          refine aw_skip ?_
          refine hK12 _ ?_; clear hK12
          refine aw_seq fun K13 hK13 => ?_
          refine aw_block ?_
          refine aw_seq fun K14 hK14 => ?_
          refine aw_reg [2, 3, 5, 48, 49, 50] (by kernel_rfl) ?_
          simp (disch := omega) only [go_sem, ↓reduceIte, Nat.reduceEqDiff, Nat.reduceLT, Nat.reduceLeDiff, Nat.reduceAdd, Nat.reduceSub, Nat.reduceMul, reduceCtorEq, Int.reduceToNat, Int.reduceNeg, bitsL_len, bitsL_get, bitsL_no, bitsL_spl, bitsL_set, Nat.mul_one, Bool.not_false, Bool.not_true]
          repeat refine And.intro obl ?_
          refine hK14 _ ?_; clear hK14
          refine aw_seq fun K15 hK15 => ?_
          refine aw_seq fun K16 hK16 => ?_
          refine aw_reg [2, 3, 5, 7, 48, 49, 50] (by kernel_rfl) ?_
          simp (disch := omega) only [go_sem, ↓reduceIte, Nat.reduceEqDiff, Nat.reduceLT, Nat.reduceLeDiff, Nat.reduceAdd, Nat.reduceSub, Nat.reduceMul, reduceCtorEq, Int.reduceToNat, Int.reduceNeg, bitsL_len, bitsL_get, bitsL_no, bitsL_spl, bitsL_set, Nat.mul_one, Bool.not_false, Bool.not_true]
          repeat refine And.intro obl ?_
          refine callG_of _ (within_t _ hw) ?_
          simp (disch := omega) only [go_sem, ↓reduceIte, Nat.reduceEqDiff, Nat.reduceLT, Nat.reduceLeDiff, Nat.reduceAdd, Nat.reduceSub, Nat.reduceMul, reduceCtorEq, Int.reduceToNat, Int.reduceNeg, bitsL_len, bitsL_get, bitsL_no, bitsL_spl, bitsL_set, Nat.mul_one, Bool.not_false, Bool.not_true]
          repeat refine And.intro obl ?_
          refine hK16 _ ?_; clear hK16
          refine aw_cond _ (by rfl) (rfl) (fun c3 => ?_) (fun c3 => ?_)
          · try simp only [push_cast] at c3
            refine aw_seq fun K17 hK17 => ?_
            refine aw_reg [] (by kernel_rfl) ?_
            simp (disch := omega) only [go_sem, ↓reduceIte, Nat.reduceEqDiff, Nat.reduceLT, Nat.reduceLeDiff, Nat.reduceAdd, Nat.reduceSub, Nat.reduceMul, reduceCtorEq, Int.reduceToNat, Int.reduceNeg, bitsL_len, bitsL_get, bitsL_no, bitsL_spl, bitsL_set, Nat.mul_one, Bool.not_false, Bool.not_true]
            repeat refine And.intro obl ?_
            refine hK17 _ ?_; clear hK17
            refine aw_ret ?_
            refine ret_tmp 4 rfl (by simp (disch := omega) only [go_sem, ↓reduceIte, Nat.reduceEqDiff, Nat.reduceLT, Nat.reduceLeDiff, Nat.reduceAdd, Nat.reduceSub, Nat.reduceMul, reduceCtorEq, Int.reduceToNat, Int.reduceNeg, bitsL_len, bitsL_get, bitsL_no, bitsL_spl, bitsL_set, Nat.mul_one, Bool.not_false, Bool.not_true]) ?_
            exact Exp.is (by simp (disch := omega) only [go_sem, ↓reduceIte, Nat.reduceEqDiff, Nat.reduceLT, Nat.reduceLeDiff, Nat.reduceAdd, Nat.reduceSub, Nat.reduceMul, reduceCtorEq, Int.reduceToNat, Int.reduceNeg, bitsL_len, bitsL_get, bitsL_no, bitsL_spl, bitsL_set, Nat.mul_one, Bool.not_false, Bool.not_true] <;> refine congrArg vb ?_ <;> (have h24 : iN (r.fSections ++ r.fOverSections) i < 24 := (by show (r.fSections ++ r.fOverSections).getD i default < 24; omega); exact (rt_ns (rg_f c2 (usd_f l0_3 hw.1 h24 (by simpa only [Nat.mul_one, Bool.false_eq_true, false_or] using c3)))).symm)) rfl rfl
          · try simp only [push_cast] at c3
            refine aw_skip ?_
            refine hK15 _ ?_; clear hK15
            refine aw_reg [2, 3, 5, 7, 48, 49, 50] (by kernel_rfl) ?_
            simp (disch := omega) only [go_sem, ↓reduceIte, Nat.reduceEqDiff, Nat.reduceLT, Nat.reduceLeDiff, Nat.reduceAdd, Nat.reduceSub, Nat.reduceMul, reduceCtorEq, Int.reduceToNat, Int.reduceNeg, bitsL_len, bitsL_get, bitsL_no, bitsL_spl, bitsL_set, Nat.mul_one, Bool.not_false, Bool.not_true]
            repeat refine And.intro obl ?_
            refine hK13 _ ?_; clear hK13
            refine aw_reg [2, 3, 5, 48, 49, 50] (by kernel_rfl) ?_
            simp (disch := omega) only [go_sem, ↓reduceIte, Nat.reduceEqDiff, Nat.reduceLT, Nat.reduceLeDiff, Nat.reduceAdd, Nat.reduceSub, Nat.reduceMul, reduceCtorEq, Int.reduceToNat, Int.reduceNeg, bitsL_len, bitsL_get, bitsL_no, bitsL_spl, bitsL_set, Nat.mul_one, Bool.not_false, Bool.not_true]
            repeat refine And.intro obl ?_
            have h24 : iN (r.fSections ++ r.fOverSections) i < 24 := (by show (r.fSections ++ r.fOverSections).getD i default < 24; omega)
            have hu : u.getD (iN (r.fSections ++ r.fOverSections) i).toNat false = false := by simpa only [Nat.mul_one, true_and] using c3
            refine hK10 _ _ ?_ ⟨i + 1, u.set (iN (r.fSections ++ r.fOverSections) i).toNat true, rfl, ?_, ?_, ?_, ?_, ?_⟩
            · exact dfl
            · exact dfl
            · exact rgTo_s l0_1 (usd_t l0_3 hw.1 hw.2 h24 hu)
            · rw [List.length_set]; exact l0_2
            · exact usd_s l0_3 hw.1 h24
            · simp (disch := omega) only [go_sem, ↓reduceIte, Nat.reduceEqDiff, Nat.reduceLT, Nat.reduceLeDiff, Nat.reduceAdd, Nat.reduceSub, Nat.reduceMul, reduceCtorEq, Int.reduceToNat, Int.reduceNeg, bitsL_len, bitsL_get, bitsL_no, bitsL_spl, bitsL_set, Nat.mul_one, Bool.not_false, Bool.not_true] <;> first | rfl | omega | simp | simp_all
        · try simp only [push_cast] at c2
          refine aw_exit ?_
          refine hK8 _ ?_; clear hK8
          refine aw_seq fun K18 hK18 => ?_
          refine aw_reg [2, 3] (by kernel_rfl) ?_
          simp (disch := omega) only [go_sem, ↓reduceIte, Nat.reduceEqDiff, Nat.reduceLT, Nat.reduceLeDiff, Nat.reduceAdd, Nat.reduceSub, Nat.reduceMul, reduceCtorEq, Int.reduceToNat, Int.reduceNeg, bitsL_len, bitsL_get, bitsL_no, bitsL_spl, bitsL_set, Nat.mul_one, Bool.not_false, Bool.not_true]
          repeat refine And.intro obl ?_
          refine callG_of _ (table_within_ok _ r.fApproach t.fSections) ?_
          simp (disch := omega) only [go_sem, ↓reduceIte, Nat.reduceEqDiff, Nat.reduceLT, Nat.reduceLeDiff, Nat.reduceAdd, Nat.reduceSub, Nat.reduceMul, reduceCtorEq, Int.reduceToNat, Int.reduceNeg, bitsL_len, bitsL_get, bitsL_no, bitsL_spl, bitsL_set, Nat.mul_one, Bool.not_false, Bool.not_true]
          repeat refine And.intro obl ?_
          refine hK18 _ ?_; clear hK18
          refine aw_ret ?_
          refine ret_tmp 4 rfl (by simp (disch := omega) only [go_sem, ↓reduceIte, Nat.reduceEqDiff, Nat.reduceLT, Nat.reduceLeDiff, Nat.reduceAdd, Nat.reduceSub, Nat.reduceMul, reduceCtorEq, Int.reduceToNat, Int.reduceNeg, bitsL_len, bitsL_get, bitsL_no, bitsL_spl, bitsL_set, Nat.mul_one, Bool.not_false, Bool.not_true]) ?_
          exact Exp.is (by simp (disch := omega) only [go_sem, ↓reduceIte, Nat.reduceEqDiff, Nat.reduceLT, Nat.reduceLeDiff, Nat.reduceAdd, Nat.reduceSub, Nat.reduceMul, reduceCtorEq, Int.reduceToNat, Int.reduceNeg, bitsL_len, bitsL_get, bitsL_no, bitsL_spl, bitsL_set, Nat.mul_one, Bool.not_false, Bool.not_true] <;> refine congrArg vb ?_ <;> (rw [rtB, show secsB t (r.fSections ++ r.fOverSections) = true from rg_t l0_1 (by omega), Bool.and_true, Bool.eq_iff_iff]; simp [rtO]; omega)) rfl rfl
      · skip
        refine aw_seq fun K19 hK19 => ?_
        refine aw_reg [2, 3, 5, 48, 49, 50] (by kernel_rfl) ?_
        simp (disch := omega) only [go_sem, ↓reduceIte, Nat.reduceEqDiff, Nat.reduceLT, Nat.reduceLeDiff, Nat.reduceAdd, Nat.reduceSub, Nat.reduceMul, reduceCtorEq, Int.reduceToNat, Int.reduceNeg, bitsL_len, bitsL_get, bitsL_no, bitsL_spl, bitsL_set, Nat.mul_one, Bool.not_false, Bool.not_true]
        repeat refine And.intro obl ?_
        refine hK19 _ ?_; clear hK19
        refine aw_seq fun K20 hK20 => ?_
        refine aw_cond _ (by rfl) (rfl) (fun c4 => ?_) (fun c4 => ?_)
        · try simp only [push_cast] at c4
          refine aw_skip ?_
          refine hK20 _ ?_; clear hK20
          refine aw_seq fun K21 hK21 => ?_
          refine aw_block ?_
          refine aw_seq fun K22 hK22 => ?_
          refine aw_reg [2, 3, 5, 48, 49, 50] (by kernel_rfl) ?_
          simp (disch := omega) only [go_sem, ↓reduceIte, Nat.reduceEqDiff, Nat.reduceLT, Nat.reduceLeDiff, Nat.reduceAdd, Nat.reduceSub, Nat.reduceMul, reduceCtorEq, Int.reduceToNat, Int.reduceNeg, bitsL_len, bitsL_get, bitsL_no, bitsL_spl, bitsL_set, Nat.mul_one, Bool.not_false, Bool.not_true]
          repeat refine And.intro obl ?_
          refine hK22 _ ?_; clear hK22
          refine aw_seq fun K23 hK23 => ?_
          refine aw_seq fun K24 hK24 => ?_
          refine aw_reg [2, 3, 5, 7, 48, 49, 50] (by kernel_rfl) ?_
          simp (disch := omega) only [go_sem, ↓reduceIte, Nat.reduceEqDiff, Nat.reduceLT, Nat.reduceLeDiff, Nat.reduceAdd, Nat.reduceSub, Nat.reduceMul, reduceCtorEq, Int.reduceToNat, Int.reduceNeg, bitsL_len, bitsL_get, bitsL_no, bitsL_spl, bitsL_set, Nat.mul_one, Bool.not_false, Bool.not_true]
          repeat refine And.intro obl ?_
          refine callG_of _ (within_f _ hw) ?_
          simp (disch := omega) only [go_sem, ↓reduceIte, Nat.reduceEqDiff, Nat.reduceLT, Nat.reduceLeDiff, Nat.reduceAdd, Nat.reduceSub, Nat.reduceMul, reduceCtorEq, Int.reduceToNat, Int.reduceNeg, bitsL_len, bitsL_get, bitsL_no, bitsL_spl, bitsL_set, Nat.mul_one, Bool.not_false, Bool.not_true]
          repeat refine And.intro obl ?_
          refine hK24 _ ?_; clear hK24
          refine aw_cond true (by rfl) (rfl) (fun _ => ?_) (fun h => by cases h)
          refine aw_seq fun K25 hK25 => ?_
          refine aw_reg [] (by kernel_rfl) ?_
          simp (disch := omega) only [go_sem, ↓reduceIte, Nat.reduceEqDiff, Nat.reduceLT, Nat.reduceLeDiff, Nat.reduceAdd, Nat.reduceSub, Nat.reduceMul, reduceCtorEq, Int.reduceToNat, Int.reduceNeg, bitsL_len, bitsL_get, bitsL_no, bitsL_spl, bitsL_set, Nat.mul_one, Bool.not_false, Bool.not_true]
          repeat refine And.intro obl ?_
          refine hK25 _ ?_; clear hK25
          refine aw_ret ?_
          refine ret_tmp 4 rfl (by simp (disch := omega) only [go_sem, ↓reduceIte, Nat.reduceEqDiff, Nat.reduceLT, Nat.reduceLeDiff, Nat.reduceAdd, Nat.reduceSub, Nat.reduceMul, reduceCtorEq, Int.reduceToNat, Int.reduceNeg, bitsL_len, bitsL_get, bitsL_no, bitsL_spl, bitsL_set, Nat.mul_one, Bool.not_false, Bool.not_true]) ?_
          exact Exp.is (by simp (disch := omega) only [go_sem, ↓reduceIte, Nat.reduceEqDiff, Nat.reduceLT, Nat.reduceLeDiff, Nat.reduceAdd, Nat.reduceSub, Nat.reduceMul, reduceCtorEq, Int.reduceToNat, Int.reduceNeg, bitsL_len, bitsL_get, bitsL_no, bitsL_spl, bitsL_set, Nat.mul_one, Bool.not_false, Bool.not_true] <;> refine congrArg vb ?_ <;> (exact (rt_ns (rg_f c4 (by rw [secB, decide_eq_false hw]; rfl))).symm)) rfl rfl
        · try simp only [push_cast] at c4
          refine aw_exit ?_
          refine hK8 _ ?_; clear hK8
          refine aw_seq fun K26 hK26 => ?_
          refine aw_reg [2, 3] (by kernel_rfl) ?_
          simp (disch := omega) only [go_sem, ↓reduceIte, Nat.reduceEqDiff, Nat.reduceLT, Nat.reduceLeDiff, Nat.reduceAdd, Nat.reduceSub, Nat.reduceMul, reduceCtorEq, Int.reduceToNat, Int.reduceNeg, bitsL_len, bitsL_get, bitsL_no, bitsL_spl, bitsL_set, Nat.mul_one, Bool.not_false, Bool.not_true]
          repeat refine And.intro obl ?_
          refine callG_of _ (table_within_ok _ r.fApproach t.fSections) ?_
          simp (disch := omega) only [go_sem, ↓reduceIte, Nat.reduceEqDiff, Nat.reduceLT, Nat.reduceLeDiff, Nat.reduceAdd, Nat.reduceSub, Nat.reduceMul, reduceCtorEq, Int.reduceToNat, Int.reduceNeg, bitsL_len, bitsL_get, bitsL_no, bitsL_spl, bitsL_set, Nat.mul_one, Bool.not_false, Bool.not_true]
          repeat refine And.intro obl ?_
          refine hK26 _ ?_; clear hK26
          refine aw_ret ?_
          refine ret_tmp 4 rfl (by simp (disch := omega) only [go_sem, ↓reduceIte, Nat.reduceEqDiff, Nat.reduceLT, Nat.reduceLeDiff, Nat.reduceAdd, Nat.reduceSub, Nat.reduceMul, reduceCtorEq, Int.reduceToNat, Int.reduceNeg, bitsL_len, bitsL_get, bitsL_no, bitsL_spl, bitsL_set, Nat.mul_one, Bool.not_false, Bool.not_true]) ?_
          exact Exp.is (by simp (disch := omega) only [go_sem, ↓reduceIte, Nat.reduceEqDiff, Nat.reduceLT, Nat.reduceLeDiff, Nat.reduceAdd, Nat.reduceSub, Nat.reduceMul, reduceCtorEq, Int.reduceToNat, Int.reduceNeg, bitsL_len, bitsL_get, bitsL_no, bitsL_spl, bitsL_set, Nat.mul_one, Bool.not_false, Bool.not_true] <;> refine congrArg vb ?_ <;> (rw [rtB, show secsB t (r.fSections ++ r.fOverSections) = true from rg_t l0_1 (by omega), Bool.and_true, Bool.eq_iff_iff]; simp [rtO]; omega)) rfl rfl
      · skip
        refine aw_seq fun K27 hK27 => ?_
        refine aw_reg [2, 3, 5, 48, 49, 50] (by kernel_rfl) ?_
        simp (disch := omega) only [go_sem, ↓reduceIte, Nat.reduceEqDiff, Nat.reduceLT, Nat.reduceLeDiff, Nat.reduceAdd, Nat.reduceSub, Nat.reduceMul, reduceCtorEq, Int.reduceToNat, Int.reduceNeg, bitsL_len, bitsL_get, bitsL_no, bitsL_spl, bitsL_set, Nat.mul_one, Bool.not_false, Bool.not_true]
        repeat refine And.intro obl ?_
        refine hK27 _ ?_; clear hK27
        refine aw_seq fun K28 hK28 => ?_
        refine aw_cond _ (by rfl) (rfl) (fun c6 => ?_) (fun c6 => ?_)
        · try simp only [push_cast] at c6
          refine aw_skip ?_
          refine hK28 _ ?_; clear hK28
          refine aw_seq fun K29 hK29 => ?_
          refine aw_block ?_
          refine aw_seq fun K30 hK30 => ?_
          refine aw_reg [2, 3, 5, 48, 49, 50] (by kernel_rfl) ?_
          simp (disch := omega) only [go_sem, ↓reduceIte, Nat.reduceEqDiff, Nat.reduceLT, Nat.reduceLeDiff, Nat.reduceAdd, Nat.reduceSub, Nat.reduceMul, reduceCtorEq, Int.reduceToNat, Int.reduceNeg, bitsL_len, bitsL_get, bitsL_no, bitsL_spl, bitsL_set, Nat.mul_one, Bool.not_false, Bool.not_true]
          repeat refine And.intro obl ?_
          refine hK30 _ ?_; clear hK30
          refine aw_seq fun K31 hK31 => ?_
          refine aw_seq fun K32 hK32 => ?_
          refine aw_reg [2, 3, 5, 7, 48, 49, 50] (by kernel_rfl) ?_
          simp (disch := omega) only [go_sem, ↓reduceIte, Nat.reduceEqDiff, Nat.reduceLT, Nat.reduceLeDiff, Nat.reduceAdd, Nat.reduceSub, Nat.reduceMul, reduceCtorEq, Int.reduceToNat, Int.reduceNeg, bitsL_len, bitsL_get, bitsL_no, bitsL_spl, bitsL_set, Nat.mul_one, Bool.not_false, Bool.not_true]
          repeat refine And.intro obl ?_
          refine callG_of _ (within_f _ hw) ?_
          simp (disch := omega) only [go_sem, ↓reduceIte, Nat.reduceEqDiff, Nat.reduceLT, Nat.reduceLeDiff, Nat.reduceAdd, Nat.reduceSub, Nat.reduceMul, reduceCtorEq, Int.reduceToNat, Int.reduceNeg, bitsL_len, bitsL_get, bitsL_no, bitsL_spl, bitsL_set, Nat.mul_one, Bool.not_false, Bool.not_true]
          repeat refine And.intro obl ?_
          refine hK32 _ ?_; clear hK32
          refine aw_cond true (by rfl) (rfl) (fun _ => ?_) (fun h => by cases h)
          refine aw_seq fun K33 hK33 => ?_
          refine aw_reg [] (by kernel_rfl) ?_
          simp (disch := omega) only [go_sem, ↓reduceIte, Nat.reduceEqDiff, Nat.reduceLT, Nat.reduceLeDiff, Nat.reduceAdd, Nat.reduceSub, Nat.reduceMul, reduceCtorEq, Int.reduceToNat, Int.reduceNeg, bitsL_len, bitsL_get, bitsL_no, bitsL_spl, bitsL_set, Nat.mul_one, Bool.not_false, Bool.not_true]
          repeat refine And.intro obl ?_
          refine hK33 _ ?_; clear hK33
          refine aw_ret ?_
          refine ret_tmp 4 rfl (by simp (disch := omega) only [go_sem, ↓reduceIte, Nat.reduceEqDiff, Nat.reduceLT, Nat.reduceLeDiff, Nat.reduceAdd, Nat.reduceSub, Nat.reduceMul, reduceCtorEq, Int.reduceToNat, Int.reduceNeg, bitsL_len, bitsL_get, bitsL_no, bitsL_spl, bitsL_set, Nat.mul_one, Bool.not_false, Bool.not_true]) ?_
          exact Exp.is (by simp (disch := omega) only [go_sem, ↓reduceIte, Nat.reduceEqDiff, Nat.reduceLT, Nat.reduceLeDiff, Nat.reduceAdd, Nat.reduceSub, Nat.reduceMul, reduceCtorEq, Int.reduceToNat, Int.reduceNeg, bitsL_len, bitsL_get, bitsL_no, bitsL_spl, bitsL_set, Nat.mul_one, Bool.not_false, Bool.not_true] <;> refine congrArg vb ?_ <;> (exact (rt_ns (rg_f c6 (by rw [secB, decide_eq_false hw]; rfl))).symm)) rfl rfl
        · try simp only [push_cast] at c6
          refine aw_exit ?_
          refine hK8 _ ?_; clear hK8
          refine aw_seq fun K34 hK34 => ?_
          refine aw_reg [2, 3] (by kernel_rfl) ?_
          simp (disch := omega) only [go_sem, ↓reduceIte, Nat.reduceEqDiff, Nat.reduceLT, Nat.reduceLeDiff, Nat.reduceAdd, Nat.reduceSub, Nat.reduceMul, reduceCtorEq, Int.reduceToNat, Int.reduceNeg, bitsL_len, bitsL_get, bitsL_no, bitsL_spl, bitsL_set, Nat.mul_one, Bool.not_false, Bool.not_true]
          repeat refine And.intro obl ?_
          refine callG_of _ (table_within_ok _ r.fApproach t.fSections) ?_
          simp (disch := omega) only [go_sem, ↓reduceIte, Nat.reduceEqDiff, Nat.reduceLT, Nat.reduceLeDiff, Nat.reduceAdd, Nat.reduceSub, Nat.reduceMul, reduceCtorEq, Int.reduceToNat, Int.reduceNeg, bitsL_len, bitsL_get, bitsL_no, bitsL_spl, bitsL_set, Nat.mul_one, Bool.not_false, Bool.not_true]
          repeat refine And.intro obl ?_
          refine hK34 _ ?_; clear hK34
          refine aw_ret ?_
          refine ret_tmp 4 rfl (by simp (disch := omega) only [go_sem, ↓reduceIte, Nat.reduceEqDiff, Nat.reduceLT, Nat.reduceLeDiff, Nat.reduceAdd, Nat.reduceSub, Nat.reduceMul, reduceCtorEq, Int.reduceToNat, Int.reduceNeg, bitsL_len, bitsL_get, bitsL_no, bitsL_spl, bitsL_set, Nat.mul_one, Bool.not_false, Bool.not_true]) ?_
          exact Exp.is (by simp (disch := omega) only [go_sem, ↓reduceIte, Nat.reduceEqDiff, Nat.reduceLT, Nat.reduceLeDiff, Nat.reduceAdd, Nat.reduceSub, Nat.reduceMul, reduceCtorEq, Int.reduceToNat, Int.reduceNeg, bitsL_len, bitsL_get, bitsL_no, bitsL_spl, bitsL_set, Nat.mul_one, Bool.not_false, Bool.not_true] <;> refine congrArg vb ?_ <;> (rw [rtB, show secsB t (r.fSections ++ r.fOverSections) = true from rg_t l0_1 (by omega), Bool.and_true, Bool.eq_iff_iff]; simp [rtO]; omega)) rfl rfl

theorem ref16_right_ok (O : Env) (t : Table) (r : Route) (hb : (r.fSections ++ r.fOverSections).length ≤ 100000) : PCall Tryz.prog O 49 [.agg (eTable t), .agg (eRoute r)] (vb (rtB t r)) := by
  -- signalling/signallingref16.right
  refine pcall_has 1 rfl (.agg (d := encL 3 eStep r.fPath) (by simp [eRoute]) (.sl _ _ _)) fun hq => ?_
  refine pcall_has 1 rfl (.agg (d := encI r.fSections) (by simp [eRoute]) (.sl _ _ _)) fun h5 => ?_
  refine pcall_of_aw Tryz.func49 rfl (by kernel_rfl) ?_
  refine aw_seq fun K0 hK0 => ?_
  refine aw_reg [0, 1] (by kernel_rfl) ?_
  simp (disch := omega) only [go_sem, ↓reduceIte, Nat.reduceEqDiff, Nat.reduceLT, Nat.reduceLeDiff, Nat.reduceAdd, Nat.reduceSub, Nat.reduceMul, reduceCtorEq, Int.reduceToNat, Int.reduceNeg]
  repeat refine And.intro obl ?_
  refine hK0 _ ?_; clear hK0
  refine aw_seq fun K1 hK1 => ?_
  refine aw_seq fun K2 hK2 => ?_
  refine aw_reg [2, 3] (by kernel_rfl) ?_
  simp (disch := omega) only [go_sem, ↓reduceIte, Nat.reduceEqDiff, Nat.reduceLT, Nat.reduceLeDiff, Nat.reduceAdd, Nat.reduceSub, Nat.reduceMul, reduceCtorEq, Int.reduceToNat, Int.reduceNeg]
  repeat refine And.intro obl ?_
  refine hK2 _ ?_; clear hK2
  refine aw_cond _ (by rfl) (rfl) (fun c0 => ?_) (fun c0 => ?_)
  · try simp only [push_cast] at c0
    refine aw_seq fun K3 hK3 => ?_
    refine aw_reg [] (by kernel_rfl) ?_
    simp (disch := omega) only [go_sem, ↓reduceIte, Nat.reduceEqDiff, Nat.reduceLT, Nat.reduceLeDiff, Nat.reduceAdd, Nat.reduceSub, Nat.reduceMul, reduceCtorEq, Int.reduceToNat, Int.reduceNeg]
    repeat refine And.intro obl ?_
    refine hK3 _ ?_; clear hK3
    refine aw_ret ?_
    refine ret_tmp 4 rfl (by simp (disch := omega) only [go_sem, ↓reduceIte, Nat.reduceEqDiff, Nat.reduceLT, Nat.reduceLeDiff, Nat.reduceAdd, Nat.reduceSub, Nat.reduceMul, reduceCtorEq, Int.reduceToNat, Int.reduceNeg]) ?_
    exact Exp.is (by simp (disch := omega) only [go_sem, ↓reduceIte, Nat.reduceEqDiff, Nat.reduceLT, Nat.reduceLeDiff, Nat.reduceAdd, Nat.reduceSub, Nat.reduceMul, reduceCtorEq, Int.reduceToNat, Int.reduceNeg] <;> refine congrArg vb ?_ <;> (exact (rt_no (t := t) (r := r) (decide_eq_false (by omega))).symm)) rfl rfl
  · try simp only [push_cast] at c0
    refine aw_skip ?_
    refine hK1 _ ?_; clear hK1
    refine aw_seq fun K4 hK4 => ?_
    refine aw_reg [2, 3] (by kernel_rfl) ?_
    simp (disch := omega) only [go_sem, ↓reduceIte, Nat.reduceEqDiff, Nat.reduceLT, Nat.reduceLeDiff, Nat.reduceAdd, Nat.reduceSub, Nat.reduceMul, reduceCtorEq, Int.reduceToNat, Int.reduceNeg]
    repeat refine And.intro obl ?_
    refine hK4 _ ?_; clear hK4
    refine aw_seq fun K5 hK5 => ?_
    refine aw_reg [2, 3, 5] (by kernel_rfl) ?_
    simp (disch := omega) only [go_sem, ↓reduceIte, Nat.reduceEqDiff, Nat.reduceLT, Nat.reduceLeDiff, Nat.reduceAdd, Nat.reduceSub, Nat.reduceMul, reduceCtorEq, Int.reduceToNat, Int.reduceNeg]
    repeat refine And.intro obl ?_
    refine hK5 _ ?_; clear hK5
    refine aw_seq fun K6 hK6 => ?_
    refine aw_reg [2, 3, 5] (by kernel_rfl) ?_
    simp (disch := omega) only [go_sem, ↓reduceIte, Nat.reduceEqDiff, Nat.reduceLT, Nat.reduceLeDiff, Nat.reduceAdd, Nat.reduceSub, Nat.reduceMul, reduceCtorEq, Int.reduceToNat, Int.reduceNeg]
    repeat refine And.intro obl ?_
    refine hK6 _ ?_; clear hK6
    refine aw_seq fun K7 hK7 => ?_
    refine aw_frzL (e := eI) 5 (r.fSections ++ r.fOverSections) rfl (by rw [List.map_append]; rfl) ?_
    refine aw_reg [2, 3, 5] (by kernel_rfl) ?_
    simp (disch := omega) only [go_sem, ↓reduceIte, Nat.reduceEqDiff, Nat.reduceLT, Nat.reduceLeDiff, Nat.reduceAdd, Nat.reduceSub, Nat.reduceMul, reduceCtorEq, Int.reduceToNat, Int.reduceNeg]
    repeat refine And.intro obl ?_
    refine callC_to (fun g0 => ref16_sections_ok _ t (r.fSections ++ r.fOverSections)) ?_ ?_ ?_
    · first | exact fun _ => trivial | simp
    · rfl
    simp (disch := omega) only [go_sem, ↓reduceIte, Nat.reduceEqDiff, Nat.reduceLT, Nat.reduceLeDiff, Nat.reduceAdd, Nat.reduceSub, Nat.reduceMul, reduceCtorEq, Int.reduceToNat, Int.reduceNeg]
    repeat refine And.intro obl ?_
    refine hK7 _ ?_; clear hK7
    refine aw_ret ?_
    refine ret_tmp 4 rfl (by simp (disch := omega) only [go_sem, ↓reduceIte, Nat.reduceEqDiff, Nat.reduceLT, Nat.reduceLeDiff, Nat.reduceAdd, Nat.reduceSub, Nat.reduceMul, reduceCtorEq, Int.reduceToNat, Int.reduceNeg]) ?_
    exact Exp.is (by simp (disch := omega) only [go_sem, ↓reduceIte, Nat.reduceEqDiff, Nat.reduceLT, Nat.reduceLeDiff, Nat.reduceAdd, Nat.reduceSub, Nat.reduceMul, reduceCtorEq, Int.reduceToNat, Int.reduceNeg] <;> refine congrArg vb ?_ <;> (rw [rtB, rtO]; cases secsB t (r.fSections ++ r.fOverSections) <;> rw [Bool.eq_iff_iff] <;> simp <;> omega)) rfl rfl

end Go.Sg
