/- Contracts of IndexFunc and DeleteFunc on fronts, and of add. Printed by genw.py. -/
import Derived.Test.YtbndgcddihbhlaaSgB
import Derived.Test.YtbndgcddihbhlaaD12
import Derived.Test.YtbndgcddihbhlaaPA
import Derived.Test.YtbndgcddihbhlaaSgC
set_option linter.unusedVariables false
set_option linter.unusedSimpArgs false
set_option maxRecDepth 8000
namespace Go.Sg
open Go.Proofs
def z0 : Dr := fun _ _ => 0
def gD (l : List Dr) (i : Nat) : Dr := l.getD i z0
theorem row16 {l : List Dr} {i : Nat} (h : i < l.length) : (l.map drL).getD i [] = drL (gD l i) := by
  unfold gD
  rw [List.getD_eq_getElem?_getD, List.getElem?_map, List.getElem?_eq_getElem h, List.getD_eq_getElem?_getD (l := l), List.getElem?_eq_getElem h]; rfl
theorem spl_dr (u v : Dr) : spl 0 (drL v) (drL u) = drL v := by
  rw [spl_eq (by rw [drL_len, drL_len]; omega), List.take_zero, List.nil_append, List.drop_of_length_le (by rw [drL_len, drL_len]; omega), List.append_nil]
theorem set_mapD (l : List Dr) (i : Nat) (v : Dr) : (l.map drL).set i (drL v) = (l.set i v).map drL := by rw [List.map_set]
theorem gD_mem {l : List Dr} {i : Nat} (h : i < l.length) : gD l i ∈ l := by
  unfold gD; rw [List.getD_eq_getElem?_getD, List.getElem?_eq_getElem h]; exact List.getElem_mem h
def ixQ (p : Dr → Bool) (l : List Dr) : Int := if l.any p = true then (l.findIdx p : Int) else -1
theorem ixQ_t {p : Dr → Bool} {l : List Dr} {i : Nat} (hi : i < l.length) (h : rgTo (fun j => !p (gD l j)) i) (h2 : p (gD l i) = true) : ixQ p l = (i : Int) := by
  have hm : l.any p = true := List.any_eq_true.2 ⟨_, gD_mem hi, h2⟩
  unfold ixQ
  rw [if_pos hm]
  congr 1
  have e : ∀ j (hj : j < l.length), gD l j = l[j] := fun j hj => by unfold gD; rw [List.getD_eq_getElem?_getD, List.getElem?_eq_getElem hj]; rfl
  rw [List.findIdx_eq hi]
  refine ⟨by rw [← e i hi]; exact h2, fun j hj => ?_⟩
  have := h j hj
  simp only at this
  rw [e j (by omega)] at this
  simpa using this
theorem ixQ_f {p : Dr → Bool} {l : List Dr} (h : rgTo (fun j => !p (gD l j)) l.length) : ixQ p l = -1 := by
  unfold ixQ
  rw [if_neg]
  intro hm
  obtain ⟨x, hx, hp⟩ := List.any_eq_true.1 hm
  obtain ⟨j, hj, rfl⟩ := List.getElem_of_mem hx
  have := h j hj
  simp only at this
  unfold gD at this
  rw [List.getD_eq_getElem?_getD, List.getElem?_eq_getElem hj] at this
  simp only [Option.getD_some] at this
  rw [hp] at this
  cases this
theorem ixQ_n {p : Dr → Bool} {l : List Dr} (h : ¬ ixQ p l = -1) : ∃ i : Nat, i < l.length ∧ ixQ p l = (i : Int) ∧ p (gD l i) = true ∧ (l.take i).filter (fun e => !p e) = l.take i := by
  have hm : l.any p = true := by
    cases hc : l.any p with
    | true => rfl
    | false => unfold ixQ at h; rw [hc] at h; simp at h
  have hlt : l.findIdx p < l.length := List.findIdx_lt_length.2 (List.any_eq_true.1 hm)
  refine ⟨l.findIdx p, hlt, by unfold ixQ; rw [if_pos hm], ?_, ?_⟩
  · unfold gD; rw [List.getD_eq_getElem?_getD, List.getElem?_eq_getElem hlt]; exact List.findIdx_getElem
  · rw [List.filter_eq_self]
    intro a ha
    obtain ⟨j, hj, rfl⟩ := List.getElem_of_mem ha
    rw [List.length_take] at hj
    rw [List.getElem_take]
    have := List.not_of_lt_findIdx (p := p) (xs := l) (i := j) (by omega)
    simpa using this
theorem ixQ_none {p : Dr → Bool} {l : List Dr} (h : ixQ p l = -1) : l.filter (fun e => !p e) = l := by
  rw [List.filter_eq_self]
  intro a ha
  cases hc : p a with
  | false => rfl
  | true =>
    have hm : l.any p = true := List.any_eq_true.2 ⟨a, ha, hc⟩
    unfold ixQ at h; rw [if_pos hm] at h; omega
theorem takeS {l : List Dr} {j : Nat} (h : j < l.length) : l.take (j + 1) = l.take j ++ [gD l j] := by
  unfold gD
  rw [List.take_add_one, List.getElem?_eq_getElem h, List.getD_eq_getElem?_getD, List.getElem?_eq_getElem h]; rfl
theorem drop_gD {l m : List Dr} {j : Nat} (h : m.drop j = l.drop j) : gD m j = gD l j := by
  have := congrArg (fun x : List Dr => x.getD 0 z0) h
  simp only [List.getD_eq_getElem?_getD, List.getElem?_drop, Nat.add_zero] at this
  unfold gD; rw [List.getD_eq_getElem?_getD, List.getD_eq_getElem?_getD]; exact this
theorem drop_S {l m : List Dr} {j : Nat} (h : m.drop j = l.drop j) : m.drop (j + 1) = l.drop (j + 1) := by
  have := congrArg (List.drop 1) h
  rwa [List.drop_drop, List.drop_drop] at this
theorem flt_s {p : Dr → Bool} {l m : List Dr} {i j : Nat} (hj : j < l.length) (h : m.take i = (l.take j).filter fun e => !p e) (hp : p (gD l j) = true) : m.take i = (l.take (j + 1)).filter fun e => !p e := by
  rw [h, takeS hj, List.filter_append]
  simp [hp]
theorem flt_k {p : Dr → Bool} {l m : List Dr} {i j : Nat} (hj : j < l.length) (hi : i < m.length) (h : m.take i = (l.take j).filter fun e => !p e) (hp : p (gD l j) = false) : (m.set i (gD l j)).take (i + 1) = (l.take (j + 1)).filter fun e => !p e := by
  rw [takeS hj, List.filter_append, ← h, List.take_add_one, List.take_set_of_le (Nat.le_refl i), List.getElem?_set_self hi]
  simp [hp]
theorem tail16 (ys : List Dr) (i n : Nat) : (ys.map drL).take i ++ List.replicate (n - i) ((List.replicate 16 (Value.int .i64 0)).map DV.v) = ((ys.take i) ++ List.replicate (n - i) z0).map drL := by
  rw [List.map_append, List.map_take, List.map_replicate (f := drL)]; rfl
theorem ret_rel {P : Program} {ρ : Env} {fn : Func} {O O' : Env} {r : DV} {R : Env → DV → Prop} {e : Exit} (he : e = .ret ∨ e = .normal) (t : Nat) (hf : fn.results = #[.tmp t]) (h1 : hi ρ = outer O') (h2 : ∀ s, frOk (O s) (O' s)) (h3 : ∀ s, isOut (O s) → isOut (O' s)) (hr : Exp ρ t r) (hR : R O' r) : retQ P fn O R e ρ := by
  have : ∃ O' r, (∀ s, ρ (s + 100000) = sh (O' s)) ∧ (∀ s, frOk (O s) (O' s)) ∧ (∀ s, isOut (O s) → isOut (O' s)) ∧ RetOk P ρ fn.results.toList r ∧ R O' r :=
    ⟨O', r, fun s => out_of_hi h1 s, h2, h3, by rw [hf]; exact hr, hR⟩
  rcases he with rfl | rfl <;> exact this
theorem row_fr (O : Env) (s : Nat) {l m : List Dr} (h : m.length = l.length) (q : Nat) : frOk (set O s (.row 60 16 (l.map drL)) q) (set O s (.row 60 16 (m.map drL)) q) := by
  simp only [set_apply]
  split
  · exact ⟨rfl, rfl, by simp [h]⟩
  · exact frOk.refl _
theorem row_out (O : Env) (s : Nat) (l m : List Dr) (q : Nat) (h : isOut (set O s (.row 60 16 (l.map drL)) q)) : isOut (set O s (.row 60 16 (m.map drL)) q) := by
  simp only [set_apply] at *
  split
  · rfl
  · rename_i e; rw [if_neg e] at h; exact h
theorem mret {P : Program} {fn : Func} {O : Env} {e : TypeId} {z : Nat} {R : List (List DV) → Prop} {ex : Exit} {ρ : Env} (he : ex = .ret ∨ ex = .normal) (t : Nat) (ys : List (List DV)) (h1 : fn.results = #[.tmp t]) (h2 : (decide (t < fn.ntmps)) = true) (h0 : hi ρ = outer O)
    (h : ρ t = .row e z ys ∨ ∃ s n xs, ρ t = .own s n ∧ s < 100000 ∧ ρ s = .row e z xs ∧ n ≤ xs.length ∧ ys = xs.take n) (hR : R ys) : mretQ P fn O e z R ex ρ := by
  have : hi ρ = outer O ∧ ∃ t ys, fn.results.toList = [.tmp t] ∧ t < fn.ntmps ∧ (ρ t = .row e z ys ∨ ∃ s n xs, ρ t = .own s n ∧ s < 100000 ∧ ρ s = .row e z xs ∧ n ≤ xs.length ∧ ys = xs.take n) ∧ R ys :=
    ⟨h0, t, ys, by rw [h1], of_decide_eq_true h2, h, hR⟩
  rcases he with rfl | rfl <;> exact this
theorem rg_any {p : Dr → Bool} {l : List Dr} (h : rgTo (fun j => !p (gD l j)) l.length) : l.any p = false := by
  cases hc : l.any p with
  | false => rfl
  | true =>
    have := ixQ_f h
    unfold ixQ at this; rw [if_pos hc] at this; omega
theorem dispatch_problem_add_1_ok (O : Env) (tr : List Trip) (c : Cl) (d e : Dr) (a : Pl) (ho : Ok tr) (hd : Bd d) (he : Bd e) (ha : Pk tr a) : PCall Try.prog O 55 [.agg (drL e), .dp [prV tr c], .dp (drL d), .dp (plL a)] (vb (cvB tr d e a)) := by
  refine pcall_of_aw Try.func55 rfl (by kernel_rfl) ?_
  refine aw_seq fun K0 hK0 => ?_
  refine aw_reg [0, 1, 2, 3] (by kernel_rfl) ?_
  simp (disch := omega) only [go_sem, seval, row16, spl_dr, set_mapD, List.length_map]
  repeat refine And.intro obl ?_
  refine hK0 _ ?_; clear hK0
  refine aw_seq fun K1 hK1 => ?_
  refine aw_reg [1, 2, 3, 4] (by kernel_rfl) ?_
  simp (disch := omega) only [go_sem, seval, row16, spl_dr, set_mapD, List.length_map]
  repeat refine And.intro obl ?_
  refine callG_of _ (dispatch_problem_covers_ok _ tr c d e a ho hd he ha) ?_
  simp (disch := omega) only [go_sem, seval, row16, spl_dr, set_mapD, List.length_map]
  repeat refine And.intro obl ?_
  refine hK1 _ ?_; clear hK1
  refine aw_ret ?_
  refine ret_tmp 5 rfl (by simp (disch := omega) only [go_sem, seval, row16, spl_dr, set_mapD, List.length_map]) ?_
  exact Exp.is (by simp (disch := omega) only [go_sem, seval, row16, spl_dr, set_mapD, List.length_map] <;> refine congrArg vb ?_ <;> (rfl)) rfl rfl
theorem slices_IndexFunc_draft_ok (O : Env) (tr : List Trip) (c : Cl) (d : Dr) (a : Pl) (ho : Ok tr) (hd : Bd d) (ha : Pk tr a) (l : List Dr) (hB : ∀ e ∈ l, Bd e) (hlen : l.length ≤ 1000000000000) (s : Nat) (hO : O s = .row 60 16 (l.map drL)) : PCall Try.prog O 69 [.own s l.length, .fn 55 [] [.dp [prV tr c], .dp (drL d), .dp (plL a)]] (vi (ixQ (fun e => cvB tr d e a) l)) := by
  have hx : outer O (s + 100000) = .row 60 16 (l.map drL) := by rw [outer_hi, hO]; rfl
  refine pcall_of_aw Try.func69 rfl (by kernel_rfl) ?_
  refine aw_seq fun K0 hK0 => ?_
  refine aw_reg [0, 1] (by kernel_rfl) ?_
  simp (disch := omega) only [go_sem, seval, row16, spl_dr, set_mapD, List.length_map, hx]
  repeat refine And.intro obl ?_
  refine hK0 _ ?_; clear hK0
  refine aw_seq fun K1 hK1 => ?_
  refine aw_seq fun K2 hK2 => ?_
  refine aw_reg [0, 1] (by kernel_rfl) ?_
  simp (disch := omega) only [go_sem, seval, row16, spl_dr, set_mapD, List.length_map, hx]
  repeat refine And.intro obl ?_
  refine hK2 _ ?_; clear hK2
  refine aw_block ?_
  refine aw_loopK [0, 1, 7, 8] (fun n ρ => ∃ i, n = l.length - i ∧ (i ≤ l.length) ∧ (rgTo (fun j => !(fun e => cvB tr d e a) (gD l j)) i) ∧ ρ = mkE O [(0, .own (s + 100000) l.length), (1, .fn 55 [] [.dp [prV tr c], .dp (drL d), .dp (plL a)]), (7, vi (l.length : Nat)), (8, vi (i : Nat))]) _ ⟨0, rfl, ?_, ?_, ?_⟩ ?_
  · exact dfl
  · exact rgTo_0 _
  · simp (disch := omega) only [go_sem, seval, row16, spl_dr, set_mapD, List.length_map, hx] <;> first | rfl | omega | simp | simp_all
  rintro n ρ ⟨i, rfl, l0_0, l0_1, rfl⟩ K3 hK3
  refine aw_seq fun K4 hK4 => ?_
  refine aw_reg [0, 1, 7, 8] (by kernel_rfl) ?_
  simp (disch := omega) only [go_sem, seval, row16, spl_dr, set_mapD, List.length_map, hx]
  repeat refine And.intro obl ?_
  refine hK4 _ ?_; clear hK4
  refine aw_seq fun K5 hK5 => ?_
  refine aw_cond _ (by rfl) (rfl) (fun c0 => ?_) (fun c0 => ?_)
  · try simp only [push_cast] at c0
    refine aw_skip ?_
    refine hK5 _ ?_; clear hK5
    refine aw_seq fun K6 hK6 => ?_
    refine aw_block ?_
    refine aw_seq fun K7 hK7 => ?_
    refine aw_reg [0, 1, 7, 8] (by kernel_rfl) ?_
    simp (disch := omega) only [go_sem, seval, row16, spl_dr, set_mapD, List.length_map, hx]
    repeat refine And.intro obl ?_
    refine hK7 _ ?_; clear hK7
    refine aw_seq fun K8 hK8 => ?_
    refine aw_reg [0, 1, 5, 7, 8] (by kernel_rfl) ?_
    simp (disch := omega) only [go_sem, seval, row16, spl_dr, set_mapD, List.length_map, hx]
    repeat refine And.intro obl ?_
    refine callG_of _ (dispatch_problem_add_1_ok _ tr c d (gD l i) a ho hd (hB _ (gD_mem c0)) ha) ?_
    simp (disch := omega) only [go_sem, seval, row16, spl_dr, set_mapD, List.length_map, hx]
    repeat refine And.intro obl ?_
    refine hK8 _ ?_; clear hK8
    refine aw_cond _ (by rfl) (rfl) (fun c1 => ?_) (fun c1 => ?_)
    · try simp only [push_cast] at c1
      refine aw_seq fun K9 hK9 => ?_
      refine aw_reg [5] (by kernel_rfl) ?_
      simp (disch := omega) only [go_sem, seval, row16, spl_dr, set_mapD, List.length_map, hx]
      repeat refine And.intro obl ?_
      refine hK9 _ ?_; clear hK9
      refine aw_ret ?_
      refine ret_tmp 4 rfl (by simp (disch := omega) only [go_sem, seval, row16, spl_dr, set_mapD, List.length_map, hx]) ?_
      exact Exp.is (by simp (disch := omega) only [go_sem, seval, row16, spl_dr, set_mapD, List.length_map, hx] <;> (rw [ixQ_t c0 l0_1 c1])) rfl rfl
    · try simp only [push_cast] at c1
      refine aw_skip ?_
      refine hK6 _ ?_; clear hK6
      refine aw_reg [0, 1, 7, 8] (by kernel_rfl) ?_
      simp (disch := omega) only [go_sem, seval, row16, spl_dr, set_mapD, List.length_map, hx]
      repeat refine And.intro obl ?_
      refine hK3 _ _ ?_ ⟨i + 1, rfl, ?_, ?_, ?_⟩
      · exact dfl
      · exact dfl
      · exact rgTo_s l0_1 (by simp [c1])
      · simp (disch := omega) only [go_sem, seval, row16, spl_dr, set_mapD, List.length_map, hx] <;> first | rfl | omega | simp | simp_all
  · try simp only [push_cast] at c0
    refine aw_exit ?_
    refine hK1 _ ?_; clear hK1
    refine aw_seq fun K10 hK10 => ?_
    refine aw_reg [] (by kernel_rfl) ?_
    simp (disch := omega) only [go_sem, seval, row16, spl_dr, set_mapD, List.length_map, hx]
    repeat refine And.intro obl ?_
    refine hK10 _ ?_; clear hK10
    refine aw_ret ?_
    refine ret_tmp 4 rfl (by simp (disch := omega) only [go_sem, seval, row16, spl_dr, set_mapD, List.length_map, hx]) ?_
    exact Exp.is (by simp (disch := omega) only [go_sem, seval, row16, spl_dr, set_mapD, List.length_map, hx] <;> (rw [ixQ_f (by rw [show l.length = i by omega]; exact l0_1)])) rfl rfl
end Go.Sg
