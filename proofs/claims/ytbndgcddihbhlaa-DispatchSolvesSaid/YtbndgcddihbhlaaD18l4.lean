/- known's closure with 4 trips in the order. Printed by genw.py. -/
import Derived.Test.YtbndgcddihbhlaaSgB
import Derived.Test.YtbndgcddihbhlaaD17
set_option linter.unusedVariables false
set_option linter.unusedSimpArgs false
set_option maxRecDepth 400000
namespace Go.Sg
open Go.Proofs
set_option maxHeartbeats 8000000 in
theorem rest_4 (O : Env) (tr : List Trip) (c : Cl) (ho : Ok tr) (rl0 : List Int) (best0 d : Dr) (a : Pl) (h5 : O 400005 = .bx [.own 490000 4]) (h3 : O 400003 = .bx (drL best0)) (h9 : O 490000 = .row 3 1 (rl0.map eI)) (h6 : O 400006 = .bx [.fn 48 [] [.bp 400005 0, .dp [vi (tr.length : Nat)], .dp [prV tr c], .bp 400003 0, .bp 400006 0]]) (hl : rl0.length = tr.length) (hk : 4 ≤ tr.length) (hod : Odr tr (rl0.take 4)) (ha : a = ordA tr (rl0.take 4)) (hr : Rch tr c a d) (hb : Full tr c best0) : ECall Try.prog O 48 [.agg (drL d), .agg (plL a), .bp 400005 0, .dp [vi (tr.length : Nat)], .dp [prV tr c], .bp 400003 0, .bp 400006 0] fun O' r => ∃ rl' best', O' = kO 400000 O rl' 4 best' ∧ rl'.length = tr.length ∧ rl'.take 4 = rl0.take 4 ∧ Full tr c best' ∧ r = .tup [] := by
  have hn := ho.n
  have sw3 : ∀ (ρ : Env) (i : Nat) (v w : DV), i < 100000 → set (set ρ i v) 500003 w = set (set ρ 500003 w) i v := fun ρ i v w h => set_in ρ v w h (by omega)
  have sw5 : ∀ (ρ : Env) (i : Nat) (v w : DV), i < 100000 → set (set ρ i v) 500005 w = set (set ρ 500005 w) i v := fun ρ i v w h => set_in ρ v w h (by omega)
  have sw9 : ∀ (ρ : Env) (i : Nat) (v w : DV), i < 100000 → set (set ρ i v) 590000 w = set (set ρ 590000 w) i v := fun ρ i v w h => set_in ρ v w h (by omega)
  have kOu : ∀ (ρ : Env) (rl : List Int) (kk : Nat) (be : Dr), kO 500000 ρ rl kk be = set (set (set ρ 590000 (.row 3 1 (rl.map eI))) 500005 (.bx [.own 590000 kk])) 500003 (.bx (drL be)) := fun _ _ _ _ => rfl
  obtain ⟨O1, rfl⟩ : ∃ O1, O = kO 400000 O1 rl0 4 best0 := ⟨O, kO_id h5 h3 h9⟩
  have h6' : O1 400006 = .bx [.fn 48 [] [.bp 400005 0, .dp [vi (tr.length : Nat)], .dp [prV tr c], .bp 400003 0, .bp 400006 0]] := by rw [← h6]; exact (kO_6 400000 O1 rl0 4 best0).symm
  have rd5 : ∀ rl kk be, outer (kO 400000 O1 rl kk be) 500005 = .bx [.own 590000 kk] := fun rl kk be => by
    show outer _ (400000 + 5 + 100000) = _; rw [outer_hi, kO_5]; rfl
  have rd3 : ∀ rl kk be, outer (kO 400000 O1 rl kk be) 500003 = .bx (drL be) := fun rl kk be => by
    show outer _ (400000 + 3 + 100000) = _; rw [outer_hi, kO_3]; exact congrArg DV.bx (drL_ren _ _)
  have rd9 : ∀ rl kk be, outer (kO 400000 O1 rl kk be) 590000 = .row 3 1 (rl.map eI) := fun rl kk be => by
    show outer _ (400000 + 90000 + 100000) = _; rw [outer_hi, kO_9]; rfl
  have rd6 : ∀ rl kk be, outer (kO 400000 O1 rl kk be) 500006 = .bx [.fn 48 [] [.bp 500005 0, .dp [vi (tr.length : Nat)], .dp [prV tr c], .bp 500003 0, .bp 500006 0]] := fun rl kk be => by
    show outer _ (400000 + 6 + 100000) = _; rw [outer_hi, kO_6, h6']; rfl
  have wr5 : ∀ rl kk kk' be, set (outer (kO 400000 O1 rl kk be)) 500005 (.bx [.own 590000 kk']) = outer (kO 400000 O1 rl kk' be) := fun rl kk kk' be => by
    rw [← kO_w5 400000 O1 rl kk kk' be, outer_set]; rfl
  have wr3 : ∀ rl kk be be', set (outer (kO 400000 O1 rl kk be)) 500003 (.bx (drL be')) = outer (kO 400000 O1 rl kk be') := fun rl kk be be' => by
    rw [← kO_w3 400000 O1 rl kk be be', outer_set]; exact congrArg (set _ _) (congrArg DV.bx (drL_ren _ _).symm)
  have wr9 : ∀ rl rl' kk be, set (outer (kO 400000 O1 rl kk be)) 590000 (.row 3 1 (rl'.map eI)) = outer (kO 400000 O1 rl' kk be) := fun rl rl' kk be => by
    rw [← kO_w9 400000 O1 rl rl' kk be, outer_set]; rfl
  have h44 : ((4 : Nat) == tr.length) = true := by rw [beq_iff_eq]; omega
  have h45 : ((4 : Int) == (tr.length : Int)) = true := by rw [beq_iff_eq]; omega
  refine ecall_of_aw Try.func48 rfl (by kernel_rfl) ?_
  refine aw_seq fun K0 hK0 => ?_
  refine aw_reg [0, 1, 2, 3, 4, 5, 6] (by kernel_rfl) ?_
  simp (disch := omega) only [go_sem, seval, sw3, sw5, sw9, kOu, rd5, rd3, rd9, rd6, wr5, wr3, wr9, Nat.reduceBNe, set_mapI, upA_at, upA_up, h44, h45]
  repeat refine And.intro obl ?_
  refine hK0 _ ?_; clear hK0
  refine aw_seq fun K1 hK1 => ?_
  refine aw_seq fun K2 hK2 => ?_
  refine aw_reg [2, 3, 4, 5, 6, 7, 8] (by kernel_rfl) ?_
  simp (disch := omega) only [go_sem, seval, sw3, sw5, sw9, kOu, rd5, rd3, rd9, rd6, wr5, wr3, wr9, Nat.reduceBNe, set_mapI, upA_at, upA_up, h44, h45]
  repeat refine And.intro obl ?_
  refine hK2 _ ?_; clear hK2
  refine aw_cond true (by rfl) (rfl) (fun _ => ?_) (fun h => by cases h)
  refine aw_seq fun K3 hK3 => ?_
  refine aw_seq fun K4 hK4 => ?_
  refine aw_reg [4, 5, 7] (by kernel_rfl) ?_
  simp (disch := omega) only [go_sem, seval, sw3, sw5, sw9, kOu, rd5, rd3, rd9, rd6, wr5, wr3, wr9, Nat.reduceBNe, set_mapI, upA_at, upA_up, h44, h45]
  repeat refine And.intro obl ?_
  refine callG_of _ (dispatch_problem_before_ok _ tr c d best0 ho (hr.bd' ho) (hb.bd' ho)) ?_
  simp (disch := omega) only [go_sem, seval, sw3, sw5, sw9, kOu, rd5, rd3, rd9, rd6, wr5, wr3, wr9, Nat.reduceBNe, set_mapI, upA_at, upA_up, h44, h45]
  repeat refine And.intro obl ?_
  refine hK4 _ ?_; clear hK4
  refine aw_cond _ (by rfl) (rfl) (fun c1 => ?_) (fun c1 => ?_)
  · try simp only [push_cast] at c1
    refine aw_reg [5, 7] (by kernel_rfl) ?_
    simp (disch := omega) only [go_sem, seval, sw3, sw5, sw9, kOu, rd5, rd3, rd9, rd6, wr5, wr3, wr9, Nat.reduceBNe, set_mapI, upA_at, upA_up, h44, h45]
    repeat refine And.intro obl ?_
    refine hK3 _ ?_; clear hK3
    refine aw_ret ?_
    try simp only [thenQ_ret, blockQ_ret, blockQ_exit, blockQ_normal, thenQ_exit, ↓reduceIte]
    refine ret_kn (O' := kO 400000 O1 rl0 4 d) (by first | exact .inl rfl | exact .inr rfl) (by rfl) ?_ (fun s => kO_fr 400000 O1 (rl := rl0) (rl' := rl0) 4 4 best0 d (by omega) s) (fun s h => kO_out 400000 O1 (rl := rl0) (rl' := rl0) 4 4 best0 d s h) ?_
    · simp (disch := omega) only [go_sem, seval, sw3, sw5, sw9, kOu, rd5, rd3, rd9, rd6, wr5, wr3, wr9, Nat.reduceBNe, set_mapI, upA_at, upA_up]
    · exact ⟨rl0, d, (kO_kO _ _ _ _ _ _ _ _).symm, hl, rfl, ord_full ho hod (by rw [List.length_take]; omega) (ha ▸ hr), rfl⟩
  · try simp only [push_cast] at c1
    refine aw_skip ?_
    refine hK3 _ ?_; clear hK3
    refine aw_ret ?_
    try simp only [thenQ_ret, blockQ_ret, blockQ_exit, blockQ_normal, thenQ_exit, ↓reduceIte]
    refine ret_kn (O' := kO 400000 O1 rl0 4 best0) (by first | exact .inl rfl | exact .inr rfl) (by rfl) ?_ (fun s => kO_fr 400000 O1 (rl := rl0) (rl' := rl0) 4 4 best0 best0 (by omega) s) (fun s h => kO_out 400000 O1 (rl := rl0) (rl' := rl0) 4 4 best0 best0 s h) ?_
    · simp (disch := omega) only [go_sem, seval, sw3, sw5, sw9, kOu, rd5, rd3, rd9, rd6, wr5, wr3, wr9, Nat.reduceBNe, set_mapI, upA_at, upA_up]
    · exact ⟨rl0, best0, (kO_kO _ _ _ _ _ _ _ _).symm, hl, rfl, hb, rfl⟩
end Go.Sg
