/- known's closure with 3 trips in the order. Printed by genw.py. -/
import Derived.Test.YtbndgcddihbhlaaSgB
import Derived.Test.YtbndgcddihbhlaaD18l4
set_option linter.unusedVariables false
set_option linter.unusedSimpArgs false
set_option maxRecDepth 400000
namespace Go.Sg
open Go.Proofs
set_option maxRecDepth 20000 in
set_option maxHeartbeats 8000000 in
theorem rest_3 (O : Env) (tr : List Trip) (c : Cl) (ho : Ok tr) (rl0 : List Int) (best0 d : Dr) (a : Pl) (h5 : O 300005 = .bx [.own 390000 3]) (h3 : O 300003 = .bx (drL best0)) (h9 : O 390000 = .row 3 1 (rl0.map eI)) (h6 : O 300006 = .bx [.fn 48 [] [.bp 300005 0, .dp [vi (tr.length : Nat)], .dp [prV tr c], .bp 300003 0, .bp 300006 0]]) (hl : rl0.length = tr.length) (hk : 3 ≤ tr.length) (hod : Odr tr (rl0.take 3)) (ha : a = ordA tr (rl0.take 3)) (hr : Rch tr c a d) (hb : Full tr c best0) : ECall Try.prog O 48 [.agg (drL d), .agg (plL a), .bp 300005 0, .dp [vi (tr.length : Nat)], .dp [prV tr c], .bp 300003 0, .bp 300006 0] fun O' r => ∃ rl' best', O' = kO 300000 O rl' 3 best' ∧ rl'.length = tr.length ∧ rl'.take 3 = rl0.take 3 ∧ Full tr c best' ∧ r = .tup [] := by
  have hn := ho.n
  have sw3 : ∀ (ρ : Env) (i : Nat) (v w : DV), i < 100000 → set (set ρ i v) 400003 w = set (set ρ 400003 w) i v := fun ρ i v w h => set_in ρ v w h (by omega)
  have sw5 : ∀ (ρ : Env) (i : Nat) (v w : DV), i < 100000 → set (set ρ i v) 400005 w = set (set ρ 400005 w) i v := fun ρ i v w h => set_in ρ v w h (by omega)
  have sw9 : ∀ (ρ : Env) (i : Nat) (v w : DV), i < 100000 → set (set ρ i v) 490000 w = set (set ρ 490000 w) i v := fun ρ i v w h => set_in ρ v w h (by omega)
  have kOu : ∀ (ρ : Env) (rl : List Int) (kk : Nat) (be : Dr), kO 400000 ρ rl kk be = set (set (set ρ 490000 (.row 3 1 (rl.map eI))) 400005 (.bx [.own 490000 kk])) 400003 (.bx (drL be)) := fun _ _ _ _ => rfl
  obtain ⟨O1, rfl⟩ : ∃ O1, O = kO 300000 O1 rl0 3 best0 := ⟨O, kO_id h5 h3 h9⟩
  have h6' : O1 300006 = .bx [.fn 48 [] [.bp 300005 0, .dp [vi (tr.length : Nat)], .dp [prV tr c], .bp 300003 0, .bp 300006 0]] := by rw [← h6]; exact (kO_6 300000 O1 rl0 3 best0).symm
  have rd5 : ∀ rl kk be, outer (kO 300000 O1 rl kk be) 400005 = .bx [.own 490000 kk] := fun rl kk be => by
    show outer _ (300000 + 5 + 100000) = _; rw [outer_hi, kO_5]; rfl
  have rd3 : ∀ rl kk be, outer (kO 300000 O1 rl kk be) 400003 = .bx (drL be) := fun rl kk be => by
    show outer _ (300000 + 3 + 100000) = _; rw [outer_hi, kO_3]; exact congrArg DV.bx (drL_ren _ _)
  have rd9 : ∀ rl kk be, outer (kO 300000 O1 rl kk be) 490000 = .row 3 1 (rl.map eI) := fun rl kk be => by
    show outer _ (300000 + 90000 + 100000) = _; rw [outer_hi, kO_9]; rfl
  have rd6 : ∀ rl kk be, outer (kO 300000 O1 rl kk be) 400006 = .bx [.fn 48 [] [.bp 400005 0, .dp [vi (tr.length : Nat)], .dp [prV tr c], .bp 400003 0, .bp 400006 0]] := fun rl kk be => by
    show outer _ (300000 + 6 + 100000) = _; rw [outer_hi, kO_6, h6']; rfl
  have wr5 : ∀ rl kk kk' be, set (outer (kO 300000 O1 rl kk be)) 400005 (.bx [.own 490000 kk']) = outer (kO 300000 O1 rl kk' be) := fun rl kk kk' be => by
    rw [← kO_w5 300000 O1 rl kk kk' be, outer_set]; rfl
  have wr3 : ∀ rl kk be be', set (outer (kO 300000 O1 rl kk be)) 400003 (.bx (drL be')) = outer (kO 300000 O1 rl kk be') := fun rl kk be be' => by
    rw [← kO_w3 300000 O1 rl kk be be', outer_set]; exact congrArg (set _ _) (congrArg DV.bx (drL_ren _ _).symm)
  have wr9 : ∀ rl rl' kk be, set (outer (kO 300000 O1 rl kk be)) 490000 (.row 3 1 (rl'.map eI)) = outer (kO 300000 O1 rl' kk be) := fun rl rl' kk be => by
    rw [← kO_w9 300000 O1 rl rl' kk be, outer_set]; rfl
  refine ecall_of_aw Try.func48 rfl (by kernel_rfl) ?_
  refine aw_seq fun K0 hK0 => ?_
  refine aw_reg [0, 1, 2, 3, 4, 5, 6] (by kernel_rfl) ?_
  simp (disch := omega) only [go_sem, seval, sw3, sw5, sw9, kOu, rd5, rd3, rd9, rd6, wr5, wr3, wr9, Nat.reduceBNe, set_mapI, upA_at, upA_up]
  repeat refine And.intro obl ?_
  refine hK0 _ ?_; clear hK0
  refine aw_seq fun K1 hK1 => ?_
  refine aw_seq fun K2 hK2 => ?_
  refine aw_reg [2, 3, 4, 5, 6, 7, 8] (by kernel_rfl) ?_
  simp (disch := omega) only [go_sem, seval, sw3, sw5, sw9, kOu, rd5, rd3, rd9, rd6, wr5, wr3, wr9, Nat.reduceBNe, set_mapI, upA_at, upA_up]
  repeat refine And.intro obl ?_
  refine hK2 _ ?_; clear hK2
  refine aw_cond _ (by rfl) (rfl) (fun c0 => ?_) (fun c0 => ?_)
  · try simp only [push_cast] at c0
    refine aw_seq fun K3 hK3 => ?_
    refine aw_seq fun K4 hK4 => ?_
    refine aw_reg [4, 5, 7] (by kernel_rfl) ?_
    simp (disch := omega) only [go_sem, seval, sw3, sw5, sw9, kOu, rd5, rd3, rd9, rd6, wr5, wr3, wr9, Nat.reduceBNe, set_mapI, upA_at, upA_up]
    repeat refine And.intro obl ?_
    refine callG_of _ (dispatch_problem_before_ok _ tr c d best0 ho (hr.bd' ho) (hb.bd' ho)) ?_
    simp (disch := omega) only [go_sem, seval, sw3, sw5, sw9, kOu, rd5, rd3, rd9, rd6, wr5, wr3, wr9, Nat.reduceBNe, set_mapI, upA_at, upA_up]
    repeat refine And.intro obl ?_
    refine hK4 _ ?_; clear hK4
    refine aw_cond _ (by rfl) (rfl) (fun c1 => ?_) (fun c1 => ?_)
    · try simp only [push_cast] at c1
      refine aw_reg [5, 7] (by kernel_rfl) ?_
      simp (disch := omega) only [go_sem, seval, sw3, sw5, sw9, kOu, rd5, rd3, rd9, rd6, wr5, wr3, wr9, Nat.reduceBNe, set_mapI, upA_at, upA_up]
      repeat refine And.intro obl ?_
      refine hK3 _ ?_; clear hK3
      refine aw_ret ?_
      try simp only [thenQ_ret, blockQ_ret, blockQ_exit, blockQ_normal, thenQ_exit, ↓reduceIte]
      refine ret_kn (O' := kO 300000 O1 rl0 3 d) (by first | exact .inl rfl | exact .inr rfl) (by rfl) ?_ (fun s => kO_fr 300000 O1 (rl := rl0) (rl' := rl0) 3 3 best0 d (by omega) s) (fun s h => kO_out 300000 O1 (rl := rl0) (rl' := rl0) 3 3 best0 d s h) ?_
      · simp (disch := omega) only [go_sem, seval, sw3, sw5, sw9, kOu, rd5, rd3, rd9, rd6, wr5, wr3, wr9, Nat.reduceBNe, set_mapI, upA_at, upA_up]
      · exact ⟨rl0, d, (kO_kO _ _ _ _ _ _ _ _).symm, hl, rfl, ord_full ho hod (by rw [List.length_take]; omega) (ha ▸ hr), rfl⟩
    · try simp only [push_cast] at c1
      refine aw_skip ?_
      refine hK3 _ ?_; clear hK3
      refine aw_ret ?_
      try simp only [thenQ_ret, blockQ_ret, blockQ_exit, blockQ_normal, thenQ_exit, ↓reduceIte]
      refine ret_kn (O' := kO 300000 O1 rl0 3 best0) (by first | exact .inl rfl | exact .inr rfl) (by rfl) ?_ (fun s => kO_fr 300000 O1 (rl := rl0) (rl' := rl0) 3 3 best0 best0 (by omega) s) (fun s h => kO_out 300000 O1 (rl := rl0) (rl' := rl0) 3 3 best0 best0 s h) ?_
      · simp (disch := omega) only [go_sem, seval, sw3, sw5, sw9, kOu, rd5, rd3, rd9, rd6, wr5, wr3, wr9, Nat.reduceBNe, set_mapI, upA_at, upA_up]
      · exact ⟨rl0, best0, (kO_kO _ _ _ _ _ _ _ _).symm, hl, rfl, hb, rfl⟩
  · try simp only [push_cast] at c0
    refine aw_skip ?_
    refine hK1 _ ?_; clear hK1
    refine aw_seq fun K5 hK5 => ?_
    refine aw_reg [2, 3, 4, 6, 7, 8] (by kernel_rfl) ?_
    simp (disch := omega) only [go_sem, seval, sw3, sw5, sw9, kOu, rd5, rd3, rd9, rd6, wr5, wr3, wr9, Nat.reduceBNe, set_mapI, upA_at, upA_up]
    repeat refine And.intro obl ?_
    refine hK5 _ ?_; clear hK5
    refine aw_block ?_
    refine aw_loopK [2, 4, 6, 7, 8, 21, 22] (fun n ρ => ∃ i, ∃ rl, ∃ best, n = tr.length - i ∧ (i ≤ tr.length) ∧ (rl.length = tr.length) ∧ (rl.take 3 = rl0.take 3) ∧ (Full tr c best) ∧ ρ = mkE (kO 300000 O1 rl 3 best) [(2, .bp 400005 0), (4, .dp [prV tr c]), (6, .bp 400006 0), (7, .bx (drL d)), (8, .bx (plL a)), (21, vi (tr.length : Nat)), (22, vi (i : Nat))]) _ ⟨0, rl0, best0, rfl, ?_, ?_, ?_, ?_, ?_⟩ ?_
    · exact dfl
    · exact dfl
    · exact dfl
    · exact dfl
    · simp (disch := omega) only [go_sem, seval, sw3, sw5, sw9, kOu, rd5, rd3, rd9, rd6, wr5, wr3, wr9, Nat.reduceBNe, set_mapI, upA_at, upA_up] <;> first | rfl | omega | simp | simp_all
    rintro n ρ ⟨i, rl, best, rfl, l0_0, l0_1, l0_2, l0_3, rfl⟩ K6 hK6
    refine aw_seq fun K7 hK7 => ?_
    refine aw_reg [2, 4, 6, 7, 8, 21, 22] (by kernel_rfl) ?_
    simp (disch := omega) only [go_sem, seval, sw3, sw5, sw9, kOu, rd5, rd3, rd9, rd6, wr5, wr3, wr9, Nat.reduceBNe, set_mapI, upA_at, upA_up]
    repeat refine And.intro obl ?_
    refine hK7 _ ?_; clear hK7
    refine aw_seq fun K8 hK8 => ?_
    refine aw_cond _ (by rfl) (rfl) (fun c2 => ?_) (fun c2 => ?_)
    · try simp only [push_cast] at c2
      refine aw_skip ?_
      refine hK8 _ ?_; clear hK8
      refine aw_seq fun K9 hK9 => ?_
      refine aw_block ?_
      refine aw_seq fun K10 hK10 => ?_
      refine aw_reg [2, 4, 6, 7, 8, 21, 22] (by kernel_rfl) ?_
      simp (disch := omega) only [go_sem, seval, sw3, sw5, sw9, kOu, rd5, rd3, rd9, rd6, wr5, wr3, wr9, Nat.reduceBNe, set_mapI, upA_at, upA_up]
      repeat refine And.intro obl ?_
      refine hK10 _ ?_; clear hK10
      refine aw_seq fun K11 hK11 => ?_
      refine aw_seq fun K12 hK12 => ?_
      refine aw_reg [2, 4, 6, 7, 8, 9, 21, 22] (by kernel_rfl) ?_
      simp (disch := omega) only [go_sem, seval, sw3, sw5, sw9, kOu, rd5, rd3, rd9, rd6, wr5, wr3, wr9, Nat.reduceBNe, set_mapI, upA_at, upA_up]
      repeat refine And.intro obl ?_
      refine callG_of _ (slices_Contains_own _ rl 3 490000 (i : Nat) (by simp (disch := omega) only [go_sem, seval, sw3, sw5, sw9, kOu, rd5, rd3, rd9, rd6, wr5, wr3, wr9, Nat.reduceBNe, set_mapI, upA_at, upA_up]) (by omega) (by omega)) ?_
      simp (disch := omega) only [go_sem, seval, sw3, sw5, sw9, kOu, rd5, rd3, rd9, rd6, wr5, wr3, wr9, Nat.reduceBNe, set_mapI, upA_at, upA_up]
      repeat refine And.intro obl ?_
      refine hK12 _ ?_; clear hK12
      refine aw_cond _ (by rfl) (rfl) (fun c3 => ?_) (fun c3 => ?_)
      · try simp only [push_cast] at c3
        refine aw_exit ?_
        refine hK9 _ ?_; clear hK9
        refine aw_reg [2, 4, 6, 7, 8, 21, 22] (by kernel_rfl) ?_
        simp (disch := omega) only [go_sem, seval, sw3, sw5, sw9, kOu, rd5, rd3, rd9, rd6, wr5, wr3, wr9, Nat.reduceBNe, set_mapI, upA_at, upA_up]
        repeat refine And.intro obl ?_
        refine hK6 _ _ ?_ ⟨i + 1, rl, best, rfl, ?_, ?_, ?_, ?_, ?_⟩
        · exact dfl
        · exact dfl
        · exact dfl
        · exact dfl
        · exact dfl
        · simp (disch := omega) only [go_sem, seval, sw3, sw5, sw9, kOu, rd5, rd3, rd9, rd6, wr5, wr3, wr9, Nat.reduceBNe, set_mapI, upA_at, upA_up] <;> first | rfl | omega | simp | simp_all
      · try simp only [push_cast] at c3
        refine aw_skip ?_
        refine hK11 _ ?_; clear hK11
        refine aw_seq fun K13 hK13 => ?_
        have hc3 : (rl0.take 3).contains (i : Int) = false := by rw [← l0_2]; simpa using c3
        have hai0 : a i = 0 := by rw [ha]; exact ord_not hc3
        have hli := ho.l i (by omega)
        refine aw_regV [2, 4, 6, 7, 8, 9, 21, 22] [10, 11] [2, 4, 6, 7, 8, 9, 21, 22, 28, 29] [0, 1] [2, 3] [4, 5] [(10, 60, 28), (11, 62, 29)] mixed (by kernel_rfl) (by rfl) (by rfl) (by simp only [ptA, List.filterMap_cons, List.filterMap_nil, List.getElem?_cons_succ, List.getElem?_cons_zero]; rfl) ?_
        simp (disch := omega) only [go_sem, seval, sw3, sw5, sw9, kOu, rd5, rd3, rd9, rd6, wr5, wr3, wr9, Nat.reduceBNe, set_mapI, upA_at, upA_up]
        repeat refine And.intro obl ?_
        refine And.intro (by rfl) ?_
        try simp (disch := omega) only [go_sem, seval, sw3, sw5, sw9, kOu, rd5, rd3, rd9, rd6, wr5, wr3, wr9, Nat.reduceBNe, set_mapI, upA_at, upA_up]
        repeat refine And.intro obl ?_
        refine hK13 _ ?_; clear hK13
        refine aw_seq fun K14 hK14 => ?_
        refine aw_block ?_
        refine aw_loopK [2, 4, 6, 7, 8, 21, 22, 9, 10, 11] (fun n ρ => ∃ m, ∃ e, n = (tr.getD i default).fStops.length - m ∧ (m ≤ (tr.getD i default).fStops.length) ∧ (Rch tr c (upA a i m) e) ∧ ρ = mkE (kO 300000 O1 rl 3 best) [(2, .bp 400005 0), (4, .dp [prV tr c]), (6, .bp 400006 0), (7, .bx (drL d)), (8, .bx (plL a)), (21, vi (tr.length : Nat)), (22, vi (i : Nat)), (9, vi (i : Nat)), (10, .bx (drL e)), (11, .bx (plL (upA a i m)))]) _ ⟨0, d, rfl, ?_, ?_, ?_⟩ ?_
        · exact dfl
        · rw [upA_id hai0]; exact hr
        · simp (disch := omega) only [go_sem, seval, sw3, sw5, sw9, kOu, rd5, rd3, rd9, rd6, wr5, wr3, wr9, Nat.reduceBNe, set_mapI, upA_at, upA_up] <;> rw [upA_id hai0]
        rintro n ρ ⟨m, e, rfl, l1_0, l1_1, rfl⟩ K15 hK15
        refine aw_seq fun K16 hK16 => ?_
        refine aw_seq fun K17 hK17 => ?_
        refine aw_regDc [2, 4, 6, 7, 8, 9, 10, 11, 21, 22] [] mixed (by kernel_rfl) ?_
        simp (disch := omega) only [go_sem, seval, sw3, sw5, sw9, kOu, rd5, rd3, rd9, rd6, wr5, wr3, wr9, Nat.reduceBNe, set_mapI, upA_at, upA_up]
        repeat refine And.intro obl ?_
        refine hK17 _ ?_; clear hK17
        refine aw_cond _ (by rfl) (rfl) (fun c4 => ?_) (fun c4 => ?_)
        · try simp only [push_cast] at c4
          refine aw_skip ?_
          refine hK16 _ ?_; clear hK16
          refine aw_block ?_
          refine aw_seq fun K18 hK18 => ?_
          refine aw_reg [2, 4, 6, 7, 8, 9, 10, 11, 21, 22] (by kernel_rfl) ?_
          simp (disch := omega) only [go_sem, seval, sw3, sw5, sw9, kOu, rd5, rd3, rd9, rd6, wr5, wr3, wr9, Nat.reduceBNe, set_mapI, upA_at, upA_up]
          repeat refine And.intro obl ?_
          refine callG_of _ (dispatch_problem_place_ok _ tr c e (upA a i m) i ho (l1_1.bd ho) (by omega) (by rw [upA_at]; omega) (l1_1.pk ho).1) ?_
          simp (disch := omega) only [go_sem, seval, sw3, sw5, sw9, kOu, rd5, rd3, rd9, rd6, wr5, wr3, wr9, Nat.reduceBNe, set_mapI, upA_at, upA_up]
          repeat refine And.intro obl ?_
          refine hK18 _ ?_; clear hK18
          refine aw_reg [2, 4, 6, 7, 8, 9, 10, 11, 21, 22] (by kernel_rfl) ?_
          simp (disch := omega) only [go_sem, seval, sw3, sw5, sw9, kOu, rd5, rd3, rd9, rd6, wr5, wr3, wr9, Nat.reduceBNe, set_mapI, upA_at, upA_up]
          repeat refine And.intro obl ?_
          refine hK15 _ _ ?_ ⟨m + 1, plD tr c e (upA a i m) i, rfl, ?_, ?_, ?_⟩
          · exact dfl
          · exact dfl
          · (have hs := l1_1.s (i := i) (by omega) (by rw [upA_at]; omega); rw [upA_at, upA_up] at hs; exact hs)
          · simp (disch := omega) only [go_sem, seval, sw3, sw5, sw9, kOu, rd5, rd3, rd9, rd6, wr5, wr3, wr9, Nat.reduceBNe, set_mapI, upA_at, upA_up] <;> first | rfl | omega | simp | simp_all
        · try simp only [push_cast] at c4
          refine aw_exit ?_
          refine hK14 _ ?_; clear hK14
          refine aw_seq fun K19 hK19 => ?_
          obtain rfl : m = (tr.getD i default).fStops.length := by omega
          have htk : (rl.set 3 (i : Int)).take (3 + 1) = rl0.take 3 ++ [(i : Int)] := by rw [take_set (by omega), l0_2]
          have hod2 : Odr tr ((rl.set 3 (i : Int)).take (3 + 1)) := by rw [htk]; exact hod.add (by omega) hc3
          have ha2 : upA a i (tr.getD i default).fStops.length = ordA tr ((rl.set 3 (i : Int)).take (3 + 1)) := by rw [htk, ha]; exact ord_add (by omega)
          refine aw_weaken (Le.keepC [2, 4, 6, 7, 8, 9, 10, 11, 21, 22] _) ?_
          refine aw_region ?_
          refine effG_ok rfl (by kernel_rfl) (by kernel_rfl) ?_
          simp (disch := omega) only [go_sem, seval, sw3, sw5, sw9, kOu, rd5, rd3, rd9, rd6, wr5, wr3, wr9, Nat.reduceBNe, set_mapI, upA_at, upA_up]
          repeat refine And.intro obl ?_
          refine effG_ok rfl (by kernel_rfl) (by kernel_rfl) ?_
          simp (disch := omega) only [go_sem, seval, sw3, sw5, sw9, kOu, rd5, rd3, rd9, rd6, wr5, wr3, wr9, Nat.reduceBNe, set_mapI, upA_at, upA_up]
          repeat refine And.intro obl ?_
          refine effG_ok rfl (by kernel_rfl) (by kernel_rfl) ?_
          simp (disch := omega) only [go_sem, seval, sw3, sw5, sw9, kOu, rd5, rd3, rd9, rd6, wr5, wr3, wr9, Nat.reduceBNe, set_mapI, upA_at, upA_up]
          repeat refine And.intro obl ?_
          refine ow_appG1 (s := 490000) (n := 3) (e := 3) (by_ := 8) (xs := rl.map eI) (q := [vi (i : Nat)]) rfl rfl rfl (by decide) (by kernel_rfl) (by simp (disch := omega) only [go_sem, seval, sw3, sw5, sw9, kOu, rd5, rd3, rd9, rd6, wr5, wr3, wr9, Nat.reduceBNe, set_mapI, upA_at, upA_up]) (by simp (disch := omega) only [go_sem, seval, sw3, sw5, sw9, kOu, rd5, rd3, rd9, rd6, wr5, wr3, wr9, Nat.reduceBNe, set_mapI, upA_at, upA_up]) (by rw [List.length_map]; omega) (by simp (disch := omega) only [go_sem, seval, sw3, sw5, sw9, kOu, rd5, rd3, rd9, rd6, wr5, wr3, wr9, Nat.reduceBNe, set_mapI, upA_at, upA_up]) (by kernel_rfl) (by simp (disch := omega) only [go_sem, seval, sw3, sw5, sw9, kOu, rd5, rd3, rd9, rd6, wr5, wr3, wr9, Nat.reduceBNe, set_mapI, upA_at, upA_up]) (by simp (disch := omega) only [go_sem, seval, sw3, sw5, sw9, kOu, rd5, rd3, rd9, rd6, wr5, wr3, wr9, Nat.reduceBNe, set_mapI, upA_at, upA_up]) ?_
          simp (disch := omega) only [go_sem, seval, sw3, sw5, sw9, kOu, rd5, rd3, rd9, rd6, wr5, wr3, wr9, Nat.reduceBNe, set_mapI, upA_at, upA_up]
          repeat refine And.intro obl ?_
          refine effG_ok rfl (by kernel_rfl) (by kernel_rfl) ?_
          simp (disch := omega) only [go_sem, seval, sw3, sw5, sw9, kOu, rd5, rd3, rd9, rd6, wr5, wr3, wr9, Nat.reduceBNe, set_mapI, upA_at, upA_up]
          repeat refine And.intro obl ?_
          repeat refine And.intro obl ?_
          refine hK19 _ ?_; clear hK19
          refine aw_seq fun K20 hK20 => ?_
          refine aw_reg [2, 4, 6, 7, 8, 10, 11, 21, 22] (by kernel_rfl) ?_
          simp (disch := omega) only [go_sem, seval, sw3, sw5, sw9, kOu, rd5, rd3, rd9, rd6, wr5, wr3, wr9, Nat.reduceBNe, set_mapI, upA_at, upA_up]
          repeat refine And.intro obl ?_
          refine callG_exR (rest_4 _ tr c ho (rl.set 3 (i : Nat)) best e (upA a i (tr.getD i default).fStops.length) (by simp (disch := omega) only [go_sem, seval, sw3, sw5, sw9, kOu, rd5, rd3, rd9, rd6, wr5, wr3, wr9, Nat.reduceBNe, set_mapI, upA_at, upA_up]) (by simp (disch := omega) only [go_sem, seval, sw3, sw5, sw9, kOu, rd5, rd3, rd9, rd6, wr5, wr3, wr9, Nat.reduceBNe, set_mapI, upA_at, upA_up]) (by simp (disch := omega) only [go_sem, seval, sw3, sw5, sw9, kOu, rd5, rd3, rd9, rd6, wr5, wr3, wr9, Nat.reduceBNe, set_mapI, upA_at, upA_up]) (by simp (disch := omega) only [go_sem, seval, sw3, sw5, sw9, kOu, rd5, rd3, rd9, rd6, wr5, wr3, wr9, Nat.reduceBNe, set_mapI, upA_at, upA_up]) (by simp; omega) (by omega) hod2 ha2 l1_1 l0_3) ?_
          rintro O2 r2 ⟨rl2, be2, rfl, q1, q2, q3, rfl⟩
          simp (disch := omega) only [go_sem, seval, sw3, sw5, sw9, kOu, rd5, rd3, rd9, rd6, wr5, wr3, wr9, Nat.reduceBNe, set_mapI, upA_at, upA_up]
          repeat refine And.intro obl ?_
          refine hK20 _ ?_; clear hK20
          refine aw_reg [2, 4, 6, 7, 8, 21, 22] (by kernel_rfl) ?_
          simp (disch := omega) only [go_sem, seval, sw3, sw5, sw9, kOu, rd5, rd3, rd9, rd6, wr5, wr3, wr9, Nat.reduceBNe, set_mapI, upA_at, upA_up]
          repeat refine And.intro obl ?_
          refine hK9 _ ?_; clear hK9
          refine aw_reg [2, 4, 6, 7, 8, 21, 22] (by kernel_rfl) ?_
          simp (disch := omega) only [go_sem, seval, sw3, sw5, sw9, kOu, rd5, rd3, rd9, rd6, wr5, wr3, wr9, Nat.reduceBNe, set_mapI, upA_at, upA_up]
          repeat refine And.intro obl ?_
          refine hK6 _ _ ?_ ⟨i + 1, rl2, be2, rfl, ?_, ?_, ?_, ?_, ?_⟩
          · exact dfl
          · exact dfl
          · exact q1
          · (have h := take_less q2; rw [List.take_set_of_le (Nat.le_refl _)] at h; rw [h, l0_2])
          · exact q3
          · simp (disch := omega) only [go_sem, seval, sw3, sw5, sw9, kOu, rd5, rd3, rd9, rd6, wr5, wr3, wr9, Nat.reduceBNe, set_mapI, upA_at, upA_up] <;> first | rfl | omega | simp | simp_all
    · try simp only [push_cast] at c2
      refine aw_exit ?_
      try simp only [thenQ_ret, blockQ_ret, blockQ_exit, blockQ_normal, thenQ_exit, ↓reduceIte]
      refine ret_kn (O' := kO 300000 O1 rl 3 best) (by first | exact .inl rfl | exact .inr rfl) (by rfl) ?_ (fun s => kO_fr 300000 O1 (rl := rl0) (rl' := rl) 3 3 best0 best (by omega) s) (fun s h => kO_out 300000 O1 (rl := rl0) (rl' := rl) 3 3 best0 best s h) ?_
      · simp (disch := omega) only [go_sem, seval, sw3, sw5, sw9, kOu, rd5, rd3, rd9, rd6, wr5, wr3, wr9, Nat.reduceBNe, set_mapI, upA_at, upA_up]
      · exact ⟨rl, best, (kO_kO _ _ _ _ _ _ _ _).symm, l0_1, l0_2, l0_3, rfl⟩
end Go.Sg
