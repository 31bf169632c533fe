/- The laws' example: a walk, and what Solve gives of it. Printed by genw.py. -/
import Derived.Test.YtbndgcddihbhlaaSgB
import Derived.Test.YtbndgcddihbhlaaP4
set_option linter.unusedVariables false
set_option linter.unusedSimpArgs false
set_option maxRecDepth 20000
namespace Go.Sg
open Go.Proofs
def SolS (t : Table) (tr : List Trip) (s : Schedule) (e : Int) : Prop := (chkI t tr ≠ 0 ∧ s = default ∧ e = chkI t tr) ∨ (chkI t tr = 0 ∧ e = 0 ∧ ∃ best, Full tr (csF t tr) best ∧ (∀ f, Full tr (csF t tr) f → cmD tr best f (enA tr) ≤ 0) ∧ s = scD tr best)
theorem solve_ex (O : Env) (t : Table) (tr : List Trip) (hsm : SmT t) : ECall Try.prog O 11 [.agg (eTable t), encTr tr] (fun O' r => O' = O ∧ ∃ s e, r = .tup [.agg (eSchedule s), vi e] ∧ SolS t tr s e) :=
  (dispatch_Solve_ok O t tr hsm).mono fun O' r h => ⟨h.1, by
    rcases h.2 with ⟨h1, h2⟩ | ⟨h1, best, h2, h3, h4⟩
    · exact ⟨_, _, h2, .inl ⟨h1, rfl, rfl⟩⟩
    · exact ⟨_, _, h4, .inr ⟨h1, rfl, best, h2, h3, rfl⟩⟩⟩
theorem solS_c {t : Table} {tr : List Trip} {s : Schedule} {e : Int} (h : SolS t tr s e) (hc : chkI t tr = 0) : e = 0 ∧ ∃ best, Full tr (csF t tr) best ∧ (∀ f, Full tr (csF t tr) f → cmD tr best f (enA tr) ≤ 0) ∧ s = scD tr best := by
  rcases h with ⟨h, _, _⟩ | ⟨_, h, h2⟩
  · exact absurd hc h
  · exact ⟨h, h2⟩
/-! ## The example -/
def exTr (a b : Int) : List Trip := [⟨1, [⟨0, 0, 10, a⟩]⟩, ⟨2, [⟨1, 0, 10, b⟩]⟩]
def exT : Table := ⟨[⟨⟨#[97, 45, 101, 110, 100]⟩, 0, -1, [⟨1, 0, 1⟩], [], [1], 0, 500, [], [], [], [], [], []⟩, ⟨⟨#[98, 45, 101, 110, 100]⟩, 1, -1, [⟨1, 1, 0⟩], [], [1], 2, 500, [], [], [], [], [], []⟩], [], [], 3, 2⟩
theorem sl1 {z : Nat} {f g : Nat → List DV} (h : f 0 = g 0) : RWk (.sl z 1 f) (.sl z 1 g) := RWk.sl z 1 fun i hi => by
  obtain rfl : i = 0 := by omega
  exact h
theorem sl2W {z : Nat} {f g : Nat → List DV} (h0 : RWkL (f 0) (g 0)) (h1 : RWkL (f 1) (g 1)) : RWk (.sl z 2 f) (.sl z 2 g) := RWk.slW fun i hi => by
  match i, hi with
  | 0, _ => exact h0
  | 1, _ => exact h1
theorem ret_ct {P : Program} {fn : Func} {O ρ : Env} {cs ds : List DV} {r2 : DV} (a t b : Nat) (hf : fn.results = #[.cell a t, .tmp b]) (h1 : hi ρ = outer O) (h2 : ρ a = .bx cs) (h3 : ldOf P t = some (some cs.length)) (hw : RWk (.agg cs) (sh (.agg ds))) (h5 : isPl (ρ b) = true) (h6 : RWk (ρ b) (sh r2)) :
    retQ P fn O (fun O' r' => O' = O ∧ r' = .tup [.agg ds, r2]) .ret ρ :=
  ⟨O, .tup [.agg ds, r2], out_of_hi h1, fun _ => frOk.refl _, fun _ h => h, by
    rw [hf]
    refine ⟨_, rfl, rfl, fun j v d hv hd => ?_⟩
    match j with
    | 0 =>
      simp only [List.getElem?_cons_zero, Option.some.injEq] at hv hd
      subst hv; subst hd
      exact ⟨cs, h2, .inl ⟨h3, hw⟩⟩
    | 1 =>
      simp at hv hd
      subst hv; subst hd
      exact ⟨h5, h6⟩
    | j + 2 => simp at hv, rfl, rfl⟩
/-! ## The drafts of the example -/
def zA : Pl := fun _ => 0
section
variable {tr : List Trip} {c : Cl} {a : Pl} {d : Dr}
theorem rch0 (h : Rch tr c a d) (ha : a = zA) : d = bgD tr := by
  cases h with
  | b => rfl
  | @s a' d' i h hi hai =>
    have h1 := congrFun ha i
    simp [upA, zA] at h1
theorem rch1 (h : Rch tr c a d) (k : Nat) (ha : a = upA zA k 1) : d = plD tr c (bgD tr) zA k := by
  cases h with
  | b => have := congrFun ha k; simp [upA] at this
  | @s a' d' i h hi hai =>
    have h1 := congrFun ha i
    have hik : i = k := by
      by_cases e : i = k
      · exact e
      · simp [upA, e, zA] at h1
    subst hik
    have hz : a' = zA := funext fun q => by
      by_cases e : q = i
      · subst e; simp [upA] at h1; exact h1
      · have := congrFun ha q; simp [upA, e] at this; exact this
    subst hz
    rw [rch0 h rfl]
theorem rch2 (h : Rch tr c a d) (ha : a = upA (upA zA 0 1) 1 1) : d = plD tr c (plD tr c (bgD tr) zA 0) (upA zA 0 1) 1 ∨ d = plD tr c (plD tr c (bgD tr) zA 1) (upA zA 1 1) 0 := by
  cases h with
  | b => have := congrFun ha 1; simp [upA] at this
  | @s a' d' i h hi hai =>
    have h1 := congrFun ha i
    have hik : i = 0 ∨ i = 1 := by
      by_cases e : i = 1
      · exact .inr e
      · by_cases e0 : i = 0
        · exact .inl e0
        · simp [upA, e, e0, zA] at h1
    rcases hik with rfl | rfl
    · right
      have hz : a' = upA zA 1 1 := funext fun q => by
        by_cases e : q = 0
        · subst e; simp [upA, zA] at h1 ⊢; exact h1
        · have := congrFun ha q
          by_cases e1 : q = 1
          · subst e1; simp [upA] at this ⊢; exact this
          · simp [upA, e, e1] at this ⊢; exact this
      subst hz
      rw [rch1 h 1 rfl]
    · left
      have hz : a' = upA zA 0 1 := funext fun q => by
        by_cases e : q = 1
        · subst e; simp [upA, zA] at h1 ⊢; exact h1
        · have := congrFun ha q
          by_cases e1 : q = 0
          · subst e1; simp [upA] at this ⊢; exact this
          · simp [upA, e, e1] at this ⊢; exact this
      subst hz
      rw [rch1 h 0 rfl]
theorem enEx (x y : Int) : enA (exTr x y) = upA (upA zA 0 1) 1 1 := funext fun q => by
  match q with
  | 0 => rfl
  | 1 => rfl
  | q + 2 =>
    unfold enA
    rw [if_neg (by simp [exTr])]
    simp [upA, zA]
def exA (x y : Int) (c : Cl) : Dr := plD (exTr x y) c (plD (exTr x y) c (bgD (exTr x y)) zA 0) (upA zA 0 1) 1
def exB (x y : Int) (c : Cl) : Dr := plD (exTr x y) c (plD (exTr x y) c (bgD (exTr x y)) zA 1) (upA zA 1 1) 0
theorem fullA (x y : Int) (c : Cl) : Full (exTr x y) c (exA x y c) := by
  unfold Full
  rw [enEx]
  exact Rch.s (i := 1) (Rch.s (i := 0) Rch.b (by simp [exTr]) (by simp [exTr, zA])) (by simp [exTr]) (by simp [exTr, upA, zA])
theorem fullB (x y : Int) (c : Cl) : Full (exTr x y) c (exB x y c) := by
  unfold Full
  rw [enEx]
  have : upA (upA zA 0 1) 1 1 = upA (upA zA 1 1) 0 (upA zA 1 1 0 + 1) := funext fun q => by
    unfold upA zA
    by_cases e : q = 0
    · subst e; rfl
    · by_cases e1 : q = 1
      · subst e1; rfl
      · simp [e, e1]
  rw [this]
  exact Rch.s (i := 0) (Rch.s (i := 1) Rch.b (by simp [exTr]) (by simp [exTr, zA])) (by simp [exTr]) (by simp [exTr, upA, zA])
end
theorem ex_chk13 : chkI exT (exTr 1 3) = 0 := by kernel_rfl
theorem ex_chk11 : chkI exT (exTr 1 1) = 0 := by kernel_rfl
theorem ex_cm13 : cmD (exTr 1 3) (exA 1 3 (csF exT (exTr 1 3))) (exB 1 3 (csF exT (exTr 1 3))) (enA (exTr 1 3)) = 20 := by kernel_rfl
theorem ex_cm11 : cmD (exTr 1 1) (exB 1 1 (csF exT (exTr 1 1))) (exA 1 1 (csF exT (exTr 1 1))) (enA (exTr 1 1)) = 10 := by kernel_rfl
def ex13 : Schedule := ⟨[[10], [0]], 10⟩
def ex11 : Schedule := ⟨[[0], [10]], 10⟩
theorem ex_sc13 : scD (exTr 1 3) (exB 1 3 (csF exT (exTr 1 3))) = ex13 := by kernel_rfl
theorem ex_sc11 : scD (exTr 1 1) (exA 1 1 (csF exT (exTr 1 1))) = ex11 := by kernel_rfl
theorem ex_s13 {s : Schedule} {e : Int} (h : SolS exT (exTr 1 3) s e) : e = 0 ∧ s = ex13 := by
  obtain ⟨h1, best, h2, h3, h4⟩ := solS_c h ex_chk13
  refine ⟨h1, ?_⟩
  rcases rch2 h2 (enEx 1 3) with hb | hb
  · have := h3 _ (fullB 1 3 _)
    rw [hb] at this
    have h5 := ex_cm13
    unfold exA at h5
    omega
  · rw [h4, hb]; exact ex_sc13
theorem ex_s11 {s : Schedule} {e : Int} (h : SolS exT (exTr 1 1) s e) : e = 0 ∧ s = ex11 := by
  obtain ⟨h1, best, h2, h3, h4⟩ := solS_c h ex_chk11
  refine ⟨h1, ?_⟩
  rcases rch2 h2 (enEx 1 1) with hb | hb
  · rw [h4, hb]; exact ex_sc11
  · have := h3 _ (fullA 1 1 _)
    rw [hb] at this
    have h5 := ex_cm11
    unfold exB at h5
    omega
theorem ex_sm : SmT exT := fun r hr => by
  simp [exT] at hr
  rcases hr with rfl | rfl <;> exact ⟨by simp, by simp, by simp, by simp, by simp⟩
theorem ex_f9 : feasB exT (exTr 1 3) [[0], [9]] = false := by kernel_rfl
theorem ex_f10 : feasB exT (exTr 1 3) [[0], [10]] = true := by kernel_rfl
set_option maxHeartbeats 4000000 in
theorem law49_example_ok (O : Env) (a b : Int) : PCall Try.prog O 22 [vi a, vi b] (.tup [.agg (eTable exT), encTr (exTr a b)]) := by
  refine pcall_of_aw Try.func22 rfl (by kernel_rfl) ?_
  refine aw_seq fun K0 hK0 => ?_
  refine aw_reg [0, 1] (by kernel_rfl) ?_
  simp (disch := omega) only [go_sem, seval, Nat.reduceBNe]
  repeat refine And.intro obl ?_
  refine hK0 _ ?_; clear hK0
  refine aw_seq fun K1 hK1 => ?_
  refine aw_reg [0, 1, 4] (by kernel_rfl) ?_
  simp (disch := omega) only [go_sem, seval, Nat.reduceBNe]
  repeat refine And.intro obl ?_
  refine hK1 _ ?_; clear hK1
  refine aw_seq fun K2 hK2 => ?_
  refine aw_reg [0, 1, 4, 6] (by kernel_rfl) ?_
  simp (disch := omega) only [go_sem, seval, Nat.reduceBNe]
  repeat refine And.intro obl ?_
  refine hK2 _ ?_; clear hK2
  refine aw_ret ?_
  refine ret_ct (ds := eTable exT) (r2 := encTr (exTr a b)) 4 25 5 rfl (by simp (disch := omega) only [go_sem, seval, Nat.reduceBNe]) (by simp (disch := omega) only [go_sem, seval, Nat.reduceBNe]; try rfl) (by kernel_rfl) (RWk.aggL (.cons (sl2W (by simp only [List.getD_cons_succ, List.getD_cons_zero]; exact .cons (RWk.refl _) (.cons (RWk.refl _) (.cons (RWk.refl _) (.cons (sl1 rfl) (.cons (RWk.nilL _) (.cons (sl1 rfl) (.cons (RWk.refl _) (.cons (RWk.refl _) (.cons (RWk.nilL _) (.cons (RWk.nilL _) (.cons (RWk.nilL _) (.cons (RWk.nilL _) (.cons (RWk.nilL _) (.cons (RWk.nilL _) .nil)))))))))))))) (by simp only [List.getD_cons_succ, List.getD_cons_zero]; exact .cons (RWk.refl _) (.cons (RWk.refl _) (.cons (RWk.refl _) (.cons (sl1 rfl) (.cons (RWk.nilL _) (.cons (sl1 rfl) (.cons (RWk.refl _) (.cons (RWk.refl _) (.cons (RWk.nilL _) (.cons (RWk.nilL _) (.cons (RWk.nilL _) (.cons (RWk.nilL _) (.cons (RWk.nilL _) (.cons (RWk.nilL _) .nil))))))))))))))) (.cons (RWk.nilL _) (.cons (RWk.nilL _) (RWkL.refl _))))) (by simp (disch := omega) only [go_sem, seval, Nat.reduceBNe]) ?_
  simp (disch := omega) only [go_sem, seval, Nat.reduceBNe]
  exact sl2W (by simp only [List.getD_cons_succ, List.getD_cons_zero]; exact .cons (RWk.refl _) (.cons (sl1 rfl) .nil)) (by simp only [List.getD_cons_succ, List.getD_cons_zero]; exact .cons (RWk.refl _) (.cons (sl1 rfl) .nil))
set_option maxHeartbeats 4000000 in
theorem alive2_ok (O : Env)  : PCall Try.prog O 10 [] (vb true) := by
  refine pcall_of_aw Try.func10 rfl (by kernel_rfl) ?_
  refine aw_seq fun K0 hK0 => ?_
  refine aw_reg [] (by kernel_rfl) ?_
  simp (disch := omega) only [go_sem, seval, Nat.reduceBNe, ex_f9, ex_f10]
  repeat refine And.intro obl ?_
  refine hK0 _ ?_; clear hK0
  refine aw_seq fun K1 hK1 => ?_
  refine aw_reg [] (by kernel_rfl) ?_
  simp (disch := omega) only [go_sem, seval, Nat.reduceBNe, ex_f9, ex_f10]
  repeat refine And.intro obl ?_
  refine callG_of _ (law49_example_ok _ 1 3) ?_
  simp (disch := omega) only [go_sem, seval, Nat.reduceBNe, ex_f9, ex_f10]
  repeat refine And.intro obl ?_
  refine hK1 _ ?_; clear hK1
  refine aw_seq fun K2 hK2 => ?_
  refine aw_reg [1, 2, 9, 10] (by kernel_rfl) ?_
  simp (disch := omega) only [go_sem, seval, Nat.reduceBNe, ex_f9, ex_f10]
  repeat refine And.intro obl ?_
  refine callG_exR (solve_ex _ exT (exTr 1 3) ex_sm) ?_
  rintro O2 r2 ⟨rfl, s1, e1, rfl, hS1⟩
  obtain ⟨rfl, rfl⟩ := ex_s13 hS1
  simp (disch := omega) only [go_sem, seval, Nat.reduceBNe, ex_f9, ex_f10]
  repeat refine And.intro obl ?_
  refine hK2 _ ?_; clear hK2
  refine aw_seq fun K3 hK3 => ?_
  refine aw_reg [1, 2, 3, 4, 9, 10] (by kernel_rfl) ?_
  simp (disch := omega) only [go_sem, seval, Nat.reduceBNe, ex_f9, ex_f10]
  repeat refine And.intro obl ?_
  refine callG_of _ (law49_example_ok _ 1 1) ?_
  simp (disch := omega) only [go_sem, seval, Nat.reduceBNe, ex_f9, ex_f10]
  repeat refine And.intro obl ?_
  refine hK3 _ ?_; clear hK3
  refine aw_seq fun K4 hK4 => ?_
  refine aw_reg [1, 2, 3, 4, 6, 9, 10, 19, 20] (by kernel_rfl) ?_
  simp (disch := omega) only [go_sem, seval, Nat.reduceBNe, ex_f9, ex_f10]
  repeat refine And.intro obl ?_
  refine callG_exR (solve_ex _ exT (exTr 1 1) ex_sm) ?_
  rintro O3 r3 ⟨rfl, s2, e2, rfl, hS2⟩
  obtain ⟨rfl, rfl⟩ := ex_s11 hS2
  simp (disch := omega) only [go_sem, seval, Nat.reduceBNe, ex_f9, ex_f10]
  repeat refine And.intro obl ?_
  refine hK4 _ ?_; clear hK4
  refine aw_seq fun K5 hK5 => ?_
  refine aw_reg [1, 2, 3, 4, 7, 8, 9, 10] (by kernel_rfl) ?_
  simp (disch := omega) only [go_sem, seval, Nat.reduceBNe, ex_f9, ex_f10]
  repeat refine And.intro obl ?_
  refine callC_to (fun g0 => pcall_args [.agg (eSchedule ex13), .agg (eSchedule ex13)] (.cons (RWk.refl _) (.cons (RWk.aggL (.cons (sl2W (.cons (sl1 rfl) .nil) (.cons (sl1 rfl) .nil)) (RWkL.refl _))) .nil)) (ref49_Same_ok _ ex13 ex13)) ?_ ?_ ?_
  · first | exact fun _ => trivial | simp
  · rfl
  simp (disch := omega) only [go_sem, seval, Nat.reduceBNe, ex_f9, ex_f10]
  repeat refine And.intro obl ?_
  refine callC_to (fun g1 => pcall_args [.agg (eSchedule ex11), .agg (eSchedule ex11)] (.cons (RWk.refl _) (.cons (RWk.aggL (.cons (sl2W (.cons (sl1 rfl) .nil) (.cons (sl1 rfl) .nil)) (RWkL.refl _))) .nil)) (ref49_Same_ok _ ex11 ex11)) ?_ ?_ ?_
  · first | exact fun _ => trivial | simp
  · rfl
  simp (disch := omega) only [go_sem, seval, Nat.reduceBNe, ex_f9, ex_f10]
  repeat refine And.intro obl ?_
  refine callC_to (fun g2 => pcall_args [.agg (eTable exT), encTr (exTr 1 3), encSt [[0], [9]]] (.cons (RWk.refl _) (.cons (RWk.refl _) (.cons (sl2W (.cons (sl1 rfl) .nil) (.cons (sl1 rfl) .nil)) .nil))) (dispatch_Feasible_ok _ exT (exTr 1 3) [[0], [9]] ex_sm)) ?_ ?_ ?_
  · first | exact fun _ => trivial | simp
  · rfl
  simp (disch := omega) only [go_sem, seval, Nat.reduceBNe, ex_f9, ex_f10]
  repeat refine And.intro obl ?_
  refine callC_to (fun g3 => pcall_args [.agg (eTable exT), encTr (exTr 1 3), encSt [[0], [10]]] (.cons (RWk.refl _) (.cons (RWk.refl _) (.cons (sl2W (.cons (sl1 rfl) .nil) (.cons (sl1 rfl) .nil)) .nil))) (dispatch_Feasible_ok _ exT (exTr 1 3) [[0], [10]] ex_sm)) ?_ ?_ ?_
  · first | exact fun _ => trivial | simp
  · rfl
  simp (disch := omega) only [go_sem, seval, Nat.reduceBNe, ex_f9, ex_f10]
  repeat refine And.intro obl ?_
  refine callC_to (fun g4 => dispatch_Better_ok _ ex13 ex11) ?_ ?_ ?_
  · first | exact fun _ => trivial | simp
  · rfl
  simp (disch := omega) only [go_sem, seval, Nat.reduceBNe, ex_f9, ex_f10]
  repeat refine And.intro obl ?_
  refine callC_to (fun g5 => dispatch_Better_ok _ ex11 ex13) ?_ ?_ ?_
  · first | exact fun _ => trivial | simp
  · rfl
  simp (disch := omega) only [go_sem, seval, Nat.reduceBNe, ex_f9, ex_f10]
  repeat refine And.intro obl ?_
  refine hK5 _ ?_; clear hK5
  refine aw_ret ?_
  refine ret_tmp 0 rfl (by simp (disch := omega) only [go_sem, seval, Nat.reduceBNe, ex_f9, ex_f10]) ?_
  exact Exp.is (by simp (disch := omega) only [go_sem, seval, Nat.reduceBNe, ex_f9, ex_f10] <;> refine congrArg vb ?_ <;> ((simp; exact ⟨⟨⟨by kernel_rfl, by kernel_rfl⟩, by kernel_rfl⟩, by kernel_rfl⟩))) rfl rfl
end Go.Sg
