/- The walk's own words: regions by reckoning, kept slots, entering and returning; the set of rules for simp. -/
import Derived.Test.YtnpokifaejcbeaaGreatDoorSgDraw
set_option linter.unusedVariables false
set_option linter.unusedSimpArgs false
namespace Go.Sg
open Go.RowKit

/-! ## Kept slots -/

/-- The caller's part of an environment. -/
def hi (ρ : Env) : Env := fun i => if i < 100000 then .any else ρ i
def keepC : List Nat → Env → Env
  | [], ρ => hi ρ
  | l :: L, ρ => set (keepC L ρ) l (ρ l)
theorem keepC_nil (ρ : Env) : keepC [] ρ = hi ρ := rfl
theorem keepC_cons (l : Nat) (L : List Nat) (ρ : Env) : keepC (l :: L) ρ = set (keepC L ρ) l (ρ l) := rfl
theorem hi_set (ρ : Env) {d : Nat} (x : DV) (h : d < 100000) : hi (set ρ d x) = hi ρ := by
  funext i
  unfold hi
  split
  · rfl
  · rw [set_apply, if_neg (by omega)]
theorem hi_set' (ρ : Env) {d : Nat} (x : DV) (h : ¬ d < 100000) : hi (set ρ d x) = set (hi ρ) d x := by
  funext i
  unfold hi
  rw [set_apply, set_apply]
  by_cases e : i = d
  · subst e; rw [if_neg h, if_pos rfl, if_pos rfl]
  · rw [if_neg e, if_neg e]
theorem hi_kill (ρ : Env) (d : Nat) : hi (kill d ρ) = hi ρ := by
  funext i
  unfold hi
  split
  · rfl
  · rename_i h; rw [kill_apply, if_neg h]
theorem hi_outer (O : Env) : hi (outer O) = outer O := by
  funext i
  unfold hi
  split
  · rename_i h; rw [outer_lo O h]
  · rfl
theorem hi_hi (ρ : Env) : hi (hi ρ) = hi ρ := by
  funext i
  unfold hi
  split <;> rfl
theorem Le.hi (ρ : Env) : Le ρ (hi ρ) := fun s => by
  unfold Sg.hi; split
  · exact Wk.any _
  · exact Wk.refl _
theorem Le.keepC : ∀ (L : List Nat) (ρ : Env), Le ρ (keepC L ρ)
  | [], ρ => Le.hi ρ
  | l :: L, ρ => fun s => by
    rw [keepC_cons, set_apply]
    split
    · rename_i e; rw [e]; exact Wk.refl _
    · exact Le.keepC L ρ s
theorem outer_app (O : Env) {i : Nat} (h : i < 100000) : outer O i = .any := outer_lo O h

/-! ## Regions -/

def dstFree (ρ : Env) : Option Nat → Prop
  | some k => isOwn (ρ k) = false
  | none => True

/-- A pure call, its value r: what follows is kept apart. -/
def CallD (P : Program) (ρ : Env) (f : FuncId) (l : List DV) (k : DV → Prop) (_ : Tg k) : Prop := ∃ r, isOwn r = false ∧ PCall P ρ f l r ∧ k r
/-- A pure call under a guard. -/
def CallC (P : Program) (ρ : Env) (g : Bool) (pre : Prop) (f : FuncId) (l : List DV) (k : DV → Prop) (_ : Tg k) : Prop := ∃ r, isPl r = true ∧ (g = true → pre ∧ PCall P ρ f l r) ∧ k r

def gcG (P : Program) (ρ : Env) (d : Option Nat) (g : Bool) (f : DV) (gs : Prop) (c : Option (FuncId × List DV)) (K : Env → Prop) : Prop :=
  match c, d with
  | some (fid, l), some k => CallC P ρ g (gd f ∧ gs ∧ hasBody P fid = true) fid l (fun r => K (set ρ k (.cond g r))) ⟨⟩
  | _, _ => False

/-- An operation under a guard. -/
def gdG (P : Program) (ρ : Env) (op : Op) (d : Option Nat) (g : Option Bool) (K : Env → Prop) : Prop :=
  match g with
  | none => False
  | some g => dstFree ρ d ∧ (match op with
    | .call c => (match c.callee with
      | .value f => gcG P ρ d g (ev ρ f) (gdL ρ c.args.toList) (callee (un (ev ρ f)) (evL ρ c.args.toList)) K
      | _ => (g = true → (opQ P ρ op).1) ∧ isPl (opQ P ρ op).2 = true ∧ K (putD ρ d (.cond g (opQ P ρ op).2)))
    | op => (g = true → (opQ P ρ op).1) ∧ isPl (opQ P ρ op).2 = true ∧ K (putD ρ d (.cond g (opQ P ρ op).2)))

def pcG (P : Program) (ρ : Env) (d : Option Nat) (c : Option (FuncId × List DV)) (K : Env → Prop) : Prop :=
  match c, d with
  | some (fid, l), some k => hasBody P fid = true ∧ CallD P ρ fid l (fun r => K (set ρ k r)) ⟨⟩
  | _, _ => False

/-- An operation that only gives a value. -/
def prG (P : Program) (ρ : Env) (op : Op) (d : Option Nat) (K : Env → Prop) : Prop :=
  dstFree ρ d ∧ (match op with
    | .call c => (match c.callee with
      | .value f => gd (ev ρ f) ∧ gdL ρ c.args.toList ∧ pcG P ρ d (callee (un (ev ρ f)) (evL ρ c.args.toList)) K
      | _ => (opQ P ρ op).1 ∧ isOwn (opQ P ρ op).2 = false ∧ K (putD ρ d (opQ P ρ op).2))
    | op => (opQ P ρ op).1 ∧ isOwn (opQ P ρ op).2 = false ∧ K (putD ρ d (opQ P ρ op).2))

/-- A region in the text's order. -/
def pwX (P : Program) (all : List Oper) (k : Env → Prop) : List Oper → Env → Prop
  | [], ρ => k ρ
  | o :: os, ρ => match o.guard with
    | none => effG P ρ o.op o.dst (pwX P all k os)
    | some (j, want) => gdG P ρ o.op o.dst (gAt all ρ j want) (pwX P all k os)
/-- The same, its fixed parts under marks. -/
def pw (P : Program) (all : List Oper) (k : Env → Prop) (l : List Oper) (_ : Tg (all, k, l)) (ρ : Env) : Prop := pwX P all k l ρ

/-- A region that draws its order. -/
def pwDX (P : Program) (all : List Oper) (k : Env → Prop) : List Oper → Env → Prop
  | [], ρ => k ρ
  | o :: os, ρ => match o.guard with
    | none => (match pureOp o.op && o.dst.isSome with
      | true => prG P ρ o.op o.dst (pwDX P all k os)
      | false => effG P ρ o.op o.dst (pwDX P all k os))
    | some (j, want) => gdG P ρ o.op o.dst (gAt all ρ j want) (pwDX P all k os)
def pwD (P : Program) (all : List Oper) (k : Env → Prop) (l : List Oper) (_ : Tg (all, k, l)) (ρ : Env) : Prop := pwDX P all k l ρ

section
variable {P : Program} {nt : Nat} {ρ : Env}

/-- Guarded operations must only give values. -/
def gOk (o : Oper) : Bool := o.guard.isNone || (pureOp o.op && o.dst.isSome)

theorem gdG_eff {all : List Oper} {o : Oper} {K : Env → Prop} {j : Nat} {want : Bool} (hg : o.guard = some (j, want)) (hp : (pureOp o.op && o.dst.isSome) = true) (h : gdG P ρ o.op o.dst (gAt all ρ j want) K) : ∃ d, effP P all ρ o d ∧ K (putD ρ o.dst d) := by
  unfold gdG at h
  split at h
  · exact h.elim
  · rename_i g hgj
    obtain ⟨h1, h2⟩ := h
    have hfree : ∀ k, o.dst = some k → isOwn (ρ k) = false := fun k hk => by rw [hk] at h1; exact h1
    have gen : (g = true → (opQ P ρ o.op).1) ∧ isPl (opQ P ρ o.op).2 = true ∧ K (putD ρ o.dst (.cond g (opQ P ρ o.op).2)) → (∀ f args ts, o.op ≠ .call ⟨.value f, args, ts⟩) → ∃ d, effP P all ρ o d ∧ K (putD ρ o.dst d) := by
      rintro ⟨k1, k2, k3⟩ hn
      refine ⟨_, ⟨rfl, hfree, ?_⟩, k3⟩
      rw [hg]
      refine ⟨g, _, hgj, rfl, k2, fun hgt => ?_⟩
      have := k1 hgt
      cases hop : o.op with
      | call c =>
        obtain ⟨cl, args, ts⟩ := c
        cases cl with
        | value f => exact absurd hop (hn f args ts)
        | _ => rw [hop] at this; exact ⟨this, rfl⟩
      | _ => rw [hop] at this; exact ⟨this, rfl⟩
    cases hop : o.op with
    | call c =>
      obtain ⟨cl, args, ts⟩ := c
      rw [hop] at h2
      cases cl with
      | value f =>
        have h2 : gcG P ρ o.dst g (ev ρ f) (gdL ρ args.toList) (callee (un (ev ρ f)) (evL ρ args.toList)) K := h2
        unfold gcG at h2
        split at h2
        · rename_i fid l k hc hk
          obtain ⟨r, r1, r2, r3⟩ := h2
          refine ⟨.cond g r, ⟨rfl, hfree, ?_⟩, by rw [hk]; exact r3⟩
          rw [hg]
          refine ⟨g, r, hgj, rfl, r1, fun hgt => ?_⟩
          rw [hop]
          obtain ⟨⟨q1, q2, q3⟩, q4⟩ := r2 hgt
          exact ⟨q1, q2, fid, l, hc, q3, q4⟩
        · exact h2.elim
      | _ => exact gen (by rw [hop]; exact h2) (by simp [hop])
    | _ => exact gen (by rw [hop]; rw [hop] at h2; exact h2) (by simp [hop])

theorem prG_eff {all : List Oper} {o : Oper} {K : Env → Prop} (hg : o.guard = none) (h : prG P ρ o.op o.dst K) : ∃ d, effP P all ρ o d ∧ K (putD ρ o.dst d) := by
  obtain ⟨h1, h2⟩ := h
  have hfree : ∀ k, o.dst = some k → isOwn (ρ k) = false := fun k hk => by rw [hk] at h1; exact h1
  have gen : (opQ P ρ o.op).1 ∧ isOwn (opQ P ρ o.op).2 = false ∧ K (putD ρ o.dst (opQ P ρ o.op).2) → (∀ f args ts, o.op ≠ .call ⟨.value f, args, ts⟩) → ∃ d, effP P all ρ o d ∧ K (putD ρ o.dst d) := by
    rintro ⟨k1, k2, k3⟩ hn
    refine ⟨_, ⟨k2, hfree, ?_⟩, k3⟩
    rw [hg]
    cases hop : o.op with
    | call c =>
      obtain ⟨cl, args, ts⟩ := c
      cases cl with
      | value f => exact absurd hop (hn f args ts)
      | _ => rw [hop] at k1; exact ⟨k1, rfl⟩
    | _ => rw [hop] at k1; exact ⟨k1, rfl⟩
  cases hop : o.op with
  | call c =>
    obtain ⟨cl, args, ts⟩ := c
    rw [hop] at h2
    cases cl with
    | value f =>
      obtain ⟨q1, q2, q3⟩ := h2
      unfold pcG at q3
      split at q3
      · rename_i fid l k hc hk
        obtain ⟨q3, r, r1, r2, r3⟩ := q3
        refine ⟨r, ⟨r1, hfree, ?_⟩, by rw [hk]; exact r3⟩
        rw [hg, hop]
        exact ⟨q1, q2, fid, l, hc, q3, r2⟩
      · exact q3.elim
    | _ => exact gen (by rw [hop]; exact h2) (by simp [hop])
  | _ => exact gen (by rw [hop]; rw [hop] at h2; exact h2) (by simp [hop])

theorem pw_rw {all : List Oper} {k : Env → Prop} (hr : regOk nt all = true) (hgo : all.all gOk = true) : ∀ (l : List Oper) (ρ : Env), (∀ o ∈ l, o ∈ all) → pwX P all k l ρ → RW P nt all.toArray k l ρ
  | [], ρ, _, h => h
  | o :: l, ρ, hm, h => by
    have hrec := fun ρ' => pw_rw (k := k) hr hgo l ρ' fun o' ho => hm o' (by simp [ho])
    obtain ⟨i, hi⟩ := List.getElem?_of_mem (hm o (by simp))
    obtain ⟨h1, h2⟩ := regOk_get hr hi
    unfold pwX at h
    unfold RW
    split at h
    · rename_i hg
      exact (effG_ok hg h1 h2 h).mono hrec
    · rename_i j want hg
      have hgk := List.all_eq_true.1 hgo o (hm o (by simp))
      unfold gOk at hgk
      rw [hg] at hgk
      simp only [Option.isNone_some, Bool.false_or] at hgk
      obtain ⟨d, k1, k2⟩ := gdG_eff hg hgk h
      simp only [Bool.and_eq_true] at hgk
      exact ow_effP (regOk_dst hr) h1 h2 hgk.2 k1 (hrec _ k2)

theorem pwD_lex {all : List Oper} {k : Env → Prop} (hr : regOk nt all = true) (hgo : all.all gOk = true) : ∀ (l : List Oper) (ρ : Env), (∀ o ∈ l, o ∈ all) → pwDX P all k l ρ → lexW P nt all k l ρ
  | [], ρ, _, h => h
  | o :: l, ρ, hm, h => by
    have hrec := fun ρ' => pwD_lex (k := k) hr hgo l ρ' fun o' ho => hm o' (by simp [ho])
    obtain ⟨i, hi⟩ := List.getElem?_of_mem (hm o (by simp))
    obtain ⟨h1, h2⟩ := regOk_get hr hi
    unfold pwDX at h
    unfold lexW
    split at h
    · rename_i hg
      split at h
      · rename_i hp
        rw [if_pos hp]
        obtain ⟨d, k1, k2⟩ := prG_eff (all := all) hg h
        exact ⟨d, k1, hrec _ k2⟩
      · rename_i hp
        rw [if_neg (by rw [hp]; simp)]
        exact (effG_ok hg h1 h2 h).mono hrec
    · rename_i j want hg
      have hgk := List.all_eq_true.1 hgo o (hm o (by simp))
      unfold gOk at hgk
      rw [hg] at hgk
      simp only [Option.isNone_some, Bool.false_or] at hgk
      obtain ⟨d, k1, k2⟩ := gdG_eff hg hgk h
      rw [if_pos hgk]
      exact ⟨d, k1, hrec _ k2⟩

def regOk2 (nt : Nat) (l : List Oper) : Bool := regOk nt l && l.all gOk

/-- A plain region: the live slots L are kept, the rest forgotten; then the operations. -/
theorem aw_reg (L : List Nat) {id : Nat} {l : List Oper} {Q : Exit → Env → Prop} (hr : regOk2 nt l = true) (h : pw P l (Q .normal) l ⟨⟩ (keepC L ρ)) : AW P nt (.region id l.toArray false) Q ρ := by
  simp only [regOk2, Bool.and_eq_true] at hr
  exact aw_weaken (Le.keepC L ρ) (aw_region (pw_rw hr.1 hr.2 l _ (fun _ h => h) h))

theorem aw_regD (L : List Nat) {id : Nat} {l : List Oper} {Q : Exit → Env → Prop} (hm : P.follows .mixedOrders = true) (hr : (regOk2 nt l && lexE l l.length 0 (Array.replicate l.length false)) = true) (h : pwD P l (Q .normal) l ⟨⟩ (keepC L ρ)) : AW P nt (.region id l.toArray true) Q ρ := by
  simp only [regOk2, Bool.and_eq_true] at hr
  exact aw_weaken (Le.keepC L ρ) (aw_draw hm hr.1.1 hr.2 (pwD_lex hr.1.1 hr.1.2 l _ (fun _ h => h) h))

theorem pwD_rw {all : List Oper} {k : Env → Prop} (hr : regOk nt all = true) (hgo : all.all gOk = true) : ∀ (l : List Oper) (ρ : Env), (∀ o ∈ l, o ∈ all) → pwDX P all k l ρ → RW P nt all.toArray k l ρ
  | [], ρ, _, h => h
  | o :: l, ρ, hm, h => by
    have hrec := fun ρ' => pwD_rw (k := k) hr hgo l ρ' fun o' ho => hm o' (by simp [ho])
    obtain ⟨i, hi⟩ := List.getElem?_of_mem (hm o (by simp))
    obtain ⟨h1, h2⟩ := regOk_get hr hi
    unfold pwDX at h
    unfold RW
    split at h
    · rename_i hg
      split at h
      · rename_i hp
        obtain ⟨d, k1, k2⟩ := prG_eff (all := all) hg h
        simp only [Bool.and_eq_true] at hp
        exact ow_effP (regOk_dst hr) h1 h2 hp.2 k1 (hrec _ k2)
      · exact (effG_ok hg h1 h2 h).mono hrec
    · rename_i j want hg
      have hgk := List.all_eq_true.1 hgo o (hm o (by simp))
      unfold gOk at hgk
      rw [hg] at hgk
      simp only [Option.isNone_some, Bool.false_or] at hgk
      obtain ⟨d, k1, k2⟩ := gdG_eff hg hgk h
      simp only [Bool.and_eq_true] at hgk
      exact ow_effP (regOk_dst hr) h1 h2 hgk.2 k1 (hrec _ k2)

/-- What an assignment has copied and its source owned, it owns. -/
def clG : List (Nat × Nat) → (Env → Prop) → Env → Prop
  | [], K, ρ => K ρ
  | (d, t) :: l, K, ρ => match ρ d, ρ t with
    | .own s n, .row e z xs => s = t ∧ n = xs.length ∧ clG l K (set (kill d (set (kill t ρ) t .any)) d (killD d (killD t (.row e z xs))))
    | .bp s off, .bx cs => s = t ∧ off = 0 ∧ clG l K (set (kill d (set (kill t ρ) t .any)) d (killD d (killD t (.bx cs))))
    | _, _ => clG l K ρ
theorem Sim.claims : ∀ (cl : List (Nat × Nat)) {K : Env → Prop} {ρ : Env} {w : World} {I : Nat → Prop} {A : Own} {a : Act}, Sim nt w I A ρ a → (cl.all fun p => decide (p.1 < nt) && decide (p.2 < nt) && p.1 != p.2) = true → clG cl K ρ →
    ∃ A' ρ', Sim nt w I A' ρ' a ∧ Ext w I A w I A' ∧ K ρ'
  | [], K, ρ, w, I, A, a, hs, _, h => ⟨A, ρ, hs, Ext.refl _ _ _, h⟩
  | (d, t) :: l, K, ρ, w, I, A, a, hs, hc, h => by
    simp only [List.all_cons, Bool.and_eq_true, decide_eq_true_eq, bne_iff_ne] at hc
    obtain ⟨⟨⟨h1, h2⟩, h3⟩, h4⟩ := hc
    unfold clG at h
    split at h
    · rename_i s n e z xs k1 k2
      obtain ⟨rfl, rfl, hk⟩ := h
      obtain ⟨A1, q1, q2⟩ := hs.claim h1 h2 (Ne.symm h3) (.inl ⟨e, z, xs, k1, k2⟩)
      rw [k2] at q1
      obtain ⟨A2, ρ2, r1, r2, r3⟩ := Sim.claims l q1 h4 hk
      exact ⟨A2, ρ2, r1, q2.trans r2, r3⟩
    · rename_i s off cs k1 k2
      obtain ⟨rfl, rfl, hk⟩ := h
      obtain ⟨A1, q1, q2⟩ := hs.claim h1 h2 (Ne.symm h3) (.inr ⟨cs, k1, k2⟩)
      rw [k2] at q1
      obtain ⟨A2, ρ2, r1, r2, r3⟩ := Sim.claims l q1 h4 hk
      exact ⟨A2, ρ2, r1, q2.trans r2, r3⟩
    · exact Sim.claims l hs h4 h
theorem aw_regDc (L : List Nat) (cl : List (Nat × Nat)) {id : Nat} {l : List Oper} {Q : Exit → Env → Prop} (hm : P.follows .mixedOrders = true)
    (hr : (regOk2 nt l && lexE l l.length 0 (Array.replicate l.length false) && cl.all fun p => decide (p.1 < nt) && decide (p.2 < nt) && p.1 != p.2) = true) (h : pwD P l (clG cl (Q .normal)) l ⟨⟩ (keepC L ρ)) : AW P nt (.region id l.toArray true) Q ρ := by
  rw [Bool.and_eq_true] at hr
  have h1 := aw_regD (Q := fun e ρ => match e with | .normal => clG cl (Q .normal) ρ | e => Q e ρ) (id := id) L hm hr.1 h
  intro I A a w hs hd
  refine wp_mono (h1 I A a w hs hd) ?_
  intro e a1 w1 ⟨I1, A1, ρ1, k1, k2, k3, k4⟩
  cases e with
  | normal =>
    obtain ⟨A2, ρ2, r1, r2, r3⟩ := Sim.claims cl k1 hr.2 k4
    exact ⟨I1, A2, ρ2, r1, k2, k3.trans r2, r3⟩
  | exit i => exact ⟨I1, A1, ρ1, k1, k2, k3, k4⟩
  | goto l => exact ⟨I1, A1, ρ1, k1, k2, k3, k4⟩
  | ret => exact ⟨I1, A1, ρ1, k1, k2, k3, k4⟩
  | panic ch => exact ⟨I1, A1, ρ1, k1, k2, k3, k4⟩
  | outgrown => exact ⟨I1, A1, ρ1, k1, k2, k3, k4⟩

/-- A plain region whose new data settles at once. -/
theorem aw_regPc (L : List Nat) (cl : List (Nat × Nat)) {id : Nat} {l : List Oper} {Q : Exit → Env → Prop}
    (hr : (regOk2 nt l && cl.all fun p => decide (p.1 < nt) && decide (p.2 < nt) && p.1 != p.2) = true) (h : pwD P l (clG cl (Q .normal)) l ⟨⟩ (keepC L ρ)) : AW P nt (.region id l.toArray false) Q ρ := by
  rw [Bool.and_eq_true] at hr
  have hr1 := hr.1
  simp only [regOk2, Bool.and_eq_true] at hr1
  have h1 : AW P nt (.region id l.toArray false) (fun e ρ => match e with | .normal => clG cl (Q .normal) ρ | e => Q e ρ) ρ := aw_weaken (Le.keepC L ρ) (aw_region (pwD_rw hr1.1 hr1.2 l _ (fun _ h => h) h))
  intro I A a w hs hd
  refine wp_mono (h1 I A a w hs hd) ?_
  intro e a1 w1 ⟨I1, A1, ρ1, k1, k2, k3, k4⟩
  cases e with
  | normal =>
    obtain ⟨A2, ρ2, r1, r2, r3⟩ := Sim.claims cl k1 hr.2 k4
    exact ⟨I1, A2, ρ2, r1, k2, k3.trans r2, r3⟩
  | exit i => exact ⟨I1, A1, ρ1, k1, k2, k3, k4⟩
  | goto l => exact ⟨I1, A1, ρ1, k1, k2, k3, k4⟩
  | ret => exact ⟨I1, A1, ρ1, k1, k2, k3, k4⟩
  | panic ch => exact ⟨I1, A1, ρ1, k1, k2, k3, k4⟩
  | outgrown => exact ⟨I1, A1, ρ1, k1, k2, k3, k4⟩

/-- A loop whose invariant speaks of the kept slots. -/
theorem aw_loopK (L : List Nat) {c : Code} {Q : Exit → Env → Prop} (J : Nat → Env → Prop) (n₀ : Nat) (h₀ : J n₀ (keepC L ρ))
    (round : ∀ n ρ, J n ρ → ∀ K : Env → Prop, (∀ m ρ', m < n → J m (keepC L ρ') → K ρ') → AW P nt c (thenQ K Q) ρ) : AW P nt (.loop c) Q ρ := by
  refine aw_weaken (Le.keepC L ρ) (aw_loop (fun n ρ => ∃ ρ', J n ρ' ∧ Le ρ ρ') n₀ ⟨_, h₀, Le.refl _⟩ ?_)
  rintro n ρ1 ⟨ρ2, hJ, hle⟩ K hK
  exact aw_weaken hle (round n ρ2 hJ K fun m ρ' hm hj => hK m ρ' hm ⟨_, hj, Le.keepC L ρ'⟩)

/-! ## Coming and going -/

theorem pcall_of_aw {f : FuncId} {fn : Func} {c : Code} {O : Env} {args : List DV} {r : DV} (hf : P.funcs[f]? = some fn) (hb : fn.body = some c)
    (hn : (decide (args.length ≤ fn.ntmps) && decide (fn.ntmps ≤ 100000) && fn.results.toList.all (fun v => match v with | .tmp t => decide (t < fn.ntmps) | .cell t _ => decide (t < fn.ntmps))) = true)
    (h : AW P fn.ntmps c (retQ P fn O fun O' r' => O' = O ∧ r' = r) (entry O args)) : PCall P O f args r := ecall_of_aw hf hb hn h

theorem out_of_hi {ρ O : Env} (h : hi ρ = outer O) (s : Nat) : ρ (s + 100000) = sh (O s) := by
  have := congrFun h (s + 100000)
  rw [outer_hi] at this
  unfold hi at this
  rw [if_neg (by omega)] at this
  exact this

theorem ret_pure {fn : Func} {O : Env} {r : DV} (h1 : hi ρ = outer O) (h2 : RetOk P ρ fn.results.toList r) : retQ P fn O (fun O' r' => O' = O ∧ r' = r) .ret ρ :=
  ⟨O, r, out_of_hi h1, fun _ => frOk.refl _, fun _ h => h, h2, rfl, rfl⟩

theorem ret_some {fn : Func} {O : Env} {R : DV → Prop} (r : DV) (h1 : hi ρ = outer O) (h2 : RetOk P ρ fn.results.toList r) (h3 : R r) : retQ P fn O (fun O' r' => O' = O ∧ R r') .ret ρ :=
  ⟨O, r, out_of_hi h1, fun _ => frOk.refl _, fun _ h => h, h2, rfl, h3⟩

theorem callD_of {f : FuncId} {l : List DV} {k : DV → Prop} {t : Tg k} (r : DV) (h : PCall P ρ f l r) (hr : isOwn r = false) (hk : k r) : CallD P ρ f l k t := ⟨r, hr, h, hk⟩
theorem callC_of {g : Bool} {pre : Prop} {f : FuncId} {l : List DV} {k : DV → Prop} (r : DV) (h : g = true → PCall P ρ f l r) {t : Tg k} (hp : g = true → pre) (hr : isPl r = true) (hk : k r) : CallC P ρ g pre f l k t := ⟨r, hr, fun hg => ⟨hp hg, h hg⟩, hk⟩
theorem callG_of {f : FuncId} {l : List DV} {k : Env → DV → Prop} {t : Tg k} (r : DV) (h : PCall P ρ f l r) (hk : k ρ r) : CallG P ρ f l k t := ⟨_, h, by rintro O' r' ⟨rfl, rfl⟩; exact hk⟩

/-! ## simp stays out of what is to come -/

@[congr] theorem AW_congr {c : Code} {Q : Exit → Env → Prop} {ρ ρ' : Env} (h : ρ = ρ') : AW P nt c Q ρ = AW P nt c Q ρ' := by rw [h]
@[congr] theorem CallD_congr {f : FuncId} {l l' : List DV} {k : DV → Prop} {t : Tg k} (h : l = l') : CallD P ρ f l k t = CallD P ρ f l' k t := by rw [h]
@[congr] theorem CallG_congr {f : FuncId} {l l' : List DV} {k : Env → DV → Prop} {t : Tg k} (h : l = l') : CallG P ρ f l k t = CallG P ρ f l' k t := by rw [h]
@[congr] theorem CallC_congr {g g' : Bool} {p p' : Prop} {f : FuncId} {l l' : List DV} {k : DV → Prop} {t : Tg k} (h : l = l') (hp : p = p') (hg : g = g') : CallC P ρ g p f l k t = CallC P ρ g' p' f l' k t := by rw [h, hp, hg]
@[congr] theorem pw_congr {all l : List Oper} {k : Env → Prop} {t : Tg (all, k, l)} {ρ ρ' : Env} (h : ρ = ρ') : pw P all k l t ρ = pw P all k l t ρ' := by rw [h]
@[congr] theorem pwD_congr {all l : List Oper} {k : Env → Prop} {t : Tg (all, k, l)} {ρ ρ' : Env} (h : ρ = ρ') : pwD P all k l t ρ = pwD P all k l t ρ' := by rw [h]

/-! ## The rules, one an operation -/

section rules
variable (all os : List Oper) (k K : Env → Prop) (d : Option Tmp) (op : Op) (ty : TypeId) (pos : String) (af : Array Edge) (j : Nat) (want : Bool)
theorem pw_nil : pw P all k [] ⟨⟩ ρ = k ρ := rfl
theorem pw_plain : pw P all k (⟨d, op, ty, pos, af, none⟩ :: os) ⟨⟩ ρ = effG P ρ op d (pw P all k os ⟨⟩) := rfl
theorem pw_guard : pw P all k (⟨d, op, ty, pos, af, some (j, want)⟩ :: os) ⟨⟩ ρ = gdG P ρ op d (gAt all ρ j want) (pw P all k os ⟨⟩) := rfl
theorem pwD_nil : pwD P all k [] ⟨⟩ ρ = k ρ := rfl
theorem pwD_plain : pwD P all k (⟨d, op, ty, pos, af, none⟩ :: os) ⟨⟩ ρ = (match pureOp op && d.isSome with
      | true => prG P ρ op d (pwD P all k os ⟨⟩)
      | false => effG P ρ op d (pwD P all k os ⟨⟩)) := rfl
theorem pwD_guard : pwD P all k (⟨d, op, ty, pos, af, some (j, want)⟩ :: os) ⟨⟩ ρ = gdG P ρ op d (gAt all ρ j want) (pwD P all k os ⟨⟩) := rfl
end rules

section rules
variable (K : Env → Prop) (d : Nat) (dd : Option Nat) (x y : Operand) (t t' t'' : TypeId) (b : BinOp) (u : UnOp) (f i n : Nat) (a b' c : Operand)
theorem eff_move : effG P ρ (.move x) dd K = (gd (ev ρ x) ∧ K (putD ρ dd (un (ev ρ x)))) := rfl
theorem eff_asg : effG P ρ (.assign (.tmp n)) (some d) K = asgG ρ d n (ρ n) K := rfl
theorem eff_asgc (v : Value) : effG P ρ (.assign (.const v)) dd K = (gd (ev ρ (.const v)) ∧ K (putD ρ dd (un (ev ρ (.const v))))) := rfl
theorem eff_asgf : effG P ρ (.assign (.func f)) dd K = (gd (ev ρ (.func f)) ∧ K (putD ρ dd (un (ev ρ (.func f))))) := rfl
theorem eff_pick : effG P ρ (.pick c a b') dd K = ((pickP (ev ρ c) (ev ρ a) (ev ρ b')).1 ∧ K (putD ρ dd (pickP (ev ρ c) (ev ρ a) (ev ρ b')).2)) := rfl
theorem eff_load : effG P ρ (.load t x) dd K = ((gd (ev ρ x) ∧ (loadP ρ (ldOf P t) (un (ev ρ x))).1) ∧ K (putD ρ dd (loadP ρ (ldOf P t) (un (ev ρ x))).2)) := rfl
theorem eff_nil : effG P ρ (.nilCheck x) dd K = ((gd (ev ρ x) ∧ (nilP (un (ev ρ x))).1) ∧ K (putD ρ dd (nilP (un (ev ρ x))).2)) := rfl
theorem eff_bin : effG P ρ (.binOp b t x y t') dd K = binG P ρ b t x y dd K := rfl
theorem eff_un : effG P ρ (.unOp u t x) dd K = ((gd (ev ρ x) ∧ (unP u (un (ev ρ x))).1) ∧ K (putD ρ dd (unP u (un (ev ρ x))).2)) := rfl
theorem eff_conv : effG P ρ (.convert t t' x) dd K = (((gd (ev ρ x) ∧ (P.underlying t).isSome = true) ∧ (convP (ikOf P t') (un (ev ρ x))).1) ∧ K (putD ρ dd (convP (ikOf P t') (un (ev ρ x))).2)) := rfl
theorem eff_fld : effG P ρ (.fieldAddr t x f) dd K = ((gd (ev ρ x) ∧ (fldP (fldOf P t f) (un (ev ρ x))).1) ∧ K (putD ρ dd (fldP (fldOf P t f) (un (ev ρ x))).2)) := rfl
theorem eff_idx : effG P ρ (.indexAddr t x y) dd K = (((gd (ev ρ x) ∧ gd (ev ρ y)) ∧ (idxP ρ (elOf P t) (un (ev ρ x)) (un (ev ρ y))).1) ∧ K (putD ρ dd (idxP ρ (elOf P t) (un (ev ρ x)) (un (ev ρ y))).2)) := rfl
theorem eff_at : effG P ρ (.index t x y) dd K = (((gd (ev ρ x) ∧ gd (ev ρ y)) ∧ (atP (elOf P t) (ldOf P t) (tk P t) (un (ev ρ x)) (un (ev ρ y))).1) ∧ K (putD ρ dd (atP (elOf P t) (ldOf P t) (tk P t) (un (ev ρ x)) (un (ev ρ y))).2)) := rfl
theorem eff_sub (lo h' : Option Operand) : effG P ρ (.slice t x lo h' none) dd K = (((gd (ev ρ x) ∧ (∀ y ∈ lo, gd (ev ρ y)) ∧ ∀ y ∈ h', gd (ev ρ y)) ∧ (subP ρ (elOf P t) (tk P t) (un (ev ρ x)) (lo.map fun y => un (ev ρ y)) (h'.map fun y => un (ev ρ y))).1) ∧
      K (putD ρ dd (subP ρ (elOf P t) (tk P t) (un (ev ρ x)) (lo.map fun y => un (ev ρ y)) (h'.map fun y => un (ev ρ y))).2)) := rfl
theorem eff_ext : effG P ρ (.extract x i) dd K = ((gd (ev ρ x) ∧ (extP (un (ev ρ x)) i).1) ∧ K (putD ρ dd (extP (un (ev ρ x)) i).2)) := rfl
theorem eff_fn (fn : Fn) (l m : Array Operand) : effG P ρ (.makeFunc fn l m) dd K = ((fnP ρ fn l.toList m.toList).1 ∧ K (putD ρ dd (fnP ρ fn l.toList m.toList).2)) := rfl
theorem eff_box : effG P ρ (.box t x) (some d) K = boxG ρ d (ev ρ x) K := rfl
theorem eff_alloc : effG P ρ (.alloc t) (some d) K = allocG ρ d (zcOf P t) K := rfl
theorem eff_store : effG P ρ (.store t x y) none K = stG ρ (szOf P t) (ev ρ x) (ev ρ y) K := rfl
theorem eff_mk : effG P ρ (.makeSlice t x y) (some d) K = mkG P ρ d (slE P t) (ev ρ x) (ev ρ y) K := rfl
theorem eff_lit (parts : Array (Nat × Operand)) : effG P ρ (.buildSlice t n parts) (some d) K = litG P ρ d (slE P t) n parts.toList K := rfl
theorem eff_lk : effG P ρ (.lookup t x y false) dd K = lkG ρ dd (mpOf P t) (ev ρ x) (ev ρ y) K := rfl
theorem eff_up : effG P ρ (.mapUpdate t x y c) none K = upG ρ (mpOf P t) (ev ρ x) (ev ρ y) (ev ρ c) K := rfl
theorem eff_mkm : effG P ρ (.makeMap t none) (some d) K = K (set (kill d ρ) d (.mo [])) := rfl
theorem eff_len : effG P ρ (.call ⟨.builtin .len, #[x], #[t]⟩) dd K = ((gd (ev ρ x) ∧ (lenP (tk P t) (un (ev ρ x))).1) ∧ K (putD ρ dd (lenP (tk P t) (un (ev ρ x))).2)) := rfl
theorem eff_max : effG P ρ (.call ⟨.builtin .max, #[x, y], #[t, t']⟩) dd K = (((gd (ev ρ x) ∧ gd (ev ρ y)) ∧ (maxI [un (ev ρ x), un (ev ρ y)]).1) ∧ K (putD ρ dd (maxI [un (ev ρ x), un (ev ρ y)]).2)) := rfl
theorem eff_min : effG P ρ (.call ⟨.builtin .min, #[x, y], #[t, t']⟩) dd K = (((gd (ev ρ x) ∧ gd (ev ρ y)) ∧ (minI [un (ev ρ x), un (ev ρ y)]).1) ∧ K (putD ρ dd (minI [un (ev ρ x), un (ev ρ y)]).2)) := rfl
theorem eff_app : effG P ρ (.call ⟨.builtin .append, #[x, y], #[t, t']⟩) (some d) K = (t = t' ∧ appG P ρ d (slE P t) (ev ρ x) (ev ρ y) K) := rfl
theorem eff_call (args : Array Operand) (ts : Array TypeId) : effG P ρ (.call ⟨.value x, args, ts⟩) (some d) K =
    (gd (ev ρ x) ∧ gdL ρ args.toList ∧ bodyOk P (callee (un (ev ρ x)) (evL ρ args.toList)) ∧ calG P ρ d (callee (un (ev ρ x)) (evL ρ args.toList)) K) := rfl

theorem pr_call (args : Array Operand) (ts : Array TypeId) : prG P ρ (.call ⟨.value x, args, ts⟩) dd K = (dstFree ρ dd ∧ gd (ev ρ x) ∧ gdL ρ args.toList ∧ pcG P ρ dd (callee (un (ev ρ x)) (evL ρ args.toList)) K) := rfl
theorem pr_lit (parts : Array (Nat × Operand)) : prG P ρ (.buildSlice t n parts) dd K = (dstFree ρ dd ∧ (litP P ρ (slE P t) n parts.toList).1 ∧ isOwn (litP P ρ (slE P t) n parts.toList).2 = false ∧ K (putD ρ dd (litP P ρ (slE P t) n parts.toList).2)) := rfl
theorem gd_call (g : Bool) (args : Array Operand) (ts : Array TypeId) : gdG P ρ (.call ⟨.value x, args, ts⟩) dd (some g) K = (dstFree ρ dd ∧ gcG P ρ dd g (ev ρ x) (gdL ρ args.toList) (callee (un (ev ρ x)) (evL ρ args.toList)) K) := rfl
end rules

/-- Other operations that only give a value, in a region that draws and under a guard. -/
theorem pr_other {op : Op} {dd : Option Nat} {K : Env → Prop} (h : ∀ c, op ≠ .call c) : prG P ρ op dd K = (dstFree ρ dd ∧ (opQ P ρ op).1 ∧ isOwn (opQ P ρ op).2 = false ∧ K (putD ρ dd (opQ P ρ op).2)) := by
  cases op <;> first | rfl | exact absurd rfl (h _)
theorem gd_other {op : Op} {dd : Option Nat} {g : Bool} {K : Env → Prop} (h : ∀ c, op ≠ .call c) : gdG P ρ op dd (some g) K = (dstFree ρ dd ∧ (g = true → (opQ P ρ op).1) ∧ isPl (opQ P ρ op).2 = true ∧ K (putD ρ dd (.cond g (opQ P ρ op).2))) := by
  cases op <;> first | rfl | exact absurd rfl (h _)
theorem pr_blt {b : Builtin} {args : Array Operand} {ts : Array TypeId} {dd : Option Nat} {K : Env → Prop} : prG P ρ (.call ⟨.builtin b, args, ts⟩) dd K = (dstFree ρ dd ∧ (bltP P ρ b args.toList ts.toList).1 ∧ isOwn (bltP P ρ b args.toList ts.toList).2 = false ∧ K (putD ρ dd (bltP P ρ b args.toList ts.toList).2)) := rfl
theorem gd_blt {b : Builtin} {args : Array Operand} {ts : Array TypeId} {dd : Option Nat} {g : Bool} {K : Env → Prop} : gdG P ρ (.call ⟨.builtin b, args, ts⟩) dd (some g) K =
    (dstFree ρ dd ∧ (g = true → (bltP P ρ b args.toList ts.toList).1) ∧ isPl (bltP P ρ b args.toList ts.toList).2 = true ∧ K (putD ρ dd (.cond g (bltP P ρ b args.toList ts.toList).2))) := rfl

section rules
variable (x y a b' c : Operand) (t t' : TypeId) (b : BinOp) (u : UnOp) (f i : Nat)
theorem opQ_move : opQ P ρ (.move x) = (gd (ev ρ x), un (ev ρ x)) := rfl
theorem opQ_asg : opQ P ρ (.assign x) = (gd (ev ρ x), un (ev ρ x)) := rfl
theorem opQ_pick : opQ P ρ (.pick c a b') = pickP (ev ρ c) (ev ρ a) (ev ρ b') := rfl
theorem opQ_load : opQ P ρ (.load t x) = (gd (ev ρ x) ∧ (loadP ρ (ldOf P t) (un (ev ρ x))).1, (loadP ρ (ldOf P t) (un (ev ρ x))).2) := rfl
theorem opQ_nil : opQ P ρ (.nilCheck x) = (gd (ev ρ x) ∧ (nilP (un (ev ρ x))).1, (nilP (un (ev ρ x))).2) := rfl
theorem opQ_bin : opQ P ρ (.binOp b t x y t') = ((gd (ev ρ x) ∧ gd (ev ρ y)) ∧ (binP (esOf P t) (tk P t) b (un (ev ρ x)) (un (ev ρ y))).1, (binP (esOf P t) (tk P t) b (un (ev ρ x)) (un (ev ρ y))).2) := rfl
theorem opQ_un : opQ P ρ (.unOp u t x) = (gd (ev ρ x) ∧ (unP u (un (ev ρ x))).1, (unP u (un (ev ρ x))).2) := rfl
theorem opQ_conv : opQ P ρ (.convert t t' x) = ((gd (ev ρ x) ∧ (P.underlying t).isSome = true) ∧ (convP (ikOf P t') (un (ev ρ x))).1, (convP (ikOf P t') (un (ev ρ x))).2) := rfl
theorem opQ_fld : opQ P ρ (.fieldAddr t x f) = (gd (ev ρ x) ∧ (fldP (fldOf P t f) (un (ev ρ x))).1, (fldP (fldOf P t f) (un (ev ρ x))).2) := rfl
theorem opQ_idx : opQ P ρ (.indexAddr t x y) = ((gd (ev ρ x) ∧ gd (ev ρ y)) ∧ (idxP ρ (elOf P t) (un (ev ρ x)) (un (ev ρ y))).1, (idxP ρ (elOf P t) (un (ev ρ x)) (un (ev ρ y))).2) := rfl
theorem opQ_at : opQ P ρ (.index t x y) = ((gd (ev ρ x) ∧ gd (ev ρ y)) ∧ (atP (elOf P t) (ldOf P t) (tk P t) (un (ev ρ x)) (un (ev ρ y))).1, (atP (elOf P t) (ldOf P t) (tk P t) (un (ev ρ x)) (un (ev ρ y))).2) := rfl
theorem opQ_sub (lo h' : Option Operand) : opQ P ρ (.slice t x lo h' none) = ((gd (ev ρ x) ∧ (∀ y ∈ lo, gd (ev ρ y)) ∧ ∀ y ∈ h', gd (ev ρ y)) ∧ (subP ρ (elOf P t) (tk P t) (un (ev ρ x)) (lo.map fun y => un (ev ρ y)) (h'.map fun y => un (ev ρ y))).1,
      (subP ρ (elOf P t) (tk P t) (un (ev ρ x)) (lo.map fun y => un (ev ρ y)) (h'.map fun y => un (ev ρ y))).2) := rfl
theorem opQ_ext : opQ P ρ (.extract x i) = (gd (ev ρ x) ∧ (extP (un (ev ρ x)) i).1, (extP (un (ev ρ x)) i).2) := rfl
theorem opQ_fn (fn : Fn) (l m : Array Operand) : opQ P ρ (.makeFunc fn l m) = fnP ρ fn l.toList m.toList := rfl
end rules

section rules
variable (x y a b' c : Operand) (t t' : TypeId) (b : BinOp) (u : UnOp) (f i : Nat) (lo h' : Option Operand) (fn : Fn) (l m : Array Operand) (dd : Option Nat) (g : Bool) (K : Env → Prop)
theorem pr_move : prG P ρ (.move x) dd K = (dstFree ρ dd ∧ (opQ P ρ (.move x)).1 ∧ isOwn (opQ P ρ (.move x)).2 = false ∧ K (putD ρ dd (opQ P ρ (.move x)).2)) := rfl
theorem gd_move : gdG P ρ (.move x) dd (some g) K = (dstFree ρ dd ∧ (g = true → (opQ P ρ (.move x)).1) ∧ isPl (opQ P ρ (.move x)).2 = true ∧ K (putD ρ dd (.cond g (opQ P ρ (.move x)).2))) := rfl
theorem pr_asg : prG P ρ (.assign x) dd K = (dstFree ρ dd ∧ (opQ P ρ (.assign x)).1 ∧ isOwn (opQ P ρ (.assign x)).2 = false ∧ K (putD ρ dd (opQ P ρ (.assign x)).2)) := rfl
theorem gd_asg : gdG P ρ (.assign x) dd (some g) K = (dstFree ρ dd ∧ (g = true → (opQ P ρ (.assign x)).1) ∧ isPl (opQ P ρ (.assign x)).2 = true ∧ K (putD ρ dd (.cond g (opQ P ρ (.assign x)).2))) := rfl
theorem pr_pick : prG P ρ (.pick c a b') dd K = (dstFree ρ dd ∧ (opQ P ρ (.pick c a b')).1 ∧ isOwn (opQ P ρ (.pick c a b')).2 = false ∧ K (putD ρ dd (opQ P ρ (.pick c a b')).2)) := rfl
theorem gd_pick : gdG P ρ (.pick c a b') dd (some g) K = (dstFree ρ dd ∧ (g = true → (opQ P ρ (.pick c a b')).1) ∧ isPl (opQ P ρ (.pick c a b')).2 = true ∧ K (putD ρ dd (.cond g (opQ P ρ (.pick c a b')).2))) := rfl
theorem pr_load : prG P ρ (.load t x) dd K = (dstFree ρ dd ∧ (opQ P ρ (.load t x)).1 ∧ isOwn (opQ P ρ (.load t x)).2 = false ∧ K (putD ρ dd (opQ P ρ (.load t x)).2)) := rfl
theorem gd_load : gdG P ρ (.load t x) dd (some g) K = (dstFree ρ dd ∧ (g = true → (opQ P ρ (.load t x)).1) ∧ isPl (opQ P ρ (.load t x)).2 = true ∧ K (putD ρ dd (.cond g (opQ P ρ (.load t x)).2))) := rfl
theorem pr_nil : prG P ρ (.nilCheck x) dd K = (dstFree ρ dd ∧ (opQ P ρ (.nilCheck x)).1 ∧ isOwn (opQ P ρ (.nilCheck x)).2 = false ∧ K (putD ρ dd (opQ P ρ (.nilCheck x)).2)) := rfl
theorem gd_nil : gdG P ρ (.nilCheck x) dd (some g) K = (dstFree ρ dd ∧ (g = true → (opQ P ρ (.nilCheck x)).1) ∧ isPl (opQ P ρ (.nilCheck x)).2 = true ∧ K (putD ρ dd (.cond g (opQ P ρ (.nilCheck x)).2))) := rfl
theorem pr_bin : prG P ρ (.binOp b t x y t') dd K = (dstFree ρ dd ∧ (opQ P ρ (.binOp b t x y t')).1 ∧ isOwn (opQ P ρ (.binOp b t x y t')).2 = false ∧ K (putD ρ dd (opQ P ρ (.binOp b t x y t')).2)) := rfl
theorem gd_bin : gdG P ρ (.binOp b t x y t') dd (some g) K = (dstFree ρ dd ∧ (g = true → (opQ P ρ (.binOp b t x y t')).1) ∧ isPl (opQ P ρ (.binOp b t x y t')).2 = true ∧ K (putD ρ dd (.cond g (opQ P ρ (.binOp b t x y t')).2))) := rfl
theorem pr_un : prG P ρ (.unOp u t x) dd K = (dstFree ρ dd ∧ (opQ P ρ (.unOp u t x)).1 ∧ isOwn (opQ P ρ (.unOp u t x)).2 = false ∧ K (putD ρ dd (opQ P ρ (.unOp u t x)).2)) := rfl
theorem gd_un : gdG P ρ (.unOp u t x) dd (some g) K = (dstFree ρ dd ∧ (g = true → (opQ P ρ (.unOp u t x)).1) ∧ isPl (opQ P ρ (.unOp u t x)).2 = true ∧ K (putD ρ dd (.cond g (opQ P ρ (.unOp u t x)).2))) := rfl
theorem pr_conv : prG P ρ (.convert t t' x) dd K = (dstFree ρ dd ∧ (opQ P ρ (.convert t t' x)).1 ∧ isOwn (opQ P ρ (.convert t t' x)).2 = false ∧ K (putD ρ dd (opQ P ρ (.convert t t' x)).2)) := rfl
theorem gd_conv : gdG P ρ (.convert t t' x) dd (some g) K = (dstFree ρ dd ∧ (g = true → (opQ P ρ (.convert t t' x)).1) ∧ isPl (opQ P ρ (.convert t t' x)).2 = true ∧ K (putD ρ dd (.cond g (opQ P ρ (.convert t t' x)).2))) := rfl
theorem pr_fld : prG P ρ (.fieldAddr t x f) dd K = (dstFree ρ dd ∧ (opQ P ρ (.fieldAddr t x f)).1 ∧ isOwn (opQ P ρ (.fieldAddr t x f)).2 = false ∧ K (putD ρ dd (opQ P ρ (.fieldAddr t x f)).2)) := rfl
theorem gd_fld : gdG P ρ (.fieldAddr t x f) dd (some g) K = (dstFree ρ dd ∧ (g = true → (opQ P ρ (.fieldAddr t x f)).1) ∧ isPl (opQ P ρ (.fieldAddr t x f)).2 = true ∧ K (putD ρ dd (.cond g (opQ P ρ (.fieldAddr t x f)).2))) := rfl
theorem pr_idx : prG P ρ (.indexAddr t x y) dd K = (dstFree ρ dd ∧ (opQ P ρ (.indexAddr t x y)).1 ∧ isOwn (opQ P ρ (.indexAddr t x y)).2 = false ∧ K (putD ρ dd (opQ P ρ (.indexAddr t x y)).2)) := rfl
theorem gd_idx : gdG P ρ (.indexAddr t x y) dd (some g) K = (dstFree ρ dd ∧ (g = true → (opQ P ρ (.indexAddr t x y)).1) ∧ isPl (opQ P ρ (.indexAddr t x y)).2 = true ∧ K (putD ρ dd (.cond g (opQ P ρ (.indexAddr t x y)).2))) := rfl
theorem pr_at : prG P ρ (.index t x y) dd K = (dstFree ρ dd ∧ (opQ P ρ (.index t x y)).1 ∧ isOwn (opQ P ρ (.index t x y)).2 = false ∧ K (putD ρ dd (opQ P ρ (.index t x y)).2)) := rfl
theorem gd_at : gdG P ρ (.index t x y) dd (some g) K = (dstFree ρ dd ∧ (g = true → (opQ P ρ (.index t x y)).1) ∧ isPl (opQ P ρ (.index t x y)).2 = true ∧ K (putD ρ dd (.cond g (opQ P ρ (.index t x y)).2))) := rfl
theorem pr_sub : prG P ρ (.slice t x lo h' none) dd K = (dstFree ρ dd ∧ (opQ P ρ (.slice t x lo h' none)).1 ∧ isOwn (opQ P ρ (.slice t x lo h' none)).2 = false ∧ K (putD ρ dd (opQ P ρ (.slice t x lo h' none)).2)) := rfl
theorem gd_sub : gdG P ρ (.slice t x lo h' none) dd (some g) K = (dstFree ρ dd ∧ (g = true → (opQ P ρ (.slice t x lo h' none)).1) ∧ isPl (opQ P ρ (.slice t x lo h' none)).2 = true ∧ K (putD ρ dd (.cond g (opQ P ρ (.slice t x lo h' none)).2))) := rfl
theorem pr_ext : prG P ρ (.extract x i) dd K = (dstFree ρ dd ∧ (opQ P ρ (.extract x i)).1 ∧ isOwn (opQ P ρ (.extract x i)).2 = false ∧ K (putD ρ dd (opQ P ρ (.extract x i)).2)) := rfl
theorem gd_ext : gdG P ρ (.extract x i) dd (some g) K = (dstFree ρ dd ∧ (g = true → (opQ P ρ (.extract x i)).1) ∧ isPl (opQ P ρ (.extract x i)).2 = true ∧ K (putD ρ dd (.cond g (opQ P ρ (.extract x i)).2))) := rfl
theorem pr_fn : prG P ρ (.makeFunc fn l m) dd K = (dstFree ρ dd ∧ (opQ P ρ (.makeFunc fn l m)).1 ∧ isOwn (opQ P ρ (.makeFunc fn l m)).2 = false ∧ K (putD ρ dd (opQ P ρ (.makeFunc fn l m)).2)) := rfl
theorem gd_fn : gdG P ρ (.makeFunc fn l m) dd (some g) K = (dstFree ρ dd ∧ (g = true → (opQ P ρ (.makeFunc fn l m)).1) ∧ isPl (opQ P ρ (.makeFunc fn l m)).2 = true ∧ K (putD ρ dd (.cond g (opQ P ρ (.makeFunc fn l m)).2))) := rfl
theorem pr_build (parts : Array (Nat × Operand)) : prG P ρ (.build t parts) dd K = (dstFree ρ dd ∧ (bldP P ρ t parts.toList).1 ∧ isOwn (bldP P ρ t parts.toList).2 = false ∧ K (putD ρ dd (bldP P ρ t parts.toList).2)) := rfl
theorem gd_build (parts : Array (Nat × Operand)) : gdG P ρ (.build t parts) dd (some g) K = (dstFree ρ dd ∧ (g = true → (bldP P ρ t parts.toList).1) ∧ isPl (bldP P ρ t parts.toList).2 = true ∧ K (putD ρ dd (.cond g (bldP P ρ t parts.toList).2))) := rfl
theorem eff_build (parts : Array (Nat × Operand)) : effG P ρ (.build t parts) dd K = ((bldP P ρ t parts.toList).1 ∧ K (putD ρ dd (bldP P ρ t parts.toList).2)) := rfl
theorem bldGo_at (i : Nat) (x : Operand) (l : List (Nat × Operand)) (cs : List DV) : bldGo P ρ t ((i, x) :: l) cs = (match plOf P t i with
    | some (off, s) => (gd (ev ρ x) ∧ (cellsD (un (ev ρ x))).length = s ∧ 0 < s ∧ off + s ≤ cs.length ∧ (bldGo P ρ t l (spl off (cellsD (un (ev ρ x))) cs)).1, (bldGo P ρ t l (spl off (cellsD (un (ev ρ x))) cs)).2)
    | none => (False, cs)) := rfl
theorem pr_mk : prG P ρ (.makeSlice t x y) dd K = (dstFree ρ dd ∧ (mkP P (slE P t) (ev ρ x) (ev ρ y)).1 ∧ isOwn (mkP P (slE P t) (ev ρ x) (ev ρ y)).2 = false ∧ K (putD ρ dd (mkP P (slE P t) (ev ρ x) (ev ρ y)).2)) := rfl
theorem gd_mk : gdG P ρ (.makeSlice t x y) dd (some g) K = (dstFree ρ dd ∧ (g = true → (mkP P (slE P t) (ev ρ x) (ev ρ y)).1) ∧ isPl (mkP P (slE P t) (ev ρ x) (ev ρ y)).2 = true ∧ K (putD ρ dd (.cond g (mkP P (slE P t) (ev ρ x) (ev ρ y)).2))) := rfl
theorem gd_lit (n : Nat) (parts : Array (Nat × Operand)) : gdG P ρ (.buildSlice t n parts) dd (some g) K = (dstFree ρ dd ∧ (g = true → (litP P ρ (slE P t) n parts.toList).1) ∧ isPl (litP P ρ (slE P t) n parts.toList).2 = true ∧ K (putD ρ dd (.cond g (litP P ρ (slE P t) n parts.toList).2))) := rfl
end rules

theorem entry_eq (O : Env) (l : List DV) : entry O l = entryGo 0 l (outer O) := rfl
theorem thenQ_normal (K : Env → Prop) (Q : Exit → Env → Prop) (ρ : Env) : thenQ K Q .normal ρ = K ρ := rfl
theorem thenQ_ret (K : Env → Prop) (Q : Exit → Env → Prop) (ρ : Env) : thenQ K Q .ret ρ = Q .ret ρ := rfl
theorem thenQ_exit (K : Env → Prop) (Q : Exit → Env → Prop) (i : Nat) (ρ : Env) : thenQ K Q (.exit i) ρ = Q (.exit i) ρ := rfl
theorem blockQ_normal (i : Nat) (Q : Exit → Env → Prop) (ρ : Env) : blockQ i Q .normal ρ = Q .normal ρ := rfl
theorem blockQ_ret (i : Nat) (Q : Exit → Env → Prop) (ρ : Env) : blockQ i Q .ret ρ = Q .ret ρ := rfl
theorem blockQ_exit (i j : Nat) (Q : Exit → Env → Prop) (ρ : Env) : blockQ i Q (.exit j) ρ = if j = i then Q .normal ρ else Q (.exit j) ρ := rfl

end

attribute [go_sem] eff_lk eff_up eff_mkm lkG upG pw_nil pw_plain pw_guard pwD_nil pwD_plain pwD_guard eff_move eff_asg eff_asgc eff_asgf eff_pick eff_load eff_nil eff_bin eff_un eff_conv eff_fld eff_idx eff_at eff_sub eff_ext eff_fn eff_box eff_alloc eff_store
  eff_mk eff_lit eff_len eff_max eff_min eff_app eff_call pr_call pr_lit gd_call pr_move gd_move pr_asg gd_asg pr_pick gd_pick pr_load gd_load pr_nil gd_nil pr_bin gd_bin pr_un gd_un pr_conv gd_conv pr_fld gd_fld pr_idx gd_idx pr_at gd_at pr_sub gd_sub pr_ext gd_ext pr_fn gd_fn gd_lit pr_mk gd_mk mkP pr_build gd_build eff_build bldGo_nil bldGo_at bldP pr_blt gd_blt opQ_move opQ_asg opQ_pick opQ_load opQ_nil opQ_bin opQ_un opQ_conv opQ_fld opQ_idx opQ_at opQ_sub opQ_ext opQ_fn
  pureOp ev_tmp ev_const ev_func ev_global cv rd un gd set_apply putD_some putD_none kill_apply killS killD allK allKL isOwn isPl dstFree clG asgG boxG allocG stG stB stR mkG litG appG appR srcOk srcL bsOk bsL cellsD spl gAt gW
  binG nilG isNilC isEql binP binA eqL binI binS binB unP lenP pickP pickR cut loadB loadR loadP fldP idxP atP subP convP extP nilP maxI minI bltP fnP gdL evL callee bodyOk calG pcG gcG litP putR keepC_nil keepC_cons hi_set hi_kill hi_outer hi_hi outer_app
  entry_eq entryGo_nil entryGo_cons ren renL thenQ_normal thenQ_ret thenQ_exit blockQ_normal blockQ_ret blockQ_exit
  true_and and_true imp_self implies_true forall_const List.getElem?_cons_succ List.getElem?_cons_zero List.getElem?_nil List.getD_cons_zero List.getD_cons_succ List.map_cons List.map_nil List.length_cons List.length_nil
  List.drop_zero List.drop_succ_cons List.take_zero List.take_succ_cons List.set_cons_zero List.set_cons_succ List.append_nil List.nil_append List.cons_append List.headD_cons Option.map_some Option.map_none Option.isSome_some Option.isSome_none
  Bool.and_true Bool.true_and Bool.and_false Bool.false_and beq_self_eq_true Bool.cond_true Bool.cond_false Nat.add_zero Nat.zero_add Option.mem_def Option.some.injEq forall_eq' List.not_mem_nil litP List.mem_cons false_implies
end Go.Sg
