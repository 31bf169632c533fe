/- Contracts of functions over abstract values; entering a function, and what a caller gets. -/
import Derived.Test.YtnpokifaejcbeaaGreatDoorSgMem
set_option linter.unusedVariables false
set_option linter.unusedSimpArgs false
namespace Go.Sg
open Go.RowKit

abbrev sh : DV → DV := ren (· + 100000)

def isOwn : DV → Bool
  | .bx _ => true
  | .row _ _ _ => true
  | .mo _ => true
  | _ => false

/-- How a key's content may turn while a callee runs. -/
def frOk (d d' : DV) : Prop :=
  match d, d' with
  | .bx cs, .bx cs' => cs.length = cs'.length
  | .row e z xs, .row e' z' xs' => e = e' ∧ z = z' ∧ xs.length = xs'.length
  | d, d' => d' = d

theorem frOk.refl (d : DV) : frOk d d := by cases d <;> simp [frOk]

/-- What comes back: a value; or memory of its own, new. -/
def ResRel (w w' : World) (I' : Nat → Prop) (A : Own) (r : DV) (x : Value) : Prop :=
  match r with
  | .bx cs => ∃ g us et, x = .pointer (some ⟨g, 0, none⟩) ∧ w'.heap[g]? = some (.cells us et (0, 0)) ∧ us.size = cs.length ∧ (∀ u ∈ us.toList, u.oneCell' = true) ∧
      (∀ (j : Nat) (d : DV) (u : Value), cs[j]? = some d → us[j]? = some u → Rel w' I' A d u) ∧ w.heap.size ≤ g ∧ g < w'.heap.size ∧ ¬ I' g
  | .row e z xs => ∃ B c, (∃ b, BaseOk B b ∧ x = .slice b xs.length c) ∧ RowRel w' I' e z xs B c ∧ ∀ g, B = some g → w.heap.size ≤ g ∧ g < w'.heap.size ∧ ¬ I' g
  | r => Rel w' I' A r x

/-- The contract of a call, said of the caller's environment. -/
def ECall (P : Program) (O : Env) (f : FuncId) (args : List DV) (R : Env → DV → Prop) : Prop :=
  ∀ (w : World) (I : Nat → Prop) (A : Own) (vals : Array Value), OSim w I A O → vals.size = args.length → (∀ (j : Nat) (d : DV) (u : Value), args[j]? = some d → vals[j]? = some u → Rel w I A d u) →
    Calls P f vals w fun e w' => ∃ v I' O' r, e = .returned v ∧ OSim w' I' A O' ∧ (∀ s, frOk (O s) (O' s)) ∧ (∀ s, isOut (O s) → isOut (O' s)) ∧ Ext w I A w' I' A ∧ ResRel w w' I' A r v ∧ R O' r

/-- A call that leaves the caller's own memory alone. -/
def PCall (P : Program) (O : Env) (f : FuncId) (args : List DV) (r : DV) : Prop := ECall P O f args fun O' r' => O' = O ∧ r' = r

theorem ECall.mono {P : Program} {O : Env} {f : FuncId} {args : List DV} {R R' : Env → DV → Prop} (h : ECall P O f args R) (hr : ∀ O' r, R O' r → R' O' r) : ECall P O f args R' :=
  fun w I A vals h1 h2 h3 => (h w I A vals h1 h2 h3).mono fun _ _ ⟨v, I', O', r, k1, k2, k3, k4, k5, k6, k7⟩ => ⟨v, I', O', r, k1, k2, k3, k4, k5, k6, hr _ _ k7⟩

/-! ## Entering -/

def entryGo (k : Nat) : List DV → Env → Env
  | [], ρ => ρ
  | d :: l, ρ => entryGo (k + 1) l (set ρ k (sh d))
def entry (O : Env) (args : List DV) : Env := entryGo 0 args (outer O)
theorem entryGo_nil (k : Nat) (ρ : Env) : entryGo k [] ρ = ρ := rfl
theorem entryGo_cons (k : Nat) (d : DV) (l : List DV) (ρ : Env) : entryGo k (d :: l) ρ = entryGo (k + 1) l (set ρ k (sh d)) := rfl

theorem entryGo_apply (l : List DV) : ∀ (k : Nat) (ρ : Env) (i : Nat), entryGo k l ρ i = if k ≤ i ∧ i < k + l.length then sh (l.getD (i - k) .any) else ρ i := by
  induction l with
  | nil => intro k ρ i; rw [entryGo_nil, if_neg (by simp)]
  | cons d l ih =>
    intro k ρ i
    rw [entryGo_cons, ih, set_apply]
    by_cases h1 : i = k
    · subst h1
      rw [if_neg (by omega), if_pos rfl, if_pos (by simp)]
      simp
    · by_cases h2 : k + 1 ≤ i ∧ i < k + 1 + l.length
      · rw [if_pos h2, if_pos (by simp; omega)]
        obtain ⟨m, rfl⟩ : ∃ m, i = k + 1 + m := ⟨i - (k + 1), by omega⟩
        rw [show k + 1 + m - (k + 1) = m from by omega, show k + 1 + m - k = m + 1 from by omega]
        simp
      · rw [if_neg h2, if_neg h1, if_neg (by simp; omega)]

theorem entry_apply (O : Env) (l : List DV) (i : Nat) : entry O l i = if i < l.length then sh (l.getD i .any) else outer O i := by
  unfold entry
  rw [entryGo_apply]
  simp

/-- Owners seen from within the callee. -/
def ownIn (A : Own) : Own := fun s => if s < 100000 then none else A (s - 100000)
theorem ownIn_hi (A : Own) (s : Nat) : ownIn A (s + 100000) = A s := by
  unfold ownIn; rw [if_neg (by omega), Nat.add_sub_cancel]

section
variable {P : Program} {w : World} {I : Nat → Prop} {A : Own}

theorem OwnRel.into {s t : Nat} {d : DV} (h : OwnRel w I A s d) (ht : t = s + 100000) : OwnRel w I (ownIn A) t (sh d) := by
  subst ht
  cases d with
  | bx cs =>
    obtain ⟨g, c, us, et, h1, h2, h3, h4, h5⟩ := h
    refine ⟨g, c, us, et, (ownIn_hi A s).trans h1, h2, by rw [renL_eq, List.length_map]; exact h3, h4, fun j d u hd hu => ?_⟩
    obtain ⟨d', hd', rfl⟩ := getElem?_renL hd
    exact (h5 j d' u hd' hu).rename (ownIn_hi A)
  | row e z xs => obtain ⟨B, c, h1, h2⟩ := h; exact ⟨B, c, (ownIn_hi A s).trans h1, h2⟩
  | mo es => obtain ⟨g, c, vs, cl, h1, h2, h3⟩ := h; exact ⟨g, c, vs, cl, (ownIn_hi A s).trans h1, h2, h3⟩
  | _ => trivial

theorem OwnRel.outof {s t : Nat} {d : DV} {A' : Own} (h : OwnRel w I A' t (sh d)) (ht : t = s + 100000) : OwnRel w I (fun s => A' (s + 100000)) s d := by
  subst ht
  cases d with
  | bx cs =>
    obtain ⟨g, c, us, et, h1, h2, h3, h4, h5⟩ := h
    refine ⟨g, c, us, et, h1, h2, by rw [renL_eq, List.length_map] at h3; exact h3, h4, fun j d u hd hu => ?_⟩
    exact (h5 j _ u (renL_getElem? hd) hu).unname d rfl
  | row e z xs => obtain ⟨B, c, h1, h2⟩ := h; exact ⟨B, c, h1, h2⟩
  | mo es => obtain ⟨g, c, vs, cl, h1, h2, h3⟩ := h; exact ⟨g, c, vs, cl, h1, h2, h3⟩
  | _ => trivial

theorem isOut_sh : ∀ d, isOut (sh d) := by
  intro d
  refine DV.rec (motive_1 := fun d => isOut (sh d)) (motive_2 := fun l => allKL (fun t => decide (100000 ≤ t)) (renL (· + 100000) l) = true) (motive_3 := fun _ => True)
    ?_ ?_ ?_ ?_ ?_ ?_ ?_ ?_ ?_ ?_ ?_ ?_ ?_ ?_ ?_ ?_ ?_ ?_ ?_ ?_ ?_ d
  all_goals (intros; simp_all [isOut, sh, ren, renL, allK, allKL])

theorem outer_out (O : Env) (s : Nat) (hs : 100000 ≤ s) : isOut (outer O s) := by
  obtain ⟨t, rfl⟩ : ∃ t, s = t + 100000 := ⟨s - 100000, by omega⟩
  rw [outer_hi]
  exact isOut_sh _

theorem SlotRel.ofRel {s : Nat} {d : DV} {x : Value} (h : Rel w I A d x) : SlotRel w I A s d x := by
  cases h with
  | any => exact .any A x
  | v => exact .v A x
  | sl0 _ z f b c => exact .sl0 A z f b c
  | sl _ z n f b o c us hn hc hm hI hz hcell hone hrel => exact Rel.sl A z n f b o c us hn hc hm hI hz hcell hone hrel
  | agg _ cs vs hl hone hrel => exact Rel.agg A cs vs hl hone hrel
  | tup _ cs vs hl hrel => exact Rel.tup A cs vs hl hrel
  | dp _ cs b o us hI hcell hone hrel => exact Rel.dp A cs b o us hI hcell hone hrel
  | bp _ s off g c h => exact Rel.bp A s off g c h
  | own _ s n B c b h hb => exact Rel.own A s n B c b h hb
  | rp _ s z i off g c h => exact Rel.rp A s z i off g c h
  | fn _ f fs cs us vs hf hc hfr hcr => exact Rel.fn A f fs cs us vs hf hc hfr hcr
  | iface _ t d x h => exact Rel.iface A t d x h
  | mr _ s g c h => exact Rel.mr A s g c h
  | ez _ b => exact Rel.ez A b

theorem OwnRel.ofPure {s : Nat} {d : DV} (h : isOwn d = false) : OwnRel w I A s d := by
  cases d <;> first | trivial | (cases h)

theorem isOwn_of_rel {d : DV} {x : Value} (h : Rel w I A d x) : isOwn d = false := by cases h <;> rfl
theorem isOwn_sh (d : DV) : isOwn (sh d) = isOwn d := by cases d <;> rfl

/-- The state in which a body begins. -/
theorem Sim.enter {O : Env} {args : List DV} {vals : Array Value} {nt : Nat} (hO : OSim w I A O) (hl : vals.size = args.length) (hn : args.length ≤ nt) (hb : nt ≤ 100000)
    (hv : ∀ (j : Nat) (d : DV) (u : Value), args[j]? = some d → vals[j]? = some u → Rel w I A d u) :
    Sim nt w I (ownIn A) (entry O args) { tmps := vals ++ Array.replicate (nt - vals.size) undef, defers := [] } := by
  have hrel : ∀ i, i < args.length → Rel w I (ownIn A) (sh (args.getD i .any)) (vals.getD i undef) := fun i hi => by
    have h1 : args[i]? = some (args.getD i .any) := by rw [List.getD_eq_getElem?_getD, List.getElem?_eq_getElem hi]; rfl
    have h2 : vals[i]? = some (vals.getD i undef) := by simp [Array.getElem?_eq_getElem (show i < vals.size by omega)]
    exact (hv i _ _ h1 h2).rename (ownIn_hi A)
  refine ⟨⟨fun s => ?_, fun s t g c c' h1 h2 => ?_, fun s g c h => ?_, hO.imm⟩, by simp; omega, hb, fun i hi => ?_, fun s hs => ?_⟩
  · rw [entry_apply]
    split
    · rename_i h; exact OwnRel.ofPure (isOwn_of_rel (hrel s h))
    · by_cases hs : s < 100000
      · rw [outer_lo O hs]; trivial
      · obtain ⟨t, rfl⟩ : ∃ t, s = t + 100000 := ⟨s - 100000, by omega⟩
        rw [outer_hi]
        exact (hO.own t).into rfl
  · unfold ownIn at h1 h2
    split at h1 <;> split at h2 <;> first | cases h1 | cases h2 | skip
    have := hO.inj _ _ g c c' h1 h2
    omega
  · unfold ownIn at h
    split at h
    · cases h
    · exact hO.sep _ g c h
  · have hget : (vals ++ Array.replicate (nt - vals.size) undef).getD i undef = vals.getD i undef := by
      simp only [Array.getD_eq_getD_getElem?, Array.getElem?_append]
      split
      · rfl
      · rename_i h
        rw [Array.getElem?_eq_none (Nat.le_of_not_lt h)]
        cases hr : (Array.replicate (nt - vals.size) undef)[i - vals.size]? with
        | none => rfl
        | some y => rw [Array.getElem?_replicate] at hr; split at hr <;> simp_all
    rw [hget, entry_apply]
    split
    · rename_i h; exact .ofRel (hrel i h)
    · rw [outer_lo O (by omega)]; exact .any _ _
  · rw [entry_apply, if_neg (by omega)]
    exact outer_out O s hs

/-! ## Coming back -/

/-- r says no more than what d says. -/
def RWk (d r : DV) : Prop := ∀ w I A x, Rel w I A d x → Rel w I A r x
theorem RWk.refl (d : DV) : RWk d d := fun _ _ _ _ h => h
theorem RWk.any (d : DV) : RWk d .any := fun _ _ A x _ => .any A x
theorem RWk.nil (z c : Nat) (b : Option Addr) (f : Nat → List DV) : RWk (.v (.slice b 0 c)) (.sl z 0 f) := fun _ _ A x h => by cases h; exact .sl0 A z f b c
theorem RWk.zero (z z' : Nat) (f f' : Nat → List DV) : RWk (.sl z 0 f) (.sl z' 0 f') := fun _ _ A x h => by
  cases h with
  | sl0 _ _ _ b c => exact .sl0 A z' f' b c
  | sl _ _ _ _ b o c us hn hc hm hI hz hcell hone hrel => omega
theorem RWk.sl (z n : Nat) {f g : Nat → List DV} (h : ∀ i, i < n → f i = g i) : RWk (.sl z n f) (.sl z n g) := fun w I A x hr => (Wk.sl z n f g h w I A 0 x).1 hr
theorem RWk.agg {cs ds : List DV} (hl : cs.length = ds.length) (h : ∀ (j : Nat) (c d : DV), cs[j]? = some c → ds[j]? = some d → RWk c d) : RWk (.agg cs) (.agg ds) := fun w I A x hr => by
  cases hr with
  | agg _ _ vs hl' hone hrel =>
    refine .agg A ds vs (hl ▸ hl') hone fun j d u hd hu => ?_
    have hj : j < cs.length := by
      rcases Nat.lt_or_ge j ds.length with h1 | h1
      · omega
      · rw [List.getElem?_eq_none h1] at hd; cases hd
    exact h j _ _ (List.getElem?_eq_getElem hj) hd w I A u (hrel j _ u (List.getElem?_eq_getElem hj) hu)
theorem RWk.aggNil : RWk (.agg []) (.agg []) := RWk.refl _
theorem RWk.aggCons {c d : DV} {cs ds : List DV} (h : RWk c d) (ht : RWk (.agg cs) (.agg ds)) (hl : cs.length = ds.length) : RWk (.agg (c :: cs)) (.agg (d :: ds)) := by
  intro w I A x hr
  cases hr with
  | agg _ _ vs hl' hone hrel =>
    obtain ⟨vl⟩ := vs
    cases vl with
    | nil => simp at hl'
    | cons v vl =>
      have h2 : Rel w I A (.agg ds) (.agg ⟨vl⟩) := ht w I A _ (.agg A cs ⟨vl⟩ (by simpa using hl') (fun u hu => hone u (by simp at hu ⊢; exact .inr hu)) fun j d u hd hu => hrel (j + 1) d u (by simpa using hd) (by simpa using hu))
      cases h2 with
      | agg _ _ _ hl2 hone2 hrel2 =>
        refine .agg A _ _ (by simpa using hl2) hone fun j e u he hu => ?_
        cases j with
        | zero =>
          simp at he hu
          subst he; subst hu
          exact h w I A v (hrel 0 c v (by simp) (by simp))
        | succ j => exact hrel2 j e u (by simpa using he) (by simpa using hu)

/-- A plain value, neither owned memory nor under a guard. -/
def isPl : DV → Bool
  | .bx _ => false
  | .row _ _ _ => false
  | .cond _ _ => false
  | .mo _ => false
  | _ => true

theorem SlotRel.rel {s : Nat} {d : DV} {x : Value} (h : SlotRel w I A s d x) (hp : isPl d = true) : Rel w I A d x := by
  cases d <;> first | exact h | (cases hp)

/-- One result: what lies in slot t goes out as r. -/
inductive Exp (ρ : Env) (t : Nat) : DV → Prop
  | pure (r : DV) (hp : isPl (ρ t) = true) (hw : RWk (ρ t) (sh r)) (hr : isOwn r = false) : Exp ρ t r
  | row (e z : Nat) (xs : List (List DV)) (h : ρ t = .row e z xs) : Exp ρ t (.row e z xs)
  | own (s e z n : Nat) (xs : List (List DV)) (h : ρ t = .own s n) (hs : s < 100000) (hr : ρ s = .row e z xs) (hn : n ≤ xs.length) : Exp ρ t (.row e z (xs.take n))
  | box (cs : List DV) (h : ρ t = .bx (renL (· + 100000) cs)) : Exp ρ t (.bx cs)
  | nilrow (e z : Nat) (h : ρ t = .v (.slice none 0 0)) : Exp ρ t (.row e z [])
  | ptr (s : Nat) (cs : List DV) (h : ρ t = .bp s 0) (hs : s < 100000) (hr : ρ s = .bx (renL (· + 100000) cs)) : Exp ρ t (.bx cs)

def res1 (tmps : Array Value) : ResultVar → Sem Value
  | .tmp t => pure (tmps.getD t undef)
  | .cell a t => do loadVar t (← asAddr (tmps.getD a undef))

theorem results_eq (fn : Func) (tmps : Array Value) : results fn tmps = (do let vs ← fn.results.mapM (res1 tmps); pure (if h : vs.size = 1 then vs[0] else .tuple vs)) := by
  unfold results
  congr 2

/-- One of several results, or a result that lies in a variable. -/
def Out1 (P : Program) (ρ : Env) : ResultVar → DV → Prop
  | .tmp t, r => isPl (ρ t) = true ∧ RWk (ρ t) (sh r)
  | .cell a t, r => ∃ cs, ρ a = .bx cs ∧ ((ldOf P t = some (some cs.length) ∧ RWk (.agg cs) (sh r)) ∨ (ldOf P t = some none ∧ ∃ c, cs = [c] ∧ RWk c (sh r)))

def RetOk (P : Program) (ρ : Env) (rs : List ResultVar) (r : DV) : Prop :=
  match rs with
  | [.tmp t] => Exp ρ t r
  | [.cell a t] => isOwn r = false ∧ Out1 P ρ (.cell a t) r
  | rs => ∃ rl : List DV, r = .tup rl ∧ rl.length = rs.length ∧ ∀ (j : Nat) (v : ResultVar) (d : DV), rs[j]? = some v → rl[j]? = some d → Out1 P ρ v d

theorem Rel.back {A' : Own} {r : DV} {x : Value} (h : Rel w I A' (sh r) x) (hA : ∀ s, 100000 ≤ s → A' s = ownIn A s) : Rel w I A r x := by
  have := h.unname r rfl
  have e : (fun s => A' (s + 100000)) = A := funext fun s => by rw [hA _ (by omega), ownIn_hi]
  rwa [e] at this

theorem out1_ok {nt : Nat} {ρ : Env} {a : Act} {A' : Own} (hs : Sim nt w I A' ρ a) (hA : ∀ s, 100000 ≤ s → A' s = ownIn A s) {v : ResultVar} {r : DV}
    (hv : match v with | .tmp t => t < nt | .cell t _ => t < nt) (h : Out1 P ρ v r) :
    ∃ x, (res1 a.tmps v).run P w = .ok x w ∧ Rel w I A r x := by
  cases v with
  | tmp t =>
    obtain ⟨h1, h2⟩ := h
    exact ⟨a.tmps.getD t undef, rfl, (h2 w I A' _ ((hs.slot t hv).rel h1)).back hA⟩
  | cell b t =>
    obtain ⟨cs, h1, h2⟩ := h
    have hsl := hs.slot b hv
    have ho := hs.osim.own b
    rw [h1] at hsl ho
    obtain ⟨g, c, hA1, hx⟩ := hsl
    simp only [res1, hx]
    have key : ∀ ld r', ldOf P t = some ld → (cut ld 0 cs).1 → RWk (cut ld 0 cs).2 (sh r') → ∃ x, (do loadVar t (← asAddr (.pointer (some ⟨g, 0, none⟩))) : Sem Value).run P w = .ok x w ∧ Rel w I A r' x := by
      intro ld r' hld hc hw
      have := run_load (P := P) hs (t := t) (d := .bp b 0) (.bp A' b 0 g c hA1) (by rw [hld]; simp only [loadP, h1, loadB]; exact hc)
      obtain ⟨x, k1, k2⟩ := this
      rw [hld] at k2
      simp only [loadP, h1, loadB] at k2
      exact ⟨x, by simpa [Instr.loadAt, Instr.sureAddr, asAddr] using k1, (hw w I A' x k2).back hA⟩
    rcases h2 with ⟨h3, h4⟩ | ⟨h3, c', rfl, h4⟩
    · exact key _ r h3 (by simp [cut]) (by simpa [cut] using h4)
    · exact key _ r h3 (by simp [cut]) (by simpa [cut] using h4)

theorem run_mapM {α : Type} (f : α → Sem Value) : ∀ (l : List α) (vs : List Value), l.length = vs.length → (∀ (j : Nat) (x : α) (v : Value), l[j]? = some x → vs[j]? = some v → (f x).run P w = .ok v w) →
    (l.mapM f).run P w = .ok vs w
  | [], [], _, _ => rfl
  | x :: l, v :: vs, hl, h => by
    have h0 := h 0 x v (by simp) (by simp)
    have ih := run_mapM f l vs (by simpa using hl) fun j y u hy hu => h (j + 1) y u (by simpa using hy) (by simpa using hu)
    simp [List.mapM_cons, h0, ih]
  | [], _ :: _, hl, _ => by simp at hl
  | _ :: _, [], hl, _ => by simp at hl

/-- **What a caller gets of a body's end.** -/
theorem ret_ok {w0 : World} {I0 : Nat → Prop} {nt : Nat} {ρ : Env} {a : Act} {A' : Own} {fn : Func} {r : DV} (hs : Sim nt w I A' ρ a) (hx : Ext w0 I0 (ownIn A) w I A')
    (hn : fn.results.toList.all (fun v => match v with | .tmp t => decide (t < nt) | .cell t _ => decide (t < nt)) = true) (h : RetOk P ρ fn.results.toList r) :
    ∃ v, (results fn a.tmps).run P w = .ok v w ∧ ResRel w0 w I A r v := by
  have hA := hx.outA
  have hback : ∀ {d : DV} {x : Value}, Rel w I A' (sh d) x → Rel w I A d x := fun h => h.back hA
  have hfresh : ∀ s g c, s < 100000 → A' s = some (some g, c) → w0.heap.size ≤ g ∧ g < w.heap.size ∧ ¬ I g := fun s g c hs' hA1 => by
    refine ⟨?_, (hs.osim.sep s g c hA1).1, (hs.osim.sep s g c hA1).2⟩
    rcases Nat.lt_or_ge g w0.heap.size with hlt | hge
    · obtain ⟨t, c', ht, hAt⟩ := hx.loc s g c hA1 hlt hs'
      unfold ownIn at hAt
      rw [if_pos ht] at hAt
      cases hAt
    · exact hge
  have hlt : ∀ v ∈ fn.results.toList, (match v with | .tmp t => t < nt | .cell t _ => t < nt) := fun v hv => by
    have := List.all_eq_true.1 hn v hv
    cases v <;> simpa using this
  generalize hl : fn.results.toList = rs at *
  have hres : fn.results = rs.toArray := by apply Array.ext'; rw [hl]
  have hrow : ∀ s e z xs x b, s < 100000 → A' s = some x → BaseOk x.1 b → RowRel w I e z xs x.1 x.2 →
      ResRel w0 w I A (.row e z xs) (.slice b xs.length x.2) := fun s e z xs x b hs' hA1 hb hr => by
    refine ⟨x.1, x.2, ⟨b, hb, rfl⟩, hr, fun g hg => ?_⟩
    exact hfresh s g x.2 hs' (by rw [hA1, ← hg])
  have hbox : ∀ s cs x, s < 100000 → SlotRel w I A' s (.bx (renL (· + 100000) cs)) x → OwnRel w I A' s (.bx (renL (· + 100000) cs)) → ResRel w0 w I A (.bx cs) x := fun s cs x hs' h1 h2 => by
    obtain ⟨g, c, hA1, rfl⟩ := h1
    obtain ⟨g', c', us, et, hA2, k1, k2, k3, k4⟩ := h2
    rw [hA1] at hA2
    simp only [Option.some.injEq, Prod.mk.injEq] at hA2
    obtain ⟨rfl, rfl⟩ := hA2
    exact ⟨g, us, et, rfl, k1, by rw [renL_eq, List.length_map] at k2; exact k2, k3, fun j d u hd hu => hback (k4 j _ u (renL_getElem? hd) hu), hfresh s g c hs' hA1⟩
  unfold RetOk at h
  split at h
  · rename_i t
    have ht : t < nt := hlt (.tmp t) (by simp)
    have hsl := hs.slot t ht
    have hsz : t < 100000 := Nat.lt_of_lt_of_le ht hs.bound
    refine ⟨_, results_tmp hres _ P w, ?_⟩
    cases h with
    | pure r hp hw hr =>
      have := hback (hw w I A' _ (hsl.rel hp))
      cases r <;> first | exact this | (cases hr)
    | row e z xs hρ =>
      have ho := hs.osim.own t
      rw [hρ] at hsl ho
      obtain ⟨B, c, hA1, b, hb, hx'⟩ := hsl
      obtain ⟨B', c', hA2, hr⟩ := ho
      rw [hA1] at hA2
      simp only [Option.some.injEq, Prod.mk.injEq] at hA2
      obtain ⟨rfl, rfl⟩ := hA2
      rw [hx']
      exact hrow t e z xs (B, c) b hsz hA1 hb hr
    | own s e z n xs hρ hs' hr hn' =>
      have ho := hs.osim.own s
      rw [hρ] at hsl
      rw [hr] at ho
      obtain ⟨B', c', hA2, hr'⟩ := ho
      generalize a.tmps.getD t undef = x at hsl ⊢
      have hsl : Rel w I A' (.own s n) x := hsl
      cases hsl with
      | own _ _ _ B c b hA1 hb =>
        rw [hA1] at hA2
        simp only [Option.some.injEq, Prod.mk.injEq] at hA2
        obtain ⟨rfl, rfl⟩ := hA2
        have hlen : (xs.take n).length = n := by rw [List.length_take]; omega
        refine ⟨B, c, ⟨b, hb, by rw [hlen]⟩, ?_, fun g hg => hfresh s g c hs' (by rw [hA1, hg])⟩
        unfold RowRel at hr' ⊢
        cases B with
        | none => obtain ⟨rfl, rfl⟩ := hr'; exact ⟨by simp, rfl⟩
        | some g =>
          obtain ⟨us, q1, q2, q3, q4, q5⟩ := hr'
          refine ⟨us, q1, q2, q3, by rw [hlen]; omega, fun i x hx => ?_⟩
          rw [List.getElem?_take] at hx
          split at hx
          · exact q5 i x hx
          · cases hx
    | box cs hρ =>
      have ho := hs.osim.own t
      rw [hρ] at hsl ho
      exact hbox t cs _ hsz hsl ho
    | nilrow e z hρ =>
      rw [hρ] at hsl
      generalize a.tmps.getD t undef = x at hsl ⊢
      have hsl : Rel w I A' (.v (.slice none 0 0)) x := hsl
      cases hsl
      exact ⟨none, 0, ⟨none, baseOk_none _, rfl⟩, ⟨rfl, rfl⟩, fun g hg => by cases hg⟩
    | ptr s cs hρ hs' hr =>
      have ho := hs.osim.own s
      rw [hρ] at hsl
      rw [hr] at ho
      have ho2 := ho
      obtain ⟨g, c, us, et, hA2, _⟩ := ho2
      generalize a.tmps.getD t undef = x at hsl ⊢
      have hsl : Rel w I A' (.bp s 0) x := hsl
      cases hsl with
      | bp _ _ _ g' c' hA1 => exact hbox s cs _ hs' ⟨g', c', hA1, rfl⟩ ho
  · rename_i b t
    obtain ⟨h1, h2⟩ := h
    obtain ⟨x, k1, k2⟩ := out1_ok hs hA (v := .cell b t) (hlt (.cell b t) (by simp)) h2
    refine ⟨x, ?_, by cases r <;> first | exact k2 | (cases h1)⟩
    have := run_mapM (P := P) (w := w) (res1 a.tmps) [.cell b t] [x] rfl
      (fun j y u hy hu => by
        cases j with
        | zero => simp at hy hu; subst hy; subst hu; exact k1
        | succ j => simp at hy)
    rw [results_eq, hres, List.mapM_toArray, Sem.run_bind, Sem.run_map, this]
    rfl
  · rename_i h1 h2
    obtain ⟨rl, rfl, hlen, hall⟩ := h
    have : ∃ vs : List Value, vs.length = rs.length ∧ (∀ (j : Nat) (y : ResultVar) (u : Value), rs[j]? = some y → vs[j]? = some u →
        (res1 a.tmps y).run P w = .ok u w) ∧ ∀ (j : Nat) (d : DV) (u : Value), rl[j]? = some d → vs[j]? = some u → Rel w I A d u := by
      clear hres hl hn h1 h2
      induction rs generalizing rl with
      | nil =>
        obtain rfl : rl = [] := List.eq_nil_of_length_eq_zero hlen
        exact ⟨[], rfl, by simp, by simp⟩
      | cons y rs ih =>
        cases rl with
        | nil => simp at hlen
        | cons d rl =>
          obtain ⟨x, k1, k2⟩ := out1_ok hs hA (v := y) (hlt y (by simp)) (hall 0 y d (by simp) (by simp))
          obtain ⟨vs, j1, j2, j3⟩ := ih (fun v hv => hlt v (by simp [hv])) rl (by simpa using hlen) fun j v d' hv hd => hall (j + 1) v d' (by simpa using hv) (by simpa using hd)
          refine ⟨x :: vs, by simp [j1], fun j y' u hy hu => ?_, fun j d' u hd hu => ?_⟩
          · cases j with
            | zero => simp at hy hu; subst hy; subst hu; exact k1
            | succ j => exact j2 j y' u (by simpa using hy) (by simpa using hu)
          · cases j with
            | zero => simp at hd hu; subst hd; subst hu; exact k2
            | succ j => exact j3 j d' u (by simpa using hd) (by simpa using hu)
    obtain ⟨vs, j1, j2, j3⟩ := this
    have hrun := run_mapM (P := P) (w := w) (res1 a.tmps) rs vs j1.symm j2
    have hne : vs.length ≠ 1 := fun e => by
      rw [j1] at e
      match rs, e with
      | [.tmp t], _ => exact h1 t rfl
      | [.cell b t], _ => exact h2 b t rfl
    refine ⟨.tuple vs.toArray, ?_, ?_⟩
    · rw [results_eq, hres, List.mapM_toArray, Sem.run_bind, Sem.run_map, hrun]
      simp [hne]
    · exact Rel.tup A rl _ (by simp [hlen, j1]) fun j d u hd hu => j3 j d u hd (by simpa using hu)

/-- The end of a body. -/
def retQ (P : Program) (fn : Func) (O : Env) (R : Env → DV → Prop) : Exit → Env → Prop
  | .ret, ρ | .normal, ρ => ∃ O' r, (∀ s, ρ (s + 100000) = sh (O' s)) ∧ (∀ s, frOk (O s) (O' s)) ∧ (∀ s, isOut (O s) → isOut (O' s)) ∧ RetOk P ρ fn.results.toList r ∧ R O' r
  | _, _ => False

/-- **A function's contract out of its body's walk.** -/
theorem ecall_of_aw {f : FuncId} {fn : Func} {c : Code} {O : Env} {args : List DV} {R : Env → DV → Prop} (hf : P.funcs[f]? = some fn) (hb : fn.body = some c)
    (hn : (decide (args.length ≤ fn.ntmps) && decide (fn.ntmps ≤ 100000) && fn.results.toList.all (fun v => match v with | .tmp t => decide (t < fn.ntmps) | .cell t _ => decide (t < fn.ntmps))) = true)
    (h : AW P fn.ntmps c (retQ P fn O R) (entry O args)) : ECall P O f args R := by
  intro w I A vals hO hl hv
  simp only [Bool.and_eq_true, decide_eq_true_eq] at hn
  obtain ⟨⟨hn1, hn2⟩, hn3⟩ := hn
  refine calls_of_wp hf hb (wp_mono (h I (ownIn A) _ w (Sim.enter hO hl hn1 hn2 hv) rfl) ?_)
  intro e a' w' ⟨I', A', ρ', k1, k2, k3, k4⟩
  have fin : (∃ O' r, (∀ s, ρ' (s + 100000) = sh (O' s)) ∧ (∀ s, frOk (O s) (O' s)) ∧ (∀ s, isOut (O s) → isOut (O' s)) ∧ RetOk P ρ' fn.results.toList r ∧ R O' r) →
      ∃ v, (results fn a'.tmps).run P w' = .ok v w' ∧ ∃ v' I' O' r, Ending.returned v = .returned v' ∧ OSim w' I' A O' ∧ (∀ s, frOk (O s) (O' s)) ∧ (∀ s, isOut (O s) → isOut (O' s)) ∧ Ext w I A w' I' A ∧ ResRel w w' I' A r v' ∧ R O' r := by
    rintro ⟨O', r, q1, q2, q3, q4, q5⟩
    obtain ⟨v, r1, r2⟩ := ret_ok k1 k3 hn3 q4
    have hA' : ∀ s, A' (s + 100000) = A s := fun s => by rw [k3.outA _ (by omega), ownIn_hi]
    have hfun : (fun s => A' (s + 100000)) = A := funext hA'
    refine ⟨v, r1, v, I', O', r, rfl, ⟨fun s => ?_, hO.inj, fun s g c hA => ?_, k1.osim.imm⟩, q2, q3, ⟨k3.os, k3.tape, k3.output, k3.size, k3.imm, fun g hg hA => ?_, fun s g c hA _ hs => ⟨s, c, hs, hA⟩, fun _ _ => rfl⟩, r2, q5⟩
    · have := k1.osim.own (s + 100000)
      rw [q1] at this
      have := this.outof (s := s) rfl
      rwa [hfun] at this
    · exact k1.osim.sep (s + 100000) g c ((hA' s).trans hA)
    · obtain ⟨e1, e2, e3⟩ := k3.old g hg fun s c hs => by
        unfold ownIn at hs
        split at hs
        · cases hs
        · exact hA _ _ hs
      exact ⟨e1, e2, hA⟩
  cases e with
  | normal => exact ⟨k2, fin k4⟩
  | ret => exact ⟨k2, fin k4⟩
  | _ => exact k4.elim

end
end Go.Sg
