/- Regions: what each operation owes and leaves, effects included; one walk in the text's order. -/
import Derived.Test.YtnpokifaejcbeaaGreatDoorSgCall
set_option linter.unusedVariables false
set_option linter.unusedSimpArgs false
namespace Go.Sg
open Go.RowKit

/-- One operation of a region, said of the environment. -/
def OW (P : Program) (nt : Nat) (ops : Array Oper) (o : Oper) (K : Env → Prop) (ρ : Env) : Prop :=
  ∀ I A a w, Sim nt w I A ρ a → a.defers = [] → ∀ (next : Act → World → Prop) (Q' : Exit → Act → World → Prop),
    (∀ I' A' a' w' ρ', Sim nt w' I' A' ρ' a' → a'.defers = [] → Ext w I A w' I' A' → K ρ' → next a' w') →
    if Region.wanted o (yielded ops a.tmps) = true then o.wp P a w next Q' else next (a.put o.dst undef) w

def RW (P : Program) (nt : Nat) (ops : Array Oper) (k : Env → Prop) : List Oper → Env → Prop
  | [], ρ => k ρ
  | o :: os, ρ => OW P nt ops o (RW P nt ops k os) ρ

/-- A mark that keeps simp out of what it names. -/
structure Tg.{u} {α : Sort u} (k : α) : Type where

section
variable {P : Program} {nt : Nat} {ρ : Env} {ops : Array Oper}

theorem OW.mono {o : Oper} {K K' : Env → Prop} (h : OW P nt ops o K ρ) (hk : ∀ ρ, K ρ → K' ρ) : OW P nt ops o K' ρ :=
  fun I A a w hs hd next Q' hn => h I A a w hs hd next Q' fun I' A' a' w' ρ' h1 h2 h3 h4 => hn I' A' a' w' ρ' h1 h2 h3 (hk _ h4)

theorem rw_sound {k : Env → Prop} {Q' : Exit → Act → World → Prop} : ∀ (l : List Oper) (ρ : Env) (I : Nat → Prop) (A : Own) (a : Act) (w : World), RW P nt ops k l ρ → Sim nt w I A ρ a → a.defers = [] →
    (∀ I' A' a' w' ρ', Sim nt w' I' A' ρ' a' → a'.defers = [] → Ext w I A w' I' A' → k ρ' → Q' .normal a' w') → wpList P ops Q' l a w
  | [], ρ, I, A, a, w, h, hs, hd, hk => hk I A a w ρ hs hd (Ext.refl _ _ _) h
  | o :: l, ρ, I, A, a, w, h, hs, hd, hk => by
    refine wpList_step fun K hK => h I A a w hs hd K Q' fun I' A' a' w' ρ' h1 h2 h3 h4 => hK _ _ ?_
    exact rw_sound l ρ' I' A' a' w' h4 h1 h2 fun I2 A2 a2 w2 ρ2 k1 k2 k3 k4 => hk I2 A2 a2 w2 ρ2 k1 k2 (h3.trans k3) k4

theorem aw_region {id : Nat} {l : List Oper} {Q : Exit → Env → Prop} (h : RW P nt l.toArray (Q .normal) l ρ) : AW P nt (.region id l.toArray false) Q ρ := by
  intro I A a w hs hd
  exact wp_region_lit (rw_sound l ρ I A a w h hs hd fun I' A' a' w' ρ' h1 h2 h3 h4 => ⟨I', A', ρ', h1, h2, h3, h4⟩)

theorem put_defers (a : Act) (d : Option Nat) (x : Value) : (a.put d x).defers = a.defers := by cases d <;> rfl

theorem ow_val {o : Oper} {K : Env → Prop} (hg : o.guard = none)
    (h : ∀ I A a w, Sim nt w I A ρ a → ∃ x w' I' A' ρ', (execOp a.eval o).run P w = .ok (.value x) w' ∧ Sim nt w' I' A' ρ' (a.put o.dst x) ∧ Ext w I A w' I' A' ∧ K ρ') : OW P nt ops o K ρ := by
  intro I A a w hs hd next Q' hn
  obtain ⟨x, w', I', A', ρ', h1, h2, h3, h4⟩ := h I A a w hs
  rw [if_pos (by simp [Region.wanted, hg])]
  unfold Oper.wp
  rw [h1]
  exact hn I' A' _ w' ρ' h2 (by rw [put_defers]; exact hd) h3 h4

theorem ow_skip {o : Oper} {K : Env → Prop} (hg : o.guard = none)
    (h : ∀ I A a w, Sim nt w I A ρ a → ∃ w' I' A' ρ', (execOp a.eval o).run P w = .ok .skip w' ∧ Sim nt w' I' A' ρ' (a.put o.dst undef) ∧ Ext w I A w' I' A' ∧ K ρ') : OW P nt ops o K ρ := by
  intro I A a w hs hd next Q' hn
  obtain ⟨w', I', A', ρ', h1, h2, h3, h4⟩ := h I A a w hs
  rw [if_pos (by simp [Region.wanted, hg])]
  unfold Oper.wp
  rw [h1]
  exact hn I' A' _ w' ρ' h2 (by rw [put_defers]; exact hd) h3 h4

def dstOk (nt : Nat) (o : Oper) : Bool := match o.dst with | some d => decide (d < nt) | none => true

/-- An operation that writes nothing, its value said. -/
theorem Sim.putV {w : World} {I : Nat → Prop} {A : Own} {a : Act} (hs : Sim nt w I A ρ a) {o : Oper} (hd : dstOk nt o = true) {v : DV} {x : Value} (hr : Rel w I A v x) :
    Sim nt w I A (putD ρ o.dst v) (a.put o.dst x) := by
  unfold dstOk at hd
  cases h : o.dst with
  | none => exact hs
  | some d =>
    rw [h] at hd
    exact hs.put (by simpa using hd) (.ofRel hr) (.ofPure (isOwn_of_rel hr))

theorem ow_pure {o : Oper} {K : Env → Prop} (hg : o.guard = none) (ho : opsOk nt o = true) (hd : dstOk nt o = true) (h : (opP P ρ o.op).1) (hK : K (putD ρ o.dst (opP P ρ o.op).2)) : OW P nt ops o K ρ :=
  ow_val hg fun I A a w hs => by
    obtain ⟨x, h1, h2⟩ := opP_sound hs o ho h
    exact ⟨x, w, I, A, _, h1, hs.putV hd h2, Ext.refl _ _ _, hK⟩

/-! ## Guards -/

def gW (want : Bool) : DV → Option Bool
  | .v (.bool b) => some (b == want)
  | .cond g (.v (.bool b)) => some (g && (b == want))
  | _ => none

def gAt (ops : List Oper) (ρ : Env) (j : Nat) (want : Bool) : Option Bool :=
  match ops[j]? with
  | some o => match o.dst with
    | some d => gW want (ρ d)
    | none => none
  | none => none

theorem gAt_sound {l : List Oper} {w : World} {I : Nat → Prop} {A : Own} {a : Act} (hs : Sim nt w I A ρ a) {o : Oper} {j : Nat} {want g : Bool} (hg : o.guard = some (j, want))
    (hall : l.all (dstOk nt) = true) (h : gAt l ρ j want = some g) : Region.wanted o (yielded l.toArray a.tmps) = g := by
  unfold gAt at h
  split at h <;> try cases h
  rename_i oj hj
  split at h <;> try cases h
  rename_i d hd
  have hdn : d < nt := by
    have := List.all_eq_true.1 hall oj (List.mem_of_getElem? hj)
    unfold dstOk at this
    rw [hd] at this
    simpa using this
  have hsl := hs.slot d hdn
  have hy : yielded l.toArray a.tmps j = match a.tmps.getD d undef with | .bool b => some b | _ => none := by
    have hlt : d < a.tmps.size := by rw [hs.size]; exact hdn
    unfold yielded
    simp only [List.getElem?_toArray, hj, Option.bind_some, hd, Array.getElem?_eq_getElem hlt, Array.getD_eq_getD_getElem?, Option.getD_some]
    cases a.tmps[d] <;> rfl
  unfold Region.wanted
  rw [hg]
  simp only [hy]
  generalize a.tmps.getD d undef = x at *
  unfold gW at h
  split at h
  · rename_i b hρ
    rw [hρ] at hsl
    have hsl : Rel w I A (.v (.bool b)) x := hsl
    cases hsl
    cases h
    cases b <;> cases want <;> rfl
  · rename_i g' b hρ
    rw [hρ] at hsl
    cases h
    cases g' with
    | true =>
      have := hsl.1 rfl
      cases this
      cases b <;> cases want <;> rfl
    | false =>
      rw [hsl.2 rfl]
      rfl
  · cases h

theorem ow_guard {l : List Oper} {o : Oper} {K : Env → Prop} {j : Nat} {want g : Bool} (hg : o.guard = some (j, want)) (hall : l.all (dstOk nt) = true) (ho : opsOk nt o = true) (hd : dstOk nt o = true)
    (hgj : gAt l ρ j want = some g) (h : g = true → (opP P ρ o.op).1) (hK : K (putD ρ o.dst (.cond g (opP P ρ o.op).2))) : OW P nt l.toArray o K ρ := by
  intro I A a w hs hdf next Q' hn
  rw [gAt_sound hs hg hall hgj]
  have put : ∀ x, (g = true → Rel w I A (opP P ρ o.op).2 x) → (g = false → x = undef) → Sim nt w I A (putD ρ o.dst (.cond g (opP P ρ o.op).2)) (a.put o.dst x) := fun x h1 h2 => by
    unfold dstOk at hd
    cases h : o.dst with
    | none => exact hs
    | some d =>
      rw [h] at hd
      exact hs.put (by simpa using hd) ⟨h1, h2⟩ trivial
  cases g with
  | true =>
    obtain ⟨x, h1, h2⟩ := opP_sound hs o ho (h rfl)
    rw [if_pos rfl]
    unfold Oper.wp
    rw [h1]
    exact hn I A _ w _ (put x (fun _ => h2) (fun h => by cases h)) (by rw [put_defers]; exact hdf) (Ext.refl _ _ _) hK
  | false =>
    rw [if_neg (by simp)]
    exact hn I A _ w _ (put undef (fun h => by cases h) fun _ => rfl) (by rw [put_defers]; exact hdf) (Ext.refl _ _ _) hK

/-! ## Calls -/

def putR (ρ : Env) (d : Nat) (r : DV) : Env := if isOwn r = true then set (kill d ρ) d r else set ρ d r

theorem Sim.called {w w' : World} {I I' : Nat → Prop} {A : Own} {a : Act} {O' : Env} (hs : Sim nt w I A ρ a) (h1 : OSim w' I' A O') (h2 : ∀ s, frOk (ρ s) (O' s)) (h3 : ∀ s, isOut (ρ s) → isOut (O' s)) (h4 : Ext w I A w' I' A) :
    Sim nt w' I' A O' a where
  osim := h1
  size := hs.size
  bound := hs.bound
  slot := fun i hi => by
    have hsl := hs.slot i hi
    have hf := h2 i
    have hrel : ∀ d x, Rel w I A d x → Rel w' I' A d x := fun d x hr => h4.rel hs.osim hr
    generalize a.tmps.getD i undef = x at *
    generalize ρ i = d at *
    generalize O' i = d' at *
    cases d with
    | bx cs =>
      cases d' <;> simp only [frOk] at hf <;> first | cases hf | skip
      exact hsl
    | row e z xs =>
      cases d' with
      | row e' z' xs' =>
        obtain ⟨rfl, rfl, hl⟩ := hf
        obtain ⟨B, c, k1, k2⟩ := hsl
        exact ⟨B, c, k1, by rw [← hl]; exact k2⟩
      | _ => cases hf
    | cond g y => simp only [frOk] at hf; subst hf; exact ⟨fun hg => hrel _ _ (hsl.1 hg), hsl.2⟩
    | any => simp only [frOk] at hf; subst hf; exact .any A x
    | v y => simp only [frOk] at hf; subst hf; exact hrel _ _ hsl
    | sl z n f => simp only [frOk] at hf; subst hf; exact hrel _ _ hsl
    | agg cs => simp only [frOk] at hf; subst hf; exact hrel _ _ hsl
    | tup cs => simp only [frOk] at hf; subst hf; exact hrel _ _ hsl
    | dp cs => simp only [frOk] at hf; subst hf; exact hrel _ _ hsl
    | bp t o => simp only [frOk] at hf; subst hf; exact hrel _ _ hsl
    | own t n => simp only [frOk] at hf; subst hf; exact hrel _ _ hsl
    | rp t z i o => simp only [frOk] at hf; subst hf; exact hrel _ _ hsl
    | fn f b c => simp only [frOk] at hf; subst hf; exact hrel _ _ hsl
    | iface t y => simp only [frOk] at hf; subst hf; exact hrel _ _ hsl
    | mr t => simp only [frOk] at hf; subst hf; exact hrel _ _ hsl
    | ez => simp only [frOk] at hf; subst hf; exact hrel _ _ hsl
    | mo es => simp only [frOk] at hf; subst hf; exact hsl
  out := fun s hs' => h3 s (hs.out s hs')

theorem allK_true : ∀ d, allK (fun _ => true) d = true := by
  intro d
  refine DV.rec (motive_1 := fun d => allK (fun _ => true) d = true) (motive_2 := fun l => allKL (fun _ => true) l = true) (motive_3 := fun _ => True)
    ?_ ?_ ?_ ?_ ?_ ?_ ?_ ?_ ?_ ?_ ?_ ?_ ?_ ?_ ?_ ?_ ?_ ?_ ?_ ?_ ?_ d
  all_goals (intros; simp_all [allK, allKL])

/-- What a call hands back goes into slot d. -/
theorem Sim.res {w w0 : World} {I I0 : Nat → Prop} {A : Own} {a : Act} (hs : Sim nt w I A ρ a) {d : Nat} (hd : d < nt) {r : DV} {x : Value} (h : ResRel w0 w I A r x) (hm : isOwn r = true → killD d r = r)
    (hA : ∀ s g c, A s = some (some g, c) → g < w0.heap.size) (h0 : Ext w0 I0 A w I A) :
    ∃ A', Sim nt w I A' (putR ρ d r) (a.put (some d) x) ∧ Ext w0 I0 A w I A' := by
  have hb := hs.bound
  cases r with
  | bx cs =>
    obtain ⟨g, us, et, rfl, h1, h2, h3, h4, h5, h6, h7⟩ := h
    refine ⟨upd A d (some (some g, 0)), ?_, ⟨h0.os, h0.tape, h0.output, h0.size, h0.imm, fun g' hg' hA' => ?_, fun s g' c' hs' hg' hl => ?_, fun s hs' => upd_ne A _ (by omega)⟩⟩
    · show Sim nt w I _ (set (kill d ρ) d _) _
      refine hs.own hd (fun g' hg' => ?_) ⟨g, 0, upd_same _ _ _, rfl⟩ ⟨g, 0, us, et, upd_same _ _ _, h1, h2, h3, fun j e u he hu => ?_⟩
      · cases hg'
        exact ⟨h6, h7, fun s c' _ hc => by have := hA s g c' hc; omega⟩
      · refine (h4 j e u he hu).congrA (fun s => s != d) ?_ fun t ht => upd_ne A _ (by simpa using ht)
        have hm := hm rfl
        unfold killD at hm
        split at hm
        · rename_i hk; exact allKL_get (by simpa [allK] using hk) he
        · cases hm
    · obtain ⟨e1, e2, _⟩ := h0.old g' hg' hA'
      refine ⟨e1, e2, fun s c' hc => ?_⟩
      unfold upd at hc
      split at hc
      · simp only [Option.some.injEq, Prod.mk.injEq] at hc; omega
      · exact hA' s c' hc
    · unfold upd at hs'
      split at hs'
      · simp only [Option.some.injEq, Prod.mk.injEq] at hs'; omega
      · exact ⟨s, c', hl, hs'⟩
  | row e z xs =>
    obtain ⟨B, c, ⟨b, hb', rfl⟩, h1, h2⟩ := h
    refine ⟨upd A d (some (B, c)), ?_, ⟨h0.os, h0.tape, h0.output, h0.size, h0.imm, fun g' hg' hA' => ?_, fun s g' c' hs' hg' hl => ?_, fun s hs' => upd_ne A _ (by omega)⟩⟩
    · show Sim nt w I _ (set (kill d ρ) d _) _
      refine hs.own hd (fun g' hg' => ?_) ⟨B, c, upd_same _ _ _, b, hb', rfl⟩ ⟨B, c, upd_same _ _ _, h1⟩
      obtain ⟨k1, k2, k3⟩ := h2 g' hg'
      exact ⟨k2, k3, fun s c' _ hc => by have := hA s g' c' hc; omega⟩
    · obtain ⟨e1, e2, _⟩ := h0.old g' hg' hA'
      refine ⟨e1, e2, fun s c' hc => ?_⟩
      unfold upd at hc
      split at hc
      · simp only [Option.some.injEq, Prod.mk.injEq] at hc
        have := (h2 g' hc.1).1
        omega
      · exact hA' s c' hc
    · unfold upd at hs'
      split at hs'
      · simp only [Option.some.injEq, Prod.mk.injEq] at hs'
        have := (h2 g' hs'.1).1
        omega
      · exact ⟨s, c', hl, hs'⟩
  | cond g y => exact absurd h (by intro h; cases h)
  | mo es => exact absurd h (by intro h; cases h)
  | _ =>
    refine ⟨A, ?_, h0⟩
    show Sim nt w I A (set ρ d _) _
    exact hs.put hd (.ofRel h) trivial

/-- The function called and all its arguments. -/
def callee (d : DV) (args : List DV) : Option (FuncId × List DV) :=
  match d with
  | .fn f first captured => some (f, first ++ args ++ captured)
  | _ => none

def hasBody (P : Program) (f : FuncId) : Bool :=
  match P.funcs[f]? with
  | some fn => fn.body.isSome && !(fn.name == "runtime.NumGoroutine")
  | none => false

/-- What is owed at a call, and what follows. -/
def CallG (P : Program) (ρ : Env) (f : FuncId) (args : List DV) (k : Env → DV → Prop) (_ : Tg k) : Prop :=
  ∃ R : Env → DV → Prop, ECall P ρ f args R ∧ ∀ O' r, R O' r → k O' r

theorem resolve_run {w : World} {I : Nat → Prop} {A : Own} {a : Act} (hs : Sim nt w I A ρ a) {o : Oper} {fv : Operand} {args : Array Operand} {ts : Array TypeId} (hop : o.op = .call ⟨.value fv, args, ts⟩)
    (ho : opsOk nt o = true) (hgf : gd (ev ρ fv)) (hga : ∀ x ∈ args.toList, gd (ev ρ x)) {f : FuncId} {l : List DV} (hc : callee (un (ev ρ fv)) (args.toList.map fun x => un (ev ρ x)) = some (f, l)) (hb : hasBody P f = true) :
    ∃ vals : Array Value, (execOp a.eval o).run P w = .ok (.enter f vals) w ∧ vals.size = l.length ∧ ∀ (j : Nat) (d : DV) (u : Value), l[j]? = some d → vals[j]? = some u → Rel w I A d u := by
  have hop' := fun x hx hg => hs.opd x (opsOk_mem ho (x := x) hx) hg
  rw [hop] at hop'
  have hf := hop' fv (by simp [Op.operands, Call.operands]) hgf
  have hargs : ∀ x ∈ args.toList, Rel w I A (un (ev ρ x)) (a.eval x) := fun x hx => hop' x (by simp [Op.operands, Call.operands]; exact .inr (by simpa using hx)) (hga x hx)
  generalize un (ev ρ fv) = d at *
  unfold callee at hc
  cases d <;> try cases hc
  rename_i first captured
  generalize hv : a.eval fv = v at *
  cases hf with
  | fn _ _ _ _ us vs hf1 hc1 hfr hcr =>
    have hcf : ∀ vals : Array Value, (callFunc f vals).run P w = .ok (.enter f vals) w := fun vals => by
      unfold hasBody at hb
      cases hP : P.funcs[f]? with
      | none => rw [hP] at hb; cases hb
      | some fn =>
        rw [hP] at hb
        simp only [Bool.and_eq_true, Bool.not_eq_true'] at hb
        have hn : fn.body.isNone = false := by cases h : fn.body <;> simp_all
        simp only [callFunc, Sem.run_bind, run_program, Result.andThen_ok, hP, hb.2, hn, Bool.false_eq_true, if_false, Sem.run_pure]
    refine ⟨us ++ args.map a.eval ++ vs, ?_, by simp [hf1, hc1], ?_⟩
    · simp [execOp, hop, resolve, hv, Deferred.ofValue, invoke, hcf]
    · intro j d u hd hu
      rw [List.getElem?_append, List.getElem?_append] at hd
      rw [Array.getElem?_append, Array.getElem?_append] at hu
      simp only [List.length_append, List.length_map, Array.length_toList, Array.size_append, Array.size_map] at hd hu
      rw [hf1] at hd
      split at hd
      · rename_i h1
        rw [if_pos h1] at hu
        split at hd
        · rename_i h2
          rw [if_pos h2] at hu
          exact hfr j d u hd hu
        · rename_i h2
          rw [if_neg h2] at hu
          simp only [List.getElem?_map, Option.map_eq_some_iff, Array.getElem?_toList, Array.getElem?_map] at hd hu
          obtain ⟨x, hx, rfl⟩ := hd
          obtain ⟨y, hy, rfl⟩ := hu
          rw [hx] at hy
          cases hy
          exact hargs x (by simpa using Array.mem_of_getElem? hx)
      · rename_i h1
        rw [if_neg h1] at hu
        exact hcr _ d u hd hu

theorem ow_call {o : Oper} {K : Env → Prop} {fv : Operand} {args : Array Operand} {ts : Array TypeId} {d : Nat} (hop : o.op = .call ⟨.value fv, args, ts⟩) (hg : o.guard = none) (hdst : o.dst = some d) (hd : d < nt)
    (ho : opsOk nt o = true) (hgf : gd (ev ρ fv)) (hga : ∀ x ∈ args.toList, gd (ev ρ x)) {f : FuncId} {l : List DV} (hc : callee (un (ev ρ fv)) (args.toList.map fun x => un (ev ρ x)) = some (f, l)) (hb : hasBody P f = true)
    {t : Tg _} (h : CallG P ρ f l (fun O' r => (isOwn r = true → killD d r = r) ∧ K (putR O' d r)) t) : OW P nt ops o K ρ := by
  intro I A a w hs hdf next Q' hn
  obtain ⟨vals, h1, h2, h3⟩ := resolve_run hs hop ho hgf hga hc hb
  obtain ⟨R, hR, hk⟩ := h
  rw [if_pos (by simp [Region.wanted, hg])]
  unfold Oper.wp
  rw [h1, Oper.upon_enter]
  refine (hR w I A vals hs.osim h2 h3).mono ?_
  rintro e w' ⟨v, I', O', r, rfl, k1, k2, k3, k4, k5, k6⟩
  obtain ⟨j1, j2⟩ := hk O' r k6
  obtain ⟨A', q1, q2⟩ := (hs.called k1 k2 k3 k4).res hd k5 j1 (fun s g c hA => (hs.osim.sep s g c hA).1) k4
  rw [hdst]
  exact hn I' A' _ w' _ q1 (by rw [put_defers]; exact hdf) q2 j2

/-- A pure call under a guard. -/
theorem ow_gcall {l' : List Oper} {o : Oper} {K : Env → Prop} {fv : Operand} {args : Array Operand} {ts : Array TypeId} {d j : Nat} {want g : Bool} (hop : o.op = .call ⟨.value fv, args, ts⟩) (hg : o.guard = some (j, want)) (hdst : o.dst = some d) (hd : d < nt)
    (hall : l'.all (dstOk nt) = true) (ho : opsOk nt o = true) (hgj : gAt l' ρ j want = some g) {f : FuncId} {l : List DV} {r : DV} (hr : isOwn r = false)
    (h : g = true → gd (ev ρ fv) ∧ (∀ x ∈ args.toList, gd (ev ρ x)) ∧ callee (un (ev ρ fv)) (args.toList.map fun x => un (ev ρ x)) = some (f, l) ∧ hasBody P f = true ∧ PCall P ρ f l r)
    (hK : K (set ρ d (.cond g r))) : OW P nt l'.toArray o K ρ := by
  intro I A a w hs hdf next Q' hn
  rw [gAt_sound hs hg hall hgj]
  cases g with
  | true =>
    obtain ⟨g1, g2, g3, g4, g5⟩ := h rfl
    obtain ⟨vals, h1, h2, h3⟩ := resolve_run hs hop ho g1 g2 g3 g4
    rw [if_pos rfl]
    unfold Oper.wp
    rw [h1, Oper.upon_enter]
    refine (g5 w I A vals hs.osim h2 h3).mono ?_
    rintro e w' ⟨v, I', O', r', rfl, k1, k2, k3, k4, k5, rfl, rfl⟩
    have k5' : Rel w' I' A r' v := by cases r' <;> first | exact k5 | (cases hr)
    rw [hdst]
    exact hn I' A _ w' _ ((hs.called k1 k2 k3 k4).put (v := .cond true r') hd ⟨fun _ => k5', fun h => by cases h⟩ trivial) (by rw [put_defers]; exact hdf) k4 hK
  | false =>
    rw [if_neg (by simp), hdst]
    exact hn I A _ w _ (hs.put (v := .cond false r) hd ⟨(fun h => by cases h), fun _ => rfl⟩ trivial) (by rw [put_defers]; exact hdf) (Ext.refl _ _ _) hK

end
end Go.Sg
