/- Running code on the heap of numbers: calls, regions in the text's order, regions in any order, code, functions. -/
import Derived.Test.YtnpokifaejcbeaaGreatDoorRvApp
import Derived.Orders
import Derived.OrdersIn
import Derived.RangeFuncRecord
import Derived.TacticsIn
import Derived.LoopNIn
set_option linter.unusedVariables false
set_option linter.unusedSimpArgs false
namespace Go.Rv
open Go.RowKit Go.Sg

/-- The fence that lets everything in; in a round of a range over a function or not. -/
def FR (ro : Option Nat) : Fence := { Fence.wide with round := ro }
theorem FR_none : FR none = Fence.wide := rfl
theorem room_FR (ro : Option Nat) (n : Nat) : (FR ro).room n := fun _ h => by simp [FR, Fence.wide] at h
theorem depth_FR (ro : Option Nat) {n k : Nat} : (FR ro).depth.isSome = true → k ≤ n := fun h => by simp [FR, Fence.wide] at h
theorem callsIn_FR {ro : Option Nat} {n : Nat} {P : Program} {f : FuncId} {args : Array Value} {w : World} {R : Ending → World → Prop} (h : Calls P f args w R) : CallsIn (FR ro) n P f args w R :=
  ⟨trivial, fun cs _ => let ⟨e, w', fr, r, s, x⟩ := h cs; ⟨e, w', fr, r, comesIn_wide.2 s, x⟩⟩
theorem roundIn_FR {ro : Option Nat} {n k : Nat} {P : Program} {l : Nat} {f : FuncId} {tmps : Array Value} {asg body : Code} {w : World} {R : Ending → World → Prop} (h : RoundIn (FR none) n P l f tmps asg body w R) : RoundIn (FR ro) k P l f tmps asg body w R :=
  ⟨trivial, fun c cs _ => h.2 c cs (room_FR _ _)⟩

/-- Calls: the barrier, the function or the loop's record, its arguments, the heap, the next number. -/
abbrev Calr := Nat → FuncId ⊕ Nat → List RV → Tr Blk → Nat → Option (RV × Tr Blk × Nat)

def EndsIn (lo : Nat) (E : Emb) (h : Tr Blk) (n : Nat) (w : World) (r : RV) (h' : Tr Blk) (n' m : Nat) (e : Ending) (w' : World) : Prop :=
  ∃ y E', e = .returned y ∧ HS E' h'.get n' m w' ∧ RX lo E h.get n w E' h'.get n' w' ∧ Rr E' r y
def CallOk (P : Program) (lo : Nat) (f : FuncId ⊕ Nat) (l : List RV) (h : Tr Blk) (n : Nat) (r : RV) (h' : Tr Blk) (n' : Nat) : Prop :=
  KH lo h h' n n' ∧ ∀ (m : Nat) (E : Emb) (w : World) (vals : Array Value), n' ≤ m → HS E h.get n m w → vals.size = l.length → (∀ (j : Nat) (d : RV) (u : Value), l[j]? = some d → vals[j]? = some u → Rr E d u) →
    match f with
    | .inl f => Calls P f vals w (EndsIn lo E h n w r h' n' m)
    | .inr b => ∀ g s, E b = some (g, s) → ∃ fn tmps asg body, (Instr.yield g vals).run P w = .ok (.round g fn tmps asg body) w ∧ RoundIn (FR none) 0 P g fn tmps asg body w (EndsIn lo E h n w r h' n' m)
def CallsOk (P : Program) (call : Calr) : Prop := ∀ lo f l h n r h' n', call lo f l h n = some (r, h', n') → lo ≤ n → CallOk P lo f l h n r h' n'

def calleeR (d : RV) (args : List RV) : Option ((FuncId ⊕ Nat) × List RV) :=
  match d with
  | .fn f a b => some (.inl f, a ++ args ++ b)
  | .yl b => some (.inr b, args)
  | _ => none

def okC (P : Program) : FuncId ⊕ Nat → Bool
  | .inl f => hasBody P f
  | .inr _ => true
def runR (P : Program) (call : Calr) (lo : Nat) (t : Tr RV) (h : Tr Blk) (n : Nat) (op : Op) : Option Mv :=
  match op with
  | .call ⟨.value f, args, _⟩ => (match calleeR (evR t f) (args.toList.map (evR t)) with
    | some (fid, l) => bif okC P fid then (call lo fid l h n).map fun q => (some q.1, q.2.1, q.2.2) else none
    | none => none)
  | op => match puR P t h.get op with
    | some v => some (some v, h, n)
    | none => mvR P lo t h n op

/-- An operation that is run. -/
def SOk (P : Program) (lo : Nat) (t : Tr RV) (h : Tr Blk) (n : Nat) (o : Oper) (r : Mv) : Prop :=
  KH lo h r.2.1 n r.2.2 ∧ ∀ (ro : Option Nat) (m : Nat) (E : Emb) (a : Act) (w : World), r.2.2 ≤ m → OpdOk E t a o → HS E h.get n m w → ∀ (next : Act → World → Prop) (Q' : Exit → Act → World → Prop),
    (∀ E' y w', HS E' r.2.1.get r.2.2 m w' → RX lo E h.get n w E' r.2.1.get r.2.2 w' → Rr E' (r.1.getD .nov) y → next (a.put o.dst y) w') → o.wpIn (FR ro) 0 P a w next Q'

section
variable {P : Program} {nt lo : Nat} {t : Tr RV} {h : Tr Blk} {n : Nat} {o : Oper} {r : Mv} {call : Calr}

/-- An operation that gives a value or none is no deferring one. -/
theorem semAt_value {ro : Option Nat} {ρ : Operand → Value} {w w' : World} {y : Value} (h : (execOp ρ o).run P w = .ok (.value y) w') : (o.semAt ro ρ).run P w = .ok (.value y) w' := by
  rw [Oper.semAt_eq ro ρ o fun c hc => ?_]
  · exact h
  · simp only [execOp, hc, Sem.run_bind] at h
    cases hq : (resolve ρ c o.type).run P w with
    | ok d w2 => rw [hq] at h; simp at h
    | halt x w2 => rw [hq] at h; simp [Result.andThen] at h
theorem semAt_skip {ro : Option Nat} {ρ : Operand → Value} {w w' : World} (h : (execOp ρ o).run P w = .ok .skip w') : (o.semAt ro ρ).run P w = .ok .skip w' := by
  rw [Oper.semAt_eq ro ρ o fun c hc => ?_]
  · exact h
  · simp only [execOp, hc, Sem.run_bind] at h
    cases hq : (resolve ρ c o.type).run P w with
    | ok d w2 => rw [hq] at h; simp at h
    | halt x w2 => rw [hq] at h; simp [Result.andThen] at h

theorem MOk.sOk (hm : MOk P lo t h n o r) : SOk P lo t h n o r := by
  refine ⟨hm.1, fun ro m E a w hle hs hh next Q' hn => ⟨fun _ _ => trivial, ?_⟩⟩
  obtain ⟨E', w', h1, h2, h3⟩ := hm.2 m E a w hle hs hh
  cases hr : r.1 with
  | none =>
    rw [hr] at h3
    simp only at h3
    rw [semAt_skip h3]
    exact hn E' _ w' h1 h2 (by rw [hr]; exact .nov)
  | some v =>
    rw [hr] at h3
    obtain ⟨y, h4, h5⟩ := h3
    rw [semAt_value h4]
    exact hn E' y w' h1 h2 (by rw [hr]; exact h5)

theorem mv_ok (hlo : lo ≤ n) (hr : mvR P lo t h n o.op = some r) : MOk P lo t h n o r := by
  cases hop : o.op with
  | alloc ty => exact mv_alloc hop hlo hr
  | box ty x => exact mv_box hop hlo hr
  | build ty parts => exact mv_build hop hr
  | buildSlice ty k parts => exact mv_lit hop hlo hr
  | makeSlice ty x y => exact mv_make hop hlo hr
  | store ty ad x => exact mv_store hop hr
  | makeMap ty x => exact mv_map hop hlo hr
  | range ty x => exact mv_range hop hlo hr
  | next x st =>
    cases st with
    | true => exact mv_next hop hr
    | false => rw [hop] at hr; cases hr
  | mapUpdate ty m k x => rw [hop] at hr; exact mv_upd (.inl hop) hr
  | insert ty m k x => rw [hop] at hr; exact mv_upd (.inr hop) hr
  | call c =>
    obtain ⟨cl, args, ts⟩ := c
    cases cl with
    | builtin b =>
      cases b with
      | append =>
        rw [hop] at hr
        simp only [mvR] at hr
        split at hr
        · rename_i x y t1 t2 hargs hts
          obtain rfl : args = #[x, y] := by apply Array.ext'; simpa using hargs
          obtain rfl : ts = #[t1, t2] := by apply Array.ext'; simpa using hts
          exact mv_append hop hlo hr
        · cases hr
      | delete =>
        rw [hop] at hr
        simp only [mvR] at hr
        split at hr
        · rename_i m k t1 tl hargs hts
          exact mv_del hop hargs hts hr
        · cases hr
      | _ => rw [hop] at hr; cases hr
    | _ => rw [hop] at hr; cases hr
  | _ => rw [hop] at hr; cases hr

theorem call_ok (hc : CallsOk P call) {f : Operand} {args : Array Operand} {ts : Array TypeId} (hop : o.op = .call ⟨.value f, args, ts⟩) (hlo : lo ≤ n) (hr : runR P call lo t h n o.op = some r) : SOk P lo t h n o r := by
  rw [hop] at hr
  simp only [runR] at hr
  split at hr <;> try cases hr
  rename_i fid l hl
  obtain ⟨hb, hr⟩ := bif_opt hr
  rw [Option.map_eq_some_iff] at hr
  obtain ⟨⟨v, h', n'⟩, hq, rfl⟩ := hr
  obtain ⟨k1, k2⟩ := hc _ _ _ _ _ _ _ _ hq hlo
  refine ⟨k1, fun ro m E a w hm hs hh next Q' hn => ⟨fun _ _ => trivial, ?_⟩⟩
  rw [Oper.semAt_eq _ _ _ fun c hc => by rw [hop] at hc; cases hc]
  unfold OpdOk at hs
  rw [hop] at hs
  have hf := hs f (by simp [Op.operands, Call.operands])
  have hargs : ∀ x ∈ args.toList, Rr E (evR t x) (a.eval x) := fun x hx => hs x (by simp [Op.operands, Call.operands]; exact .inr (by simpa using hx))
  generalize evR t f = d at *
  unfold calleeR at hl
  split at hl <;> cases hl
  rotate_left
  · rename_i b
    generalize hv : a.eval f = fv at *
    cases hf with
    | yl _ g s hE =>
      obtain ⟨fn, tmps, asg, body, q1, q2⟩ := k2 m E w (args.map a.eval) hm hh (by simp) (fun j d u hd hu => by
        simp only [List.getElem?_map, Option.map_eq_some_iff, Array.getElem?_toList, Array.getElem?_map] at hd hu
        obtain ⟨x, hx, rfl⟩ := hd
        obtain ⟨y, hy, rfl⟩ := hu
        rw [hx] at hy
        cases hy
        exact hargs x (by simpa using Array.mem_of_getElem? hx)) g s hE
      have hrun : (execOp a.eval o).run P w = .ok (.round g fn tmps asg body) w := by simp [execOp, hop, resolve, hv, Deferred.ofValue, invoke, q1]
      rw [hrun, Oper.uponIn_round]
      refine ⟨depth_FR _, roundIn_FR (q2.mono ?_)⟩
      rintro e w' ⟨y, E', rfl, p1, p2, p3⟩
      exact hn E' y w' p1 p2 p3
  rename_i fid first captured
  have hb : hasBody P fid = true := hb
  generalize hv : a.eval f = fv at *
  cases hf with
  | fn _ _ _ us vs hf1 hc1 hfr hcr =>
    have hcf : ∀ vals : Array Value, (callFunc fid vals).run P w = .ok (.enter fid vals) w := fun vals => by
      unfold hasBody at hb
      cases hP : P.funcs[fid]? with
      | none => rw [hP] at hb; cases hb
      | some fn =>
        rw [hP] at hb
        simp only [Bool.and_eq_true, Bool.not_eq_true'] at hb
        have hn : fn.body.isNone = false := by cases h : fn.body <;> simp_all
        simp only [callFunc, Sem.run_bind, run_program, Result.andThen_ok, hP, hb.2, hn, Bool.false_eq_true, if_false, Sem.run_pure]
    have hrun : (execOp a.eval o).run P w = .ok (.enter fid (us ++ args.map a.eval ++ vs)) w := by simp [execOp, hop, resolve, hv, Deferred.ofValue, invoke, hcf]
    rw [hrun, Oper.uponIn_enter]
    refine ⟨depth_FR _, callsIn_FR (Calls.mono (k2 m E w (us ++ args.map a.eval ++ vs) hm hh (by simp [hf1, hc1]) fun j d u hd hu => ?_) ?_)⟩
    · rw [List.getElem?_append, List.getElem?_append] at hd
      rw [Array.getElem?_append, Array.getElem?_append] at hu
      simp only [List.length_append, List.length_map, Array.length_toList, Array.size_append, Array.size_map] at hd hu
      rw [hf1] at hd
      split at hd
      · rename_i h1
        rw [if_pos h1] at hu
        split at hd
        · rename_i h2
          rw [if_pos h2] at hu
          exact hfr j d u hd hu
        · rename_i h2
          rw [if_neg h2] at hu
          simp only [List.getElem?_map, Option.map_eq_some_iff, Array.getElem?_toList, Array.getElem?_map] at hd hu
          obtain ⟨x, hx, rfl⟩ := hd
          obtain ⟨y, hy, rfl⟩ := hu
          rw [hx] at hy
          cases hy
          exact hargs x (by simpa using Array.mem_of_getElem? hx)
      · rename_i h1
        rw [if_neg h1] at hu
        exact hcr _ d u hd hu
    · rintro e w' ⟨y, E', rfl, q1, q2, q3⟩
      exact hn E' y w' q1 q2 q3

theorem runR_ok (hc : CallsOk P call) (hlo : lo ≤ n) (hr : runR P call lo t h n o.op = some r) : SOk P lo t h n o r := by
  by_cases hcl : ∃ f args ts, o.op = .call ⟨.value f, args, ts⟩
  · obtain ⟨f, args, ts, hop⟩ := hcl
    exact call_ok hc hop hlo hr
  · have hr' : (match puR P t h.get o.op with
      | some v => some (some v, h, n)
      | none => mvR P lo t h n o.op) = some r := by
      cases hop : o.op with
      | call c =>
        obtain ⟨cl, args, ts⟩ := c
        cases cl with
        | value f => exact absurd ⟨f, args, ts, hop⟩ hcl
        | _ => rw [hop] at hr; exact hr
      | _ => rw [hop] at hr; exact hr
    split at hr'
    · rename_i v hv
      cases hr'
      refine ⟨KH.refl _ _ _, fun ro m E a w hm hs hh next Q' hn => ⟨fun _ _ => trivial, ?_⟩⟩
      obtain ⟨y, h1, h2⟩ := puR_ok hh o hs hv
      rw [semAt_value h1]
      exact hn E y w hh (RX.refl _ _ _ _ _) h2
    · exact (mv_ok hlo hr').sOk

/-! ## Guards -/

def gAt (ops : List Oper) (t : Tr RV) (j : Nat) (want : Bool) : Option Bool :=
  match ops[j]? with
  | some o => match o.dst with
    | some d => gW want ((t.get d).getD .nov)
    | none => none
  | none => none

/-- The slot that a guard looks at. -/
def gSlot (ops : List Oper) (o : Oper) : Option Nat :=
  match o.guard with
  | none => none
  | some (j, _) => match ops[j]? with
    | some oj => oj.dst
    | none => none

def evO (P : Program) (call : Calr) (lo : Nat) (ops : List Oper) (t : Tr RV) (h : Tr Blk) (n : Nat) (o : Oper) : Option Mv :=
  match o.guard with
  | none => runR P call lo t h n o.op
  | some (j, want) => match gAt ops t j want with
    | some true => runR P call lo t h n o.op
    | some false => some (some .nov, h, n)
    | none => none

def GOk (P : Program) (lo : Nat) (ops : List Oper) (t : Tr RV) (h : Tr Blk) (n : Nat) (o : Oper) (r : Mv) : Prop :=
  KH lo h r.2.1 n r.2.2 ∧ ∀ (ro : Option Nat) (m : Nat) (E : Emb) (a : Act) (w : World), r.2.2 ≤ m → OpdOk E t a o → (∀ d, gSlot ops o = some d → d < a.tmps.size ∧ Rr E ((t.get d).getD .nov) (a.tmps.getD d undef)) → HS E h.get n m w →
    ∀ (next : Act → World → Prop) (Q' : Exit → Act → World → Prop), (∀ E' y w', HS E' r.2.1.get r.2.2 m w' → RX lo E h.get n w E' r.2.1.get r.2.2 w' → Rr E' (r.1.getD .nov) y → next (a.put o.dst y) w') →
    if Region.wanted o (yielded ops.toArray a.tmps) = true then o.wpIn (FR ro) 0 P a w next Q' else (∀ f, o.about P w a.eval = some f → (FR ro).fn f) ∧ next (a.put o.dst undef) w

theorem gAt_sound {ops : List Oper} {E : Emb} {a : Act} {j : Nat} {want g : Bool} (hg : o.guard = some (j, want)) (hs : ∀ d, gSlot ops o = some d → d < a.tmps.size ∧ Rr E ((t.get d).getD .nov) (a.tmps.getD d undef)) (h : gAt ops t j want = some g) :
    Region.wanted o (yielded ops.toArray a.tmps) = g := by
  unfold gAt at h
  split at h <;> try cases h
  rename_i oj hj
  split at h <;> try cases h
  rename_i d hd
  obtain ⟨hlt, hsl⟩ := hs d (by unfold gSlot; rw [hg]; simp only [hj, hd])
  have hy : yielded ops.toArray a.tmps j = match a.tmps.getD d undef with | .bool b => some b | _ => none := by
    unfold yielded
    simp only [List.getElem?_toArray, hj, Option.bind_some, hd, Array.getElem?_eq_getElem hlt, Array.getD_eq_getD_getElem?, Option.getD_some]
    cases a.tmps[d] <;> rfl
  unfold Region.wanted
  rw [hg]
  simp only [hy]
  generalize a.tmps.getD d undef = x at *
  unfold gW at h
  split at h
  · rename_i b hρ
    rw [hρ] at hsl
    cases hsl
    cases h
    cases b <;> cases want <;> rfl
  · rename_i hρ
    rw [hρ] at hsl
    cases hsl
    cases h
    rfl
  · cases h

theorem evO_ok (hc : CallsOk P call) (hlo : lo ≤ n) {ops : List Oper} (hr : evO P call lo ops t h n o = some r) : GOk P lo ops t h n o r := by
  unfold evO at hr
  split at hr
  · rename_i hg
    obtain ⟨k1, k2⟩ := runR_ok hc hlo hr
    refine ⟨k1, fun ro m E a w hm hs hgs hh next Q' hn => ?_⟩
    rw [if_pos (by simp [Region.wanted, hg])]
    exact k2 ro m E a w hm hs hh next Q' hn
  · rename_i j want hg
    split at hr
    · rename_i hgt
      obtain ⟨k1, k2⟩ := runR_ok hc hlo hr
      refine ⟨k1, fun ro m E a w hm hs hgs hh next Q' hn => ?_⟩
      rw [gAt_sound hg hgs hgt, if_pos rfl]
      exact k2 ro m E a w hm hs hh next Q' hn
    · rename_i hgt
      cases hr
      refine ⟨KH.refl _ _ _, fun ro m E a w hm hs hgs hh next Q' hn => ?_⟩
      rw [gAt_sound hg hgs hgt, if_neg (by simp)]
      exact ⟨fun _ _ => trivial, hn E undef w hh (RX.refl _ _ _ _ _) .nov⟩
    · cases hr

/-! ## Regions in the text's order -/

structure St where
  t : Tr RV
  h : Tr Blk
  n : Nat

def setD (t : Tr RV) (dst : Option Nat) (v : RV) : Tr RV := match dst with
  | some d => t.set d (some v)
  | none => t

def evOps (P : Program) (call : Calr) (lo : Nat) (ops : List Oper) : List Oper → St → Option St
  | [], s => some s
  | o :: l, ⟨t, h, n⟩ => match evO P call lo ops t h n o with
    | some (v, h', n') => evOps P call lo ops l ⟨setD t o.dst (v.getD .nov), h', n'⟩
    | none => none

def regOkR (nt : Nat) (l : List Oper) : Bool := decide (nt ≤ ub) && l.all fun o => opsOk nt o && dstOk nt o
theorem regOkR_get {l : List Oper} (h : regOkR nt l = true) : nt ≤ ub ∧ ∀ o ∈ l, opsOk nt o = true ∧ dstOk nt o = true := by
  unfold regOkR at h
  simp only [Bool.and_eq_true, decide_eq_true_eq, List.all_eq_true] at h
  exact ⟨h.1, fun o ho => h.2 o ho⟩

theorem SS.putD {E : Emb} {a : Act} (hs : SS nt E t a) (hnt : nt ≤ ub) {dst : Option Nat} (hd : ∀ d, dst = some d → d < nt) {v : RV} {x : Value} (hr : Rr E v x) : SS nt E (setD t dst v) (a.put dst x) := by
  cases dst with
  | none => exact hs
  | some d => exact hs.put (hd d rfl) (by have := hd d rfl; omega) hr

theorem dstOk_lt (h : dstOk nt o = true) : ∀ d, o.dst = some d → d < nt := fun d hd => by unfold dstOk at h; rw [hd] at h; simpa using h

theorem gSlot_lt {ops : List Oper} (hall : ∀ o ∈ ops, dstOk nt o = true) : ∀ d, gSlot ops o = some d → d < nt := fun d hd => by
  unfold gSlot at hd
  split at hd <;> try cases hd
  split at hd <;> try cases hd
  rename_i oj hj
  exact dstOk_lt (hall oj (List.mem_of_getElem? hj)) d hd

theorem SS.gslot {E : Emb} {a : Act} (hs : SS nt E t a) {ops : List Oper} (hall : ∀ o ∈ ops, dstOk nt o = true) : ∀ d, gSlot ops o = some d → d < a.tmps.size ∧ Rr E ((t.get d).getD .nov) (a.tmps.getD d undef) := fun d hd =>
  have := gSlot_lt hall d hd
  ⟨by rw [hs.size]; exact this, hs.slot d this⟩

theorem evOps_ok (hc : CallsOk P call) {ops : List Oper} (hreg : regOkR nt ops = true) : ∀ (l : List Oper) (s s' : St), (∀ o ∈ l, o ∈ ops) → evOps P call lo ops l s = some s' → lo ≤ s.n → KH lo s.h s'.h s.n s'.n ∧
    ∀ (ro : Option Nat) (m : Nat) (E : Emb) (a : Act) (w : World) (Q' : Exit → Act → World → Prop), s'.n ≤ m → SS nt E s.t a → HS E s.h.get s.n m w → (∀ E' a' w', SS nt E' s'.t a' → a'.defers = a.defers → HS E' s'.h.get s'.n m w' → RX lo E s.h.get s.n w E' s'.h.get s'.n w' → Q' .normal a' w') → wpListIn (FR ro) 0 P ops.toArray Q' l a w
  | [], s, s', _, hr, hlo => by
    unfold evOps at hr
    cases hr
    exact ⟨KH.refl _ _ _, fun ro m E a w Q' hm hs hh hq => hq E a w hs rfl hh (RX.refl _ _ _ _ _)⟩
  | o :: l, ⟨t, h, n⟩, s', hmem, hr, hlo => by
    unfold evOps at hr
    split at hr
    · rename_i v h' n' hv
      obtain ⟨k1, k2⟩ := evO_ok hc hlo hv
      obtain ⟨i1, i2⟩ := evOps_ok hc hreg l _ s' (fun o ho => hmem o (by simp [ho])) hr (Nat.le_trans hlo k1.nn)
      obtain ⟨hnt, hall⟩ := regOkR_get hreg
      obtain ⟨ho1, ho2⟩ := hall o (hmem o (by simp))
      refine ⟨k1.trans i1, fun ro m E a w Q' hm hs hh hq => wpListIn_step fun K hK => ?_⟩
      have hm1 : n' ≤ m := Nat.le_trans i1.nn hm
      refine k2 ro m E a w hm1 (hs.opds ho1) (hs.gslot fun o ho => (hall o ho).2) hh K Q' fun E' y w' q1 q2 q3 => hK _ _ ?_
      refine i2 ro m E' _ w' Q' hm ((hs.mono (hh.up q2 hm1)).putD hnt (dstOk_lt ho2) q3) q1 fun E2 a2 w2 p1 p2 p3 p4 => hq E2 a2 w2 p1 (by rw [p2, put_defers]) p3 (q2.trans p4 hh hm1 hlo)
    · cases hr
end
end Go.Rv
