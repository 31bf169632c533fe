/- Several texts as one. -/
import Derived.Test.YtbndgcddihbhlaaSgB
import Derived.DeepKeys4
import Derived.MapKept
import Derived.Test.YtbndgcddihbhlaaSgC
import Derived.RangeFuncIn
import Derived.RangeFuncRecord
import Derived.RangeFuncLeaves
set_option linter.unusedVariables false
set_option linter.unusedSimpArgs false
namespace Go.Rv
open Go.RowKit Go.Sg
noncomputable section
/-! ## Keys are compared -/
def goodB (P : Program) (k : TypeId) (v : Value) : Bool :=
  match P.underlying k with
  | some .bool => (match v with | .bool _ => true | _ => false)
  | some (.int q) => (match v with | .int q' _ => decide (q' = q) | _ => false)
  | some .string => (match v with | .string _ => true | _ => false)
  | some (.array _ _) => (keyOf P k v).isSome && P.keyTypeAt 8 k && P.tiled 8 k
  | some (.struct _) => (keyOf P k v).isSome && P.keyTypeAt 8 k && P.tiled 8 k
  | _ => false
section
variable {P : Program} {k : TypeId}
structure KeyRun (P : Program) (k : TypeId) : Prop where
  check : ∀ (w : World) (em : Bool) {v : Value}, goodB P k v = true → (Instr.checkKey em 10000 k v).run P w = .ok () w
  find : ∀ (w : World) {x : Value}, goodB P k x = true → ∀ es : List MapEntry, (∀ e ∈ es, goodB P k e.key = true) →
    ((Instr.findKey k x es).run P w = .ok none w ∧ ∀ e ∈ es, e.key ≠ x) ∨ ∃ j e, (Instr.findKey k x es).run P w = .ok (some (j, e.val)) w ∧ es[j]? = some e ∧ e.key = x
  stays : ∀ (w : World) {v : Value}, goodB P k v = true → (Instr.keyThatStays v v).run P w = .ok v w
theorem keyRun_plain {d : TypeDesc} (hd : P.underlying k = some d) (hg : ∀ v, goodB P k v = true → MapKept.IsKey d v) : KeyRun P k where
  check := fun w em v hv => MapKept.run_checkKey hd (hg v hv) em 9999
  find := fun w x hx es hes => by
    rcases MapKept.findNow_spec (hg x hx) es 0 (fun e he => hg _ (hes e he)) with ⟨h1, h2⟩ | ⟨j, e, h1, h2, h3⟩
    · exact .inl ⟨MapKept.run_findKey hd h1, h2⟩
    · exact .inr ⟨j, e, by rw [MapKept.run_findKey hd h1, Nat.zero_add], h2, h3⟩
  stays := fun w v hv => MapKept.run_keyThatStays (hg v hv)
theorem keyRun_deep (hw : (match P.underlying k with | some (.array _ _) | some (.struct _) => true | _ => false) = true) (hk : P.keyTypeAt 8 k = true) (ht : P.tiled 8 k = true)
    (hg : ∀ v, goodB P k v = true → ∃ l, keyOf P k v = some l) : KeyRun P k where
  check := fun w em v hv => by obtain ⟨l, hl⟩ := hg v hv; exact (deep_law (m := 8) (by omega) hk ht hw).check w em hl
  find := fun w x hx es hes => by
    obtain ⟨l, hl⟩ := hg x hx
    exact (deep_law (m := 8) (by omega) hk ht hw).find w hl es fun e he => hg _ (hes e he)
  stays := fun w v hv => by obtain ⟨l, hl⟩ := hg v hv; exact (deep_law (m := 8) (by omega) hk ht hw).stays w hl
theorem keyRun_of {v : Value} (h : goodB P k v = true) : KeyRun P k := by
  cases hu : P.underlying k with
  | none => simp [goodB, hu] at h
  | some d =>
    cases d with
    | bool => exact keyRun_plain hu fun v hv => by cases v <;> simp [goodB, hu] at hv <;> trivial
    | int q => exact keyRun_plain hu fun v hv => by cases v <;> simp [goodB, hu] at hv; exact hv
    | string => exact keyRun_plain hu fun v hv => by cases v <;> simp [goodB, hu] at hv <;> trivial
    | array n e =>
      simp [goodB, hu] at h
      exact keyRun_deep (by simp [hu]) h.1.2 h.2 fun v hv => by simp [goodB, hu] at hv; exact Option.isSome_iff_exists.1 hv.1.1
    | struct fs =>
      simp [goodB, hu] at h
      exact keyRun_deep (by simp [hu]) h.1.2 h.2 fun v hv => by simp [goodB, hu] at hv; exact Option.isSome_iff_exists.1 hv.1.1
    | _ => simp [goodB, hu] at h
/-! ## What a look-up finds -/
end
end
end Go.Rv
set_option linter.unusedVariables false
set_option linter.unusedSimpArgs false
namespace Go.Sg
open Go.RowKit
open Go.Rv (goodB KeyRun keyRun_of)
section
variable {P : Program} {nt : Nat} {ρ : Env} {ops : Array Oper}
theorem ow_lookupA {o : Oper} {K : Env → Prop} {t : TypeId} {x k : Operand} {s : Nat} {kt e : TypeId} {i : TypeInfo} {z kv : Value} {es : List (Value × Value)} (hop : o.op = .lookup t x k false) (hg : o.guard = none) (ho : opsOk nt o = true) (hd : dstOk nt o = true)
    (hx : ev ρ x = .mr s) (hes : ρ s = .mo es) (hk : gd (ev ρ k)) (hkv : ∀ w I A v, Rel w I A (un (ev ρ k)) v → v = kv) (u1 : P.underlying t = some (.map kt e)) (u3 : P.info? e = some i) (u4 : i.zero = some z)
    (hgk : goodB P kt kv = true) (hges : ∀ e ∈ es, goodB P kt e.1 = true)
    (hN : (∀ e ∈ es, e.1 ≠ kv) → K (putD ρ o.dst (.v z))) (hS : ∀ es1 v es2, es = es1 ++ (kv, v) :: es2 → K (putD ρ o.dst (.v v))) : OW P nt ops o K ρ := by
  refine ow_val hg fun I A a w hs => ?_
  have hxr := hs.opd x (opsOk_mem ho (by simp [hop, Op.operands])) (by rw [hx]; trivial)
  have hkr := hkv _ _ _ _ (hs.opd k (opsOk_mem ho (by simp [hop, Op.operands])) hk)
  rw [hx] at hxr
  have hxr : Rel w I A (.mr s) (a.eval x) := hxr
  generalize hav : a.eval x = av at *
  cases hxr with
  | mr _ _ g c hA =>
    have hown := hs.osim.own s
    rw [hes] at hown
    obtain ⟨g', c', vs, cl, q1, q2, q3⟩ := hown
    rw [hA] at q1
    simp only [Option.some.injEq, Prod.mk.injEq] at q1
    obtain ⟨rfl, rfl⟩ := q1
    have kr : KeyRun P kt := keyRun_of hgk
    have hvs : ∀ e ∈ vs, goodB P kt e.key = true := fun m hm => hges (m.key, m.val) (by rw [← q3]; exact List.mem_map.2 ⟨m, hm, rfl⟩)
    have hck := kr.check w (vs.toArray.isEmpty) hgk
    rcases kr.find w hgk vs hvs with ⟨f1, f2⟩ | ⟨j, m, f1, f2, f3⟩
    · refine ⟨z, w, I, A, _, ?_, hs.putV hd (.v _ _), Ext.refl _ _ _, hN fun e he => ?_⟩
      · simp only [execOp, hop, hav, hkr, Instr.lookup, Sem.run_bind, run_underlying u1, MapKept.run_getObj_map q2, Result.andThen_ok, Sem.run_pure, hck]
        simp [f1, zeroValue, typeInfo, u3, u4]
      · rw [← q3] at he
        obtain ⟨m, hm, rfl⟩ := List.mem_map.1 he
        exact f2 m hm
    · refine ⟨m.val, w, I, A, _, ?_, hs.putV hd (.v _ _), Ext.refl _ _ _, hS (es.take j) m.val (es.drop (j + 1)) ?_⟩
      · simp only [execOp, hop, hav, hkr, Instr.lookup, Sem.run_bind, run_underlying u1, MapKept.run_getObj_map q2, Result.andThen_ok, Sem.run_pure, hck]
        simp [f1]
      · rw [← q3, ← f3]
        have hj : j < vs.length := by
          rcases Nat.lt_or_ge j vs.length with h | h
          · exact h
          · rw [List.getElem?_eq_none h] at f2; cases f2
        have hj2 : (vs.map (fun (m : MapEntry) => (m.key, m.val)))[j]? = some (m.key, m.val) := by rw [List.getElem?_map, f2]; rfl
        have hlt : j < (vs.map (fun (m : MapEntry) => (m.key, m.val))).length := by simp [hj]
        rw [List.getElem?_eq_getElem hlt] at hj2
        have := List.take_append_drop j (vs.map (fun (m : MapEntry) => (m.key, m.val)))
        rw [List.drop_eq_getElem_cons hlt, Option.some.inj hj2] at this
        exact this.symm
theorem upd_split {es : List (Value × Value)} {vs : List MapEntry} (q3 : vs.map (fun (m : MapEntry) => (m.key, m.val)) = es) {j : Nat} {m : MapEntry} (f2 : vs[j]? = some m) : es = es.take j ++ (m.key, m.val) :: es.drop (j + 1) := by
  subst q3
  have hj : j < vs.length := by
    rcases Nat.lt_or_ge j vs.length with h | h
    · exact h
    · rw [List.getElem?_eq_none h] at f2; cases f2
  have hj2 : (vs.map (fun (m : MapEntry) => (m.key, m.val)))[j]? = some (m.key, m.val) := by rw [List.getElem?_map, f2]; rfl
  have hlt : j < (vs.map (fun (m : MapEntry) => (m.key, m.val))).length := by simp [hj]
  rw [List.getElem?_eq_getElem hlt] at hj2
  have := List.take_append_drop j (vs.map (fun (m : MapEntry) => (m.key, m.val)))
  rw [List.drop_eq_getElem_cons hlt, Option.some.inj hj2] at this
  exact this.symm
theorem ow_updateA {o : Oper} {K : Env → Prop} {t : TypeId} {x k y : Operand} {s : Nat} {kt e : TypeId} {kv v : Value} {es : List (Value × Value)} (hop : o.op = .mapUpdate t x k y ∨ o.op = .insert t x k y) (hg : o.guard = none) (hdst : o.dst = none) (ho : opsOk nt o = true)
    (hx : ev ρ x = .mr s) (hes : ρ s = .mo es) (hk : gd (ev ρ k)) (hkv : ∀ w I A v, Rel w I A (un (ev ρ k)) v → v = kv) (hy : ev ρ y = .v v) (u1 : P.underlying t = some (.map kt e))
    (hgk : goodB P kt kv = true) (hges : ∀ e ∈ es, goodB P kt e.1 = true)
    (hN : (∀ e ∈ es, e.1 ≠ kv) → K (set ρ s (.mo (es ++ [(kv, v)])))) (hS : ∀ es1 u es2, es = es1 ++ (kv, u) :: es2 → K (set ρ s (.mo (es1 ++ (kv, v) :: es2)))) : OW P nt ops o K ρ := by
  refine ow_skip hg fun I A a w hs => ?_
  have hmem : ∀ q, q = x ∨ q = k ∨ q = y → q ∈ o.op.operands := fun q hq => by rcases hop with h | h <;> rw [h] <;> simp [Op.operands] <;> rcases hq with rfl | rfl | rfl <;> simp
  have hxr := hs.opd x (opsOk_mem ho (hmem x (.inl rfl))) (by rw [hx]; trivial)
  have hkr := hkv _ _ _ _ (hs.opd k (opsOk_mem ho (hmem k (.inr (.inl rfl)))) hk)
  have hyr := hs.opd y (opsOk_mem ho (hmem y (.inr (.inr rfl)))) (by rw [hy]; trivial)
  rw [hx] at hxr; rw [hy] at hyr
  have hxr : Rel w I A (.mr s) (a.eval x) := hxr
  have hyr : Rel w I A (.v v) (a.eval y) := hyr
  generalize hav : a.eval x = av at *
  generalize hyv : a.eval y = yv at *
  cases hyr
  cases hxr with
  | mr _ _ g c hA =>
    have hown := hs.osim.own s
    rw [hes] at hown
    obtain ⟨g', c', vs, cl, q1, q2, q3⟩ := hown
    rw [hA] at q1
    simp only [Option.some.injEq, Prod.mk.injEq] at q1
    obtain ⟨rfl, rfl⟩ := q1
    have kr : KeyRun P kt := keyRun_of hgk
    have hvs : ∀ e ∈ vs, goodB P kt e.key = true := fun m hm => hges (m.key, m.val) (by rw [← q3]; exact List.mem_map.2 ⟨m, hm, rfl⟩)
    have hck := kr.check w false hgk
    have hst := kr.stays w hgk
    rcases kr.find w hgk vs hvs with ⟨f1, f2⟩ | ⟨j, m, f1, f2, f3⟩
    · have hset := MapKept.heap_set (o' := .map (vs ++ [({ key := kv, val := v, born := cl } : MapEntry)]).toArray (cl + 1)) q2
      refine ⟨{ w with heap := w.heap.setIfInBounds g (.map (vs ++ [({ key := kv, val := v, born := cl } : MapEntry)]).toArray (cl + 1)) }, I, A, _, ?_, ?_, Ext.turnO hA hset.2 (by simp) rfl ⟨rfl, Nat.le_refl _⟩ rfl, hN fun e he => ?_⟩
      · rcases hop with h | h <;> simp [execOp, h, hav, hkr, hyv, Instr.mapUpdate, run_underlying u1, MapKept.run_getObj_map q2, hck, f1, MapKept.run_setObj_map _ q2]
      · rw [hdst]
        refine hs.turnO hA hset.2 (by simp) (fun x' hx' => ?_) ⟨g, c, _, _, hA, hset.1, by rw [List.map_append, q3]; rfl⟩ fun _ => rfl
        rw [hes] at hx'; exact hx'
      · rw [← q3] at he
        obtain ⟨m, hm, rfl⟩ := List.mem_map.1 he
        exact f2 m hm
    · have hspl := upd_split q3 f2
      rw [f3] at hspl
      have hjl : j < vs.length := by
        rcases Nat.lt_or_ge j vs.length with h | h
        · exact h
        · rw [List.getElem?_eq_none h] at f2; cases f2
      have hset := MapKept.heap_set (o' := .map (vs.toArray.modify j fun e => { e with key := kv, val := v }) cl) q2
      refine ⟨{ w with heap := w.heap.setIfInBounds g (.map (vs.toArray.modify j fun e => { e with key := kv, val := v }) cl) }, I, A, _, ?_, ?_, Ext.turnO hA hset.2 (by simp) rfl ⟨rfl, Nat.le_refl _⟩ rfl, hS _ _ _ hspl⟩
      · have hkey : ((vs.toArray[j]?).map (·.key)).getD kv = kv := by simp [f2, f3]
        rcases hop with h | h <;> simp [execOp, h, hav, hkr, hyv, Instr.mapUpdate, run_underlying u1, MapKept.run_getObj_map q2, hck, f1, f2, f3, hst, MapKept.run_setObj_map _ q2]
      · rw [hdst]
        refine hs.turnO hA hset.2 (by simp) (fun x' hx' => ?_) ⟨g, c, (vs.modify j fun e => { e with key := kv, val := v }), cl, hA, by rw [hset.1]; congr 2; simp, ?_⟩ fun _ => rfl
        · rw [hes] at hx'; exact hx'
        · apply List.ext_getElem?
          intro q
          rw [List.getElem?_map, List.getElem?_modify]
          have hq : es[q]? = (vs[q]?).map fun (m : MapEntry) => (m.key, m.val) := by rw [← q3, List.getElem?_map]
          have hjes : j ≤ es.length := by rw [← q3]; simp; omega
          rcases Nat.lt_trichotomy q j with h1 | h1 | h1
          · rw [List.getElem?_append_left (by rw [List.length_take]; omega), List.getElem?_take, if_pos h1, hq]
            cases vs[q]? with
            | none => rfl
            | some m' => simp [show j ≠ q by omega]
          · subst h1
            rw [List.getElem?_append_right (by rw [List.length_take]; omega), List.length_take, Nat.min_eq_left hjes, Nat.sub_self, List.getElem?_cons_zero, f2]
            simp
          · rw [List.getElem?_append_right (by rw [List.length_take]; omega), List.length_take, Nat.min_eq_left hjes]
            obtain ⟨r, hr⟩ : ∃ r, q - j = r + 1 := ⟨q - j - 1, by omega⟩
            rw [hr, List.getElem?_cons_succ, List.getElem?_drop, show j + 1 + r = q by omega, hq]
            cases vs[q]? with
            | none => rfl
            | some m' => simp [show j ≠ q by omega]
theorem ow_deleteA {o : Oper} {K : Env → Prop} {t ty2 : TypeId} {x k : Operand} {s : Nat} {kt e : TypeId} {kv : Value} {es : List (Value × Value)} (hop : o.op = .call ⟨.builtin .delete, #[x, k], #[t, ty2]⟩) (hg : o.guard = none) (hdst : o.dst = none) (ho : opsOk nt o = true)
    (hx : ev ρ x = .mr s) (hes : ρ s = .mo es) (hk : gd (ev ρ k)) (hkv : ∀ w I A v, Rel w I A (un (ev ρ k)) v → v = kv) (u1 : P.underlying t = some (.map kt e))
    (hgk : goodB P kt kv = true) (hges : ∀ e ∈ es, goodB P kt e.1 = true)
    (hN : (∀ e ∈ es, e.1 ≠ kv) → K (set ρ s (.mo es))) (hS : ∀ es1 u es2, es = es1 ++ (kv, u) :: es2 → K (set ρ s (.mo (es1 ++ es2)))) : OW P nt ops o K ρ := by
  refine ow_val hg fun I A a w hs => ?_
  have hxr := hs.opd x (opsOk_mem ho (by simp [hop, Op.operands, Call.operands])) (by rw [hx]; trivial)
  have hkr := hkv _ _ _ _ (hs.opd k (opsOk_mem ho (by simp [hop, Op.operands, Call.operands])) hk)
  rw [hx] at hxr
  have hxr : Rel w I A (.mr s) (a.eval x) := hxr
  generalize hav : a.eval x = av at *
  cases hxr with
  | mr _ _ g c hA =>
    have hown := hs.osim.own s
    rw [hes] at hown
    obtain ⟨g', c', vs, cl, q1, q2, q3⟩ := hown
    rw [hA] at q1
    simp only [Option.some.injEq, Prod.mk.injEq] at q1
    obtain ⟨rfl, rfl⟩ := q1
    have kr : KeyRun P kt := keyRun_of hgk
    have hvs : ∀ e ∈ vs, goodB P kt e.key = true := fun m hm => hges (m.key, m.val) (by rw [← q3]; exact List.mem_map.2 ⟨m, hm, rfl⟩)
    have hck := kr.check w (vs.toArray.isEmpty) hgk
    have exec : ∀ w', (Builtin.delete_ #[t, ty2] o.type #[.map (some g), kv]).run P w = .ok (.tuple #[]) w' → (execOp a.eval o).run P w = .ok (.value (.tuple #[])) w' := fun w' hw => by
      simp only [execOp, hop, resolve, Sem.run_bind, Sem.run_pure, Result.andThen_ok, invoke, builtin, List.map_toArray, List.map_cons, List.map_nil, hav, hkr]
      rw [hw]
      rfl
    rcases kr.find w hgk vs hvs with ⟨f1, f2⟩ | ⟨j, m, f1, f2, f3⟩
    · have hset := MapKept.heap_set (o' := .map vs.toArray cl) q2
      refine ⟨_, { w with heap := w.heap.setIfInBounds g (.map vs.toArray cl) }, I, A, _, exec _ ?_, ?_, Ext.turnO hA hset.2 (by simp) rfl ⟨rfl, Nat.le_refl _⟩ rfl, hN fun e he => ?_⟩
      · simp only [Builtin.delete_, Sem.run_bind, run_underlying u1, MapKept.run_getObj_map q2, Result.andThen_ok, Sem.run_pure, hck, List.getElem?_toArray, List.getElem?_cons_zero, List.getElem?_cons_succ]
        simp [f1, MapKept.run_setObj_map _ q2]
      · rw [hdst]
        refine hs.turnO hA hset.2 (by simp) (fun x' hx' => ?_) ⟨g, c, vs, cl, hA, hset.1, q3⟩ fun _ => rfl
        rw [hes] at hx'; exact hx'
      · rw [← q3] at he
        obtain ⟨m, hm, rfl⟩ := List.mem_map.1 he
        exact f2 m hm
    · have hspl := upd_split q3 f2
      rw [f3] at hspl
      have hjl : j < vs.length := by
        rcases Nat.lt_or_ge j vs.length with h | h
        · exact h
        · rw [List.getElem?_eq_none h] at f2; cases f2
      have hset := MapKept.heap_set (o' := .map (vs.toArray.eraseIdxIfInBounds j) cl) q2
      refine ⟨_, { w with heap := w.heap.setIfInBounds g (.map (vs.toArray.eraseIdxIfInBounds j) cl) }, I, A, _, exec _ ?_, ?_, Ext.turnO hA hset.2 (by simp) rfl ⟨rfl, Nat.le_refl _⟩ rfl, hS _ _ _ hspl⟩
      · simp only [Builtin.delete_, Sem.run_bind, run_underlying u1, MapKept.run_getObj_map q2, Result.andThen_ok, Sem.run_pure, hck, List.getElem?_toArray, List.getElem?_cons_zero, List.getElem?_cons_succ]
        simp [f1, MapKept.run_setObj_map _ q2]
      · rw [hdst]
        refine hs.turnO hA hset.2 (by simp) (fun x' hx' => ?_) ⟨g, c, vs.eraseIdx j, cl, hA, by rw [hset.1]; congr 2; simp [Array.eraseIdxIfInBounds, hjl], ?_⟩ fun _ => rfl
        · rw [hes] at hx'; exact hx'
        · rw [← q3, List.eraseIdx_eq_take_drop_succ, List.map_append, List.map_take, List.map_drop]
end
end Go.Sg
set_option linter.unusedVariables false
set_option linter.unusedSimpArgs false
namespace Go.Sg
open Go.RowKit
open Go.Rv (FR)
structure Rw (α : Type) where
  B : Option Nat
  b : Option Addr
  c : Nat
  l : List α
def Rw.val {α : Type} (r : Rw α) : Value := .slice r.b r.l.length r.c
def nilRw (α : Type) : Rw α := ⟨none, none, 0, []⟩
section
variable {α : Type} (enc : α → List DV) (e : TypeId) (z : Nat)
structure FoRow (w : World) (I : Nat → Prop) (A : Own) (r : Rw α) : Prop where
  base : BaseOk r.B r.b
  row : RowRel w I e z (r.l.map enc) r.B r.c
  free : ∀ g, r.B = some g → g < w.heap.size ∧ ¬ I g ∧ ∀ s c, A s ≠ some (some g, c)
structure XF (w0 : World) (I0 : Nat → Prop) (A0 : Own) (G0 : Nat → Prop) (w : World) (I : Nat → Prop) (A : Own) : Prop where
  os : w.os = w0.os
  tape : w.tape = w0.tape ∧ w0.drawn ≤ w.drawn
  output : w.output = w0.output
  size : w0.heap.size ≤ w.heap.size
  imm : ∀ g, I0 g → I g
  old : ∀ g, g < w0.heap.size → (∀ s c, A0 s ≠ some (some g, c)) → ¬ G0 g → w.heap[g]? = w0.heap[g]? ∧ (I g → I0 g) ∧ ∀ s c, A s ≠ some (some g, c)
  outA : ∀ s, 100000 ≤ s → A s = A0 s
def Fo (w0 : World) (I0 : Nat → Prop) (A0 : Own) (G0 : Nat → Prop) (rs : List (Rw α)) (w : World) (I : Nat → Prop) (A : Own) : Prop :=
  (∀ r ∈ rs, FoRow enc e z w I A r) ∧ (rs.Pairwise fun x y => ∀ g, x.B = some g → y.B ≠ some g) ∧ (∀ r ∈ rs, ∀ g, r.B = some g → G0 g ∨ w0.heap.size ≤ g) ∧ XF w0 I0 A0 G0 w I A
end
section
variable {α : Type} {enc : α → List DV} {e : TypeId} {z : Nat} {w0 : World} {I0 : Nat → Prop} {A0 : Own} {G0 : Nat → Prop}
theorem XF.refl (w : World) (I : Nat → Prop) (A : Own) (G : Nat → Prop) : XF w I A G w I A := ⟨rfl, ⟨rfl, Nat.le_refl _⟩, rfl, Nat.le_refl _, fun _ h => h, fun g _ hA _ => ⟨rfl, fun h => h, hA⟩, fun _ _ => rfl⟩
theorem XF.ext {w w' : World} {I I' : Nat → Prop} {A A' : Own} (h : XF w0 I0 A0 G0 w I A) (k : Ext w I A w' I' A') : XF w0 I0 A0 G0 w' I' A' where
  os := k.os.trans h.os
  tape := ⟨k.tape.1.trans h.tape.1, Nat.le_trans h.tape.2 k.tape.2⟩
  output := k.output.trans h.output
  size := Nat.le_trans h.size k.size
  imm := fun g hg => k.imm g (h.imm g hg)
  old := fun g hg hA hG => by
    obtain ⟨h1, h2, h3⟩ := h.old g hg hA hG
    obtain ⟨k1, k2, k3⟩ := k.old g (Nat.lt_of_lt_of_le hg h.size) h3
    exact ⟨k1.trans h1, fun x => h2 (k2 x), k3⟩
  outA := fun s hs => (k.outA s hs).trans (h.outA s hs)
theorem RowRel.of {w w' : World} {I I' : Nat → Prop} {xs : List (List DV)} {B : Option Nat} {c : Nat} (h : RowRel w I e z xs B c) (hb : ∀ g, B = some g → w'.heap[g]? = w.heap[g]?) (hr : ∀ d x, Rel w I noOwn d x → Rel w' I' noOwn d x) : RowRel w' I' e z xs B c := by
  cases B with
  | none => exact h
  | some g =>
    obtain ⟨us, q1, q2, q3, q4, q5⟩ := h
    exact ⟨us, (hb g rfl).trans q1, q2, q3, q4, fun i x hx => ⟨(q5 i x hx).1, fun j d u hd hu => ⟨((q5 i x hx).2 j d u hd hu).1, hr _ _ ((q5 i x hx).2 j d u hd hu).2⟩⟩⟩
theorem FoRow.ext {w w' : World} {I I' : Nat → Prop} {A A' : Own} {ρ : Env} {r : Rw α} (hs : OSim w I A ρ) (h : FoRow enc e z w I A r) (k : Ext w I A w' I' A') : FoRow enc e z w' I' A' r where
  base := h.base
  row := h.row.of (fun g hg => (k.old g (h.free g hg).1 (h.free g hg).2.2).1) fun d x hr => k.rel hs hr
  free := fun g hg => by
    obtain ⟨h1, h2, h3⟩ := h.free g hg
    obtain ⟨k1, k2, k3⟩ := k.old g h1 h3
    exact ⟨Nat.lt_of_lt_of_le h1 k.size, fun x => h2 (k2 x), k3⟩
theorem Fo.ext {w w' : World} {I I' : Nat → Prop} {A A' : Own} {ρ : Env} {rs : List (Rw α)} (hs : OSim w I A ρ) (h : Fo enc e z w0 I0 A0 G0 rs w I A) (k : Ext w I A w' I' A') : Fo enc e z w0 I0 A0 G0 rs w' I' A' :=
  ⟨fun r hr => (h.1 r hr).ext hs k, h.2.1, h.2.2.1, h.2.2.2.ext k⟩
end
def AWF {σ : Type} (P : Program) (nt : Nat) (F : σ → World → (Nat → Prop) → Own → Prop) (c : Code) (Q : Exit → σ → Env → Prop) (s : σ) (ρ : Env) : Prop :=
  ∀ (ro : Option Nat) (ds : List Deferred) I A a w, Sim nt w I A ρ a → a.defers = ds → F s w I A →
    c.wpIn (FR ro) 0 P (fun e a' w' => ∃ I' A' ρ' s', Sim nt w' I' A' ρ' a' ∧ a'.defers = ds ∧ F s' w' I' A' ∧ Q e s' ρ') a w
def StF {σ : Type} (F : σ → World → (Nat → Prop) → Own → Prop) : Prop := ∀ s w I A w' I' A' ρ, OSim w I A ρ → F s w I A → Ext w I A w' I' A' → F s w' I' A'
theorem fo_st {α : Type} (enc : α → List DV) (e : TypeId) (z : Nat) (w0 : World) (I0 : Nat → Prop) (A0 : Own) (G0 : Nat → Prop) : StF (Fo enc e z w0 I0 A0 G0) := fun _ _ _ _ _ _ _ _ hs h k => Fo.ext hs h k
def thenF {σ : Type} (K : σ → Env → Prop) (Q : Exit → σ → Env → Prop) : Exit → σ → Env → Prop
  | .normal, s, ρ => K s ρ
  | e, s, ρ => Q e s ρ
def blockF {σ : Type} (id : Nat) (Q : Exit → σ → Env → Prop) : Exit → σ → Env → Prop
  | .exit id', s, ρ => if id' = id then Q .normal s ρ else Q (.exit id') s ρ
  | e, s, ρ => Q e s ρ
section
variable {σ : Type} {P : Program} {nt : Nat} {F : σ → World → (Nat → Prop) → Own → Prop} {Q : Exit → σ → Env → Prop} {s : σ} {ρ : Env}
theorem awf_lift (hF : StF F) {c : Code} (h : AW P nt c (fun e ρ' => Q e s ρ') ρ) : AWF P nt F c Q s ρ := fun ro ds I A a w hs hd hf =>
  wpIn_mono (h ro ds I A a w hs hd) fun _ _ _ ⟨I', A', ρ', h1, h2, h3, h4⟩ => ⟨I', A', ρ', s, h1, h2, hF _ _ _ _ _ _ _ ρ hs.osim hf h3, h4⟩
theorem awf_skip (h : Q .normal s ρ) : AWF P nt F .skip Q s ρ := fun ro ds I A a w hs hd hf => wpIn_skip ⟨I, A, ρ, s, hs, hd, hf, h⟩
theorem awf_exit {i : Nat} (h : Q (.exit i) s ρ) : AWF P nt F (.exit i) Q s ρ := fun ro ds I A a w hs hd hf => wpIn_exit ⟨I, A, ρ, s, hs, hd, hf, h⟩
theorem awf_ret (h : Q .ret s ρ) : AWF P nt F .ret Q s ρ := fun ro ds I A a w hs hd hf => wpIn_ret ⟨I, A, ρ, s, hs, hd, hf, h⟩
theorem awf_seq {x y : Code} (h : ∀ K : σ → Env → Prop, (∀ s ρ, AWF P nt F y Q s ρ → K s ρ) → AWF P nt F x (thenF K Q) s ρ) : AWF P nt F (.seq x y) Q s ρ := by
  intro ro ds I A a w hs hd hf
  refine wpIn_seq (wpIn_mono (h (fun s ρ => AWF P nt F y Q s ρ) (fun _ _ h => h) ro ds I A a w hs hd hf) ?_)
  intro e a1 w1 ⟨I1, A1, ρ1, s1, h1, h2, h3, h4⟩
  cases e with
  | normal => exact h4 ro ds I1 A1 a1 w1 h1 h2 h3
  | exit i => exact ⟨I1, A1, ρ1, s1, h1, h2, h3, h4⟩
  | goto l => exact ⟨I1, A1, ρ1, s1, h1, h2, h3, h4⟩
  | ret => exact ⟨I1, A1, ρ1, s1, h1, h2, h3, h4⟩
  | panic ch => exact ⟨I1, A1, ρ1, s1, h1, h2, h3, h4⟩
  | outgrown => exact ⟨I1, A1, ρ1, s1, h1, h2, h3, h4⟩
theorem awf_block {id : Nat} {c : Code} (h : AWF P nt F c (blockF id Q) s ρ) : AWF P nt F (.block id c) Q s ρ := by
  intro ro ds I A a w hs hd hf
  refine wpIn_block (wpIn_mono (h ro ds I A a w hs hd hf) ?_)
  intro e a1 w1 ⟨I1, A1, ρ1, s1, h1, h2, h3, h4⟩
  cases e with
  | exit i =>
    simp only [Exit.inBlock, blockF] at *
    split <;> rename_i hi
    · rw [if_pos hi] at h4; exact ⟨I1, A1, ρ1, s1, h1, h2, h3, h4⟩
    · rw [if_neg hi] at h4; exact ⟨I1, A1, ρ1, s1, h1, h2, h3, h4⟩
  | normal => exact ⟨I1, A1, ρ1, s1, h1, h2, h3, h4⟩
  | goto l => exact ⟨I1, A1, ρ1, s1, h1, h2, h3, h4⟩
  | ret => exact ⟨I1, A1, ρ1, s1, h1, h2, h3, h4⟩
  | panic ch => exact ⟨I1, A1, ρ1, s1, h1, h2, h3, h4⟩
  | outgrown => exact ⟨I1, A1, ρ1, s1, h1, h2, h3, h4⟩
theorem awf_weaken {c : Code} {ρ ρ' : Env} (hl : Le ρ ρ') (h : AWF P nt F c Q s ρ') : AWF P nt F c Q s ρ := fun ro ds I A a w hs hd hf => h ro ds I A a w (hs.weaken hl) hd hf
theorem awf_cond {x : Operand} {c d : Code} (b : Bool) (ho : opdOk nt x = true) (hx : ev ρ x = .v (.bool b)) (ht : b = true → AWF P nt F c Q s ρ) (hf : b = false → AWF P nt F d Q s ρ) : AWF P nt F (.cond x c d) Q s ρ := by
  intro ro ds I A a w hs hd hF
  have he := hs.evRel x ho
  rw [hx] at he
  have hv : a.eval x = .bool b := by
    generalize a.eval x = y at he ⊢
    cases he; rfl
  exact wpIn_cond_split hv (fun h => ht h ro ds I A a w hs hd hF) (fun h => hf h ro ds I A a w hs hd hF)
theorem awf_loop {c : Code} (J : Nat → σ → Env → Prop) (n₀ : Nat) (h₀ : J n₀ s ρ)
    (round : ∀ n s ρ, J n s ρ → ∀ K : σ → Env → Prop, (∀ m s' ρ', m < n → J m s' ρ' → K s' ρ') → AWF P nt F c (thenF K Q) s ρ) : AWF P nt F (.loop c) Q s ρ := by
  intro ro ds I A a w hs hd hf
  refine wpIn_loop_ghost (fun n a' w' => ∃ I' A' ρ' s', Sim nt w' I' A' ρ' a' ∧ a'.defers = ds ∧ F s' w' I' A' ∧ J n s' ρ') n₀ ⟨I, A, ρ, s, hs, hd, hf, h₀⟩ ?_
  intro n a1 w1 ⟨I1, A1, ρ1, s1, h1, h2, h3, h4⟩
  refine wpIn_mono (round n s1 ρ1 h4 (fun s ρ => ∃ m, m < n ∧ J m s ρ) (fun m s' ρ' hm hj => ⟨m, hm, hj⟩) ro ds I1 A1 a1 w1 h1 h2 h3) ?_
  intro e a2 w2 ⟨I2, A2, ρ2, s2, k1, k2, k3, k4⟩
  cases e with
  | normal => obtain ⟨m, hm, hj⟩ := k4; exact ⟨m, hm, I2, A2, ρ2, s2, k1, k2, k3, hj⟩
  | exit i => exact ⟨I2, A2, ρ2, s2, k1, k2, k3, k4⟩
  | goto l => exact ⟨I2, A2, ρ2, s2, k1, k2, k3, k4⟩
  | ret => exact ⟨I2, A2, ρ2, s2, k1, k2, k3, k4⟩
  | panic ch => exact ⟨I2, A2, ρ2, s2, k1, k2, k3, k4⟩
  | outgrown => exact ⟨I2, A2, ρ2, s2, k1, k2, k3, k4⟩
theorem awf_loopK (L : List Nat) {c : Code} (J : Nat → σ → Env → Prop) (n₀ : Nat) (h₀ : J n₀ s (keepC L ρ))
    (round : ∀ n s ρ, J n s ρ → ∀ K : σ → Env → Prop, (∀ m s' ρ', m < n → J m s' (keepC L ρ') → K s' ρ') → AWF P nt F c (thenF K Q) s ρ) : AWF P nt F (.loop c) Q s ρ := by
  refine awf_weaken (Le.keepC L ρ) (awf_loop (fun n s ρ => ∃ ρ', J n s ρ' ∧ Le ρ ρ') n₀ ⟨_, h₀, Le.refl _⟩ ?_)
  rintro n s1 ρ1 ⟨ρ2, hJ, hle⟩ K hK
  exact awf_weaken hle (round n s1 ρ2 hJ K fun m s' ρ' hm hj => hK m s' ρ' hm ⟨_, hj, Le.keepC L ρ'⟩)
theorem thenF_normal (K : σ → Env → Prop) (Q : Exit → σ → Env → Prop) (s : σ) (ρ : Env) : thenF K Q .normal s ρ = K s ρ := rfl
theorem thenF_ret (K : σ → Env → Prop) (Q : Exit → σ → Env → Prop) (s : σ) (ρ : Env) : thenF K Q .ret s ρ = Q .ret s ρ := rfl
theorem thenF_exit (K : σ → Env → Prop) (Q : Exit → σ → Env → Prop) (i : Nat) (s : σ) (ρ : Env) : thenF K Q (.exit i) s ρ = Q (.exit i) s ρ := rfl
theorem blockF_normal (i : Nat) (Q : Exit → σ → Env → Prop) (s : σ) (ρ : Env) : blockF i Q .normal s ρ = Q .normal s ρ := rfl
theorem blockF_ret (i : Nat) (Q : Exit → σ → Env → Prop) (s : σ) (ρ : Env) : blockF i Q .ret s ρ = Q .ret s ρ := rfl
theorem blockF_exit (i j : Nat) (Q : Exit → σ → Env → Prop) (s : σ) (ρ : Env) : blockF i Q (.exit j) s ρ = if j = i then Q .normal s ρ else Q (.exit j) s ρ := rfl
/-! ## Operations -/
def OWF (P : Program) (nt : Nat) (F : σ → World → (Nat → Prop) → Own → Prop) (ops : Array Oper) (o : Oper) (K : σ → Env → Prop) (s : σ) (ρ : Env) : Prop :=
  ∀ (ro : Option Nat) (ds : List Deferred) I A a w, Sim nt w I A ρ a → a.defers = ds → F s w I A → ∀ (next : Act → World → Prop) (Q' : Exit → Act → World → Prop),
    (∀ I' A' a' w' ρ' s', Sim nt w' I' A' ρ' a' → a'.defers = ds → F s' w' I' A' → K s' ρ' → next a' w') →
    if Region.wanted o (yielded ops a.tmps) = true then o.wpIn (FR ro) 0 P a w next Q' else (∀ f, o.about P w a.eval = some f → (FR ro).fn f) ∧ next (a.put o.dst undef) w
theorem owf_lift (hF : StF F) {ops : Array Oper} {o : Oper} {K : σ → Env → Prop} (h : OW P nt ops o (K s) ρ) : OWF P nt F ops o K s ρ := fun ro ds I A a w hs hd hf next Q' hn =>
  h ro ds I A a w hs hd next Q' fun I' A' a' w' ρ' q1 q2 q3 q4 => hn I' A' a' w' ρ' s q1 q2 (hF _ _ _ _ _ _ _ ρ hs.osim hf q3) q4
def RWF (P : Program) (nt : Nat) (F : σ → World → (Nat → Prop) → Own → Prop) (ops : Array Oper) (k : σ → Env → Prop) : List Oper → σ → Env → Prop
  | [], s, ρ => k s ρ
  | o :: os, s, ρ => OWF P nt F ops o (RWF P nt F ops k os) s ρ
theorem rwf_sound {ro : Option Nat} {ds : List Deferred} {ops : Array Oper} {k : σ → Env → Prop} {Q' : Exit → Act → World → Prop} : ∀ (l : List Oper) (s : σ) (ρ : Env) (I : Nat → Prop) (A : Own) (a : Act) (w : World), RWF P nt F ops k l s ρ → Sim nt w I A ρ a → a.defers = ds → F s w I A →
    (∀ I' A' a' w' ρ' s', Sim nt w' I' A' ρ' a' → a'.defers = ds → F s' w' I' A' → k s' ρ' → Q' .normal a' w') → wpListIn (FR ro) 0 P ops Q' l a w
  | [], s, ρ, I, A, a, w, h, hs, hd, hf, hk => hk I A a w ρ s hs hd hf h
  | o :: l, s, ρ, I, A, a, w, h, hs, hd, hf, hk => by
    refine wpListIn_step fun K hK => h ro ds I A a w hs hd hf K Q' fun I' A' a' w' ρ' s' h1 h2 h3 h4 => hK _ _ ?_
    exact rwf_sound l s' ρ' I' A' a' w' h4 h1 h2 h3 hk
theorem awf_region {id : Nat} {l : List Oper} (h : RWF P nt F l.toArray (Q .normal) l s ρ) : AWF P nt F (.region id l.toArray false) Q s ρ := by
  intro ro ds I A a w hs hd hf
  exact wpIn_region_lit (rwf_sound l s ρ I A a w h hs hd hf fun I' A' a' w' ρ' s' h1 h2 h3 h4 => ⟨I', A', ρ', s', h1, h2, h3, h4⟩)
def anyXF (P : Program) (nt : Nat) (F : σ → World → (Nat → Prop) → Own → Prop) (l : List Oper) (k : σ → Env → Prop) : Nat → Array Bool → σ → Env → Prop
  | 0, listed, s, ρ => Region.ready .any l.toArray listed = [] ∧ ∃ ρ', Le ρ ρ' ∧ k s ρ'
  | fuel + 1, listed, s, ρ => ∃ ρ', Le ρ ρ' ∧ (Region.ready .any l.toArray listed = [] → k s ρ') ∧ ∀ i ∈ Region.ready .any l.toArray listed, ∃ o, l[i]? = some o ∧ OWF P nt F l.toArray o (anyXF P nt F l k fuel (listed.setIfInBounds i true)) s ρ'
theorem anyXF_sound {ro : Option Nat} {ds : List Deferred} {l : List Oper} {k : σ → Env → Prop} {Q' : Exit → Act → World → Prop} : ∀ (fuel : Nat) (listed : Array Bool) (s : σ) (ρ : Env) (I : Nat → Prop) (A : Own) (a : Act) (w : World),
    anyXF P nt F l k fuel listed s ρ → Sim nt w I A ρ a → a.defers = ds → F s w I A →
    (∀ I' A' a' w' ρ' s', Sim nt w' I' A' ρ' a' → a'.defers = ds → F s' w' I' A' → k s' ρ' → Q' .normal a' w') → wpAnyIn (FR ro) 0 P .any l.toArray Q' fuel listed a w
  | 0, listed, s, ρ, I, A, a, w, h, hs, hd, hf, hk => by
    obtain ⟨h1, ρ', hl, h2⟩ := h
    exact ⟨h1, hk I A a w ρ' s (hs.weaken hl) hd hf h2⟩
  | fuel + 1, listed, s, ρ, I, A, a, w, h, hs, hd, hf, hk => by
    obtain ⟨ρ', hl, h1, h2⟩ := h
    have hs := hs.weaken hl
    refine ⟨fun h0 => hk I A a w ρ' s hs hd hf (h1 h0), fun i hi => ?_⟩
    obtain ⟨o, ho, h3⟩ := h2 i hi
    unfold wpOpIn
    simp only [List.getElem?_toArray, ho]
    exact h3 ro ds I A a w hs hd hf _ Q' fun I' A' a' w' ρ'' s'' q1 q2 q3 q4 => anyXF_sound fuel _ s'' ρ'' I' A' a' w' q4 q1 q2 q3 hk
theorem awf_drawX (L : List Nat) {id : Nat} {l : List Oper} (hF : StF F) (hm : P.follows .mixedOrders = true)
    (h : ∀ Y : Nat → Array Bool → σ → Env → Prop,
      (∀ (n : Nat) (listed : Array Bool) (L : List Nat) (s : σ) (ρ : Env), backE l = true → listed.size = l.length → (∃ i, i < l.length ∧ listed.getD i true = false) → (∀ (i : Nat) (o : Oper), listed.getD i true = false → l[i]? = some o → (∀ e ∈ o.after, Region.binds .any e = true → listed.getD e.on false = true) → OWF P nt F l.toArray o (Y n (listed.setIfInBounds i true)) s (keepC L ρ)) → Y (n + 1) listed s ρ) →
      (∀ (listed : Array Bool) (L : List Nat) (s : σ) (ρ : Env), (Region.ready .any l.toArray listed).isEmpty = true → Q .normal s (keepC L ρ) → Y 0 listed s ρ) → Y l.length (Array.replicate l.length false) s (keepC L ρ)) : AWF P nt F (.region id l.toArray true) Q s ρ := by
  have hY := h (anyXF P nt F l (Q .normal)) (fun n listed L s ρ p1 p2 p3 q2 => ⟨_, Le.keepC L ρ, fun h0 => absurd h0 (ready_ne p1 p2 p3), fun i hi => by
      obtain ⟨hun, o, ho, hdep⟩ := mem_ready.1 hi
      have ho' : l[i]? = some o := by simpa using ho
      exact ⟨o, ho', q2 i o hun ho' fun e he hb => hdep e he hb⟩⟩) (fun listed L s ρ q1 q2 => ⟨by simpa using q1, _, Le.keepC L ρ, q2⟩)
  refine awf_weaken (Le.keepC L ρ) ?_
  intro ro ds I A a w hs hd hf
  refine wpIn_region_any hm ?_
  have hgr : Grow w I w.drew I := ⟨rfl, ⟨rfl, Nat.le_succ _⟩, rfl, Nat.le_refl _, fun _ _ => rfl, fun _ h => h, fun _ h => .inl h⟩
  have := anyXF_sound (ro := ro) (Q' := fun e a' w' => ∃ I' A' ρ' s', Sim nt w' I' A' ρ' a' ∧ a'.defers = ds ∧ F s' w' I' A' ∧ Q e s' ρ') _ _ s (keepC L ρ) I A a w.drew hY (hs.grow hgr) hd (hF _ _ _ _ _ _ _ _ hs.osim hf (hgr.ext hs.osim))
    fun I' A' a' w' ρ' s' q1 q2 q3 q4 => ⟨I', A', ρ', s', q1, q2, q3, q4⟩
  simpa using this
end
attribute [go_sem] thenF_normal thenF_ret thenF_exit blockF_normal blockF_ret blockF_exit
section
variable {α : Type} {enc : α → List DV} {e : TypeId} {z : Nat} {w0 : World} {I0 : Nat → Prop} {A0 : Own} {G0 : Nat → Prop} {P : Program} {nt : Nat} {ρ : Env}
theorem owf_mcall {ops : Array Oper} {o : Oper} {K : List (Rw α) → Env → Prop} {fv : Operand} {args : Array Operand} {ts : Array TypeId} {d : Nat} (hop : o.op = .call ⟨.value fv, args, ts⟩) (hg : o.guard = none) (hdst : o.dst = some d) (hd : d < nt)
    (ho : opsOk nt o = true) (hgf : gd (ev ρ fv)) (hga : ∀ x ∈ args.toList, gd (ev ρ x)) {f : FuncId} {l : List DV} (hc : callee (un (ev ρ fv)) (args.toList.map fun x => un (ev ρ x)) = some (f, l)) (hb : hasBody P f = true)
    {j : Nat} {r : Rw α} {rs s1 s2 : List (Rw α)} (hj : l[j]? = some (.v r.val)) (hr : rs = s1 ++ r :: s2 ∨ (r = nilRw α ∧ rs = s1 ++ s2)) {R : List α → Prop}
    (hm : MCall P ρ f (l.set j .any) j e z (r.l.map enc) (fun ys => ∃ l', ys = l'.map enc ∧ R l')) (hK : ∀ r' : Rw α, R r'.l → K (s1 ++ r' :: s2) (set ρ d (.v r'.val))) : OWF P nt (Fo enc e z w0 I0 A0 G0) ops o K rs ρ := by
  intro ro ds I A a w hs hdf hf next Q' hn
  obtain ⟨vals, h1, h2, h3⟩ := resolve_run hs hop ho hgf hga hc hb
  rw [if_pos (by simp [Region.wanted, hg])]
  refine wpIn_ent h1 ?_
  have hjl : j < l.length := by
    rcases Nat.lt_or_ge j l.length with h | h
    · exact h
    · rw [List.getElem?_eq_none h] at hj; cases hj
  have hvj : vals[j]? = some r.val := by
    have hv : vals[j]? = some (vals[j]'(by omega)) := Array.getElem?_eq_getElem (by omega)
    have := h3 j _ _ hj hv
    rw [hv]
    generalize vals[j]'(by omega) = u at this
    cases this; rfl
  obtain ⟨f1, f2, f3, f4⟩ := hf
  have hrow : FoRow enc e z w I A r := by
    rcases hr with rfl | ⟨rfl, _⟩
    · exact f1 r (by simp)
    · exact ⟨baseOk_none _, ⟨rfl, rfl⟩, fun g hg => by cases hg⟩
  have hmem : ∀ x, x ∈ s1 ++ s2 → x ∈ rs := fun x hx => by
    rcases hr with rfl | ⟨_, rfl⟩
    · simp at hx ⊢; rcases hx with h | h
      · exact .inl h
      · exact .inr (.inr h)
    · exact hx
  have hapart : ∀ x ∈ s1 ++ s2, ∀ g, r.B = some g → x.B ≠ some g := fun x hx g hg => by
    rcases hr with rfl | ⟨rfl, _⟩
    · rw [List.pairwise_append] at f2
      rcases List.mem_append.1 hx with h | h
      · intro hxg; exact f2.2.2 x h r (by simp) g hxg hg
      · exact (List.pairwise_cons.1 f2.2.1).1 x h g hg
    · cases hg
  refine (hm w I A vals r.B r.c r.b hs.osim (by rw [List.length_set]; exact h2) (fun i d u hd hu => by
    by_cases hij : j = i
    · subst hij
      rw [List.getElem?_set_self hjl] at hd
      cases hd
      exact .any _ _
    · rw [List.getElem?_set_ne hij] at hd
      exact h3 i d u hd hu) (by rw [hvj]; unfold Rw.val; rw [List.length_map]) hrow.base hrow.row hrow.free).mono ?_
  rintro en w' ⟨b', I', ys, B', c', rfl, m1, m2, m3, ⟨l', rfl, mR⟩, m5, m6, m7, m8, m9, m10, m11⟩
  obtain ⟨r', hr'⟩ : ∃ r' : Rw α, r' = ⟨B', b', c', l'⟩ := ⟨_, rfl⟩
  have hval : (Value.slice b' (l'.map enc).length c') = r'.val := by rw [hr']; unfold Rw.val; rw [List.length_map]
  have hset : ∀ g, I g → I' g ∧ w'.heap[g]? = w.heap[g]? := fun g hg => ⟨m9 g hg, (m10 g (hs.osim.imm g hg) (fun s c hc => (hs.osim.sep s g c hc).2 hg) fun hB => (hrow.free g hB).2.1 hg).1⟩
  have hrel : ∀ B d x, Rel w I B d x → Rel w' I' B d x := fun B d x hr => hr.mono fun g hg => ⟨(hset g hg).1, fun o => cell_of_heap (hset g hg).2 o⟩
  have hs' : Sim nt w' I' A ρ a := ⟨m2, hs.size, hs.bound, fun i hi => (hs.slot i hi).keep hrel, hs.out⟩
  have hs2 := hs'.put (d := d) (v := .v r'.val) (x := r'.val) hd (.ofRel (.v A _)) trivial
  rw [hdst]
  show next (a.put (some d) (Value.slice b' (l'.map enc).length c')) w'
  rw [hval]
  refine hn I' A _ w' _ _ hs2 (by rw [put_defers]; exact hdf) ?_ (hK r' (by rw [hr']; exact mR))
  have hothers : ∀ x ∈ s1 ++ s2, FoRow enc e z w' I' A x ∧ ∀ g, x.B = some g → g < w.heap.size := fun x hx => by
    have hx1 := f1 x (hmem x hx)
    have hold : ∀ g, x.B = some g → w'.heap[g]? = w.heap[g]? ∧ (I' g → I g) := fun g hg => m10 g (hx1.free g hg).1 (hx1.free g hg).2.2 fun hB => hapart x hx g hB hg
    exact ⟨⟨hx1.base, hx1.row.of (fun g hg => (hold g hg).1) fun d u hr => hrel _ _ _ hr, fun g hg => ⟨Nat.lt_of_lt_of_le (hx1.free g hg).1 m8, fun hi => (hx1.free g hg).2.1 ((hold g hg).2 hi), (hx1.free g hg).2.2⟩⟩, fun g hg => (hx1.free g hg).1⟩
  have hr'row : FoRow enc e z w' I' A r' := by
    rw [hr']
    exact ⟨m1, m3, fun g hg => ⟨(m11 g hg).2.1, (m11 g hg).2.2.1, (m11 g hg).2.2.2⟩⟩
  have hnew : ∀ x ∈ s1 ++ s2, ∀ g, r'.B = some g → x.B ≠ some g := fun x hx g hg hxg => by
    rw [hr'] at hg
    rcases (m11 g hg).1 with h | h
    · have := (hothers x hx).2 g hxg; omega
    · exact hapart x hx g h hxg
  have hmem2 : ∀ x ∈ s1 ++ r' :: s2, x = r' ∨ x ∈ s1 ++ s2 := fun x hx => by
    simp at hx ⊢
    rcases hx with h | h | h
    · exact .inr (.inl h)
    · exact .inl h
    · exact .inr (.inr h)
  have hpair : (s1 ++ s2).Pairwise fun x y => ∀ g, x.B = some g → y.B ≠ some g := by
    rcases hr with rfl | ⟨_, rfl⟩
    · exact f2.sublist (List.Sublist.append (List.Sublist.refl _) (List.sublist_cons_self _ _))
    · exact f2
  refine ⟨fun x hx => ?_, ?_, fun x hx g hg => ?_, ?_⟩
  · rcases hmem2 x hx with rfl | h
    · exact hr'row
    · exact (hothers x h).1
  · rw [List.pairwise_append] at hpair ⊢
    refine ⟨hpair.1, List.pairwise_cons.2 ⟨fun y hy g hg => hnew y (by simp [hy]) g hg, hpair.2.1⟩, fun x hx y hy g hg hy' => ?_⟩
    rcases List.mem_cons.1 hy with rfl | hy
    · exact hnew x (by simp [hx]) g hy' hg
    · exact hpair.2.2 x hx y hy g hg hy'
  · rcases hmem2 x hx with rfl | h
    · rw [hr'] at hg
      rcases (m11 g hg).1 with h | h
      · exact .inr (Nat.le_trans f4.size h)
      · rcases hr with rfl | ⟨rfl, _⟩
        · exact f3 r (by simp) g h
        · cases h
    · exact f3 x (hmem x h) g hg
  · refine ⟨m5.trans f4.os, ⟨m6.1.trans f4.tape.1, Nat.le_trans f4.tape.2 m6.2⟩, m7.trans f4.output, Nat.le_trans f4.size m8, fun g hg => m9 g (f4.imm g hg), fun g hg hA hG => ?_, f4.outA⟩
    obtain ⟨k1, k2, k3⟩ := f4.old g hg hA hG
    obtain ⟨n1, n2⟩ := m10 g (Nat.lt_of_lt_of_le hg f4.size) k3 fun hB => by
      rcases hr with rfl | ⟨rfl, _⟩
      · rcases f3 r (by simp) g hB with h | h
        · exact hG h
        · omega
      · cases hB
    exact ⟨n1.trans k1, fun h => k2 (n2 h), k3⟩
theorem Sim.foSettle {rs s1 s2 : List (Rw α)} {r : Rw α} {w : World} {I : Nat → Prop} {A : Own} {a : Act} {d : Nat} (hs : Sim nt w I A ρ a) (hdn : d < nt) (hρ : ρ d = .v r.val) (hf : Fo enc e z w0 I0 A0 G0 rs w I A)
    (hr : rs = s1 ++ r :: s2 ∨ (r = nilRw α ∧ rs = s1 ++ s2)) : ∃ I', Sim nt w I' A (set ρ d (Sg.frz z (r.l.map enc))) a ∧ Fo enc e z w0 I0 A0 G0 (s1 ++ s2) w I' A := by
  obtain ⟨f1, f2, f3, f4⟩ := hf
  have hrow : FoRow enc e z w I A r := by
    rcases hr with rfl | ⟨rfl, _⟩
    · exact f1 r (by simp)
    · exact ⟨baseOk_none _, ⟨rfl, rfl⟩, fun g hg => by cases hg⟩
  have hmem : ∀ x, x ∈ s1 ++ s2 → x ∈ rs := fun x hx => by
    rcases hr with rfl | ⟨_, rfl⟩
    · simp at hx ⊢; rcases hx with h | h
      · exact .inl h
      · exact .inr (.inr h)
    · exact hx
  have hapart : ∀ x ∈ s1 ++ s2, ∀ g, r.B = some g → x.B ≠ some g := fun x hx g hg => by
    rcases hr with rfl | ⟨rfl, _⟩
    · rw [List.pairwise_append] at f2
      rcases List.mem_append.1 hx with h | h
      · intro hxg; exact f2.2.2 x h r (by simp) g hxg hg
      · exact (List.pairwise_cons.1 f2.2.1).1 x h g hg
    · cases hg
  have hpair : (s1 ++ s2).Pairwise fun x y => ∀ g, x.B = some g → y.B ≠ some g := by
    rcases hr with rfl | ⟨_, rfl⟩
    · exact f2.sublist (List.Sublist.append (List.Sublist.refl _) (List.sublist_cons_self _ _))
    · exact f2
  have hmono : ∀ (B' : Own) d x, Rel w I B' d x → Rel w (fun g => I g ∨ r.B = some g) B' d x := fun B' d x hr => hr.mono fun g hg => ⟨.inl hg, fun _ => rfl⟩
  refine ⟨fun g => I g ∨ r.B = some g, ⟨⟨fun t => ?_, hs.osim.inj, fun t g c' hA => ⟨(hs.osim.sep t g c' hA).1, fun hi => hi.elim (hs.osim.sep t g c' hA).2 fun hb => (hrow.free g hb).2.2 t c' hA⟩, hs.osim.imm.step (fun g hg => hg.elim (hs.osim.imm g) fun hb => (hrow.free g hb).1) fun g hg => ⟨.inl hg, rfl⟩⟩, hs.size, hs.bound, fun i hi => ?_, fun t ht => ?_⟩, ?_⟩
  · rw [set_apply]
    split
    · trivial
    · exact (hs.osim.own t).keep (fun _ _ _ => rfl) hmono
  · rw [set_apply]
    split
    · rename_i e1
      subst e1
      have := hs.slot i hi
      rw [hρ] at this
      generalize a.tmps.getD i undef = x at this ⊢
      have this : Rel w I A (.v r.val) x := this
      cases this
      have h := hrow.row.frz (I' := fun g => I g ∨ r.B = some g) (fun g hg => .inr hg) (fun g hg => .inl hg) (A := A) hrow.base
      rw [List.length_map] at h
      exact .ofRel h
    · exact (hs.slot i hi).keep hmono
  · rw [set_apply, if_neg (by have := hs.bound; omega)]; exact hs.out t ht
  · refine ⟨fun x hx => ?_, hpair, fun x hx => f3 x (hmem x hx), ⟨f4.os, f4.tape, f4.output, f4.size, fun g hg => .inl (f4.imm g hg), fun g hg hA hG => ?_, f4.outA⟩⟩
    · have hx1 := f1 x (hmem x hx)
      exact ⟨hx1.base, hx1.row.of (fun _ _ => rfl) fun d u hr => hmono _ _ _ hr, fun g hg => ⟨(hx1.free g hg).1, fun hi => hi.elim (hx1.free g hg).2.1 fun hb => hapart x hx g hb hg, (hx1.free g hg).2.2⟩⟩
    · obtain ⟨k1, k2, k3⟩ := f4.old g hg hA hG
      refine ⟨k1, fun h => h.elim k2 fun hb => ?_, k3⟩
      rcases hr with rfl | ⟨rfl, _⟩
      · rcases f3 r (by simp) g hb with h | h
        · exact absurd h hG
        · omega
      · cases hb
theorem awf_settle {rs s1 s2 : List (Rw α)} {r : Rw α} {c : Code} {Q : Exit → List (Rw α) → Env → Prop} (d : Nat) (hdn : d < nt) (hρ : ρ d = .v r.val) (hr : rs = s1 ++ r :: s2 ∨ (r = nilRw α ∧ rs = s1 ++ s2))
    (h : AWF P nt (Fo enc e z w0 I0 A0 G0) c Q (s1 ++ s2) (set ρ d (Sg.frz z (r.l.map enc)))) : AWF P nt (Fo enc e z w0 I0 A0 G0) c Q rs ρ := fun ro ds I A a w hs hd hf => by
  obtain ⟨I', h1, h2⟩ := hs.foSettle hdn hρ hf hr
  exact h ro ds I' A a w h1 hd h2
end
end Go.Sg
set_option linter.unusedVariables false
set_option linter.unusedSimpArgs false
namespace Go.Sg
open Go.RowKit
open Go.Rv (FR depth_FR callsIn_FR roundIn_FR room_FR)
def Hid (g : Nat) (o : Obj) (w : World) (I : Nat → Prop) (A : Own) : Prop := w.heap[g]? = some o ∧ ¬ I g ∧ ∀ s c, A s ≠ some (some g, c)
section
variable {w w' : World} {I I' : Nat → Prop} {A A' : Own} {g : Nat} {o : Obj} {nt : Nat} {ρ : Env} {a : Act}
theorem lt_heap {k : Nat} {x : Obj} (h : w.heap[k]? = some x) : k < w.heap.size := by
  rcases Nat.lt_or_ge k w.heap.size with h' | h'
  · exact h'
  · rw [Array.getElem?_eq_none h'] at h; cases h
theorem Hid.lt (h : Hid g o w I A) : g < w.heap.size := lt_heap h.1
theorem Hid.ext (h : Hid g o w I A) (k : Ext w I A w' I' A') : Hid g o w' I' A' :=
  let ⟨h1, h2, h3⟩ := k.old g h.lt h.2.2
  ⟨h1.trans h.1, fun x => h.2.1 (h2 x), h3⟩
theorem put_cell {o' : Obj} (hI : ¬ I g) {k : Nat} (hk : I k) : (w.putObj g o').heap[k]? = w.heap[k]? := World.putObj_heap_other fun e => hI (e ▸ hk)
theorem Rel.aside {o' : Obj} (hI : ¬ I g) {B : Own} {d : DV} {x : Value} (h : Rel w I B d x) : Rel (w.putObj g o') I B d x := h.mono fun k hk => ⟨hk, fun j => cell_of_heap (put_cell hI hk) j⟩
theorem OSim.aside (hs : OSim w I A ρ) (h : Hid g o w I A) (o' : Obj) : OSim (w.putObj g o') I A ρ where
  own := fun s => (hs.own s).keep (fun k c hk => World.putObj_heap_other fun e => h.2.2 s c (e ▸ hk)) fun B d x => Rel.aside h.2.1
  inj := hs.inj
  sep := fun s k c hk => ⟨by rw [World.putObj_size]; exact (hs.sep s k c hk).1, (hs.sep s k c hk).2⟩
  imm := hs.imm.step (fun k hk => by rw [World.putObj_size]; exact hs.imm k hk) fun k hk => ⟨hk, put_cell h.2.1 hk⟩
theorem Sim.aside (hs : Sim nt w I A ρ a) (h : Hid g o w I A) (o' : Obj) : Sim nt (w.putObj g o') I A ρ a :=
  ⟨hs.osim.aside h o', hs.size, hs.bound, fun i hi => (hs.slot i hi).keep fun B d x => Rel.aside h.2.1, hs.out⟩
theorem Hid.put (h : Hid g o w I A) (o' : Obj) : Hid g o' (w.putObj g o') I A := ⟨World.putObj_heap_same h.lt, h.2⟩
theorem Hid.other {k : Nat} {x : Obj} (h : Hid k x w I A) (hk : k ≠ g) (o' : Obj) : Hid k x (w.putObj g o') I A := ⟨(World.putObj_heap_other hk).trans h.1, h.2⟩
theorem FoRow.aside {α : Type} {enc : α → List DV} {e : TypeId} {z : Nat} {r : Rw α} (h : FoRow enc e z w I A r) (hg : Hid g o w I A) (hr : r.B ≠ some g) (o' : Obj) : FoRow enc e z (w.putObj g o') I A r where
  base := h.base
  row := h.row.of (fun k hk => World.putObj_heap_other fun e => hr (e ▸ hk)) fun d x => Rel.aside hg.2.1
  free := fun k hk => ⟨by rw [World.putObj_size]; exact (h.free k hk).1, (h.free k hk).2⟩
theorem FoRow.ne {α : Type} {enc : α → List DV} {e : TypeId} {z : Nat} {r : Rw α} (h : FoRow enc e z w I A r) (hg : w.heap[g]? = some o) (ho : ∀ us et q, o ≠ .cells us et q) : r.B ≠ some g := fun hr => by
  have := h.row
  rw [hr] at this
  obtain ⟨us, h1, _⟩ := this
  rw [hg] at h1
  exact ho _ _ _ (Option.some.inj h1)
end
theorem Sim.give {α : Type} {enc : α → List DV} {e : TypeId} {z : Nat} {nt : Nat} {w w0 : World} {I I0 : Nat → Prop} {A A0 : Own} {G0 : Nat → Prop} {ρ : Env} {a : Act} {rs : List (Rw α)} {d : Nat} {l : List α} (hs : Sim nt w I A ρ a) (hf : Fo enc e z w0 I0 A0 G0 rs w I A) (hd : d < nt)
    (hρ : ρ d = .row e z (l.map enc)) (hnew : ∀ g c, A d = some (some g, c) → w0.heap.size ≤ g) : ∃ r : Rw α, r.l = l ∧ Sim nt w I (upd A d none) (set (kill d ρ) d (.v r.val)) a ∧ Fo enc e z w0 I0 A0 G0 (rs ++ [r]) w I (upd A d none) := by
  have hsl := hs.slot d hd
  have ho := hs.osim.own d
  have hd2 : d < 100000 := Nat.lt_of_lt_of_le hd hs.bound
  rw [hρ] at hsl ho
  obtain ⟨B, c, hA, b, hb, hx⟩ := hsl
  obtain ⟨B', c', hA', hrow⟩ := ho
  rw [hA] at hA'
  simp only [Option.some.injEq, Prod.mk.injEq] at hA'
  obtain ⟨rfl, rfl⟩ := hA'
  have hup : ∀ t, t ≠ d → upd A d none t = A t := fun t h => upd_ne A _ h
  have hno : ∀ t g c', upd A d none t = some (some g, c') → t ≠ d ∧ A t = some (some g, c') := fun t g c' h => by
    unfold upd at h
    split at h
    · cases h
    · rename_i h'; exact ⟨h', h⟩
  have hsep : ∀ g, B = some g → g < w.heap.size ∧ ¬ I g ∧ ∀ s c', upd A d none s ≠ some (some g, c') := fun g hg => by
    have h1 := hs.osim.sep d g c (by rw [hA, hg])
    refine ⟨h1.1, h1.2, fun s c' h => ?_⟩
    obtain ⟨h2, h3⟩ := hno s g c' h
    exact h2 (hs.osim.inj s d g c' c h3 (by rw [hA, hg]))
  refine ⟨⟨B, b, c, l⟩, rfl, ⟨⟨fun s => ?_, fun s t g c1 c2 h1 h2 => ?_, fun s g c1 h => ?_, hs.osim.imm⟩, hs.size, hs.bound, fun i hi => ?_, fun s h => ?_⟩, ?_⟩
  · unfold set; split
    · trivial
    · rename_i h; rw [kill_eq hd2 (hs.out s)]; exact (hs.osim.own s).reown h hup
  · exact hs.osim.inj s t g c1 c2 (hno s g c1 h1).2 (hno t g c2 h2).2
  · exact hs.osim.sep s g c1 (hno s g c1 h).2
  · unfold set; split
    · rename_i h
      subst h
      rw [hx]
      have : (Value.slice b (l.map enc).length c) = (Rw.val ⟨B, b, c, l⟩ : Value) := by unfold Rw.val; rw [List.length_map]
      rw [this]
      exact .ofRel (.v _ _)
    · rename_i h; rw [kill_eq hd2 (hs.out i)]; exact (hs.slot i hi).reown h hup
  · unfold set; rw [if_neg (by omega), kill_eq hd2 (hs.out s)]
    exact isOut_kill (hs.out s h)
  · obtain ⟨f1, f2, f3, f4⟩ := hf
    refine ⟨fun r hr => ?_, ?_, fun r hr g hg => ?_, ⟨f4.os, f4.tape, f4.output, f4.size, f4.imm, fun g hg hAg hG => ?_, fun s hs' => ?_⟩⟩
    · rcases List.mem_append.1 hr with h | h
      · obtain ⟨q1, q2, q3⟩ := f1 r h
        exact ⟨q1, q2, fun g hg => ⟨(q3 g hg).1, (q3 g hg).2.1, fun s c' h => (q3 g hg).2.2 s c' (hno s g c' h).2⟩⟩
      · simp at h; subst h
        exact ⟨hb, hrow, hsep⟩
    · rw [List.pairwise_append]
      refine ⟨f2, by simp, fun x hx y hy g hg hg' => ?_⟩
      simp at hy; subst hy
      exact ((f1 x hx).free g hg).2.2 d c (by rw [hA]; exact congrArg (fun q => some (q, c)) hg')
    · rcases List.mem_append.1 hr with h | h
      · exact f3 r h g hg
      · simp at h; subst h
        exact .inr (hnew g c (by rw [hA]; exact congrArg (fun q => some (q, c)) hg))
    · obtain ⟨k1, k2, k3⟩ := f4.old g hg hAg hG
      exact ⟨k1, k2, fun s c' h => k3 s c' (hno s g c' h).2⟩
    · rw [hup s (by omega)]; exact f4.outA s hs'
theorem owf_give {α : Type} {enc : α → List DV} {e : TypeId} {z : Nat} {P : Program} {nt : Nat} {w0 : World} {I0 : Nat → Prop} {A0 : Own} {ρ : Env} {rs : List (Rw α)} {ops : Array Oper} {o : Oper} {K : List (Rw α) → Env → Prop} (d : Nat) (l : List α) (hd : d < nt) (hρ : ρ d = .row e z (l.map enc))
    (h : ∀ r : Rw α, r.l = l → OWF P nt (Fo enc e z w0 I0 (ownIn A0) fun _ => False) ops o K (rs ++ [r]) (set (kill d ρ) d (.v r.val))) : OWF P nt (Fo enc e z w0 I0 (ownIn A0) fun _ => False) ops o K rs ρ := fun ro ds I A a w hs hdf hf => by
  have hd2 : d < 100000 := Nat.lt_of_lt_of_le hd hs.bound
  obtain ⟨r, h1, h2, h3⟩ := hs.give hf hd hρ fun g c hA => by
    rcases Nat.lt_or_ge g w0.heap.size with hlt | hge
    · exfalso
      by_cases ho : ∀ s c, ownIn A0 s ≠ some (some g, c)
      · exact (hf.2.2.2.old g hlt ho fun h => h).2.2 d c hA
      · simp only [ne_eq, Classical.not_forall, Classical.not_not] at ho
        obtain ⟨s, c', hs'⟩ := ho
        have hge : 100000 ≤ s := by
          rcases Nat.lt_or_ge s 100000 with h | h
          · unfold ownIn at hs'; rw [if_pos h] at hs'; cases hs'
          · exact h
        have := hs.osim.inj s d g c' c ((hf.2.2.2.outA s hge).trans hs') hA
        omega
    · exact hge
  exact h r h1 ro ds I _ a w h2 hdf h3
/-! ## A round -/
def rdS (t : Nat) : DV → DV
  | .cond _ _ => .any
  | d => sh (rd t d)
theorem isOut_rdS (t : Nat) (d : DV) : isOut (rdS t d) := by cases d <;> first | exact isOut_sh _ | rfl
theorem SlotRel.inner {w : World} {I : Nat → Prop} {A : Own} {s : Nat} {d : DV} {x : Value} (h : SlotRel w I A s d x) : Rel w I (ownIn A) (rdS s d) x := by
  cases d with
  | bx cs => obtain ⟨g, c, h1, rfl⟩ := h; exact .bp _ (s + 100000) 0 g c ((ownIn_hi A s).trans h1)
  | row e z xs => obtain ⟨B, c, h1, b, hb, rfl⟩ := h; exact .own _ (s + 100000) _ B c b ((ownIn_hi A s).trans h1) hb
  | mo es => obtain ⟨g, c, h1, rfl⟩ := h; exact .mr _ (s + 100000) g c ((ownIn_hi A s).trans h1)
  | cond g y => exact .any _ _
  | any => exact .any _ _
  | v y => exact (show Rel w I A _ x from h).rename (ownIn_hi A)
  | sl z n f => exact (show Rel w I A _ x from h).rename (ownIn_hi A)
  | agg cs => exact (show Rel w I A _ x from h).rename (ownIn_hi A)
  | tup cs => exact (show Rel w I A _ x from h).rename (ownIn_hi A)
  | dp cs => exact (show Rel w I A _ x from h).rename (ownIn_hi A)
  | bp s o => exact (show Rel w I A _ x from h).rename (ownIn_hi A)
  | own s n => exact (show Rel w I A _ x from h).rename (ownIn_hi A)
  | rp s z i o => exact (show Rel w I A _ x from h).rename (ownIn_hi A)
  | fn f b c => exact (show Rel w I A _ x from h).rename (ownIn_hi A)
  | iface t' y => exact (show Rel w I A _ x from h).rename (ownIn_hi A)
  | mr s => exact (show Rel w I A _ x from h).rename (ownIn_hi A)
  | ez => exact (show Rel w I A _ x from h).rename (ownIn_hi A)
def reR (R : Nat → DV) (n : Nat) (ρ : Env) : Env := fun s => if s < 100000 then (if s < n then R s else .any) else ρ s
def hiO (A : Own) : Own := fun s => if s < 100000 then none else A s
def mixE (ρ ρ' : Env) : Env := fun s => if s < 100000 then ρ s else ρ' s
theorem hiO_some {A : Own} {s : Nat} {p : Option Nat × Nat} (h : hiO A s = some p) : 100000 ≤ s ∧ A s = some p := by
  unfold hiO at h
  split at h
  · cases h
  · exact ⟨by omega, h⟩
theorem hiO_hi (A : Own) {s : Nat} (h : 100000 ≤ s) : hiO A s = A s := if_neg (by omega)
theorem Rel.toHi {w : World} {I : Nat → Prop} {A A' : Own} {d : DV} {x : Value} (h : Rel w I A d x) (ho : isOut d) (hA : ∀ s, 100000 ≤ s → A' s = A s) : Rel w I A' d x :=
  h.congrA _ ho fun s hs => hA s (of_decide_eq_true hs)
theorem OwnRel.toHi {w : World} {I : Nat → Prop} {A A' : Own} {s : Nat} {d : DV} (h : OwnRel w I A s d) (hs : 100000 ≤ s) (ho : isOut d) (hA : ∀ s, 100000 ≤ s → A' s = A s) : OwnRel w I A' s d := by
  cases d with
  | bx cs =>
    obtain ⟨g, c, us, et, h1, h2, h3, h4, h5⟩ := h
    have ho : allKL (fun t => decide (100000 ≤ t)) cs = true := ho
    exact ⟨g, c, us, et, (hA s hs).trans h1, h2, h3, h4, fun j d u hd hu => (h5 j d u hd hu).toHi (allKL_get ho hd) hA⟩
  | row e z xs => obtain ⟨B, c, h1, h2⟩ := h; exact ⟨B, c, (hA s hs).trans h1, h2⟩
  | mo es => obtain ⟨g, c, vs, cl, h1, h2, h3⟩ := h; exact ⟨g, c, vs, cl, (hA s hs).trans h1, h2, h3⟩
  | _ => trivial
section
variable {α : Type} {enc : α → List DV} {e : TypeId} {z : Nat} {P : Program} {nt n : Nat} {w0 : World} {I0 : Nat → Prop} {A0 : Own} {G0 : Nat → Prop} {ρ : Env} {R : Nat → DV} {l D : Nat} {rec : Loop}
def FO (enc : α → List DV) (e : TypeId) (z : Nat) (w0 : World) (I0 : Nat → Prop) (A0 : Own) (G0 : Nat → Prop) (l D : Nat) (rec : Loop) (R : Nat → DV) (n : Nat) (rs : List (Rw α)) (w : World) (I : Nat → Prop) (A : Own) : Prop :=
  Fo enc e z w0 I0 A0 G0 rs w I A ∧ Hid l (.loop rec) w I A ∧ Hid D (.deferred (some [])) w I A ∧ ∀ i, i < n → Rel w I A (R i) (rec.tmps.getD i undef)
theorem fo_stO (hR : ∀ i, i < n → isOut (R i)) : StF (FO enc e z w0 I0 A0 G0 l D rec R n) := fun rs w I A w' I' A' ρ hs h k =>
  ⟨h.1.ext hs k, h.2.1.ext k, h.2.2.1.ext k, fun i hi => (k.rel hs (h.2.2.2 i hi)).toHi (hR i hi) k.outA⟩
theorem Sim.round {w : World} {I : Nat → Prop} {A : Own} {a : Act} {tmps : Array Value} (hs : Sim nt w I A ρ a) (hR : ∀ i, i < n → isOut (R i)) (hr : ∀ i, i < n → Rel w I A (R i) (tmps.getD i undef)) (hsz : tmps.size = n) (hn : n ≤ 100000) :
    Sim n w I (hiO A) (reR R n ρ) { tmps := tmps, defers := [] } := by
  refine ⟨⟨fun s => ?_, fun s t g c c' h1 h2 => hs.osim.inj s t g c c' (hiO_some h1).2 (hiO_some h2).2, fun s g c h => hs.osim.sep s g c (hiO_some h).2, hs.osim.imm⟩, hsz, hn, fun i hi => ?_, fun s h => ?_⟩
  · unfold reR
    split
    · split
      · rename_i h; exact OwnRel.ofPure (isOwn_of_rel (hr s h))
      · trivial
    · rename_i h; exact (hs.osim.own s).toHi (by omega) (hs.out s (by omega)) fun s h => hiO_hi A h
  · unfold reR
    rw [if_pos (by omega), if_pos hi]
    exact .ofRel ((hr i hi).toHi (hR i hi) fun s h => hiO_hi A h)
  · unfold reR; rw [if_neg (by omega)]; exact hs.out s h
theorem owf_yield {ops : Array Oper} {o : Oper} {K : List (Rw α) → Env → Prop} {fv av : Operand} {ts : Array TypeId} {d p : Nat} {rs : List (Rw α)} {asg body : Code} {x : DV} (hop : o.op = .call ⟨.value fv, #[av], ts⟩) (hg : o.guard = none) (hdst : o.dst = some d) (hd : d < nt)
    (ho : opsOk nt o = true) (hfv : ev ρ fv = .v (.func (.yield l) #[] #[])) (hga : gd (ev ρ av)) (hx : un (ev ρ av) = x) (hxo : isOut x)
    (hp : rec.params = #[p]) (hpn : p < n) (hst : rec.state = .ready) (hpe : rec.pending = none) (hsz : rec.tmps.size = n) (hn : n ≤ 100000) (hR : ∀ i, i < n → isOut (R i)) (hasg : rec.assign = asg) (hbody : rec.body = body)
    {Kr : List (Rw α) → Env → Prop}
    (hround : AW P n asg (fun e1 ρ1 => e1 = .normal ∧ ∀ w1 I1 A1 G1, AWF P n (Fo enc e z w1 I1 A1 G1) body (fun e' s' ρ' => e' = .normal ∧ Kr s' ρ') rs ρ1) (set (reR R n ρ) p x))
    (hK : ∀ s' ρ', Kr s' ρ' → K s' (set (mixE ρ ρ') d (.v (.bool true)))) : OWF P nt (FO enc e z w0 I0 A0 G0 l D rec R n) ops o K rs ρ := by
  intro ro ds I A a w hs hdf hf next Q' hnx
  obtain ⟨⟨f1, f2, f3, f4⟩, hl, hD, hT⟩ := hf
  rw [if_pos (by simp [Region.wanted, hg])]
  refine ⟨fun _ _ => trivial, ?_⟩
  rw [Oper.semAt_eq _ _ _ fun c hc => by rw [hop] at hc; cases hc]
  have hmem : ∀ q, q = fv ∨ q = av → q ∈ o.op.operands := fun q hq => by rw [hop]; simp [Op.operands, Call.operands]; rcases hq with rfl | rfl <;> simp
  have hvf := hs.opd fv (opsOk_mem ho (hmem fv (.inl rfl))) (by rw [hfv]; trivial)
  have hva := hs.opd av (opsOk_mem ho (hmem av (.inr rfl))) hga
  rw [hfv] at hvf
  rw [hx] at hva
  have hv : a.eval fv = .func (.yield l) #[] #[] := by
    generalize a.eval fv = y at hvf
    have hvf : Rel w I A (.v (.func (.yield l) #[] #[])) y := hvf
    cases hvf; rfl
  have hrun : (execOp a.eval o).run P w = .ok (.round l rec.fn ((rec.params.zip #[a.eval av]).foldl (fun tmps (t, a) => tmps.setIfInBounds t a) rec.tmps) rec.assign rec.body) w := by
    have hy := run_yield (P := P) hl.1 (args := #[a.eval av]) (by rw [hp]; rfl)
    simp [execOp, hop, resolve, hv, Deferred.ofValue, invoke, hy]
  rw [hrun, Oper.uponIn_round]
  refine ⟨depth_FR _, roundIn_FR (n := 0) (roundIn_of_wpIn (F := FR none) trivial ?_)⟩
  have hs0 := (hs.round hR hT hsz hn).put (d := p) (v := x) (x := a.eval av) hpn (.ofRel (hva.toHi hxo fun s h => hiO_hi A h)) (OwnRel.ofPure (isOwn_of_rel hva))
  have hact : (Act.put { tmps := rec.tmps, defers := [] } (some p) (a.eval av)) = { tmps := (rec.params.zip #[a.eval av]).foldl (fun tmps (t, a) => tmps.setIfInBounds t a) rec.tmps, defers := [] } := by
    rw [hp, ← Array.foldl_toList, Array.toList_zip]; rfl
  rw [hact] at hs0
  rw [hasg, hbody]
  refine wpIn_mono (F := FR (some l)) (hround (some l) [] I (hiO A) _ w hs0 rfl) ?_
  rintro e1 c1 w1 ⟨I1, A1, ρ1, s1, d1, x1, rfl, hb⟩
  have hlO : Hid l (.loop rec) w I (hiO A) := ⟨hl.1, hl.2.1, fun s c h => hl.2.2 s c (hiO_some h).2⟩
  have hH1 := hlO.ext x1
  refine ⟨w1.putObj l (.loop { rec with state := .busy }), run_beginRound hH1.1 hst, ?_⟩
  obtain ⟨w2, hw2⟩ : ∃ w2, w1.putObj l (.loop { rec with state := .busy }) = w2 := ⟨_, rfl⟩
  obtain ⟨Gr, hGr⟩ : ∃ Gr : Nat → Prop, Gr = fun g => ∃ r ∈ rs, r.B = some g := ⟨_, rfl⟩
  have s2 := s1.aside hH1 (.loop { rec with state := .busy })
  have hH2 := hH1.put (.loop { rec with state := .busy })
  have hrowA : ∀ r ∈ rs, FoRow enc e z w I (hiO A) r := fun r hr => ⟨(f1 r hr).base, (f1 r hr).row, fun g hg => ⟨((f1 r hr).free g hg).1, ((f1 r hr).free g hg).2.1, fun s c h => ((f1 r hr).free g hg).2.2 s c (hiO_some h).2⟩⟩
  have hos0 : OSim w I (hiO A) (set (reR R n ρ) p x) := hs0.osim
  have hrow1 : ∀ r ∈ rs, FoRow enc e z w1 I1 A1 r := fun r hr => (hrowA r hr).ext hos0 x1
  have hrow2 : ∀ r ∈ rs, FoRow enc e z (w1.putObj l (.loop { rec with state := .busy })) I1 A1 r := fun r hr => (hrow1 r hr).aside hH1 ((hrow1 r hr).ne hH1.1 (by intros; simp)) _
  have sz1 : w.heap.size ≤ w1.heap.size := x1.size
  have sz2 : w2.heap.size = w1.heap.size := by rw [← hw2, World.putObj_size]
  rw [hw2] at s2 hrow2 hH2 ⊢
  refine wpIn_mono (F := FR (some l)) (hb w2 I1 A1 Gr (some l) [] I1 A1 c1 w2 s2 d1 ⟨hrow2, f2, fun r hr g hg => .inl (by rw [hGr]; exact ⟨r, hr, hg⟩), XF.refl _ _ _ _⟩) ?_
  rintro e2 c2 w3 ⟨I3, A3, ρ3, rs3, s3, d3, ⟨g1, g2, g3, g4⟩, rfl, hkr⟩
  have hnG : ¬ Gr l := fun h => by
    rw [hGr] at h
    obtain ⟨r, hr, hB⟩ := h
    exact (f1 r hr).ne hl.1 (by intros; simp) hB
  obtain ⟨o1, o2, o3⟩ := g4.old l (by rw [sz2]; exact hH1.lt) hH2.2.2 hnG
  have hH3 : Hid l (.loop { rec with state := .busy }) w3 I3 A3 := ⟨o1.trans hH2.1, fun h => hH2.2.1 (o2 h), o3⟩
  refine ⟨_, _, run_endRound none hH3.1, ?_⟩
  have hrec : ({ ({ rec with state := .busy } : Loop) with state := if (none : Option Code).isNone then .ready else .done, pending := none } : Loop) = rec := by
    cases rec; simp_all
  rw [hrec]
  obtain ⟨w4, hw4⟩ : ∃ w4, w3.putObj l (.loop rec) = w4 := ⟨_, rfl⟩
  have s4 := s3.aside hH3 (.loop rec)
  have hH4 := hH3.put (.loop rec)
  rw [hw4] at s4 hH4 ⊢
  have sz4 : w4.heap.size = w3.heap.size := by rw [← hw4, World.putObj_size]
  have sz3 : w2.heap.size ≤ w3.heap.size := g4.size
  have hp4 : ∀ g, g ≠ l → w4.heap[g]? = w3.heap[g]? := fun g h => by rw [← hw4]; exact World.putObj_heap_other h
  have hp2 : ∀ g, g ≠ l → w2.heap[g]? = w1.heap[g]? := fun g h => by rw [← hw2]; exact World.putObj_heap_other h
  have hkeep : ∀ g, g < w.heap.size → (∀ s c, hiO A s ≠ some (some g, c)) → ¬ Gr g → w4.heap[g]? = w.heap[g]? ∧ (I3 g → I g) ∧ ∀ s c, A3 s ≠ some (some g, c) := fun g hg hA hG => by
    obtain ⟨k1, k2, k3⟩ := x1.old g hg hA
    obtain ⟨m1, m2, m3⟩ := g4.old g (by omega) k3 hG
    refine ⟨?_, fun h => k2 (m2 h), m3⟩
    by_cases e : g = l
    · subst e; rw [hH4.1, hl.1]
    · rw [hp4 g e, m1, hp2 g e, k1]
  have hImm : ∀ g, I g → I3 g ∧ w4.heap[g]? = w.heap[g]? := fun g hg => by
    refine ⟨g4.imm g (x1.imm g hg), (hkeep g (hs.osim.imm g hg) (fun s c h => (hs.osim.sep s g c (hiO_some h).2).2 hg) fun h => ?_).1⟩
    rw [hGr] at h
    obtain ⟨r, hr, hB⟩ := h
    exact ((f1 r hr).free g hB).2.1 hg
  have hrel : ∀ B d x, Rel w I B d x → Rel w4 I3 B d x := fun B d x hr => hr.mono fun g hg => ⟨(hImm g hg).1, fun o => cell_of_heap (hImm g hg).2 o⟩
  have hA3 : ∀ s, 100000 ≤ s → A3 s = A s := fun s h => by rw [g4.outA s h, x1.outA s h, hiO_hi A h]
  have hlow : ∀ s g c, s < 100000 → A s = some (some g, c) → g < w.heap.size ∧ (∀ s c, hiO A s ≠ some (some g, c)) ∧ ¬ Gr g := fun s g c hs' hA => by
    refine ⟨(hs.osim.sep s g c hA).1, fun s' c' h => ?_, fun h => ?_⟩
    · have := hs.osim.inj s' s g c' c (hiO_some h).2 hA
      have := (hiO_some h).1
      omega
    · rw [hGr] at h
      obtain ⟨r, hr, hB⟩ := h
      exact ((f1 r hr).free g hB).2.2 s c hA
  have hsim4 : Sim nt w4 I3 A (mixE ρ ρ3) a := by
    refine ⟨⟨fun s => ?_, hs.osim.inj, fun s g c hA => ?_, s4.osim.imm⟩, hs.size, hs.bound, fun i hi => ?_, fun s h => ?_⟩
    · unfold mixE
      split
      · rename_i h
        exact (hs.osim.own s).keep (fun g c hA => (hkeep g (hlow s g c h hA).1 (hlow s g c h hA).2.1 (hlow s g c h hA).2.2).1) hrel
      · exact (s4.osim.own s).toHi (by omega) (s4.out s (by omega)) fun s h => (hA3 s h).symm
    · rcases Nat.lt_or_ge s 100000 with h | h
      · obtain ⟨q1, q2, q3⟩ := hlow s g c h hA
        exact ⟨by omega, fun hi => (hs.osim.sep s g c hA).2 ((hkeep g q1 q2 q3).2.1 hi)⟩
      · exact s4.osim.sep s g c ((hA3 s h).trans hA)
    · unfold mixE; rw [if_pos (Nat.lt_of_lt_of_le hi hs.bound)]
      exact (hs.slot i hi).keep hrel
    · unfold mixE; rw [if_neg (by omega)]; exact s4.out s h
  have hown : ∀ g, (w2.heap.size ≤ g ∨ Gr g) → (∀ s c, A3 s ≠ some (some g, c)) → ∀ s c, A s ≠ some (some g, c) := fun g hg hA s c h => by
    rcases Nat.lt_or_ge s 100000 with hs' | hs'
    · obtain ⟨q1, q2, q3⟩ := hlow s g c hs' h
      rcases hg with hg | hg
      · omega
      · exact q3 hg
    · exact hA s c ((hA3 s hs').trans h)
  have hG3 : ∀ r ∈ rs3, ∀ g, r.B = some g → w2.heap.size ≤ g ∨ Gr g := fun r hr g hg => (g3 r hr g hg).symm
  have hfree4 : ∀ r ∈ rs3, FoRow enc e z w4 I3 A r := fun r hr => by
    have hne : r.B ≠ some l := (g1 r hr).ne hH3.1 (by intros; simp)
    have hI : ¬ I3 l := hH3.2.1
    refine ⟨(g1 r hr).base, (g1 r hr).row.of (fun g hg => hp4 g fun e => hne (e ▸ hg)) fun d x hr => (by rw [← hw4]; exact Rel.aside hI hr), fun g hg => ⟨by rw [sz4]; exact ((g1 r hr).free g hg).1, ((g1 r hr).free g hg).2.1, hown g (hG3 r hr g hg) ((g1 r hr).free g hg).2.2⟩⟩
  have hxf : XF w0 I0 A0 G0 w4 I3 A := by
    refine ⟨?_, ?_, ?_, by have := f4.size; omega, fun g hg => (hImm g (f4.imm g hg)).1, fun g hg hA hG => ?_, f4.outA⟩
    · rw [← hw4]; show w3.os = _; rw [g4.os, ← hw2]; show w1.os = _; rw [x1.os, f4.os]
    · have e1 := g4.tape; have e2 := x1.tape; have e3 := f4.tape
      rw [← hw4]; rw [← hw2] at e1
      exact ⟨e1.1.trans (e2.1.trans e3.1), Nat.le_trans e3.2 (Nat.le_trans e2.2 e1.2)⟩
    · rw [← hw4]; show w3.output = _; rw [g4.output, ← hw2]; show w1.output = _; rw [x1.output, f4.output]
    · obtain ⟨q1, q2, q3⟩ := f4.old g hg hA hG
      obtain ⟨k1, k2, k3⟩ := hkeep g (Nat.lt_of_lt_of_le hg f4.size) (fun s c h => q3 s c (hiO_some h).2) fun h => by
        rw [hGr] at h
        obtain ⟨r, hr, hB⟩ := h
        rcases f3 r hr g hB with h | h
        · exact hG h
        · omega
      exact ⟨k1.trans q1, fun h => q2 (k2 h), q3⟩
  have hD4 : Hid D (.deferred (some [])) w4 I3 A := by
    obtain ⟨k1, k2, k3⟩ := hkeep D hD.lt (fun s c h => hD.2.2 s c (hiO_some h).2) fun h => by
      rw [hGr] at h
      obtain ⟨r, hr, hB⟩ := h
      exact (f1 r hr).ne hD.1 (by intros; simp) hB
    exact ⟨k1.trans hD.1, fun h => hD.2.1 (k2 h), hD.2.2⟩
  have hF4 : FO enc e z w0 I0 A0 G0 l D rec R n rs3 w4 I3 A := by
    refine ⟨⟨hfree4, g2, fun r hr g hg => ?_, hxf⟩, ⟨hH4.1, hH4.2.1, hl.2.2⟩, hD4, fun i hi => hrel _ _ _ (hT i hi)⟩
    rcases hG3 r hr g hg with h | h
    · right
      have := f4.size
      omega
    · rw [hGr] at h
      obtain ⟨r', hr', hB⟩ := h
      exact f3 r' hr' g hB
  rw [hdst]
  exact hnx I3 A _ w4 _ rs3 (hsim4.put (d := d) (v := .v (.bool true)) (x := .bool true) hd (.ofRel (.v A _)) trivial) (by rw [put_defers]; exact hdf) hF4 (hK _ _ hkr)
end
end Go.Sg
set_option linter.unusedVariables false
set_option linter.unusedSimpArgs false
namespace Go.Sg
open Go.RowKit
open Go.Rv (FR depth_FR callsIn_FR roundIn_FR room_FR)
def AWS {σ : Type} (P : Program) (nt : Nat) (F : σ → World → (Nat → Prop) → Own → Prop) (c : Code) (Φ : Exit → Act → World → Prop) (s : σ) (ρ : Env) : Prop :=
  ∀ I A a w, Sim nt w I A ρ a → a.defers = [] → F s w I A → c.wpIn (FR none) 0 P Φ a w
def QS {σ : Type} (nt : Nat) (F : σ → World → (Nat → Prop) → Own → Prop) (Φ : Exit → Act → World → Prop) : Exit → σ → Env → Prop := fun e s ρ => ∀ I A a w, Sim nt w I A ρ a → a.defers = [] → F s w I A → Φ e a w
section
variable {σ : Type} {P : Program} {nt : Nat} {F : σ → World → (Nat → Prop) → Own → Prop} {Φ : Exit → Act → World → Prop} {s : σ} {ρ : Env}
theorem aws_seq {x y : Code} (h : ∀ K : σ → Env → Prop, (∀ s ρ, AWS P nt F y Φ s ρ → K s ρ) → AWF P nt F x (thenF K (QS nt F Φ)) s ρ) : AWS P nt F (.seq x y) Φ s ρ := by
  intro I A a w hs hd hf
  refine wpIn_seq (wpIn_mono (h (fun s ρ => AWS P nt F y Φ s ρ) (fun _ _ h => h) none [] I A a w hs hd hf) ?_)
  intro e a1 w1 ⟨I1, A1, ρ1, s1, h1, h2, h3, h4⟩
  cases e with
  | normal => exact h4 I1 A1 a1 w1 h1 h2 h3
  | exit i => exact h4 I1 A1 a1 w1 h1 h2 h3
  | goto l => exact h4 I1 A1 a1 w1 h1 h2 h3
  | ret => exact h4 I1 A1 a1 w1 h1 h2 h3
  | panic ch => exact h4 I1 A1 a1 w1 h1 h2 h3
  | outgrown => exact h4 I1 A1 a1 w1 h1 h2 h3
theorem awf_seqJ {Q : Exit → σ → Env → Prop} (L : List Nat) {x y : Code} (J : σ → Env → Prop) (hx : ∀ K : σ → Env → Prop, (∀ s ρ', J s (keepC L ρ') → K s ρ') → AWF P nt F x (thenF K Q) s ρ) (hy : ∀ s ρ, J s ρ → AWF P nt F y Q s ρ) : AWF P nt F (.seq x y) Q s ρ :=
  awf_seq fun K hK => hx K fun s ρ' hJ => hK s ρ' (awf_weaken (Le.keepC L ρ') (hy s _ hJ))
theorem aws_seqL {x y : Code} (h : AWS P nt F x (Exit.then (fun a w => y.wpIn (FR none) 0 P Φ a w) Φ) s ρ) : AWS P nt F (.seq x y) Φ s ρ := fun I A a w hs hd hf => wpIn_seq (h I A a w hs hd hf)
theorem aws_weaken {c : Code} {ρ ρ' : Env} (hl : Le ρ ρ') (h : AWS P nt F c Φ s ρ') : AWS P nt F c Φ s ρ := fun I A a w hs hd hf => h I A a w (hs.weaken hl) hd hf
end
section
variable {α : Type} {enc : α → List DV} {e : TypeId} {z : Nat} {P : Program}
def PhiE (P : Program) (fn : Func) (O : Env) (R : Env → DV → Prop) (w0 : World) (I0 : Nat → Prop) (A0 : Own) (en : Exit) (a' : Act) (w' : World) : Prop :=
  (en = .ret ∨ en = .normal) ∧ ∃ I' A' ρ', Sim fn.ntmps w' I' A' ρ' a' ∧ XF w0 I0 (ownIn A0) (fun _ => False) w' I' A' ∧ retQ P fn O R .ret ρ' ∧
    (a'.defers = [] ∨ ∃ D, a'.defers = [{ target := .collected D, args := #[] }] ∧ Hid D (.deferred (some [])) w' I' A' ∧ w0.heap.size ≤ D)
theorem XF.toExt {w0 w : World} {I0 I : Nat → Prop} {A0 A : Own} {ρ : Env} (h : XF w0 I0 (ownIn A0) (fun _ => False) w I A) (hs : OSim w I A ρ) : Ext w0 I0 (ownIn A0) w I A :=
  ⟨h.os, h.tape, h.output, h.size, h.imm, fun g hg hA => h.old g hg hA fun h => h, fun s g c hAs hg hlt => by
    exfalso
    by_cases ho : ∀ s c, ownIn A0 s ≠ some (some g, c)
    · exact (h.old g hg ho fun h => h).2.2 s c hAs
    · simp only [ne_eq, Classical.not_forall, Classical.not_not] at ho
      obtain ⟨t, c', ht⟩ := ho
      have hge : 100000 ≤ t := by
        rcases Nat.lt_or_ge t 100000 with h | h
        · unfold ownIn at ht; rw [if_pos h] at ht; cases ht
        · exact h
      have := hs.inj t s g c' c ((h.outA t hge).trans ht) hAs
      omega, h.outA⟩
theorem XF.put {w0 w : World} {I0 I : Nat → Prop} {A0 A : Own} {G0 : Nat → Prop} {g : Nat} (h : XF w0 I0 A0 G0 w I A) (hg : w0.heap.size ≤ g) (o : Obj) : XF w0 I0 A0 G0 (w.putObj g o) I A :=
  ⟨h.os, h.tape, h.output, by rw [World.putObj_size]; exact h.size, h.imm, fun k hk hA hG => ⟨(World.putObj_heap_other (by omega)).trans (h.old k hk hA hG).1, (h.old k hk hA hG).2⟩, h.outA⟩
theorem ecall_of_aws {f : FuncId} {fn : Func} {c : Code} {O : Env} {args : List DV} {R : Env → DV → Prop} (hf : P.funcs[f]? = some fn) (hb : fn.body = some c)
    (hn : (decide (args.length ≤ fn.ntmps) && decide (fn.ntmps ≤ 100000) && fn.results.toList.all (fun v => match v with | .tmp t => decide (t < fn.ntmps) | .cell t _ => decide (t < fn.ntmps))) = true)
    (h : ∀ w0 I0 A0, AWS P fn.ntmps (Fo enc e z w0 I0 (ownIn A0) fun _ => False) c (PhiE P fn O R w0 I0 A0) [] (entry O args)) : ECall P O f args R := by
  intro w I A vals hO hl hv
  simp only [Bool.and_eq_true, decide_eq_true_eq] at hn
  obtain ⟨⟨hn1, hn2⟩, hn3⟩ := hn
  refine (callsIn_of_wp_marks (F := FR none) (n := 0) hf hb trivial (wpIn_mono (h w I A I (ownIn A) _ w (Sim.enter hO hl hn1 hn2 hv) rfl ⟨by simp, List.Pairwise.nil, by simp, XF.refl _ _ _ _⟩) ?_)).calls (fun _ => room_FR _ _)
  rintro en a' w' ⟨hen, I', A', ρ', k1, k3, k4, k5⟩
  have fin : ∀ w', Sim fn.ntmps w' I' A' ρ' a' → XF w I (ownIn A) (fun _ => False) w' I' A' →
      ∃ v, (results fn a'.tmps).run P w' = .ok v w' ∧ ∃ v' I' O' r, Ending.returned v = .returned v' ∧ OSim w' I' A O' ∧ (∀ s, frOk (O s) (O' s)) ∧ (∀ s, isOut (O s) → isOut (O' s)) ∧ Ext w I A w' I' A ∧ ResRel w w' I' A r v' ∧ R O' r := by
    intro w' k1 hxf
    have k3 := hxf.toExt k1.osim
    obtain ⟨O', r, q1, q2, q3, q4, q5⟩ := k4
    obtain ⟨v, r1, r2⟩ := ret_ok k1 k3 hn3 q4
    have hA' : ∀ s, A' (s + 100000) = A s := fun s => by rw [k3.outA _ (by omega), ownIn_hi]
    have hfun : (fun s => A' (s + 100000)) = A := funext hA'
    refine ⟨v, r1, v, I', O', r, rfl, ⟨fun s => ?_, hO.inj, fun s g c hA => ?_, k1.osim.imm⟩, q2, q3, ⟨k3.os, k3.tape, k3.output, k3.size, k3.imm, fun g hg hA => ?_, fun s g c hA _ hs => ⟨s, c, hs, hA⟩, fun _ _ => rfl⟩, r2, q5⟩
    · have := k1.osim.own (s + 100000)
      rw [q1] at this
      have := this.outof (s := s) rfl
      rwa [hfun] at this
    · exact k1.osim.sep (s + 100000) g c ((hA' s).trans hA)
    · obtain ⟨e1, e2, e3⟩ := k3.old g hg fun s c hs => by
        unfold ownIn at hs
        split at hs
        · cases hs
        · exact hA _ _ hs
      exact ⟨e1, e2, hA⟩
  have hlv : LeavesInM (FR none) 0 P fn a'.tmps (fun en w' => ∃ v' I' O' r, en = .returned v' ∧ OSim w' I' A O' ∧ (∀ s, frOk (O s) (O' s)) ∧ (∀ s, isOut (O s) → isOut (O' s)) ∧ Ext w I A w' I' A ∧ ResRel w w' I' A r v' ∧ R O' r) a'.defers .returning w' := by
    rcases k5 with k5 | ⟨D, k5, k6, k7⟩
    · rw [k5]; exact fin w' k1 k3
    · rw [k5]
      refine ⟨by simp, .inl ⟨D, w'.putObj D (.deferred none), rfl, run_takeDeferred k6.1, ?_⟩⟩
      exact fin _ (k1.aside k6 _) (k3.put k7 _)
  rcases hen with rfl | rfl <;> exact hlv
def SameForm (ρ O : Env) : Prop := ∀ s, O s = ρ s ∨ (s < 100000 ∧ ((∃ c c', ρ s = .bx c ∧ O s = .bx c') ∨ ∃ m m', ρ s = .mo m ∧ O s = .mo m'))
theorem callFunc_ent {f : FuncId} (hb : hasBody P f = true) (vals : Array Value) (w : World) : (callFunc f vals).run P w = .ok (.enter f vals) w := by
  unfold hasBody at hb
  cases hP : P.funcs[f]? with
  | none => rw [hP] at hb; cases hb
  | some fn =>
    rw [hP] at hb
    simp only [Bool.and_eq_true, Bool.not_eq_true'] at hb
    have hn : fn.body.isNone = false := by cases h : fn.body <;> simp_all
    simp only [callFunc, Sem.run_bind, run_program, Result.andThen_ok, hP, hb.2, hn, Bool.false_eq_true, if_false, Sem.run_pure]
theorem aws_range {fn : Func} {O : Env} {R : Env → DV → Prop} {w0 : World} {I0 : Nat → Prop} {A0 : Own} {rs : List (Rw α)} {ρ : Env} {g : Operand} {p b : Nat} {asg body rest : Code} {f : FuncId} {caps : List DV} {fn5 : Func} {cd5 : Code} {K : Env → Env → Prop}
    (hgo : opdOk fn.ntmps g = true) (hg : ev ρ g = .fn f [] caps) (hf : P.funcs[f]? = some fn5) (hbd : hasBody P f = true) (hb5 : fn5.body = some cd5) (hr5 : fn5.results = #[]) (hn5 : (decide (caps.length + 1 ≤ fn5.ntmps) && decide (fn5.ntmps ≤ 100000)) = true)
    (h5 : ∀ w1 I1 A1 G1 l D rec, rec.params = #[p] → rec.assign = asg → rec.body = body → rec.state = .ready → rec.pending = none → rec.tmps.size = fn.ntmps →
      AWF P fn5.ntmps (FO enc e z w1 I1 A1 G1 l D rec (fun i => rdS i (ρ i)) fn.ntmps) cd5 (fun e' s' ρ' => (e' = .ret ∨ e' = .normal) ∧ ∃ O', hi ρ' = outer O' ∧ SameForm ρ O' ∧ K ρ O') rs (entry ρ (.v (.func (.yield l) #[] #[]) :: caps)))
    (hrest : ∀ O', K ρ O' → AW P fn.ntmps rest (fun en ρ' => (en = .ret ∨ en = .normal) ∧ retQ P fn O R .ret ρ') O') :
    AWS P fn.ntmps (Fo enc e z w0 I0 (ownIn A0) fun _ => False) (.block b (.rangeFunc g #[p] asg body)) (Exit.then (fun a w => rest.wpIn (FR none) 0 P (PhiE P fn O R w0 I0 A0) a w) (PhiE P fn O R w0 I0 A0)) rs ρ := by
  intro I A a w hs hd hfo
  refine wpIn_block (wpIn_rangeFunc fun fid _ => ?_)
  have hgr := hs.opd g hgo (by rw [hg]; trivial)
  rw [hg] at hgr
  have hgr : Rel w I A (.fn f [] caps) (a.eval g) := hgr
  generalize hgv : a.eval g = gv at hgr
  cases hgr with
  | fn _ _ _ _ us vs hf1 hc1 hfr hcr =>
  obtain rfl : us = #[] := Array.eq_empty_of_size_eq_zero (by simpa using hf1.symm)
  obtain ⟨rec, hrecd⟩ : ∃ rec : Loop, rec = { state := .ready, pending := none, fn := fid, tmps := a.tmps, params := #[p], assign := asg, body, defers := w.heap.size } := ⟨_, rfl⟩
  obtain ⟨W0, hW0⟩ : ∃ W0, w.alloc (.deferred (some [])) = W0 := ⟨_, rfl⟩
  obtain ⟨W1, hW1⟩ : ∃ W1, W0.alloc (.loop rec) = W1 := ⟨_, rfl⟩
  have hsz0 : W0.heap.size = w.heap.size + 1 := by rw [← hW0]; exact World.size_alloc _ _
  have hsz1 : W1.heap.size = w.heap.size + 2 := by rw [← hW1, World.size_alloc, hsz0]
  have g0 : Grow w I W0 I := hW0 ▸ Grow.alloc hs.osim _
  have hs0 := hs.grow g0
  have g1 : Grow W0 I W1 I := hW1 ▸ Grow.alloc hs0.osim _
  have hs1 := hs0.grow g1
  have hfo1 := (hfo.ext hs.osim (g0.ext hs.osim)).ext hs0.osim (g1.ext hs0.osim)
  have hL1 : W1.heap[w.heap.size + 1]? = some (.loop rec) := by
    rw [← hW1, ← hsz0]; show (W0.heap.push _)[W0.heap.size]? = _; simp
  have hD1 : W1.heap[w.heap.size]? = some (.deferred (some [])) := by
    rw [g1.heap _ (by omega), ← hW0]; show (w.heap.push _)[w.heap.size]? = _; simp
  have hfresh : ∀ k, w.heap.size ≤ k → ¬ I k ∧ ∀ s c, ownIn A s ≠ some (some k, c) := fun k hk => ⟨fun h => by have := hs.osim.imm k h; omega, fun s c h => by
    unfold ownIn at h
    split at h
    · cases h
    · have := (hs.osim.sep _ k c h).1; omega⟩
  refine ⟨w.heap.size + 1, [{ target := .collected w.heap.size, args := #[] }], W1, { target := .fn (.func f) vs, args := #[.func (.yield (w.heap.size + 1)) #[] #[]] }, W1, f, #[.func (.yield (w.heap.size + 1)) #[] #[]] ++ vs, W1, ?_, ?_, fun _ _ => trivial, ?_, depth_FR _, ?_⟩
  · rw [← hW1, ← hW0, hrecd]; exact run_enterLoop_outer _ _ _ _ _
  · simp only [resolve, hgv]
    simp [Deferred.ofValue, Act.eval]
  · simp [invoke, callFunc_ent hbd]
  simp only [Bool.and_eq_true, decide_eq_true_eq] at hn5
  have hargs : ∀ (j : Nat) (d : DV) (u : Value), (DV.v (.func (.yield (w.heap.size + 1)) #[] #[]) :: caps)[j]? = some d → (#[Value.func (.yield (w.heap.size + 1)) #[] #[]] ++ vs)[j]? = some u → Rel W1 I A d u := fun j d u hd hu => by
    cases j with
    | zero =>
      rw [List.getElem?_cons_zero] at hd
      cases hd
      rw [Array.getElem?_append] at hu
      simp at hu
      subst hu
      exact .v _ _
    | succ j =>
      rw [List.getElem?_cons_succ] at hd
      rw [Array.getElem?_append] at hu
      simp at hu
      exact g1.rel hs0.osim (g0.rel hs.osim (hcr j d u hd hu))
  have hent := Sim.enter (nt := fn5.ntmps) (args := DV.v (.func (.yield (w.heap.size + 1)) #[] #[]) :: caps) (vals := #[Value.func (.yield (w.heap.size + 1)) #[] #[]] ++ vs) hs1.osim (by simp [hc1]; omega) (by simpa using hn5.1) hn5.2 hargs
  obtain ⟨G1, hG1⟩ : ∃ G1 : Nat → Prop, G1 = fun g => ∃ r ∈ rs, r.B = some g := ⟨_, rfl⟩
  have hno : ∀ s k c, ownIn A s = some (some k, c) → A (s - 100000) = some (some k, c) := fun s k c h => by
    unfold ownIn at h
    split at h
    · cases h
    · exact h
  have hF : FO enc e z W1 I (ownIn A) G1 (w.heap.size + 1) w.heap.size rec (fun i => rdS i (ρ i)) fn.ntmps rs W1 I (ownIn A) := by
    refine ⟨⟨fun r hr => ?_, hfo1.2.1, fun r hr k hk => .inl (by rw [hG1]; exact ⟨r, hr, hk⟩), XF.refl _ _ _ _⟩, ⟨hL1, hfresh _ (by omega)⟩, ⟨hD1, hfresh _ (Nat.le_refl _)⟩, fun i hi => ?_⟩
    · have := hfo1.1 r hr
      exact ⟨this.base, this.row, fun k hk => ⟨(this.free k hk).1, (this.free k hk).2.1, fun s c h => (this.free k hk).2.2 _ c (hno s k c h)⟩⟩
    · have := (hs1.slot i hi).inner
      rw [hrecd]
      exact this
  have hrecs : rec.params = #[p] ∧ rec.assign = asg ∧ rec.body = body ∧ rec.state = .ready ∧ rec.pending = none ∧ rec.tmps.size = fn.ntmps := by rw [hrecd]; exact ⟨rfl, rfl, rfl, rfl, rfl, hs.size⟩
  have hwalk := h5 W1 I (ownIn A) G1 (w.heap.size + 1) w.heap.size rec hrecs.1 hrecs.2.1 hrecs.2.2.1 hrecs.2.2.2.1 hrecs.2.2.2.2.1 hrecs.2.2.2.2.2 none [] I (ownIn A) _ W1 hent rfl hF
  refine callsIn_of_wp (F := FR none) (n := 0) hf hb5 trivial (wpIn_mono hwalk ?_)
  rintro en a3 w3 ⟨I3, A3, ρ3, rs3, k1, k2, ⟨⟨f1, f2, f3, f4⟩, hl3, hD3, hT3⟩, hen, O', hO1, hO2, hO3⟩
  have hresult : (results fn5 a3.tmps).run P w3 = .ok (.tuple #[]) w3 := by simp [results, hr5]
  suffices hgoal : rangePost (FR none) 0 P (w.heap.size + 1) (Exit.inBlock b (Exit.then (fun a w => rest.wpIn (FR none) 0 P (PhiE P fn O R w0 I0 A0) a w) (PhiE P fn O R w0 I0 A0))) { a with defers := [{ target := .collected w.heap.size, args := #[] }] ++ a.defers } (.returned (.tuple #[])) w3 by
    rcases hen with rfl | rfl
    · exact ⟨k2, _, hresult, hgoal⟩
    · exact ⟨k2, _, hresult, hgoal⟩
  obtain ⟨w4, hw4⟩ : ∃ w4, w3.putObj (w.heap.size + 1) (.loop { rec with state := .exhausted }) = w4 := ⟨_, rfl⟩
  refine ⟨none, w4, ?_, ?_⟩
  · have := run_endLoop (P := P) hl3.1 (by rw [hrecs.2.2.2.1]; simp)
    rw [hw4, hrecs.2.2.2.2.1] at this
    exact this
  have hos4 := k1.osim.aside hl3 (.loop { rec with state := .exhausted })
  have hD4 := hD3.other (g := w.heap.size + 1) (by omega) (.loop { rec with state := .exhausted })
  rw [hw4] at hos4 hD4
  have hA3 : ∀ s, A3 (s + 100000) = A s := fun s => by rw [f4.outA _ (by omega), ownIn_hi]
  have hfun : (fun s => A3 (s + 100000)) = A := funext hA3
  have hh4 : ∀ k, k ≠ w.heap.size + 1 → w4.heap[k]? = w3.heap[k]? := fun k h => by rw [← hw4]; exact World.putObj_heap_other h
  have hI4 : ∀ k, I k → I3 k ∧ w4.heap[k]? = w.heap[k]? := fun k hk => by
    have hk1 := hs.osim.imm k hk
    refine ⟨f4.imm k hk, ?_⟩
    rw [hh4 k (by omega), (f4.old k (by omega) (fun s c h => (hs.osim.sep _ k c (hno s k c h)).2 hk) fun h => by
      rw [hG1] at h
      obtain ⟨r, hr, hB⟩ := h
      exact ((hfo.1 r hr).free k hB).2.1 hk).1, g1.heap k (by omega), g0.heap k hk1]
  have hrel : ∀ B d x, Rel w I B d x → Rel w4 I3 B d x := fun B d x hr => hr.mono fun k hk => ⟨(hI4 k hk).1, fun o => cell_of_heap (hI4 k hk).2 o⟩
  have hsim : Sim fn.ntmps w4 I3 A O' { a with defers := [{ target := .collected w.heap.size, args := #[] }] ++ a.defers } := by
    refine ⟨⟨fun s => ?_, hs.osim.inj, fun s k c hA => hos4.sep (s + 100000) k c ((hA3 s).trans hA), hos4.imm⟩, hs.size, hs.bound, fun i hi => ?_, fun s h => ?_⟩
    · have := hos4.own (s + 100000)
      have hρ3 : ρ3 (s + 100000) = sh (O' s) := by
        have hq := congrFun hO1 (s + 100000)
        rw [outer_hi] at hq
        refine Eq.trans ?_ hq
        unfold hi; rw [if_neg (by omega)]
      rw [hρ3] at this
      have := this.outof (s := s) rfl
      rwa [hfun] at this
    · have hsl := (hs.slot i hi).keep hrel
      show SlotRel w4 I3 A i (O' i) (a.tmps.getD i undef)
      rcases hO2 i with h | ⟨_, ⟨c, c', h1, h2⟩ | ⟨m, m', h1, h2⟩⟩
      · rw [h]; exact hsl
      · rw [h1] at hsl; rw [h2]; exact hsl
      · rw [h1] at hsl; rw [h2]; exact hsl
    · rcases hO2 s with h' | ⟨h', _⟩
      · rw [h']; exact hs.out s h
      · omega
  have hxf : XF w0 I0 (ownIn A0) (fun _ => False) w4 I3 A := by
    have f0 := hfo.2.2.2
    refine ⟨?_, ?_, ?_, ?_, fun k hk => (hI4 k (f0.imm k hk)).1, fun k hk hA hG => ?_, f0.outA⟩
    · rw [← hw4]; show w3.os = _; rw [f4.os, g1.os, g0.os, f0.os]
    · have e1 := f4.tape; have e2 := g1.tape; have e3 := g0.tape; have e4 := f0.tape
      rw [← hw4]
      exact ⟨e1.1.trans (e2.1.trans (e3.1.trans e4.1)), Nat.le_trans e4.2 (Nat.le_trans e3.2 (Nat.le_trans e2.2 e1.2))⟩
    · rw [← hw4]; show w3.output = _; rw [f4.output, g1.output, g0.output, f0.output]
    · have := f4.size; have := f0.size; rw [← hw4, World.putObj_size]; omega
    · obtain ⟨q1, q2, q3⟩ := f0.old k hk hA hG
      have hkw : k < w.heap.size := Nat.lt_of_lt_of_le hk f0.size
      obtain ⟨m1, m2, m3⟩ := f4.old k (by omega) (fun s c h => q3 _ c (hno s k c h)) fun h => by
        rw [hG1] at h
        obtain ⟨r, hr, hB⟩ := h
        rcases hfo.2.2.1 r hr k hB with h | h
        · exact h
        · omega
      exact ⟨by rw [hh4 k (by omega), m1, g1.heap k (by omega), g0.heap k hkw, q1], fun h => q2 (m2 h), q3⟩
  have hD5 : Hid w.heap.size (.deferred (some [])) w4 I3 A := ⟨hD4.1, hD4.2.1, fun s c h => by have := (hs.osim.sep s _ c h).1; omega⟩
  show rest.wpIn (FR none) 0 P (PhiE P fn O R w0 I0 A0) _ w4
  have hdf : ([{ target := .collected w.heap.size, args := #[] }] ++ a.defers : List Deferred) = [{ target := .collected w.heap.size, args := #[] }] := by rw [hd]; rfl
  refine wpIn_mono (hrest O' hO3 none [{ target := .collected w.heap.size, args := #[] }] I3 A _ w4 hsim hdf) ?_
  rintro en2 a5 w5 ⟨I5, A5, ρ5, r1, r2, r3, r4, r5⟩
  exact ⟨r4, I5, A5, ρ5, r1, hxf.ext r3, r5, .inr ⟨w.heap.size, r2, hD5.ext r3, hfo.2.2.2.size⟩⟩
end
section
variable {P : Program} {nt : Nat} {ρ : Env}
theorem ow_storeM {ops : Array Oper} {o : Oper} {K : Env → Prop} {t : TypeId} {ad x : Operand} {s m : Nat} {c0 : DV} (hop : o.op = .store t ad x) (hg : o.guard = none) (hdst : o.dst = none) (ho : opsOk nt o = true)
    (ha : ev ρ ad = .bp s 0) (hx : ev ρ x = .mr m) (hz : szOf P t = some 1) (hs1 : s < 100000) (hρ : ρ s = .bx [c0]) (hK : K (set ρ s (.bx [.mr m]))) : OW P nt ops o K ρ := by
  refine ow_skip hg fun I A a w hs => ?_
  have hxr := hs.opd x (opsOk_mem ho (by simp [hop, Op.operands])) (by rw [hx]; trivial)
  have hadr := hs.opd ad (opsOk_mem ho (by simp [hop, Op.operands])) (by rw [ha]; trivial)
  rw [ha] at hadr
  rw [hx] at hxr
  have hadr : Rel w I A (.bp s 0) (a.eval ad) := hadr
  have hxr : Rel w I A (.mr m) (a.eval x) := hxr
  generalize hav : a.eval ad = av at *
  generalize hxv : a.eval x = xv at *
  cases hadr with
  | bp _ _ _ g c hA =>
    have hown := hs.osim.own s
    rw [hρ] at hown
    obtain ⟨g', c', us, et, q1, q2, q3, q4, q5⟩ := hown
    rw [hA] at q1
    simp only [Option.some.injEq, Prod.mk.injEq] at q1
    obtain ⟨rfl, rfl⟩ := q1
    cases hxr with
    | mr _ _ gm cm hm =>
      have hrun := run_storeAt (P := P) (w := w) hz (x := .map (some gm)) rfl q2 (o := 0) (by rw [q3]; simp) (by simp [Value.cells]; rfl)
      generalize hnew : (us.toList.take 0 ++ (Value.map (some gm)).cells.toList ++ us.toList.drop (0 + 1)).toArray = new at hrun
      have hnw : new = #[.map (some gm)] := by
        rw [← hnew]
        have : us.toList.drop (0 + 1) = [] := List.drop_of_length_le (by rw [Array.length_toList, q3]; simp)
        rw [this]; rfl
      refine ⟨w.setRow g new, I, A, _, ?_, ?_, Ext.turn hA new, hK⟩
      · simp only [execOp, hop, Sem.run_bind, hav, hxv, hrun, Result.andThen_ok, Sem.run_pure]
      · rw [hdst]
        refine hs.turn hA q2 (fun v hv => ?_) ?_ fun hs' => absurd hs' (by omega)
        · rw [hρ] at hv; exact hv
        · refine ⟨g, c, _, et, hA, setRow_heap w g us _ et _ q2, by rw [hnw]; rfl, fun u hu => by rw [hnw] at hu; simp at hu; subst hu; rfl, fun j e u he hu => ?_⟩
          rw [hnw] at hu
          cases j with
          | zero =>
            simp at he hu
            subst he; subst hu
            exact .mr _ _ gm cm hm
          | succ j => simp at he
end
theorem MCall.mono {P : Program} {O : Env} {f : FuncId} {args : List DV} {j : Nat} {e : TypeId} {z : Nat} {xs : List (List DV)} {R R' : List (List DV) → Prop} (h : MCall P O f args j e z xs R) (hr : ∀ ys, R ys → R' ys) : MCall P O f args j e z xs R' :=
  fun w I A vals B c b h1 h2 h3 h4 h5 h6 h7 => (h w I A vals B c b h1 h2 h3 h4 h5 h6 h7).mono fun _ _ ⟨b, I', ys, B', c', q1, q2, q3, q4, q5, q6⟩ => ⟨b, I', ys, B', c', q1, q2, q3, q4, hr _ q5, q6⟩
end Go.Sg
