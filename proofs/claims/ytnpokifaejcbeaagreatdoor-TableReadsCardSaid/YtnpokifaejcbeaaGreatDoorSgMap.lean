/- Maps with string keys that a slot owns: made, looked up, given a new key. -/
import Derived.Test.YtnpokifaejcbeaaGreatDoorSgApp
import Derived.MapKept
set_option linter.unusedVariables false
set_option linter.unusedSimpArgs false
namespace Go.Sg
open Go.RowKit

def keyS : Value → Option ByteArray
  | .string s => some s
  | _ => none
theorem keyS_iff {v : Value} {s : ByteArray} : keyS v = some s ↔ v = .string s := by cases v <;> simp [keyS]
def getM : List (Value × Value) → ByteArray → Value → Value
  | [], _, z => z
  | e :: es, s, z => if keyS e.1 = some s then e.2 else getM es s z
/-- All keys are strings, and none stands twice. -/
def Keys (es : List (Value × Value)) : Prop := (∀ e ∈ es, (keyS e.1).isSome = true) ∧ (es.map (·.1)).Nodup
/-- The key is new. -/
def NewK (es : List (Value × Value)) (s : ByteArray) : Prop := (∀ e ∈ es, (keyS e.1).isSome = true) ∧ ∀ e ∈ es, e.1 ≠ .string s

theorem getM_mem : ∀ {es : List (Value × Value)}, (es.map (·.1)).Nodup → ∀ {s : ByteArray} {v z : Value}, (.string s, v) ∈ es → getM es s z = v
  | [], _, s, v, z, h => by cases h
  | e :: es, hn, s, v, z, h => by
    rw [List.map_cons, List.nodup_cons] at hn
    unfold getM
    rcases List.mem_cons.1 h with rfl | h
    · rw [if_pos (keyS_iff.2 rfl)]
    · rw [if_neg]
      · exact getM_mem hn.2 h
      · intro he
        rw [keyS_iff] at he
        exact hn.1 (List.mem_map.2 ⟨_, h, he.symm⟩)
theorem getM_not : ∀ {es : List (Value × Value)} {s : ByteArray} {z : Value}, (∀ e ∈ es, e.1 ≠ .string s) → getM es s z = z
  | [], _, _, _ => rfl
  | e :: es, s, z, h => by
    unfold getM
    rw [if_neg fun he => h e (by simp) (keyS_iff.1 he)]
    exact getM_not fun e' he' => h e' (by simp [he'])

/-- A map type whose keys are strings: the zero of its elements. -/
def mpOf (P : Program) (t : TypeId) : Option Value :=
  match P.underlying t with
  | some (.map kt e) => (match P.underlying kt, P.info? e with
    | some .string, some i => i.zero
    | _, _ => none)
  | _ => none
theorem mpOf_spec {P : Program} {t : TypeId} {z : Value} (h : mpOf P t = some z) : ∃ kt e i, P.underlying t = some (.map kt e) ∧ P.underlying kt = some .string ∧ P.info? e = some i ∧ i.zero = some z := by
  unfold mpOf at h
  split at h <;> try cases h
  rename_i kt e hu
  split at h <;> try cases h
  rename_i hk hi
  exact ⟨kt, e, _, hu, hk, hi, h⟩

/-- Finding a string key. -/
theorem find_str {P : Program} {kt : TypeId} (hu : P.underlying kt = some .string) (w : World) (s : ByteArray) (vs : List MapEntry) (h : ∀ e ∈ vs, (keyS e.key).isSome = true) :
    ((Instr.findKey kt (.string s) vs).run P w = .ok none w ∧ ∀ e ∈ vs, e.key ≠ .string s) ∨ ∃ j e, (Instr.findKey kt (.string s) vs).run P w = .ok (some (j, e.val)) w ∧ vs[j]? = some e ∧ e.key = .string s := by
  rcases MapKept.findNow_spec (d := .string) (k := .string s) (show MapKept.IsKey .string (.string s) from trivial) vs 0 (fun e he => by
      have := h e he
      cases hk : e.key <;> rw [hk] at this <;> first | trivial | (simp [keyS] at this)) with ⟨h1, h2⟩ | ⟨j, e, h1, h2, h3⟩
  · exact .inl ⟨MapKept.run_findKey hu h1, h2⟩
  · exact .inr ⟨j, e, by rw [MapKept.run_findKey hu h1, Nat.zero_add], h2, h3⟩

section
variable {P : Program} {nt : Nat} {ρ : Env} {ops : Array Oper}

/-- One owned object turns. -/
theorem Sim.turnO {w w' : World} {I : Nat → Prop} {A : Own} {a : Act} (hs : Sim nt w I A ρ a) {s g c : Nat} (hA : A s = some (some g, c)) (hoth : ∀ g', g' ≠ g → w'.heap[g']? = w.heap[g']?) (hsz : w'.heap.size = w.heap.size) {v : DV}
    (hsl : ∀ x, SlotRel w I A s (ρ s) x → SlotRel w' I A s v x) (ho : OwnRel w' I A s v) (hout : 100000 ≤ s → isOut v) : Sim nt w' I A (set ρ s v) a := by
  have hI := (hs.osim.sep s g c hA).2
  have hne : ∀ g', I g' → g' ≠ g := fun g' h e => hI (e ▸ h)
  have hrel : ∀ B d x, Rel w I B d x → Rel w' I B d x := fun B d x hr => hr.mono fun g' hg' => ⟨hg', fun o => cell_of_heap (hoth g' (hne g' hg')) o⟩
  have hslot : ∀ t d x, SlotRel w I A t d x → SlotRel w' I A t d x := fun t d x hr => by
    cases d with
    | bx cs => exact hr
    | row e z xs => exact hr
    | cond g y => exact ⟨fun hg => hrel _ _ _ (hr.1 hg), hr.2⟩
    | any => exact .any A x
    | v y => exact hrel _ _ _ hr
    | sl z n f => exact hrel _ _ _ hr
    | agg cs => exact hrel _ _ _ hr
    | tup cs => exact hrel _ _ _ hr
    | dp cs => exact hrel _ _ _ hr
    | bp t o => exact hrel _ _ _ hr
    | own t n => exact hrel _ _ _ hr
    | rp t z i o => exact hrel _ _ _ hr
    | fn f b c => exact hrel _ _ _ hr
    | iface t y => exact hrel _ _ _ hr
    | mr t => exact hrel _ _ _ hr
    | ez => exact hrel _ _ _ hr
    | mo es => exact hr
  refine ⟨⟨fun t => ?_, hs.osim.inj, fun t g' c' h' => ?_, hs.osim.imm.step (fun g' h' => by rw [hsz]; exact hs.osim.imm g' h') fun g' h' => ⟨h', hoth g' (hne g' h')⟩⟩, hs.size, hs.bound, fun i hi => ?_, fun t ht => ?_⟩
  · unfold set; split
    · rename_i e; rw [e]; exact ho
    · rename_i e
      exact (hs.osim.own t).keep (fun g' c' h' => hoth g' fun e' => e (hs.osim.inj t s g c' c (e' ▸ h') hA)) hrel
  · rw [hsz]; exact hs.osim.sep t g' c' h'
  · unfold set; split
    · rename_i e; rw [e] at hi ⊢; exact hsl _ (hs.slot s hi)
    · exact hslot i _ _ (hs.slot i hi)
  · unfold set; split
    · rename_i e; exact hout (e ▸ ht)
    · exact hs.out t ht

theorem Ext.turnO {w w' : World} {I : Nat → Prop} {A : Own} {s g c : Nat} (hA : A s = some (some g, c)) (hoth : ∀ g', g' ≠ g → w'.heap[g']? = w.heap[g']?) (hsz : w'.heap.size = w.heap.size) (h1 : w'.os = w.os) (h2 : w'.tape = w.tape ∧ w.drawn ≤ w'.drawn) (h3 : w'.output = w.output) : Ext w I A w' I A where
  os := h1
  tape := h2
  output := h3
  size := by rw [hsz]; exact Nat.le_refl _
  imm := fun _ h => h
  old := fun g' _ h' => ⟨hoth g' fun e => h' s c (e ▸ hA), fun h => h, h'⟩
  loc := fun s g c hA _ hs => ⟨s, c, hs, hA⟩
  outA := fun _ _ => rfl

def lkG (ρ : Env) (dst : Option Nat) (z : Option Value) (x k : DV) (K : Env → Prop) : Prop :=
  match z, x, k with
  | some z, .mr s, .v (.string q) => (match ρ s with
    | .mo es => Keys es ∧ K (putD ρ dst (.v (getM es q z)))
    | _ => False)
  | _, _, _ => False
def upG (ρ : Env) (z : Option Value) (x k v : DV) (K : Env → Prop) : Prop :=
  match z, x, k, v with
  | some _, .mr s, .v (.string q), .v y => (match ρ s with
    | .mo es => NewK es q ∧ K (set ρ s (.mo (es ++ [(.string q, y)])))
    | _ => False)
  | _, _, _, _ => False

theorem ow_lookup {o : Oper} {K : Env → Prop} {t : TypeId} {x k : Operand} (hop : o.op = .lookup t x k false) (hg : o.guard = none) (ho : opsOk nt o = true) (hd : dstOk nt o = true)
    (h : lkG ρ o.dst (mpOf P t) (ev ρ x) (ev ρ k) K) : OW P nt ops o K ρ := by
  unfold lkG at h
  split at h
  · rename_i _ _ _ z s q hz hx hk
    split at h
    · rename_i es hes
      obtain ⟨⟨hK1, hK2⟩, hK⟩ := h
      refine ow_val hg fun I A a w hs => ?_
      obtain ⟨kt, e, i, u1, u2, u3, u4⟩ := mpOf_spec hz
      have hxr := hs.opd x (opsOk_mem ho (by simp [hop, Op.operands])) (by rw [hx]; trivial)
      have hkr := hs.opd k (opsOk_mem ho (by simp [hop, Op.operands])) (by rw [hk]; trivial)
      rw [hx] at hxr; rw [hk] at hkr
      have hxr : Rel w I A (.mr s) (a.eval x) := hxr
      have hkr : Rel w I A (.v (.string q)) (a.eval k) := hkr
      generalize hav : a.eval x = av at *
      generalize hkv : a.eval k = kv at *
      cases hkr
      cases hxr with
      | mr _ _ g c hA =>
        have hown := hs.osim.own s
        rw [hes] at hown
        obtain ⟨g', c', vs, cl, q1, q2, q3⟩ := hown
        rw [hA] at q1
        simp only [Option.some.injEq, Prod.mk.injEq] at q1
        obtain ⟨rfl, rfl⟩ := q1
        have hks : ∀ e ∈ vs, (keyS e.key).isSome = true := fun m hm => hK1 (m.key, m.val) (by rw [← q3]; exact List.mem_map.2 ⟨m, hm, rfl⟩)
        have hck : ∀ em, (Instr.checkKey em 10000 kt (.string q)).run P w = .ok () w := fun em => MapKept.run_checkKey u2 (show MapKept.IsKey .string (.string q) from trivial) em 9999
        rcases find_str u2 w q vs hks with ⟨f1, f2⟩ | ⟨j, m, f1, f2, f3⟩
        · refine ⟨z, w, I, A, _, ?_, hs.putV hd ?_, Ext.refl _ _ _, hK⟩
          · simp [execOp, hop, hav, hkv, Instr.lookup, run_underlying u1, MapKept.run_getObj_map q2, hck, f1, zeroValue, typeInfo, u3, u4]
          · rw [getM_not fun e he => by
              rw [← q3] at he
              obtain ⟨m, hm, rfl⟩ := List.mem_map.1 he
              exact f2 m hm]
            exact .v _ _
        · refine ⟨m.val, w, I, A, _, ?_, hs.putV hd ?_, Ext.refl _ _ _, hK⟩
          · simp [execOp, hop, hav, hkv, Instr.lookup, run_underlying u1, MapKept.run_getObj_map q2, hck, f1]
          · rw [getM_mem hK2 (v := m.val) (by rw [← q3, ← f3]; exact List.mem_map.2 ⟨m, List.mem_of_getElem? f2, rfl⟩)]
            exact .v _ _
    · exact h.elim
  · exact h.elim

theorem ow_mapUpdate {o : Oper} {K : Env → Prop} {t : TypeId} {x k y : Operand} (hop : o.op = .mapUpdate t x k y) (hg : o.guard = none) (hdst : o.dst = none) (ho : opsOk nt o = true)
    (h : upG ρ (mpOf P t) (ev ρ x) (ev ρ k) (ev ρ y) K) : OW P nt ops o K ρ := by
  unfold upG at h
  split at h
  · rename_i _ _ _ _ z s q v hz hx hk hy
    split at h
    · rename_i es hes
      obtain ⟨⟨hK1, hK2⟩, hK⟩ := h
      refine ow_skip hg fun I A a w hs => ?_
      obtain ⟨kt, e, i, u1, u2, u3, u4⟩ := mpOf_spec hz
      have hxr := hs.opd x (opsOk_mem ho (by simp [hop, Op.operands])) (by rw [hx]; trivial)
      have hkr := hs.opd k (opsOk_mem ho (by simp [hop, Op.operands])) (by rw [hk]; trivial)
      have hyr := hs.opd y (opsOk_mem ho (by simp [hop, Op.operands])) (by rw [hy]; trivial)
      rw [hx] at hxr; rw [hk] at hkr; rw [hy] at hyr
      have hxr : Rel w I A (.mr s) (a.eval x) := hxr
      have hkr : Rel w I A (.v (.string q)) (a.eval k) := hkr
      have hyr : Rel w I A (.v v) (a.eval y) := hyr
      generalize hav : a.eval x = av at *
      generalize hkv : a.eval k = kv at *
      generalize hyv : a.eval y = yv at *
      cases hkr
      cases hyr
      cases hxr with
      | mr _ _ g c hA =>
        have hown := hs.osim.own s
        rw [hes] at hown
        obtain ⟨g', c', vs, cl, q1, q2, q3⟩ := hown
        rw [hA] at q1
        simp only [Option.some.injEq, Prod.mk.injEq] at q1
        obtain ⟨rfl, rfl⟩ := q1
        have hks : ∀ e ∈ vs, (keyS e.key).isSome = true := fun m hm => hK1 (m.key, m.val) (by rw [← q3]; exact List.mem_map.2 ⟨m, hm, rfl⟩)
        have hck : ∀ em, (Instr.checkKey em 10000 kt (.string q)).run P w = .ok () w := fun em => MapKept.run_checkKey u2 (show MapKept.IsKey .string (.string q) from trivial) em 9999
        have hst : (Instr.keyThatStays (.string q) (.string q)).run P w = .ok (.string q) w := MapKept.run_keyThatStays (show MapKept.IsKey .string (.string q) from trivial)
        rcases find_str u2 w q vs hks with ⟨f1, f2⟩ | ⟨j, m, f1, f2, f3⟩
        · have hset := MapKept.heap_set (o' := .map (vs ++ [({ key := .string q, val := v, born := cl } : MapEntry)]).toArray (cl + 1)) q2
          refine ⟨{ w with heap := w.heap.setIfInBounds g (.map (vs ++ [({ key := .string q, val := v, born := cl } : MapEntry)]).toArray (cl + 1)) }, I, A, _, ?_, ?_, Ext.turnO hA hset.2 (by simp) rfl ⟨rfl, Nat.le_refl _⟩ rfl, hK⟩
          · simp [execOp, hop, hav, hkv, hyv, Instr.mapUpdate, run_underlying u1, MapKept.run_getObj_map q2, hck, f1, MapKept.run_setObj_map _ q2]
          · rw [hdst]
            refine hs.turnO hA hset.2 (by simp) (fun x' hx' => ?_) ⟨g, c, _, _, hA, hset.1, by rw [List.map_append, q3]; rfl⟩ fun _ => rfl
            rw [hes] at hx'; exact hx'
        · exact absurd f3 (hK2 (m.key, m.val) (by rw [← q3]; exact List.mem_map.2 ⟨m, List.mem_of_getElem? f2, rfl⟩))
    · exact h.elim
  · exact h.elim

theorem ow_makeMap {o : Oper} {K : Env → Prop} {t : TypeId} {d : Nat} (hop : o.op = .makeMap t none) (hg : o.guard = none) (hdst : o.dst = some d) (hd : d < nt) (hK : K (set (kill d ρ) d (.mo []))) : OW P nt ops o K ρ := by
  refine ow_val hg fun I A a w hs => ?_
  have hb := hs.bound
  have hgr := Grow.alloc hs.osim (.map #[] 0)
  have hs1 := hs.grow hgr
  refine ⟨.map (some w.heap.size), w.alloc (.map #[] 0), I, upd A d (some (some w.heap.size, 0)), _, by simp [execOp, hop, Instr.makeMap, newObj, Sem.run], ?_, ?_, hK⟩
  · rw [hdst]
    refine hs1.own hd (fun g hg => ?_) ⟨_, 0, upd_same _ _ _, rfl⟩ ⟨w.heap.size, 0, [], 0, upd_same _ _ _, (MapKept.heap_alloc w _).1, rfl⟩
    cases hg
    refine ⟨by simp, fun hi => ?_, fun s c' _ hc => ?_⟩
    · have := hs.osim.imm _ hi; omega
    · have := (hs.osim.sep s _ c' hc).1; omega
  · refine ⟨rfl, ⟨rfl, Nat.le_refl _⟩, rfl, by simp, fun _ h => h, fun g hg hA => ⟨hgr.heap g hg, fun h => h, fun s c hc => ?_⟩, fun s g c hc hg hl' => ?_, fun s h => upd_ne A _ (by omega)⟩
    · rcases upd_eq_some hc with ⟨_, h⟩ | ⟨_, h⟩
      · simp only [Option.some.injEq, Prod.mk.injEq] at h; omega
      · exact hA s c h
    · rcases upd_eq_some hc with ⟨_, h⟩ | ⟨_, h⟩
      · simp only [Option.some.injEq, Prod.mk.injEq] at h; omega
      · exact ⟨s, c, hl', h⟩
end
end Go.Sg
