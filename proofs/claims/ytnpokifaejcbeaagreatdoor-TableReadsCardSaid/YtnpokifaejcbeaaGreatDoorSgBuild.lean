/- Struct literals. -/
import Derived.Test.YtnpokifaejcbeaaGreatDoorSgRow
set_option linter.unusedVariables false
set_option linter.unusedSimpArgs false
namespace Go.Sg
open Go.RowKit

/-- Where a field lies and how many cells it has. -/
def plOf (P : Program) (t : TypeId) (i : Nat) : Option (Nat × Nat) :=
  match P.underlying t with
  | some (.struct fs) => match fs[i]? with
    | some f => match P.info? f.type with
      | some x => some (f.offset, x.size)
      | none => none
    | none => none
  | _ => none
def bldOk (P : Program) (t : TypeId) : Bool :=
  match P.underlying t with
  | some (.struct fs) => fs.toList.all fun f => (P.info? f.type).isSome
  | _ => false

def bldGo (P : Program) (ρ : Env) (t : TypeId) : List (Nat × Operand) → List DV → Prop × List DV
  | [], cs => (True, cs)
  | p :: l, cs => match plOf P t p.1 with
    | some (off, s) => (gd (ev ρ p.2) ∧ (cellsD (un (ev ρ p.2))).length = s ∧ 0 < s ∧ off + s ≤ cs.length ∧ (bldGo P ρ t l (spl off (cellsD (un (ev ρ p.2))) cs)).1, (bldGo P ρ t l (spl off (cellsD (un (ev ρ p.2))) cs)).2)
    | none => (False, cs)
theorem bldGo_nil (P : Program) (ρ : Env) (t : TypeId) (cs : List DV) : bldGo P ρ t [] cs = (True, cs) := rfl
theorem bldGo_cons (P : Program) (ρ : Env) (t : TypeId) (i : Nat) (x : Operand) (l : List (Nat × Operand)) (cs : List DV) {off s : Nat} (h : plOf P t i = some (off, s)) : bldGo P ρ t ((i, x) :: l) cs =
    (gd (ev ρ x) ∧ (cellsD (un (ev ρ x))).length = s ∧ 0 < s ∧ off + s ≤ cs.length ∧ (bldGo P ρ t l (spl off (cellsD (un (ev ρ x))) cs)).1, (bldGo P ρ t l (spl off (cellsD (un (ev ρ x))) cs)).2) := by
  conv => lhs; unfold bldGo
  simp only [h]

def bldP (P : Program) (ρ : Env) (t : TypeId) (parts : List (Nat × Operand)) : Prop × DV :=
  match zcOf P t with
  | some zs => (bldOk P t = true ∧ (bldGo P ρ t parts (zs.map .v)).1, .agg (bldGo P ρ t parts (zs.map .v)).2)
  | none => (False, .any)

section
variable {P : Program} {nt : Nat} {ρ : Env} {ops : Array Oper}

def CR (w : World) (I : Nat → Prop) (A : Own) (cs : List DV) (us : Array Value) : Prop :=
  cs.length = us.size ∧ (∀ u ∈ us.toList, u.oneCell' = true) ∧ ∀ (j : Nat) (d : DV) (u : Value), cs[j]? = some d → us[j]? = some u → Rel w I A d u

theorem bld_fill {w : World} {I : Nat → Prop} {A : Own} {a : Act} (hs : Sim nt w I A ρ a) {t : TypeId} (place : Nat → Option (Nat × Nat)) (hp : ∀ i p, plOf P t i = some p → place i = some p) : ∀ (parts : List (Nat × Operand)) (cs : List DV) (us : Array Value),
    (∀ p ∈ parts, opdOk nt p.2 = true) → CR w I A cs us → (bldGo P ρ t parts cs).1 → ∃ out, Instr.fill place us (parts.map fun p => (p.1, a.eval p.2)) = some out ∧ CR w I A (bldGo P ρ t parts cs).2 out
  | [], cs, us, _, hc, _ => ⟨us, rfl, hc⟩
  | (i, x) :: l, cs, us, ho, hc, h => by
    cases hpl : plOf P t i with
    | none => unfold bldGo at h; simp only [hpl] at h
    | some q =>
      obtain ⟨off, s⟩ := q
      rw [bldGo_cons P ρ t i x l cs hpl] at h ⊢
      obtain ⟨h1, h2, h3, h4, h5⟩ := h
      have hx := hs.opd x (ho (i, x) (by simp)) h1
      obtain ⟨k1, k2, k3⟩ := cells_ok hx (.inl (by omega))
      have hsz : (a.eval x).cells.size = s := by omega
      obtain ⟨c1, c2, c3⟩ := hc
      obtain ⟨f1, f2⟩ := foldl_set off (a.eval x).cells.toList us 0 (by simp; omega)
      simp only [Nat.add_zero, Array.length_toList] at f1 f2
      have hzip : ((a.eval x).cells.zipIdx.foldl (fun cs (p : Value × Nat) => cs.setIfInBounds (off + p.2) p.1) us) = ((a.eval x).cells.toList.zipIdx 0).foldl (fun cs (p : Value × Nat) => cs.setIfInBounds (off + p.2) p.1) us := by
        rw [← Array.foldl_toList, Array.toList_zipIdx]
      generalize hnew : ((a.eval x).cells.toList.zipIdx 0).foldl (fun cs (p : Value × Nat) => cs.setIfInBounds (off + p.2) p.1) us = us' at *
      have hc' : CR w I A (spl off (cellsD (un (ev ρ x))) cs) us' := by
        have hle : off + (cellsD (un (ev ρ x))).length ≤ cs.length := by omega
        rw [spl_eq hle]
        refine ⟨by simp only [List.length_append, List.length_take, List.length_drop]; omega, fun u hu => ?_, fun j d u hd hu => ?_⟩
        · obtain ⟨q, hq⟩ := List.getElem?_of_mem hu
          rw [Array.getElem?_toList, f2] at hq
          split at hq
          · exact k2 u (List.mem_of_getElem? hq)
          · exact c2 u (by simpa using Array.mem_of_getElem? hq)
        · rw [f2] at hu
          rw [List.getElem?_append, List.getElem?_append] at hd
          simp only [List.length_append, List.length_take, Nat.min_eq_left (show off ≤ cs.length by omega)] at hd
          by_cases e1 : j < off
          · rw [if_pos (by omega), if_pos e1, List.getElem?_take, if_pos e1] at hd
            rw [if_neg (by omega)] at hu
            exact c3 j d u hd hu
          · by_cases e2 : j < off + s
            · rw [if_pos (by omega), if_neg e1] at hd
              rw [if_pos (by omega)] at hu
              exact k3 _ d u hd (by simpa using hu)
            · rw [if_neg (by omega), List.getElem?_drop] at hd
              rw [if_neg (by omega)] at hu
              rw [show off + (cellsD (un (ev ρ x))).length + (j - (off + (cellsD (un (ev ρ x))).length)) = j by omega] at hd
              exact c3 j d u hd hu
      obtain ⟨out, o1, o2⟩ := bld_fill hs place hp l _ us' (fun p hp' => ho p (by simp [hp'])) hc' h5
      refine ⟨out, ?_, o2⟩
      rw [List.map_cons]
      unfold Instr.fill
      rw [hp i _ hpl]
      simp only
      rw [if_neg (by simp [hsz]; omega), hzip]
      exact o1

theorem run_mapMβ {α β : Type} {w : World} (f : α → Sem β) : ∀ (l : List α) (vs : List β), l.length = vs.length → (∀ (j : Nat) (x : α) (v : β), l[j]? = some x → vs[j]? = some v → (f x).run P w = .ok v w) →
    (l.mapM f).run P w = .ok vs w
  | [], [], _, _ => rfl
  | x :: l, v :: vs, hl, h => by
    have h0 := h 0 x v (by simp) (by simp)
    have ih := run_mapMβ f l vs (by simpa using hl) fun j y u hy hu => h (j + 1) y u (by simpa using hy) (by simpa using hu)
    simp [List.mapM_cons, h0, ih]
  | [], _ :: _, hl, _ => by simp at hl
  | _ :: _, [], hl, _ => by simp at hl

theorem run_build {w : World} {I : Nat → Prop} {A : Own} {a : Act} (hs : Sim nt w I A ρ a) {t : TypeId} {parts : Array (Nat × Operand)} (ho : ∀ p ∈ parts.toList, opdOk nt p.2 = true) (h : (bldP P ρ t parts.toList).1) :
    ∃ x, (Instr.build t (parts.map fun (i, x) => (i, a.eval x))).run P w = .ok x w ∧ Rel w I A (bldP P ρ t parts.toList).2 x := by
  unfold bldP at h ⊢
  cases hz : zcOf P t with
  | none => rw [hz] at h; exact h.elim
  | some zs =>
    rw [hz] at h
    obtain ⟨h1, h2⟩ := h
    simp only
    obtain ⟨i, zv, hi, hzv, hzc, hone⟩ := zcOf_spec hz
    have h1' := h1
    unfold bldOk at h1'
    split at h1'
    · rename_i fs hu
      rw [List.all_eq_true] at h1'
      let places : Array (Nat × Nat) := fs.map fun f => (f.offset, P.cellsOf f.type)
      have hpl : ∀ k p, plOf P t k = some p → places[k]? = some p := fun k p hk => by
        unfold plOf at hk
        rw [hu] at hk
        simp only at hk
        split at hk <;> try cases hk
        rename_i f hf
        split at hk <;> try cases hk
        rename_i x hx
        simp only [places, Array.getElem?_map, hf, Option.map_some, Program.cellsOf, hx, Option.getD_some]
      have hrunp : (fs.mapM fun f => (do pure (f.offset, ← sizeOf f.type) : Sem (Nat × Nat))).run P w = .ok places w := by
        have := run_mapMβ (P := P) (w := w) (fun f : Field => (do pure (f.offset, ← sizeOf f.type) : Sem (Nat × Nat))) fs.toList places.toList (by simp [places]) (fun j f v hf hv => by
          have hf' : f ∈ fs.toList := List.mem_of_getElem? hf
          obtain ⟨x, hx⟩ := Option.isSome_iff_exists.1 (h1' f hf')
          have : v = (f.offset, P.cellsOf f.type) := by
            simp only [places, Array.toList_map, List.getElem?_map, hf, Option.map_some, Option.some.injEq] at hv
            exact hv.symm
          subst this
          simp [run_sizeOf w hx, Program.cellsOf, hx])
        have e : fs = fs.toList.toArray := by simp
        rw [e, List.mapM_toArray, Sem.run_map, this]
        show Result.ok places.toList.toArray w = Result.ok places w
        rw [Array.toArray_toList]
      have hc0 : CR w I A (zs.map .v) zv.cells := ⟨by rw [List.length_map, ← hzc]; simp, by rw [hzc]; exact hone, fun j d u hd hu => by
        rw [List.getElem?_map, Option.map_eq_some_iff] at hd
        obtain ⟨y, hy, rfl⟩ := hd
        rw [← hzc, Array.getElem?_toList, hu] at hy
        cases hy; exact .v A _⟩
      obtain ⟨out, o1, o2⟩ := bld_fill (P := P) hs (fun k => places[k]?) hpl parts.toList _ _ ho hc0 h2
      refine ⟨.agg out, ?_, ?_⟩
      · have hm : (parts.map fun (i, x) => (i, a.eval x)).toList = parts.toList.map fun p => (p.1, a.eval p.2) := by simp
        have e2 : (fun f : Field => (do pure (f.offset, ← sizeOf f.type) : Sem (Nat × Nat))) = fun f => Prod.mk f.offset <$> sizeOf f.type := by funext f; simp
        rw [e2] at hrunp
        unfold Instr.build
        simp [zeroValue, run_typeInfo w hi, hzv, run_underlying hu, hrunp, hm, o1]
      · exact .agg A _ out o2.1 o2.2.1 o2.2.2
    · cases h1'

theorem ow_build {o : Oper} {K : Env → Prop} {t : TypeId} {parts : Array (Nat × Operand)} (hop : o.op = .build t parts) (hg : o.guard = none) (ho : opsOk nt o = true) (hd : dstOk nt o = true) (h : (bldP P ρ t parts.toList).1)
    (hK : K (putD ρ o.dst (bldP P ρ t parts.toList).2)) : OW P nt ops o K ρ :=
  ow_val hg fun I A a w hs => by
    obtain ⟨x, h1, h2⟩ := run_build (P := P) hs (fun p hp => opsOk_mem ho (x := p.2) (by
      simp only [hop, Op.operands]
      simp
      exact ⟨p.1, by simpa using hp⟩)) h
    exact ⟨x, w, I, A, _, by simp [execOp, hop, h1], hs.putV hd h2, Ext.refl _ _ _, hK⟩
end
end Go.Sg
