/- Maps on the own heap: keys, and what a look-up finds. -/
import Derived.Test.YtnpokifaejcbeaaGreatDoorRvBase
import Derived.DeepKeys4
import Derived.MapKept
set_option linter.unusedVariables false
set_option linter.unusedSimpArgs false
namespace Go.Rv
open Go.RowKit Go.Sg

/-! ## Keys are compared -/

def vEq1 : Value → Value → Option Bool
  | .int k a, .int k' b => some (decide (k = k') && a == b)
  | .bool a, .bool b => some (a == b)
  | .string a, .string b => some (a.data.toList == b.data.toList)
  | _, _ => none
def vEqL : List Value → List Value → Option Bool
  | [], [] => some true
  | a :: as, b :: bs => (match vEq1 a b, vEqL as bs with
    | some x, some y => some (x && y)
    | _, _ => none)
  | _, _ => none
def vEq : Value → Value → Option Bool
  | .agg a, .agg b => vEqL a.toList b.toList
  | a, b => vEq1 a b
theorem vEq1_ok {a b : Value} {r : Bool} (h : vEq1 a b = some r) : r = true ↔ a = b := by
  unfold vEq1 at h
  split at h <;> cases h
  · simp
  · simp
  · rename_i x y
    rw [beq_iff_eq]
    constructor
    · intro e
      cases x; cases y
      simp at e
      rw [e]
    · intro e; cases e; rfl
theorem vEqL_ok : ∀ {a b : List Value} {r : Bool}, vEqL a b = some r → (r = true ↔ a = b)
  | [], [], r, h => by cases h; simp
  | a :: as, b :: bs, r, h => by
    unfold vEqL at h
    split at h <;> cases h
    rename_i x y h1 h2
    have i1 := vEq1_ok h1
    have i2 := vEqL_ok h2
    simp [i1, i2]
  | [], _ :: _, r, h => by cases h
  | _ :: _, [], r, h => by cases h
theorem vEq_ok {a b : Value} {r : Bool} (h : vEq a b = some r) : r = true ↔ a = b := by
  unfold vEq at h
  split at h
  · rename_i x y
    rw [vEqL_ok h]
    constructor
    · intro e; rw [Array.toList_inj.1 e]
    · intro e; cases e; rfl
  · exact vEq1_ok h

/-- A key that the model looks up without a doubt. -/
def goodB (P : Program) (k : TypeId) (v : Value) : Bool :=
  match P.underlying k with
  | some .bool => (match v with | .bool _ => true | _ => false)
  | some (.int q) => (match v with | .int q' _ => decide (q' = q) | _ => false)
  | some .string => (match v with | .string _ => true | _ => false)
  | some (.array _ _) => (keyOf P k v).isSome && P.keyTypeAt 8 k && P.tiled 8 k
  | some (.struct _) => (keyOf P k v).isSome && P.keyTypeAt 8 k && P.tiled 8 k
  | _ => false

section
variable {P : Program} {k : TypeId}

structure KeyRun (P : Program) (k : TypeId) : Prop where
  check : ∀ (w : World) (em : Bool) {v : Value}, goodB P k v = true → (Instr.checkKey em 10000 k v).run P w = .ok () w
  find : ∀ (w : World) {x : Value}, goodB P k x = true → ∀ es : List MapEntry, (∀ e ∈ es, goodB P k e.key = true) →
    ((Instr.findKey k x es).run P w = .ok none w ∧ ∀ e ∈ es, e.key ≠ x) ∨ ∃ j e, (Instr.findKey k x es).run P w = .ok (some (j, e.val)) w ∧ es[j]? = some e ∧ e.key = x
  stays : ∀ (w : World) {v : Value}, goodB P k v = true → (Instr.keyThatStays v v).run P w = .ok v w

theorem keyRun_plain {d : TypeDesc} (hd : P.underlying k = some d) (hg : ∀ v, goodB P k v = true → MapKept.IsKey d v) : KeyRun P k where
  check := fun w em v hv => MapKept.run_checkKey hd (hg v hv) em 9999
  find := fun w x hx es hes => by
    rcases MapKept.findNow_spec (hg x hx) es 0 (fun e he => hg _ (hes e he)) with ⟨h1, h2⟩ | ⟨j, e, h1, h2, h3⟩
    · exact .inl ⟨MapKept.run_findKey hd h1, h2⟩
    · exact .inr ⟨j, e, by rw [MapKept.run_findKey hd h1, Nat.zero_add], h2, h3⟩
  stays := fun w v hv => MapKept.run_keyThatStays (hg v hv)

theorem keyRun_deep (hw : (match P.underlying k with | some (.array _ _) | some (.struct _) => true | _ => false) = true) (hk : P.keyTypeAt 8 k = true) (ht : P.tiled 8 k = true)
    (hg : ∀ v, goodB P k v = true → ∃ l, keyOf P k v = some l) : KeyRun P k where
  check := fun w em v hv => by obtain ⟨l, hl⟩ := hg v hv; exact (deep_law (m := 8) (by omega) hk ht hw).check w em hl
  find := fun w x hx es hes => by
    obtain ⟨l, hl⟩ := hg x hx
    exact (deep_law (m := 8) (by omega) hk ht hw).find w hl es fun e he => hg _ (hes e he)
  stays := fun w v hv => by obtain ⟨l, hl⟩ := hg v hv; exact (deep_law (m := 8) (by omega) hk ht hw).stays w hl

theorem keyRun_of {v : Value} (h : goodB P k v = true) : KeyRun P k := by
  cases hu : P.underlying k with
  | none => simp [goodB, hu] at h
  | some d =>
    cases d with
    | bool => exact keyRun_plain hu fun v hv => by cases v <;> simp [goodB, hu] at hv <;> trivial
    | int q => exact keyRun_plain hu fun v hv => by cases v <;> simp [goodB, hu] at hv; exact hv
    | string => exact keyRun_plain hu fun v hv => by cases v <;> simp [goodB, hu] at hv <;> trivial
    | array n e =>
      simp [goodB, hu] at h
      exact keyRun_deep (by simp [hu]) h.1.2 h.2 fun v hv => by simp [goodB, hu] at hv; exact Option.isSome_iff_exists.1 hv.1.1
    | struct fs =>
      simp [goodB, hu] at h
      exact keyRun_deep (by simp [hu]) h.1.2 h.2 fun v hv => by simp [goodB, hu] at hv; exact Option.isSome_iff_exists.1 hv.1.1
    | _ => simp [goodB, hu] at h

/-! ## What a look-up finds -/

def findM (x : Value) : List (Value × RV × Nat) → Nat → Option (List (Nat × RV × Nat))
  | [], _ => some []
  | e :: es, i => (match vEq e.1 x, findM x es (i + 1) with
    | some true, some l => some ((i, e.2) :: l)
    | some false, some l => some l
    | _, _ => none)
def findR (P : Program) (k : TypeId) (x : Value) (es : List (Value × RV × Nat)) : Option (Option (Nat × RV × Nat)) :=
  bif goodB P k x && es.all (fun e => goodB P k e.1) then (match findM x es 0 with
    | some [] => some none
    | some [p] => some (some p)
    | _ => none) else none

theorem findM_ok {x : Value} : ∀ {es : List (Value × RV × Nat)} {i : Nat} {l : List (Nat × RV × Nat)}, findM x es i = some l → ∀ (j : Nat) (e : Value × RV × Nat), es[j]? = some e → (e.1 = x ↔ (i + j, e.2) ∈ l)
  | [], i, l, h, j, e, he => by simp at he
  | a :: es, i, l, h, j, e, he => by
    have hlow : ∀ {es : List (Value × RV × Nat)} {i : Nat} {l : List (Nat × RV × Nat)}, findM x es i = some l → ∀ p ∈ l, i ≤ p.1 := by
      intro es
      induction es with
      | nil => intro i l h p hp; cases h; cases hp
      | cons a es ih =>
        intro i l h p hp
        unfold findM at h
        split at h <;> cases h
        · rcases List.mem_cons.1 hp with rfl | hp
          · exact Nat.le_refl _
          · exact Nat.le_of_succ_le (ih ‹_› p hp)
        · exact Nat.le_of_succ_le (ih ‹_› p hp)
    unfold findM at h
    split at h <;> cases h
    · rename_i l' h1 h2
      have hx := (vEq_ok h1).1 rfl
      cases j with
      | zero => simp at he; subst he; simp [hx]
      | succ j =>
        have := findM_ok h2 j e (by simpa using he)
        rw [this, show i + 1 + j = i + (j + 1) by omega]
        constructor
        · exact fun hm => List.mem_cons_of_mem _ hm
        · intro hm
          rcases List.mem_cons.1 hm with hm | hm
          · have := congrArg Prod.fst hm; simp at this
          · exact hm
    · rename_i h1 h2
      cases j with
      | zero =>
        simp at he; subst he
        have hne : ¬ a.1 = x := fun e => by have := (vEq_ok h1).2 e; cases this
        simp only [hne, false_iff]
        intro hm
        have := hlow h2 _ hm
        simp at this
        omega
      | succ j =>
        have := findM_ok h2 j e (by simpa using he)
        rw [this, show i + 1 + j = i + (j + 1) by omega]

theorem findM_mem {x : Value} : ∀ {es : List (Value × RV × Nat)} {i : Nat} {l : List (Nat × RV × Nat)}, findM x es i = some l → ∀ p ∈ l, ∃ (j : Nat) (e : Value × RV × Nat), es[j]? = some e ∧ e.1 = x
  | [], i, l, h, p, hp => by cases h; cases hp
  | a :: es, i, l, h, p, hp => by
    unfold findM at h
    split at h <;> cases h
    · rename_i l' h1 h2
      rcases List.mem_cons.1 hp with rfl | hp
      · exact ⟨0, a, rfl, (vEq_ok h1).1 rfl⟩
      · obtain ⟨j, e, he, hx⟩ := findM_mem h2 p hp
        exact ⟨j + 1, e, by simpa using he, hx⟩
    · rename_i h1 h2
      obtain ⟨j, e, he, hx⟩ := findM_mem h2 p hp
      exact ⟨j + 1, e, by simpa using he, hx⟩

/-- Entries stand for entries. -/
def ER (E : Emb) (es : List (Value × RV × Nat)) (vs : List MapEntry) : Prop := es.length = vs.length ∧ ∀ (j : Nat) (e : Value × RV × Nat) (m : MapEntry), es[j]? = some e → vs[j]? = some m → m.key = e.1 ∧ Rr E e.2.1 m.val ∧ m.born = e.2.2

theorem findR_ok {E : Emb} {x : Value} {es : List (Value × RV × Nat)} {r : Option (Nat × RV × Nat)} (h : findR P k x es = some r) {vs : List MapEntry} (hr : ER E es vs) (w : World) :
    (∀ em, (Instr.checkKey em 10000 k x).run P w = .ok () w) ∧ (Instr.keyThatStays x x).run P w = .ok x w ∧
    (match r with
    | none => (Instr.findKey k x vs).run P w = .ok none w
    | some (j, d, c) => ∃ m, (Instr.findKey k x vs).run P w = .ok (some (j, m.val)) w ∧ vs[j]? = some m ∧ m.key = x ∧ Rr E d m.val ∧ m.born = c) := by
  unfold findR at h
  obtain ⟨h1, h2⟩ : (goodB P k x && es.all (fun e => goodB P k e.1)) = true ∧ (match findM x es 0 with | some [] => some none | some [p] => some (some p) | _ => none) = some r := by
    cases hc : (goodB P k x && es.all (fun e => goodB P k e.1)) with
    | true => rw [hc] at h; exact ⟨rfl, h⟩
    | false => rw [hc] at h; cases h
  rw [Bool.and_eq_true, List.all_eq_true] at h1
  have K := keyRun_of h1.1
  have hat : ∀ (j : Nat) (m : MapEntry), vs[j]? = some m → ∃ e, es[j]? = some e ∧ m.key = e.1 ∧ Rr E e.2.1 m.val ∧ m.born = e.2.2 := fun j m hm => by
    have hj := (List.getElem?_eq_some_iff.1 hm).1
    have he : es[j]? = some (es[j]'(by rw [hr.1]; exact hj)) := List.getElem?_eq_getElem _
    exact ⟨_, he, hr.2 j _ m he hm⟩
  have hgood : ∀ m ∈ vs, goodB P k m.key = true := fun m hm => by
    obtain ⟨j, hj⟩ := List.getElem?_of_mem hm
    obtain ⟨e, he, hk, _⟩ := hat j m hj
    rw [hk]; exact h1.2 e (List.mem_of_getElem? he)
  refine ⟨fun em => K.check w em h1.1, K.stays w h1.1, ?_⟩
  cases hm : findM x es 0 with
  | none => rw [hm] at h2; cases h2
  | some l =>
    rw [hm] at h2
    have hf := findM_ok hm
    rcases K.find w h1.1 vs hgood with ⟨q1, q2⟩ | ⟨j, m, q1, q2, q3⟩
    · match l, h2 with
      | [], h2 => cases h2; exact q1
      | [p], h2 =>
        exfalso
        obtain ⟨j, e, he, hx⟩ := findM_mem hm p (by simp)
        have hj := (List.getElem?_eq_some_iff.1 he).1
        have hv : vs[j]? = some (vs[j]'(by rw [← hr.1]; exact hj)) := List.getElem?_eq_getElem _
        obtain ⟨k1, _⟩ := hr.2 j e _ he hv
        exact q2 _ (List.mem_of_getElem? hv) (k1.trans hx)
    · obtain ⟨e, he, hk, hv, hb⟩ := hat j m q2
      have hin := (hf j e he).1 (by rw [← hk]; exact q3)
      rw [Nat.zero_add] at hin
      match l, h2 with
      | [], h2 => cases hin
      | [p], h2 =>
        cases h2
        rw [List.mem_singleton] at hin
        subst hin
        exact ⟨m, q1, q2, q3, hv, hb⟩
end
end Go.Rv
