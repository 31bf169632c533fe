/- What operations that make no memory give on values with numbers. -/
import Derived.Test.YtnpokifaejcbeaaGreatDoorRvKey
set_option linter.unusedVariables false
set_option linter.unusedSimpArgs false
namespace Go.Rv
open Go.RowKit Go.Sg

abbrev noI : Nat → Prop := fun _ => False

def toD1 : RV → DV
  | .bool b => .v (.bool b)
  | .int k n => .v (.int k n)
  | .str s => .v (.string s)
  | _ => .any
def toD : RV → DV
  | .agg cs => .agg (cs.map toD1)
  | v => toD1 v

section
variable {E : Emb} {w : World}
theorem Rr.toD1 {v : RV} {x : Value} (h : Rr E v x) : Rel w noI noOwn (Rv.toD1 v) x := by
  cases h <;> first | exact .v _ _ | exact .any _ _
theorem Rr.toD {v : RV} {x : Value} (h : Rr E v x) : Rel w noI noOwn (Rv.toD v) x := by
  cases h with
  | agg cs vs hl hone hrel =>
    refine .agg _ _ vs (by rw [List.length_map]; exact hl) hone fun j d u hd hu => ?_
    rw [List.getElem?_map, Option.map_eq_some_iff] at hd
    obtain ⟨d0, hd0, rfl⟩ := hd
    exact (hrel j d0 u hd0 hu).toD1
  | _ => first | exact .v _ _ | exact .any _ _
end

def ofD : DV → Option RV
  | .v (.bool b) => some (.bool b)
  | .v (.int k n) => some (.int k n)
  | .v (.string s) => some (.str s)
  | _ => none
theorem ofD_ok {E : Emb} {w : World} {d : DV} {v : RV} {x : Value} (h : ofD d = some v) (hr : Rel w noI noOwn d x) : Rr E v x := by
  unfold ofD at h
  split at h <;> cases h <;> cases hr
  · exact .bool _
  · exact .int _ _
  · exact .str _

/-! ## Operators -/

def binRI (op : BinOp) (k : IntKind) (a : Int) (k' : IntKind) (b : Int) : Option RV :=
  match op with
  | .add => bif decide (k = k') then some (.int k (k.wrap (a + b))) else none
  | .sub => bif decide (k = k') then some (.int k (k.wrap (a - b))) else none
  | .mul => bif decide (k = k') then some (.int k (k.wrap (a * b))) else none
  | .quo => bif decide (k = k') && !decide (b = 0) then some (.int k (k.wrap (a.tdiv b))) else none
  | .rem => bif decide (k = k') && !decide (b = 0) then some (.int k (a.tmod b)) else none
  | .and => bif decide (k = k') then some (.int k (k.wrap (BitVec.ofInt k.bits a &&& BitVec.ofInt k.bits b).toNat)) else none
  | .or => bif decide (k = k') then some (.int k (k.wrap (BitVec.ofInt k.bits a ||| BitVec.ofInt k.bits b).toNat)) else none
  | .xor => bif decide (k = k') then some (.int k (k.wrap (BitVec.ofInt k.bits a ^^^ BitVec.ofInt k.bits b).toNat)) else none
  | .andNot => bif decide (k = k') then some (.int k (k.wrap (BitVec.ofInt k.bits a &&& ~~~ BitVec.ofInt k.bits b).toNat)) else none
  | .shl => bif decide (0 ≤ b) then some (.int k (k.wrap (a * 2 ^ (min b.toNat k.bits)))) else none
  | .shr => bif decide (0 ≤ b) then some (.int k (a.fdiv (2 ^ (min b.toNat k.bits)))) else none
  | .eql => bif decide (k = k') then some (.bool (a == b)) else none
  | .neq => bif decide (k = k') then some (.bool (a != b)) else none
  | .lss => bif decide (k = k') then some (.bool (decide (a < b))) else none
  | .leq => bif decide (k = k') then some (.bool (decide (a ≤ b))) else none
  | .gtr => bif decide (k = k') then some (.bool (decide (b < a))) else none
  | .geq => bif decide (k = k') then some (.bool (decide (b ≤ a))) else none
theorem bif_some {α : Type} {c : Bool} {x y : α} (h : (bif c then some x else none) = some y) : c = true ∧ x = y := by
  cases c with
  | true => exact ⟨rfl, Option.some.inj h⟩
  | false => cases h
theorem bif_opt {α : Type} {c : Bool} {x : Option α} {y : α} (h : (bif c then x else none) = some y) : c = true ∧ x = some y := by
  cases c with
  | true => exact ⟨rfl, h⟩
  | false => cases h
theorem binRI_ok {op : BinOp} {k k' : IntKind} {a b : Int} {v : RV} (h : binRI op k a k' b = some v) : (binI op k a k' b).1 ∧ ofD (binI op k a k' b).2 = some v := by
  cases op <;> (unfold binRI at h; obtain ⟨h1, rfl⟩ := bif_some h; simp at h1; simp only [binI, ofD, and_true]; exact h1)

def binRS (op : BinOp) (a b : ByteArray) : Option RV :=
  match op with
  | .add => bif decide (a.size + b.size ≤ maxLen) then some (.str (a ++ b)) else none
  | .eql => some (.bool (a.toList == b.toList))
  | .neq => some (.bool !(a.toList == b.toList))
  | .lss => some (.bool (Op.bytesLess a.toList b.toList))
  | .leq => some (.bool (Op.bytesLess a.toList b.toList || a.toList == b.toList))
  | .gtr => some (.bool !(Op.bytesLess a.toList b.toList || a.toList == b.toList))
  | .geq => some (.bool !(Op.bytesLess a.toList b.toList))
  | _ => none
theorem binRS_ok {op : BinOp} {a b : ByteArray} {v : RV} (h : binRS op a b = some v) : (binS op a b).1 ∧ ofD (binS op a b).2 = some v := by
  cases op <;> unfold binRS at h <;> first
    | (cases h; done)
    | (cases h; exact ⟨trivial, rfl⟩)
    | (obtain ⟨h1, rfl⟩ := bif_some h; simp at h1; exact ⟨h1, rfl⟩)

def eqR : List Nat → List RV → List RV → Option Bool
  | [], [], [] => some true
  | 1 :: ks, .int k a :: cs, .int k' b :: ds => bif decide (k = k') then (eqR ks cs ds).map fun r => (a == b) && r else none
  | 2 :: ks, .bool a :: cs, .bool b :: ds => (eqR ks cs ds).map fun r => (a == b) && r
  | 3 :: ks, .str a :: cs, .str b :: ds => (eqR ks cs ds).map fun r => (a == b) && r
  | _, _, _ => none
theorem eqR_ok : ∀ {ks : List Nat} {cs ds : List RV} {r : Bool}, eqR ks cs ds = some r → (eqL ks (cs.map toD1) (ds.map toD1)).1 ∧ (eqL ks (cs.map toD1) (ds.map toD1)).2 = r := by
  intro ks cs ds
  fun_induction eqR ks cs ds with
  | case1 => intro r h; cases h; exact ⟨trivial, rfl⟩
  | case2 ks k a cs k' b ds hk ih =>
    intro r h
    rw [Option.map_eq_some_iff] at h
    obtain ⟨q, hq, rfl⟩ := h
    obtain ⟨i1, i2⟩ := ih hq
    simp only [List.map_cons, toD1, eqL]
    exact ⟨⟨of_decide_eq_true hk, i1⟩, by rw [i2]⟩
  | case3 => intro r h; cases h
  | case4 ks a cs b ds ih =>
    intro r h
    rw [Option.map_eq_some_iff] at h
    obtain ⟨q, hq, rfl⟩ := h
    obtain ⟨i1, i2⟩ := ih hq
    simp only [List.map_cons, toD1, eqL]
    exact ⟨i1, by rw [i2]⟩
  | case5 ks a cs b ds ih =>
    intro r h
    rw [Option.map_eq_some_iff] at h
    obtain ⟨q, hq, rfl⟩ := h
    obtain ⟨i1, i2⟩ := ih hq
    simp only [List.map_cons, toD1, eqL]
    exact ⟨i1, by rw [i2]⟩
  | case6 => intro r h; cases h

/-- The two values, not nil's own comparisons. -/
def binR (P : Program) (t : TypeId) (op : BinOp) (x y : RV) : Option RV :=
  match x, y with
  | .int k a, .int k' b => binRI op k a k' b
  | .str a, .str b => binRS op a b
  | .bool a, .bool b => bif tk P t == 3 then (match op with
    | .eql => some (.bool (a == b))
    | .neq => some (.bool !(a == b))
    | _ => none) else none
  | .agg cs, .agg ds => match esOf P t with
    | some ks => (match op with
      | .eql => (eqR ks cs ds).map .bool
      | .neq => (eqR ks cs ds).map fun b => .bool !b
      | _ => none)
    | none => none
  | _, _ => none
theorem binR_ok {P : Program} {t : TypeId} {op : BinOp} {x y : RV} {v : RV} (h : binR P t op x y = some v) : (binP (esOf P t) (tk P t) op (toD x) (toD y)).1 ∧ ofD (binP (esOf P t) (tk P t) op (toD x) (toD y)).2 = some v := by
  unfold binR at h
  split at h
  · exact binRI_ok h
  · exact binRS_ok h
  · obtain ⟨h1, h2⟩ := bif_opt h
    have h1 : tk P t = 3 := by simpa using h1
    cases op <;> first | (cases h2; done) | (cases h2; exact ⟨h1, rfl⟩)
  · rename_i cs ds
    simp only [toD, binP]
    split at h
    · rename_i ks hks
      rw [hks]
      split at h
      · rw [Option.map_eq_some_iff] at h
        obtain ⟨r, hr, rfl⟩ := h
        obtain ⟨i1, i2⟩ := eqR_ok hr
        exact ⟨i1, by simp only [binA, i2]; rfl⟩
      · rw [Option.map_eq_some_iff] at h
        obtain ⟨r, hr, rfl⟩ := h
        obtain ⟨i1, i2⟩ := eqR_ok hr
        exact ⟨i1, by simp only [binA, i2]; rfl⟩
      · cases h
    · cases h
  · cases h

/-! ## nil -/

def nilEq (P : Program) (t : TypeId) (x y : RV) : Option Bool :=
  match P.underlying t, x, y with
  | some (.slice _), .nils, .nils => some true
  | some (.slice _), .sl .., .nils => some false
  | some (.slice _), .nils, .sl .. => some false
  | some (.pointer _), .nilp, .nilp => some true
  | some (.pointer _), .ptr .., .nilp => some false
  | some (.pointer _), .nilp, .ptr .. => some false
  | some (.map _ _), .nilm, .nilm => some true
  | some (.map _ _), .mp .., .nilm => some false
  | some (.map _ _), .nilm, .mp .. => some false
  | some (.func _ _ _), .nilf, .nilf => some true
  | some (.func _ _ _), .fn .., .nilf => some false
  | some (.func _ _ _), .nilf, .fn .. => some false
  | _, _, _ => none
def nilR (P : Program) (t : TypeId) (op : BinOp) (x y : RV) : Option RV :=
  match op with
  | .eql => (nilEq P t x y).map .bool
  | .neq => (nilEq P t x y).map fun b => .bool !b
  | _ => none
theorem nilEq_ok {P : Program} {E : Emb} {w : World} {t : TypeId} {x y : RV} {u v : Value} {b : Bool} (hx : Rr E x u) (hy : Rr E y v) (h : nilEq P t x y = some b) : (Op.equal t u v).run P w = .ok b w ∧ (∀ op xo yo, eqGuard op t xo yo u v = (pure () : Sem Unit)) ∧ binOp .eql t u v = (do pure (.bool (← Op.equal t u v))) ∧ binOp .neq t u v = (do pure (.bool (!(← Op.equal t u v)))) := by
  have e : Op.equal t u v = Op.equalIn (9999 + 1) t u v := rfl
  rw [e]
  unfold nilEq at h
  split at h <;> try cases h
  all_goals
    rename_i hu
    cases hx
    cases hy
    refine ⟨?_, fun op xo yo => by cases op <;> rfl, rfl, rfl⟩
    unfold Op.equalIn
    simp [run_underlying hu]
theorem run_nilR {P : Program} {E : Emb} {w : World} {t : TypeId} {op : BinOp} {x y : RV} {u v : Value} {r : RV} (hx : Rr E x u) (hy : Rr E y v) (h : nilR P t op x y = some r) (xo yo : Operand) : ∃ q, (eqGuard op t xo yo u v >>= fun _ => binOp op t u v).run P w = .ok q w ∧ Rr E r q := by
  unfold nilR at h
  split at h
  · rw [Option.map_eq_some_iff] at h
    obtain ⟨b, hb, rfl⟩ := h
    obtain ⟨h1, h2, h3, _⟩ := nilEq_ok (w := w) hx hy hb
    exact ⟨.bool b, by rw [h2, h3]; simp [h1], .bool _⟩
  · rw [Option.map_eq_some_iff] at h
    obtain ⟨b, hb, rfl⟩ := h
    obtain ⟨h1, h2, _, h3⟩ := nilEq_ok (w := w) hx hy hb
    exact ⟨.bool !b, by rw [h2, h3]; simp [h1], .bool _⟩
  · cases h

/-! ## Operands -/

def cv1 : Value → RV
  | .bool b => .bool b
  | .int k n => .int k n
  | .string s => .str s
  | .pointer none => .nilp
  | .slice none 0 0 => .nils
  | .map none => .nilm
  | .nilFunc => .nilf
  | .nilIface => .nili
  | _ => .und
def cvR : Value → RV
  | .agg cs => .agg (cs.toList.map cv1)
  | v => cv1 v
theorem cv1_ok (E : Emb) (x : Value) : Rr E (cv1 x) x := by
  unfold cv1
  split <;> first | exact .bool _ | exact .int _ _ | exact .str _ | exact .nilp | exact .nils | exact .nilm | exact .nilf | exact .nili | exact .und _

theorem cvR_ok (E : Emb) (x : Value) (hx : ∀ cs, x ≠ .agg cs) : Rr E (cvR x) x := by
  have := cv1_ok E x
  cases x <;> first | exact this | exact absurd rfl (hx _)

def evR (t : Tr RV) : Operand → RV
  | .tmp i => (t.get i).getD .nov
  | .const v => cvR v
  | .global g => .gp g 0
  | .func f => .fn f [] []

section
variable {P : Program} {nt : Nat} {E : Emb} {t : Tr RV} {a : Act} {w : World} {h : Hp} {n m : Nat}

theorem opd_of (o : Operand) (ho : opdOk nt o = true) (hs : ∀ i, o = .tmp i → Rr E ((t.get i).getD .nov) (a.tmps.getD i undef)) : Rr E (evR t o) (a.eval o) := by
  cases o with
  | tmp i => exact hs i rfl
  | const v =>
    by_cases hv : ∃ cs, v = .agg cs
    · obtain ⟨cs, rfl⟩ := hv
      have ho : cs.toList.all (·.oneCell') = true := ho
      rw [List.all_eq_true] at ho
      refine Rr.agg _ cs (by simp) ho fun j d u hd hu => ?_
      rw [List.getElem?_map, Option.map_eq_some_iff] at hd
      obtain ⟨y, hy, rfl⟩ := hd
      rw [Array.getElem?_toList, hu] at hy
      cases hy
      exact cv1_ok E u
    · exact cvR_ok E v fun cs h => hv ⟨cs, h⟩
  | global g => exact .gp g 0
  | func f => exact .fn f [] [] #[] #[] rfl rfl (by simp) (by simp)

theorem SS.opd (hs : SS nt E t a) (o : Operand) (ho : opdOk nt o = true) : Rr E (evR t o) (a.eval o) := opd_of o ho fun i hi => hs.slot i (by subst hi; simpa [opdOk] using ho)

/-! ## Reading memory -/

def cutR (ld : Option Nat) (off : Nat) (cs : List RV) : Option RV :=
  match ld with
  | none => cs[off]?
  | some k => bif decide (off + k ≤ cs.length) then some (.agg ((cs.drop off).take k)) else none
/-- The block and the offset that a pointer names. -/
def ptrR : RV → Option (Nat × Nat)
  | .ptr b off => some (b, off)
  | .gp g off => bif decide (g < NG) then some (g, off) else none
  | _ => none
theorem ptrR_ok {x : RV} {b off : Nat} (hp : ptrR x = some (b, off)) {hs : HS E h n m w} (hb : h b ≠ none) {u : Value} (hx : Rr E x u) : ∃ g s, E b = some (g, s) ∧ u = .pointer (some ⟨g, off, none⟩) := by
  unfold ptrR at hp
  split at hp <;> try cases hp
  · cases hx with
    | ptr _ _ g s hE => exact ⟨g, s, hE, rfl⟩
  · obtain ⟨h1, h2⟩ := bif_some hp
    cases h2
    cases hx
    obtain ⟨s, hE⟩ := hs.glob _ (of_decide_eq_true h1) hb
    exact ⟨_, s, hE, rfl⟩
def loadR (P : Program) (h : Hp) (t : TypeId) (x : RV) : Option RV :=
  match ptrR x with
  | some (b, off) => match h b with
    | some (.cells _ cs) => (match ldOf P t with
      | some ld => cutR ld off cs
      | none => none)
    | _ => none
  | none => none

theorem run_loadR (hs : HS E h n m w) {t : TypeId} {x : RV} {u : Value} (hx : Rr E x u) {v : RV} (hl : loadR P h t x = some v) : ∃ y, (Instr.loadAt t u).run P w = .ok y w ∧ Rr E v y := by
  unfold loadR at hl
  split at hl <;> try cases hl
  rename_i b off hpt
  split at hl <;> try cases hl
  rename_i e cs hb
  split at hl <;> try cases hl
  rename_i ld hld
  obtain ⟨g, s, hE, us, hg, hsz, hlen, hrel⟩ := hs.blk b _ hb
  obtain ⟨g', s', hE', rfl⟩ := ptrR_ok hpt (hs := hs) (by rw [hb]; simp) hx
  · rw [hE] at hE'
    cases hE'
    unfold cutR at hl
    unfold ldOf at hld
    have hcell : ∀ j, j < cs.length → w.cell? ⟨g, j, none⟩ = some (us.getD j undef) := fun j hj => by
      unfold World.cell?; simp only [hg]; simp [Array.getElem?_eq_getElem (show j < us.size by omega)]
    cases ld with
    | none =>
      simp only at hl
      have hlt : off < cs.length := by
        rcases Nat.lt_or_ge off cs.length with h | h
        · exact h
        · rw [List.getElem?_eq_none h] at hl; cases hl
      refine ⟨us.getD off undef, ?_, (hrel off v _ hl (by simp [Array.getElem?_eq_getElem (show off < us.size by omega)])).2⟩
      have h2 := hcell off hlt
      split at hld <;> simp at hld
      rename_i i d n1 n2 hi hu
      cases d <;> first
        | exact absurd rfl (n1 _)
        | exact absurd rfl (n2 _ _)
        | simp [Instr.loadAt, Instr.sureAddr, loadVar, isAgg, run_underlying hu, h2]
    | some k =>
      obtain ⟨h1, rfl⟩ := bif_some hl
      have h1 : off + k ≤ cs.length := of_decide_eq_true h1
      have key : (loadCells ⟨g, off, none⟩ k).run P w = .ok ((List.range k).map fun j => us.getD (off + j) undef).toArray w :=
        run_loadCells w _ k (fun j => us.getD (off + j) undef) fun j hj => by
          rw [Addr.add_lit]
          exact hcell (off + j) (by omega)
      refine ⟨.agg ((List.range k).map fun j => us.getD (off + j) undef).toArray, ?_, ?_⟩
      · split at hld <;> simp at hld
        · rename_i i fs hi hu
          subst hld
          simp [Instr.loadAt, Instr.sureAddr, loadVar, isAgg, run_underlying hu, run_sizeOf w hi, Program.cellsOf, hi, key]
        · rename_i i m' e' hi hu
          subst hld
          simp [Instr.loadAt, Instr.sureAddr, loadVar, isAgg, run_underlying hu, run_sizeOf w hi, Program.cellsOf, hi, key]
      · have hkl : ((cs.drop off).take k).length = k := by simp; omega
        refine .agg _ _ (by simp; omega) (fun u hu => ?_) fun j d u hd hu => ?_
        · simp at hu
          obtain ⟨j, hj, rfl⟩ := hu
          rw [Array.getElem?_eq_getElem (show off + j < us.size by omega)]
          exact (hrel (off + j) _ _ (List.getElem?_eq_getElem (by omega)) (Array.getElem?_eq_getElem (show off + j < us.size by omega))).1
        · have hj : j < k := by
            rcases Nat.lt_or_ge j k with h | h
            · exact h
            · rw [List.getElem?_eq_none (by omega)] at hd; cases hd
          rw [List.getElem?_take, if_pos hj, List.getElem?_drop] at hd
          simp only [List.getElem?_toArray, List.getElem?_map, List.getElem?_range hj, Option.map_some, Option.some.injEq] at hu
          subst hu
          exact (hrel _ d _ hd (by simp [Array.getElem?_eq_getElem (show off + j < us.size by omega)])).2

def fldR (P : Program) (s f : Nat) (x : RV) : Option RV :=
  match x with
  | .ptr b off => (fldOf P s f).map fun o => .ptr b (off + o)
  | .gp b off => (fldOf P s f).map fun o => .gp b (off + o)
  | _ => none
theorem run_fldR {s f : Nat} {x : RV} {u : Value} (hx : Rr E x u) {v : RV} (h : fldR P s f x = some v) : ∃ y, (Instr.fieldAt s u f).run P w = .ok y w ∧ Rr E v y := by
  unfold fldR at h
  split at h <;> try cases h
  rename_i b off
  rw [Option.map_eq_some_iff] at h
  obtain ⟨o, ho, rfl⟩ := h
  cases hx with
  | ptr _ _ g s' hE =>
    obtain ⟨y, h1, h2⟩ := run_fieldAt (P := P) (w := w) (I := noI) (A := fun i => if i = 0 then some (some g, 0) else none) (s := s) (f := f) (d := .bp 0 off) (.bp _ 0 off g 0 (by simp)) (by rw [ho]; exact trivial)
    rw [ho] at h2
    simp only [fldP] at h2
    generalize hA : (fun i => if i = 0 then some (some g, 0) else none : Own) = A at h2
    cases h2 with
    | bp _ _ _ g2 c2 h2 =>
      subst hA
      simp at h2
      obtain ⟨rfl, _⟩ := h2
      exact ⟨_, h1, .ptr b _ g s' hE⟩
  rename_i g off
  rw [Option.map_eq_some_iff] at h
  obtain ⟨o, ho, rfl⟩ := h
  cases hx with
  | gp _ _ =>
    obtain ⟨y, h1, h2⟩ := run_fieldAt (P := P) (w := w) (I := noI) (A := fun i => if i = 0 then some (some g, 0) else none) (s := s) (f := f) (d := .bp 0 off) (.bp _ 0 off g 0 (by simp)) (by rw [ho]; exact trivial)
    rw [ho] at h2
    simp only [fldP] at h2
    generalize hA : (fun i => if i = 0 then some (some g, 0) else none : Own) = A at h2
    cases h2 with
    | bp _ _ _ g2 c2 h2 =>
      subst hA
      simp at h2
      obtain ⟨rfl, _⟩ := h2
      exact ⟨_, h1, .gp _ _⟩

def idxR (P : Program) (t : TypeId) (x i : RV) : Option RV :=
  match x, i with
  | .sl b off len _ _ _, .int _ k => (match elOf P t with
    | some (none, z) => bif decide (0 ≤ k) && decide (k.toNat < len) then some (.ptr b (off + k.toNat * z)) else none
    | _ => none)
  | .ptr b off, .int _ k => (match elOf P t with
    | some (some l, z) => bif decide (0 ≤ k) && decide (k.toNat < l) then some (.ptr b (off + k.toNat * z)) else none
    | _ => none)
  | .gp b off, .int _ k => (match elOf P t with
    | some (some l, z) => bif decide (0 ≤ k) && decide (k.toNat < l) then some (.gp b (off + k.toNat * z)) else none
    | _ => none)
  | _, _ => none
theorem run_idxR {t : TypeId} {x i : RV} {u q : Value} (hx : Rr E x u) (hi : Rr E i q) {v : RV} (h : idxR P t x i = some v) : ∃ y, (Instr.indexAt t u q).run P w = .ok y w ∧ Rr E v y := by
  unfold idxR at h
  split at h
  · rename_i b off len z0 cap full kk k
    split at h <;> try cases h
    rename_i z hel
    obtain ⟨h1, rfl⟩ := bif_some h
    simp only [Bool.and_eq_true, decide_eq_true_eq] at h1
    cases hi
    cases hx with
    | sl _ _ _ _ _ _ g s c hE hl hm hs' hf hc =>
      unfold elOf at hel
      split at hel <;> simp at hel
      rename_i e' hu
      obtain ⟨i, hi, hz⟩ := hel
      refine ⟨_, ?_, .ptr b _ g s hE⟩
      simp [Instr.indexAt, asIntOf, run_underlying hu, h1.1, (show k < (len : Int) by omega), run_sizeOf w hi, Program.cellsOf, hi, hz, Addr.add_lit]
  · rename_i b off kk k
    split at h <;> try cases h
    rename_i l z hel
    obtain ⟨h1, rfl⟩ := bif_some h
    simp only [Bool.and_eq_true, decide_eq_true_eq] at h1
    cases hi
    cases hx with
    | ptr _ _ g s hE =>
      unfold elOf at hel
      split at hel <;> simp at hel
      rename_i m' e' hu
      obtain ⟨i, hi, rfl, hz⟩ := hel
      refine ⟨_, ?_, .ptr b _ g s hE⟩
      simp [Instr.indexAt, Instr.sureAddr, asIntOf, run_underlying hu, h1.1, (show k < (m' : Int) by omega), run_sizeOf w hi, Program.cellsOf, hi, hz, Addr.add_lit]
  · rename_i b off kk k
    split at h <;> try cases h
    rename_i l z hel
    obtain ⟨h1, rfl⟩ := bif_some h
    simp only [Bool.and_eq_true, decide_eq_true_eq] at h1
    cases hi
    cases hx with
    | gp _ _ =>
      unfold elOf at hel
      split at hel <;> simp at hel
      rename_i m' e' hu
      obtain ⟨i, hi, rfl, hz⟩ := hel
      refine ⟨_, ?_, .gp b _⟩
      simp [Instr.indexAt, Instr.sureAddr, asIntOf, run_underlying hu, h1.1, (show k < (m' : Int) by omega), run_sizeOf w hi, Program.cellsOf, hi, hz, Addr.add_lit]
  · cases h

/-- An array's element. -/
def atA (P : Program) (t : TypeId) (cs : List RV) (k : Int) : Option RV :=
  match P.underlying t with
  | some (.array n e) => (match P.info? e, eqKs P 40 e, P.underlying e with
    | some i, some a, some d => bif decide (0 ≤ k) && decide (k.toNat < n) && decide (i.size = a.length) && decide (k.toNat * i.size + a.length ≤ cs.length) then
        (match d with
        | .struct _ => some (.agg ((cs.drop (k.toNat * i.size)).take a.length))
        | _ => bif decide (a.length = 1) then cs[k.toNat * i.size]? else none) else none
    | _, _, _ => none)
  | _ => none
theorem run_atA {t : TypeId} {cs : List RV} {u : Value} {kk : IntKind} {k : Int} (hx : Rr E (.agg cs) u) {v : RV} (h : atA P t cs k = some v) : ∃ y, (Instr.index t u (.int kk k)).run P w = .ok y w ∧ Rr E v y := by
  unfold atA at h
  split at h <;> try cases h
  rename_i n e hu
  split at h <;> try cases h
  rename_i i a d hi ha hd
  obtain ⟨h1, h2⟩ := bif_opt h
  simp only [Bool.and_eq_true, decide_eq_true_eq] at h1
  obtain ⟨⟨⟨q1, q2⟩, q3⟩, q4⟩ := h1
  cases hx with
  | agg _ vs hl hone hrel =>
    have hp := run_part (P := P) (w := w) (X := vs) (off := k.toNat * i.size) ha hi q3 (by omega)
    refine ⟨_, by simp [Instr.index, asIntOf, run_underlying hu, q1, show k < (n : Int) by omega, run_sizeOf w hi, Program.cellsOf, hi]; exact hp, ?_⟩
    have hat : ∀ j, j < a.length → ((vs.toList.drop (k.toNat * i.size)).take a.length)[j]? = vs[k.toNat * i.size + j]? := fun j hj => by
      rw [List.getElem?_take, if_pos hj, List.getElem?_drop, Array.getElem?_toList]
    split at h2
    · rename_i fs
      cases h2
      unfold vOf
      rw [hd]
      refine .agg _ _ (by simp; omega) (fun x hx => hone x ?_) fun j d' u' hd' hu' => ?_
      · exact List.mem_of_mem_drop (List.mem_of_mem_take (by simpa using hx))
      · have hj : j < a.length := by
          have := (List.getElem?_eq_some_iff.1 hd').1
          simp at this; omega
        rw [List.getElem?_take, if_pos hj, List.getElem?_drop] at hd'
        have hu2 : ((vs.toList.drop (k.toNat * i.size)).take a.length)[j]? = some u' := by simpa using hu'
        rw [hat j hj] at hu2
        exact hrel _ d' u' hd' hu2
    · rename_i hns
      obtain ⟨r1, r2⟩ := bif_opt h2
      have r1 := of_decide_eq_true r1
      have hvo : vOf P e ((vs.toList.drop (k.toNat * i.size)).take a.length) = ((vs.toList.drop (k.toNat * i.size)).take a.length).headD undef := by
        unfold vOf
        rw [hd]
        split
        · rename_i fs he; cases he; exact absurd rfl (hns fs)
        · rfl
      rw [hvo]
      have hlt : k.toNat * i.size < vs.size := by omega
      have h0 := hat 0 (by omega)
      rw [Nat.add_zero, Array.getElem?_eq_getElem hlt] at h0
      have : ((vs.toList.drop (k.toNat * i.size)).take a.length).headD undef = vs[k.toNat * i.size] := by
        cases hq : (vs.toList.drop (k.toNat * i.size)).take a.length with
        | nil => rw [hq] at h0; cases h0
        | cons x l => rw [hq] at h0; exact Option.some.inj h0
      rw [this]
      exact hrel _ v _ r2 (Array.getElem?_eq_getElem hlt)

/-- A string's byte; an array's element. -/
def atR (P : Program) (t : TypeId) (x i : RV) : Option RV :=
  match x, i with
  | .agg cs, .int _ k => atA P t cs k
  | .str s, .int _ k => bif (tk P t == 1) && decide (0 ≤ k) && decide (k < s.size) then some (.int .u8 (s.data.getD k.toNat 0).toNat) else none
  | _, _ => none
theorem run_atR {t : TypeId} {x i : RV} {u q : Value} (hx : Rr E x u) (hi : Rr E i q) {v : RV} (h : atR P t x i = some v) : ∃ y, (Instr.index t u q).run P w = .ok y w ∧ Rr E v y := by
  unfold atR at h
  split at h <;> try cases h
  · rename_i cs kk k
    cases hi
    exact run_atA hx h
  rename_i s kk k
  obtain ⟨h1, rfl⟩ := bif_some h
  simp only [Bool.and_eq_true, decide_eq_true_eq, beq_iff_eq] at h1
  obtain ⟨y, h2, h3⟩ := run_atP (P := P) (w := w) (I := noI) (A := noOwn) (t := t) (el := none) (ld := none) (d := .v (.string s)) (e := .v (.int kk k)) (u := u) (v := q) (by cases hx; exact .v _ _) (by cases hi; exact .v _ _) ⟨h1.1.1, h1.1.2, h1.2⟩
  exact ⟨y, h2, ofD_ok (d := .v (.int .u8 (s.data.getD k.toNat 0).toNat)) rfl h3⟩

/-- A bound, if one is written. -/
def bdR (o : Option RV) (d : Nat) : Option Nat := match o with
  | none => some d
  | some (.int _ k) => bif decide (0 ≤ k) then some k.toNat else none
  | some _ => none
theorem bdR_ok {o : Option RV} {ov : Option Value} {d l : Nat} (h : bdR o d = some l) (ho : ∀ e, o = some e → ∃ v, ov = some v ∧ Rr E e v) (hn : o = none → ov = none) : bnd ov l d := by
  unfold bdR at h
  split at h
  · cases h; exact .inl ⟨hn rfl, rfl⟩
  · rename_i k i
    obtain ⟨h1, rfl⟩ := bif_some h
    obtain ⟨v, rfl, hv⟩ := ho _ rfl
    cases hv
    exact .inr ⟨_, _, rfl, of_decide_eq_true h1, rfl⟩
  · cases h

def subR (P : Program) (t : TypeId) (x : RV) (lo hi : Option RV) : Option RV :=
  match x with
  | .str s => (match bdR lo 0, bdR hi s.size with
    | some l, some h => bif (tk P t == 1) && decide (l ≤ h) && decide (h ≤ s.size) then some (.str (s.extract l h)) else none
    | _, _ => none)
  | .sl b off len z cap full => (match elOf P t, bdR lo 0, bdR hi len with
    | some (none, z'), some l, some h => bif decide (z' = z) && decide (l ≤ h) then
        (bif decide (l < len) && decide (h ≤ len) then some (.sl b (off + l * z) (h - l) z (cap.map (· - l)) full)
         else match cap with
          | some c => bif decide (l < c) && decide (h ≤ c) then some (.sl b (off + l * z) (h - l) z (some (c - l)) full) else bif decide (l = h) && decide (h ≤ c) then some .em else none
          | none => bif decide (l = h) && decide (h ≤ len) then some .em else none) else none
    | _, _, _ => none)
  | .nils => (match elOf P t, bdR lo 0, bdR hi 0 with
    | some (none, _), some 0, some 0 => some .nils
    | _, _, _ => none)
  | .em => (match elOf P t, bdR lo 0, bdR hi 0 with
    | some (none, _), some 0, some 0 => some .em
    | _, _, _ => none)
  | _ => none

theorem run_subR {t : TypeId} {x : RV} {u : Value} {lo hi : Option RV} {lv hv : Option Value} (hx : Rr E x u) (hlo : ∀ e, lo = some e → ∃ v, lv = some v ∧ Rr E e v) (hlo' : lo = none → lv = none)
    (hhi : ∀ e, hi = some e → ∃ v, hv = some v ∧ Rr E e v) (hhi' : hi = none → hv = none) {v : RV} (h : subR P t x lo hi = some v) : ∃ y, (Instr.sliceAt t u lv hv none).run P w = .ok y w ∧ Rr E v y := by
  have key : ∀ {z : Nat}, elOf P t = some (none, z) → ∀ (b : Option Addr) (len c l h : Nat), bnd lv l 0 → bnd hv h len → l ≤ h → h ≤ c →
      (Instr.sliceAt t (.slice b len c) lv hv none).run P w = .ok (.slice (if c = l then b else b.map (·.add (l * z))) (h - l) (c - l)) w := fun {z} hel b len c l h h1 h2 h3 h4 => by
    unfold elOf at hel
    split at hel <;> simp at hel
    rename_i e hu'
    obtain ⟨i, hi, hz⟩ := hel
    simp [Instr.sliceAt, Instr.slice, run_underlying hu', run_bounds (P := P) (w := w) (sl := true) h1 h2 h3 h4, run_sizeOf w hi, Program.cellsOf, hi, hz]
  unfold subR at h
  split at h
  · rename_i s
    split at h <;> try cases h
    rename_i l hh e1 e2
    obtain ⟨h1, rfl⟩ := bif_some h
    simp only [Bool.and_eq_true, decide_eq_true_eq, beq_iff_eq] at h1
    cases hx
    exact ⟨_, run_sub_str h1.1.1 (bdR_ok e1 hlo hlo') (bdR_ok e2 hhi hhi') h1.1.2 h1.2, .str _⟩
  · rename_i b off len z cap full
    split at h <;> try cases h
    rename_i z' l hh hel e1 e2
    obtain ⟨h1, h2⟩ := bif_opt h
    simp only [Bool.and_eq_true, decide_eq_true_eq] at h1
    obtain ⟨rfl, h1⟩ := h1
    cases hx with
    | sl _ _ _ _ _ _ g s c hE hl hm hs' hf hc =>
      have mk : ∀ (cap' : Option Nat), l < c → hh ≤ c → (∀ k, cap' = some k → c - l = k) → ∃ y, (Instr.sliceAt t (.slice (some ⟨g, off, none⟩) len c) lv hv none).run P w = .ok y w ∧ Rr E (.sl b (off + l * z') (hh - l) z' cap' full) y := fun cap' h3 h4 h5 => by
        refine ⟨_, key hel _ len c l hh (bdR_ok e1 hlo hlo') (bdR_ok e2 hhi hhi') h1 h4, ?_⟩
        rw [if_neg (by omega)]
        simp only [Option.map_some, Addr.add_lit]
        have hmul : l * z' + (c - l) * z' = c * z' := by rw [← Nat.add_mul]; congr 1; omega
        exact .sl b _ _ z' cap' full g s (c - l) hE (by omega) (by omega) (by omega) (fun hft => by have := hf hft; omega) h5
      have me : l = hh → hh ≤ c → ∃ y, (Instr.sliceAt t (.slice (some ⟨g, off, none⟩) len c) lv hv none).run P w = .ok y w ∧ Rr E .em y := fun h3 h4 => by
        refine ⟨_, key hel _ len c l hh (bdR_ok e1 hlo hlo') (bdR_ok e2 hhi hhi') h1 h4, ?_⟩
        subst h3
        rw [Nat.sub_self]
        exact .em _ _
      cases hcd : decide (l < len) && decide (hh ≤ len) with
      | true =>
        rw [hcd] at h2
        simp only [Bool.and_eq_true, decide_eq_true_eq] at hcd
        obtain rfl := Option.some.inj h2
        refine mk _ (by omega) (by omega) fun k hk => ?_
        rw [Option.map_eq_some_iff] at hk
        obtain ⟨k', hk', rfl⟩ := hk
        rw [hc k' hk']
      | false =>
        rw [hcd] at h2
        simp only [cond_false] at h2
        split at h2
        · rename_i c'
          have hcc := hc c' rfl
          subst hcc
          cases hcd2 : decide (l < c) && decide (hh ≤ c) with
          | true =>
            rw [hcd2] at h2
            simp only [Bool.and_eq_true, decide_eq_true_eq] at hcd2
            obtain rfl := Option.some.inj h2
            exact mk _ hcd2.1 hcd2.2 fun k hk => by cases hk; rfl
          | false =>
            rw [hcd2] at h2
            simp only [cond_false] at h2
            obtain ⟨h3, rfl⟩ := bif_some h2
            simp only [Bool.and_eq_true, decide_eq_true_eq] at h3
            exact me h3.1 h3.2
        · obtain ⟨h3, rfl⟩ := bif_some h2
          simp only [Bool.and_eq_true, decide_eq_true_eq] at h3
          exact me h3.1 (by omega)
  · split at h <;> try cases h
    rename_i z hel e1 e2
    cases hx
    refine ⟨_, key hel none 0 0 0 0 (bdR_ok e1 hlo hlo') (bdR_ok e2 hhi hhi') (Nat.le_refl _) (Nat.le_refl _), ?_⟩
    simp only [if_pos, Nat.sub_zero]
    exact .nils
  · split at h <;> try cases h
    rename_i z hel e1 e2
    cases hx with
    | em b c =>
      refine ⟨_, key hel b 0 c 0 0 (bdR_ok e1 hlo hlo') (bdR_ok e2 hhi hhi') (Nat.le_refl _) (Nat.zero_le _), ?_⟩
      simp only [Nat.sub_zero]
      exact .em _ _
  · cases h

/-- A part of an array that lies in memory. -/
def subA (P : Program) (h : Hp) (t : TypeId) (x : RV) (lo hi : Option RV) : Option RV :=
  match x with
  | .ptr b off => (match h b, elOf P t with
    | some (.cells _ cs), some (some k, z) => (match bdR lo 0, bdR hi k with
      | some l, some h => bif decide (l ≤ h) && (decide (h ≤ k) && (decide (l < k) && (decide (off + k * z ≤ cs.length) && decide (k ≤ maxLen)))) then some (.sl b (off + l * z) (h - l) z (some (k - l)) false) else none
      | _, _ => none)
    | _, _ => none)
  | _ => none
theorem run_subA (hs : HS E h n m w) {t : TypeId} {x : RV} {u : Value} {lo hi : Option RV} {lv hv : Option Value} (hx : Rr E x u) (hlo : ∀ e, lo = some e → ∃ v, lv = some v ∧ Rr E e v) (hlo' : lo = none → lv = none)
    (hhi : ∀ e, hi = some e → ∃ v, hv = some v ∧ Rr E e v) (hhi' : hi = none → hv = none) {v : RV} (hr : subA P h t x lo hi = some v) : ∃ y, (Instr.sliceAt t u lv hv none).run P w = .ok y w ∧ Rr E v y := by
  unfold subA at hr
  split at hr <;> try cases hr
  rename_i b off
  split at hr <;> try cases hr
  rename_i e cs k z hb hel
  split at hr <;> try cases hr
  rename_i l hh e1 e2
  obtain ⟨h1, rfl⟩ := bif_some hr
  simp only [Bool.and_eq_true, decide_eq_true_eq] at h1
  obtain ⟨h1, h2, h3, h4, h5⟩ := h1
  obtain ⟨g, s, hE, us, hg, hus, hlen, hrel⟩ := hs.blk b _ hb
  cases hx with
  | ptr _ _ g2 s2 hE2 =>
    rw [hE] at hE2
    cases hE2
    unfold elOf at hel
    split at hel <;> simp at hel
    rename_i k' e' hu
    obtain ⟨i, hi, rfl, hz⟩ := hel
    refine ⟨.slice (some ⟨g, off + l * z, none⟩) (hh - l) (k' - l), ?_, ?_⟩
    · simp [Instr.sliceAt, Instr.sureAddr, run_underlying hu, run_bounds (P := P) (w := w) (sl := false) (bdR_ok e1 hlo hlo') (bdR_ok e2 hhi hhi') h1 h2, run_sizeOf w hi, Program.cellsOf, hi, hz, show ¬ k' = l by omega, Addr.add_lit]
    · have hmul : l * z + (k' - l) * z = k' * z := by rw [← Nat.add_mul]; congr 1; omega
      exact .sl b _ _ z _ false g s (k' - l) hE (by omega) (by omega) (by omega) (fun h => by cases h) (fun q hq => by cases hq; rfl)

def sub3R (P : Program) (t : TypeId) (x : RV) (lo hi mx : Option RV) : Option RV :=
  match elOf P t, bdR lo 0, hi, bdR hi 0, mx, bdR mx 0 with
  | some (none, z'), some l, some _, some h, some _, some m => (match x with
    | .sl b off len z cap _ => bif decide (z' = z) && decide (l ≤ h) && decide (h ≤ m) && (decide (m ≤ len) || (match cap with | some c => decide (m ≤ c) | none => false)) then
        (bif decide (l < m) || decide (l = 0) then some (.sl b (off + l * z) (h - l) z (some (m - l)) false) else some .em) else none
    | .nils => bif decide (l = 0) && decide (h = 0) && decide (m = 0) then some .nils else none
    | .em => bif decide (l = 0) && decide (h = 0) && decide (m = 0) then some .em else none
    | _ => none)
  | _, _, _, _, _, _ => none

theorem run_bounds3 {lv : Option Value} {l h m n c : Nat} {k k' : IntKind} {i i' : Int} (hl : bnd lv l 0) (hh : 0 ≤ i ∧ i.toNat = h) (hm : 0 ≤ i' ∧ i'.toNat = m) (h1 : l ≤ h) (h2 : h ≤ m) (h3 : m ≤ c) :
    (Instr.sliceBounds true n c lv (some (.int k i)) (some (.int k' i'))).run P w = .ok (l, h, m) w := by
  have b1 : (Instr.sliceBound (.int k' i') c .slice3Acap).run P w = .ok m w := by
    simp [Instr.sliceBound, asIntOf, hm.1, show i' ≤ (c : Int) by omega, hm.2]
  have b2 : (Instr.sliceBound (.int k i) m .slice3B).run P w = .ok h w := by
    simp [Instr.sliceBound, asIntOf, hh.1, show i ≤ (m : Int) by omega, hh.2]
  rcases hl with ⟨rfl, rfl⟩ | ⟨k2, i2, rfl, hi2, rfl⟩
  · simp [Instr.sliceBounds, b1, b2]
  · have b3 : (Instr.sliceBound (.int k2 i2) h .slice3C).run P w = .ok i2.toNat w := by
      simp [Instr.sliceBound, asIntOf, hi2, show i2 ≤ (h : Int) by omega]
    simp [Instr.sliceBounds, b1, b2, b3]

theorem run_sub3R {t : TypeId} {x : RV} {u : Value} {lo hi mx : Option RV} {lv hv mv : Option Value} (hx : Rr E x u) (hlo : ∀ e, lo = some e → ∃ v, lv = some v ∧ Rr E e v) (hlo' : lo = none → lv = none)
    (hhi : ∀ e, hi = some e → ∃ v, hv = some v ∧ Rr E e v) (hmx : ∀ e, mx = some e → ∃ v, mv = some v ∧ Rr E e v) {v : RV} (h : sub3R P t x lo hi mx = some v) : ∃ y, (Instr.sliceAt t u lv hv mv).run P w = .ok y w ∧ Rr E v y := by
  have inv : ∀ {o : RV} {l : Nat}, bdR (some o) 0 = some l → ∀ {v : Value}, Rr E o v → ∃ k i, v = .int k i ∧ 0 ≤ i ∧ i.toNat = l := fun {o l} hb {v} hr => by
    cases o <;> simp only [bdR] at hb <;> try cases hb
    obtain ⟨h1, rfl⟩ := bif_some hb
    cases hr
    exact ⟨_, _, rfl, of_decide_eq_true h1, rfl⟩
  unfold sub3R at h
  split at h <;> try cases h
  rename_i z' l hi0 hh mx0 m hel e1 e2 e3
  have hbl := bdR_ok e1 hlo hlo'
  obtain ⟨vh, rfl, rh⟩ := hhi _ rfl
  obtain ⟨vm, rfl, rm⟩ := hmx _ rfl
  obtain ⟨kh, ih, rfl, ph⟩ := inv e2 rh
  obtain ⟨km, im, rfl, pm⟩ := inv e3 rm
  have key : ∀ (b : Option Addr) (len c : Nat), l ≤ hh → hh ≤ m → m ≤ c →
      (Instr.sliceAt t (.slice b len c) lv (some (.int kh ih)) (some (.int km im))).run P w = .ok (.slice (if m = l then b else b.map (·.add (l * z'))) (hh - l) (m - l)) w := fun b len c h1 h2 h3 => by
    unfold elOf at hel
    split at hel <;> simp at hel
    rename_i e hu'
    obtain ⟨i, hi, hz⟩ := hel
    simp [Instr.sliceAt, Instr.slice, run_underlying hu', run_bounds3 (P := P) (w := w) (n := len) hbl ph pm h1 h2 h3, run_sizeOf w hi, Program.cellsOf, hi, hz]
  split at h <;> try cases h
  · rename_i b off len z cap full
    obtain ⟨h1, h2⟩ := bif_opt h
    simp only [Bool.and_eq_true, decide_eq_true_eq] at h1
    obtain ⟨⟨⟨rfl, q1⟩, q2⟩, q3⟩ := h1
    cases hx with
    | sl _ _ _ _ _ _ g s c hE hl hm hs' hf hc =>
      have hmc : m ≤ c := by
        rw [Bool.or_eq_true] at q3
        rcases q3 with q | q
        · have := of_decide_eq_true q; omega
        · cases cap with
          | none => cases q
          | some c' => have := of_decide_eq_true q; have := hc c' rfl; omega
      refine ⟨_, key _ len c q1 q2 hmc, ?_⟩
      have hmul : l * z' + (m - l) * z' = m * z' := by rw [← Nat.add_mul]; congr 1; omega
      have hmul2 : m * z' ≤ c * z' := Nat.mul_le_mul_right _ hmc
      cases hd : decide (l < m) || decide (l = 0) with
      | true =>
        rw [hd] at h2
        cases h2
        have he : (if m = l then some (⟨g, off, none⟩ : Addr) else (some (⟨g, off, none⟩ : Addr)).map (·.add (l * z'))) = some ⟨g, off + l * z', none⟩ := by
          rw [Bool.or_eq_true, decide_eq_true_eq, decide_eq_true_eq] at hd
          split
          · have : l = 0 := by omega
            subst this; simp
          · simp [Addr.add_lit]
        rw [he]
        exact .sl b _ _ z' (some (m - l)) false g s (m - l) hE (by omega) (by omega) (by omega) (fun h => by cases h) (fun k hk => by cases hk; rfl)
      | false =>
        rw [hd] at h2
        cases h2
        rw [Bool.or_eq_false_iff, decide_eq_false_iff_not, decide_eq_false_iff_not] at hd
        rw [show hh - l = 0 by omega]
        exact .em _ _
  · obtain ⟨h1, rfl⟩ := bif_some h
    simp only [Bool.and_eq_true, decide_eq_true_eq] at h1
    obtain ⟨⟨rfl, rfl⟩, rfl⟩ := h1
    cases hx
    exact ⟨_, key none 0 0 (Nat.le_refl _) (Nat.le_refl _) (Nat.le_refl _), by simpa using Rr.nils⟩
  · obtain ⟨h1, rfl⟩ := bif_some h
    simp only [Bool.and_eq_true, decide_eq_true_eq] at h1
    obtain ⟨⟨rfl, rfl⟩, rfl⟩ := h1
    cases hx with
    | em b c => exact ⟨_, key b 0 c (Nat.le_refl _) (Nat.le_refl _) (Nat.zero_le _), .em _ _⟩

def lenR (P : Program) (h : Hp) (t : TypeId) (x : RV) : Option RV :=
  match x with
  | .str s => bif tk P t == 1 then some (.int .i64 s.size) else none
  | .sl _ _ n _ _ _ => bif tk P t == 2 then some (.int .i64 n) else none
  | .nils => bif tk P t == 2 then some (.int .i64 0) else none
  | .em => bif tk P t == 2 then some (.int .i64 0) else none
  | _ => none
theorem run_lenR {t ty : TypeId} {x : RV} {u : Value} (hx : Rr E x u) {v : RV} (hl : lenR P h t x = some v) : ∃ y, (Builtin.len_ #[t] ty #[u]).run P w = .ok y w ∧ Rr E v y := by
  unfold lenR at hl
  split at hl <;> try cases hl
  all_goals
    obtain ⟨h1, rfl⟩ := bif_some hl
    have h1 := eq_of_beq h1
  · cases hx; exact ⟨_, by simp [Builtin.len_, run_underlying (tk_string h1)]; rfl, .int _ _⟩
  · obtain ⟨e, he⟩ := tk_slice h1
    cases hx; exact ⟨_, by simp [Builtin.len_, run_underlying he]; rfl, .int _ _⟩
  · obtain ⟨e, he⟩ := tk_slice h1
    cases hx; exact ⟨_, by simp [Builtin.len_, run_underlying he]; rfl, .int _ _⟩
  · obtain ⟨e, he⟩ := tk_slice h1
    cases hx; exact ⟨_, by simp [Builtin.len_, run_underlying he]; rfl, .int _ _⟩

def capR (P : Program) (t : TypeId) (x : RV) : Option RV :=
  match x with
  | .sl _ _ _ _ (some c) _ => bif tk P t == 2 then some (.int .i64 c) else none
  | .nils => bif tk P t == 2 then some (.int .i64 0) else none
  | _ => none
theorem run_capR {t ty : TypeId} {x : RV} {u : Value} (hx : Rr E x u) {v : RV} (hl : capR P t x = some v) : ∃ y, (Builtin.cap_ #[t] ty #[u]).run P w = .ok y w ∧ Rr E v y := by
  unfold capR at hl
  split at hl <;> try cases hl
  all_goals
    obtain ⟨h1, rfl⟩ := bif_some hl
    have h1 := eq_of_beq h1
    obtain ⟨e, he⟩ := tk_slice h1
  · cases hx with
    | sl _ _ _ _ _ _ g s c hE hl hm hs hf hc =>
      obtain rfl := hc _ rfl
      exact ⟨_, by simp [Builtin.cap_, run_underlying he]; rfl, .int _ _⟩
  · cases hx; exact ⟨_, by simp [Builtin.cap_, run_underlying he]; rfl, .int _ _⟩

/-! ## Maps -/

def keyV1 : RV → Option Value
  | .bool b => some (.bool b)
  | .int k n => some (.int k n)
  | .str s => some (.string s)
  | _ => none
def keyL : List RV → Option (List Value)
  | [] => some []
  | c :: cs => (match keyV1 c, keyL cs with
    | some a, some l => some (a :: l)
    | _, _ => none)
def keyV : RV → Option Value
  | .agg cs => (match keyL cs with
    | some l => some (.agg l.toArray)
    | none => none)
  | v => keyV1 v
theorem keyV1_ok {d : RV} {x v : Value} (h : keyV1 d = some v) (hr : Rr E d x) : x = v := by
  cases d <;> cases h <;> cases hr <;> rfl
theorem keyL_ok : ∀ {cs : List RV} {l vs : List Value}, keyL cs = some l → cs.length = vs.length → (∀ (j : Nat) (d : RV) (u : Value), cs[j]? = some d → vs[j]? = some u → Rr E d u) → vs = l
  | [], l, vs, h, hl, hr => by cases h; exact List.eq_nil_of_length_eq_zero hl.symm
  | c :: cs, l, [], h, hl, hr => by simp at hl
  | c :: cs, l, v :: vs, h, hl, hr => by
    unfold keyL at h
    split at h <;> cases h
    rename_i a l' h1 h2
    have e2 := keyL_ok (vs := vs) h2 (by simpa using hl) fun j d u hd hu => hr (j + 1) d u (by simpa using hd) (by simpa using hu)
    rw [keyV1_ok h1 (hr 0 c v rfl rfl), e2]
theorem keyV_ok {d : RV} {x v : Value} (h : keyV d = some v) (hr : Rr E d x) : x = v := by
  unfold keyV at h
  split at h
  · split at h <;> cases h
    rename_i cs l hl
    cases hr with
    | agg _ vs hl2 hone hrel =>
      have := keyL_ok (E := E) (vs := vs.toList) hl (by simpa using hl2) fun j d u hd hu => hrel j d u hd (by simpa using hu)
      congr 1
      apply Array.ext'
      simpa using this
  · exact keyV1_ok h hr

def entR (h : Hp) : RV → Option (List (Value × RV × Nat))
  | .nilm => some []
  | .mp b => (match h b with
    | some (.map es _) => some es
    | _ => none)
  | _ => none
def zvR : Value → Option RV
  | .agg cs => bif cs.toList.all (·.oneCell') then some (.agg (cs.toList.map cv1)) else none
  | v => some (cv1 v)
theorem zvR_ok (E : Emb) {z : Value} {d : RV} (h : zvR z = some d) : Rr E d z := by
  unfold zvR at h
  split at h
  · rename_i cs
    obtain ⟨h1, rfl⟩ := bif_some h
    refine .agg _ _ (by simp) (fun u hu => List.all_eq_true.1 h1 u hu) fun j d u hd hu => ?_
    rw [List.getElem?_map, Array.getElem?_toList, hu] at hd
    cases hd
    exact cv1_ok E u
  · cases h; exact cv1_ok E z

def lookR (P : Program) (h : Hp) (t : TypeId) (x k : RV) (ok : Bool) : Option RV :=
  match P.underlying t with
  | some (.map kt e) => (match entR h x, keyV k with
    | some es, some kv => (match findR P kt kv es with
      | some (some (_, d, _)) => some (bif ok then .tup [d, .bool true] else d)
      | some none => (match P.info? e with
        | some i => (match i.zero with
          | some z => (match zvR z with
            | some d => some (bif ok then .tup [d, .bool false] else d)
            | none => none)
          | none => none)
        | none => none)
      | none => none)
    | _, _ => none)
  | _ => none

theorem run_lookR (hs : HS E h n m w) {t : TypeId} {x k : RV} {ok : Bool} {u q : Value} (hx : Rr E x u) (hk : Rr E k q) {v : RV} (hl : lookR P h t x k ok = some v) : ∃ y, (Instr.lookup t u q ok).run P w = .ok y w ∧ Rr E v y := by
  unfold lookR at hl
  split at hl <;> try cases hl
  rename_i kt e hu
  split at hl <;> try cases hl
  rename_i es kv hent hkv
  obtain rfl := keyV_ok hkv hk
  -- the map's entries
  obtain ⟨vs, hvs, hget⟩ : ∃ vs : List MapEntry, ER E es vs ∧ ((u = .map none ∧ vs = []) ∨ ∃ r cl, u = .map (some r) ∧ w.heap[r]? = some (.map vs.toArray cl)) := by
    unfold entR at hent
    split at hent <;> try cases hent
    · cases hx; exact ⟨[], ⟨rfl, fun j e m he => by simp at he⟩, .inl ⟨rfl, rfl⟩⟩
    · split at hent <;> cases hent
      rename_i b es' cl hb
      cases hx with
      | mp _ g s hE =>
        obtain ⟨g2, s2, hE2, vs, h1, h2, h3⟩ := hs.blk b _ hb
        rw [hE] at hE2; cases hE2
        exact ⟨vs, ⟨h2, h3⟩, .inr ⟨_, _, rfl, h1⟩⟩
  have pairOk : ∀ {d : RV} {y : Value} {b : Bool}, Rr E d y → Rr E (bif ok then .tup [d, .bool b] else d) (if ok then .tuple #[y, .bool b] else y) := fun {d y b} hd => by
    cases ok with
    | false => exact hd
    | true =>
      refine .tup _ _ rfl fun j d' u' h1 h2 => ?_
      rcases j with _ | _ | j
      · simp at h1 h2; subst h1; subst h2; exact hd
      · simp at h1 h2; subst h1; subst h2; exact .bool _
      · simp at h1
  split at hl
  · rename_i j d c hf
    cases hl
    obtain ⟨c1, c2, mm, c3, c4, c5, c6, c7⟩ := findR_ok hf hvs w
    refine ⟨_, ?_, pairOk c6⟩
    rcases hget with ⟨rfl, rfl⟩ | ⟨r, cl, rfl, hg⟩
    · simp at c4
    · simp [Instr.lookup, run_underlying hu, MapKept.run_getObj_map hg, c1, c3]
  · rename_i hf
    split at hl <;> try cases hl
    rename_i i hi
    split at hl <;> try cases hl
    rename_i z hz
    split at hl <;> try cases hl
    rename_i d hd
    obtain ⟨c1, c2, c3⟩ := findR_ok hf hvs w
    refine ⟨_, ?_, pairOk (zvR_ok E hd)⟩
    rcases hget with ⟨rfl, rfl⟩ | ⟨r, cl, rfl, hg⟩
    · simp [Instr.lookup, run_underlying hu, c1, c3, zeroValue, typeInfo, hi, hz]
    · simp [Instr.lookup, run_underlying hu, MapKept.run_getObj_map hg, c1, c3, zeroValue, typeInfo, hi, hz]
  · cases hl

def mlenR (P : Program) (h : Hp) (t : TypeId) (x : RV) : Option RV :=
  match P.underlying t with
  | some (.map _ _) => (match entR h x with
    | some es => some (.int .i64 es.length)
    | none => none)
  | _ => none
theorem run_mlenR (hs : HS E h n m w) {t ty : TypeId} {x : RV} {u : Value} (hx : Rr E x u) {v : RV} (hl : mlenR P h t x = some v) : ∃ y, (Builtin.len_ #[t] ty #[u]).run P w = .ok y w ∧ Rr E v y := by
  unfold mlenR at hl
  split at hl <;> try cases hl
  rename_i kt e hu
  split at hl <;> cases hl
  rename_i es hent
  unfold entR at hent
  split at hent <;> try cases hent
  · cases hx; exact ⟨_, by simp [Builtin.len_, run_underlying hu]; rfl, .int _ _⟩
  · split at hent <;> cases hent
    rename_i b _ cl hb
    cases hx with
    | mp _ g s hE =>
      obtain ⟨g2, s2, hE2, vs, h1, h2, h3⟩ := hs.blk b _ hb
      rw [hE] at hE2; cases hE2
      exact ⟨goInt vs.length, by simp [Builtin.len_, run_underlying hu, MapKept.run_getObj_map h1], by rw [h2]; exact .int _ _⟩

/-! ## The operations that make no memory -/

def gW (want : Bool) : RV → Option Bool
  | .bool b => some (b == want)
  | .nov => some false
  | _ => none

def puR (P : Program) (t : Tr RV) (h : Hp) (op : Op) : Option RV :=
  match op with
  | .move x => some (evR t x)
  | .assign x => some (evR t x)
  | .pick c x y => (match evR t c with
    | .bool b => some (bif b then evR t x else evR t y)
    | _ => none)
  | .load ty x => loadR P h ty (evR t x)
  | .nilCheck x => (match evR t x with
    | .ptr b o => some (.ptr b o)
    | .gp b o => some (.gp b o)
    | .yl b => some (.yl b)
    | .fn f a b => some (.fn f a b)
    | _ => none)
  | .binOp op ty x y _ => (match binR P ty op (evR t x) (evR t y) with
    | some v => some v
    | none => nilR P ty op (evR t x) (evR t y))
  | .unOp op _ x => (match op, evR t x with
    | .not, .bool b => some (.bool !b)
    | .neg, .int k n => some (.int k (k.wrap (0 - n)))
    | _, _ => none)
  | .convert s ty x => (match ikOf P ty, evR t x with
    | some k, .int _ n => bif (P.underlying s).isSome then some (.int k (k.wrap n)) else none
    | _, _ => none)
  | .fieldAddr s x f => fldR P s f (evR t x)
  | .indexAddr ty x i => idxR P ty (evR t x) (evR t i)
  | .index ty x i => atR P ty (evR t x) (evR t i)
  | .slice ty x lo hi none => (match subA P h ty (evR t x) (lo.map (evR t)) (hi.map (evR t)) with
    | some v => some v
    | none => subR P ty (evR t x) (lo.map (evR t)) (hi.map (evR t)))
  | .slice ty x lo hi (some mx) => sub3R P ty (evR t x) (lo.map (evR t)) (hi.map (evR t)) (some (evR t mx))
  | .lookup ty x k ok => lookR P h ty (evR t x) (evR t k) ok
  | .extract x i => (match evR t x with
    | .tup cs => cs[i]?
    | _ => none)
  | .makeFunc (.func f) first captured => some (.fn f (first.toList.map (evR t)) (captured.toList.map (evR t)))
  | .call ⟨.builtin b, args, ts⟩ => (match b, args.toList, ts.toList with
    | .len, [x], [ty] => (match lenR P h ty (evR t x) with
      | some v => some v
      | none => mlenR P h ty (evR t x))
    | .cap, [x], [ty] => capR P ty (evR t x)
    | .max, [x, y], _ => (match evR t x, evR t y with
      | .int k p, .int k' q => bif decide (k = k') then some (.int k (if q > p then q else p)) else none
      | _, _ => none)
    | .min, [x, y], _ => (match evR t x, evR t y with
      | .int k p, .int k' q => bif decide (k = k') then some (.int k (if q < p then q else p)) else none
      | _, _ => none)
    | _, _, _ => none)
  | _ => none

/-- The operands' values. -/
def OpdOk (E : Emb) (t : Tr RV) (a : Act) (o : Oper) : Prop := ∀ x ∈ o.op.operands, Rr E (evR t x) (a.eval x)
theorem SS.opds (hs : SS nt E t a) {o : Oper} (hok : opsOk nt o = true) : OpdOk E t a o := fun x hx => hs.opd x (opsOk_mem hok hx)

theorem puR_ok (hh : HS E h n m w) (o : Oper) (hop : OpdOk E t a o) {v : RV} (hv : puR P t h o.op = some v) :
    ∃ y, (execOp a.eval o).run P w = .ok (.value y) w ∧ Rr E v y := by
  unfold OpdOk at hop
  cases ho : o.op with
  | move x =>
    rw [ho] at hv hop
    cases hv
    exact ⟨a.eval x, by simp [execOp, ho], hop x (by simp [Op.operands])⟩
  | assign x =>
    rw [ho] at hv hop
    cases hv
    exact ⟨a.eval x, by simp [execOp, ho], hop x (by simp [Op.operands])⟩
  | pick c x y =>
    rw [ho] at hv hop
    have hc := hop c (by simp [Op.operands])
    have hx := hop x (by simp [Op.operands])
    have hy := hop y (by simp [Op.operands])
    simp only [puR] at hv
    split at hv <;> try cases hv
    rename_i b hb
    rw [hb] at hc
    generalize hq : a.eval c = q at hc
    cases hc
    cases b with
    | true => exact ⟨a.eval x, by simp [execOp, ho, hq, asBool], hx⟩
    | false => exact ⟨a.eval y, by simp [execOp, ho, hq, asBool], hy⟩
  | load ty x =>
    rw [ho] at hv hop
    obtain ⟨y, h1, h2⟩ := run_loadR hh (hop x (by simp [Op.operands])) hv
    exact ⟨y, by simp [execOp, ho, h1], h2⟩
  | nilCheck x =>
    rw [ho] at hv hop
    have hx := hop x (by simp [Op.operands])
    simp only [puR] at hv
    unfold execOp
    simp only [ho]
    generalize a.eval x = u at *
    split at hv <;> try cases hv
    · rename_i b off hb
      rw [hb] at hx
      cases hx with
      | ptr _ _ g s hE => exact ⟨_, by simp, .ptr _ _ g s hE⟩
    · rename_i b off hb
      rw [hb] at hx
      cases hx with
      | gp _ _ => exact ⟨_, by simp, .gp _ _⟩
    · rename_i b hb
      rw [hb] at hx
      cases hx with
      | yl _ g s hE => exact ⟨_, by simp, .yl _ g s hE⟩
    · rename_i f fs cs hb
      rw [hb] at hx
      cases hx with
      | fn _ _ _ us vs hf hc hfr hcr => exact ⟨_, by simp, .fn _ _ _ us vs hf hc hfr hcr⟩
  | binOp op ty x y t' =>
    rw [ho] at hv hop
    simp only [puR] at hv
    cases hbr : binR P ty op (evR t x) (evR t y) with
    | none =>
      rw [hbr] at hv
      obtain ⟨r, h3, h4⟩ := run_nilR (P := P) (w := w) (hop x (by simp [Op.operands])) (hop y (by simp [Op.operands])) hv x y
      exact ⟨r, by simp only [execOp, ho, Sem.run_bind] at h3 ⊢; rw [h3]; rfl, h4⟩
    | some v' =>
    rw [hbr] at hv
    obtain rfl : v' = v := Option.some.inj hv
    obtain ⟨h1, h2⟩ := binR_ok hbr
    obtain ⟨r, h3, h4⟩ := run_binP (P := P) (w := w) (I := noI) (A := noOwn) op ty x y (hop x (by simp [Op.operands])).toD (hop y (by simp [Op.operands])).toD h1
    exact ⟨r, by simp only [execOp, ho, Sem.run_bind] at h3 ⊢; rw [h3]; rfl, ofD_ok h2 h4⟩
  | unOp op ty x =>
    rw [ho] at hv hop
    have hx := hop x (by simp [Op.operands])
    simp only [puR] at hv
    split at hv <;> try cases hv
    · rename_i b hb
      rw [hb] at hx
      generalize hq : a.eval x = q at hx
      cases hx
      exact ⟨_, by simp [execOp, ho, hq, Op.unary], .bool _⟩
    · rename_i k n hb
      rw [hb] at hx
      generalize hq : a.eval x = q at hx
      cases hx
      exact ⟨_, by simp [execOp, ho, hq, Op.unary, Op.intArith], .int _ _⟩
  | convert s ty x =>
    rw [ho] at hv hop
    have hx := hop x (by simp [Op.operands])
    simp only [puR] at hv
    split at hv <;> try cases hv
    rename_i k k' n hk hb
    obtain ⟨h1, rfl⟩ := bif_some hv
    rw [hb] at hx
    obtain ⟨r, h3, h4⟩ := run_convP (P := P) (w := w) (I := noI) (A := noOwn) (s := s) (t := ty) (d := .v (.int k' n)) (u := a.eval x) h1 (hx.toD (w := w)) (by rw [hk]; exact trivial)
    rw [hk] at h4
    exact ⟨r, by simp [execOp, ho, h3], ofD_ok (d := .v (.int k (k.wrap n))) rfl h4⟩
  | fieldAddr s x f =>
    rw [ho] at hv hop
    obtain ⟨y, h1, h2⟩ := run_fldR (w := w) (hop x (by simp [Op.operands])) hv
    exact ⟨y, by simp [execOp, ho, h1], h2⟩
  | indexAddr ty x i =>
    rw [ho] at hv hop
    obtain ⟨y, h1, h2⟩ := run_idxR (w := w) (hop x (by simp [Op.operands])) (hop i (by simp [Op.operands])) hv
    exact ⟨y, by simp [execOp, ho, h1], h2⟩
  | index ty x i =>
    rw [ho] at hv hop
    obtain ⟨y, h1, h2⟩ := run_atR (w := w) (hop x (by simp [Op.operands])) (hop i (by simp [Op.operands])) hv
    exact ⟨y, by simp [execOp, ho, h1], h2⟩
  | slice ty x lo hi mx =>
    rw [ho] at hv hop
    cases mx with
    | some m =>
      obtain ⟨y, h1, h2⟩ := run_sub3R (P := P) (w := w) (t := ty) (lo := lo.map (evR t)) (hi := hi.map (evR t)) (mx := some (evR t m)) (lv := lo.map a.eval) (hv := hi.map a.eval) (mv := some (a.eval m)) (hop x (by simp [Op.operands]))
        (fun e he => by
          obtain ⟨y, hy, rfl⟩ := Option.map_eq_some_iff.1 he
          exact ⟨_, by rw [hy]; rfl, hop y (by simp [Op.operands, hy])⟩)
        (fun he => by simpa using he)
        (fun e he => by
          obtain ⟨y, hy, rfl⟩ := Option.map_eq_some_iff.1 he
          exact ⟨_, by rw [hy]; rfl, hop y (by simp [Op.operands, hy])⟩)
        (fun e he => by cases he; exact ⟨_, rfl, hop m (by simp [Op.operands])⟩) hv
      exact ⟨y, by simp [execOp, ho, h1], h2⟩
    | none =>
      simp only [puR] at hv
      split at hv
      · rename_i v' hsa
        cases hv
        obtain ⟨y, h1, h2⟩ := run_subA (P := P) (w := w) hh (t := ty) (lo := lo.map (evR t)) (hi := hi.map (evR t)) (lv := lo.map a.eval) (hv := hi.map a.eval) (hop x (by simp [Op.operands]))
          (fun e he => by
            obtain ⟨y, hy, rfl⟩ := Option.map_eq_some_iff.1 he
            exact ⟨_, by rw [hy]; rfl, hop y (by simp [Op.operands, hy])⟩)
          (fun he => by simpa using he)
          (fun e he => by
            obtain ⟨y, hy, rfl⟩ := Option.map_eq_some_iff.1 he
            exact ⟨_, by rw [hy]; rfl, hop y (by simp [Op.operands, hy])⟩)
          (fun he => by simpa using he) hsa
        exact ⟨y, by simp [execOp, ho, h1], h2⟩
      obtain ⟨y, h1, h2⟩ := run_subR (P := P) (w := w) (t := ty) (lo := lo.map (evR t)) (hi := hi.map (evR t)) (lv := lo.map a.eval) (hv := hi.map a.eval) (hop x (by simp [Op.operands]))
        (fun e he => by
          obtain ⟨y, hy, rfl⟩ := Option.map_eq_some_iff.1 he
          exact ⟨_, by rw [hy]; rfl, hop y (by simp [Op.operands, hy])⟩)
        (fun he => by simpa using he)
        (fun e he => by
          obtain ⟨y, hy, rfl⟩ := Option.map_eq_some_iff.1 he
          exact ⟨_, by rw [hy]; rfl, hop y (by simp [Op.operands, hy])⟩)
        (fun he => by simpa using he) hv
      exact ⟨y, by simp [execOp, ho, h1], h2⟩
  | lookup ty x k ok =>
    rw [ho] at hv hop
    obtain ⟨y, h1, h2⟩ := run_lookR hh (hop x (by simp [Op.operands])) (hop k (by simp [Op.operands])) hv
    exact ⟨y, by simp [execOp, ho, h1], h2⟩
  | extract x i =>
    rw [ho] at hv hop
    have hx := hop x (by simp [Op.operands])
    simp only [puR] at hv
    split at hv <;> try cases hv
    rename_i cs hb
    rw [hb] at hx
    generalize hq : a.eval x = q at hx
    cases hx with
    | tup _ vs hl hrel =>
      have hi : i < cs.length := by
        rcases Nat.lt_or_ge i cs.length with h | h
        · exact h
        · rw [List.getElem?_eq_none h] at hv; cases hv
      have hvs : vs[i]? = some (vs[i]'(by omega)) := Array.getElem?_eq_getElem (by omega)
      exact ⟨vs[i]'(by omega), by simp [execOp, ho, hq, Instr.extract, hvs], hrel i _ _ hv hvs⟩
  | makeFunc fn first captured =>
    rw [ho] at hv hop
    cases fn with
    | func f =>
      cases hv
      refine ⟨.func (.func f) (first.map a.eval) (captured.map a.eval), by simp [execOp, ho, Instr.makeFunc], ?_⟩
      refine .fn f _ _ _ _ (by simp) (by simp) (fun j d u hd hu => ?_) fun j d u hd hu => ?_
      · simp only [List.getElem?_map, Option.map_eq_some_iff, Array.getElem?_toList, Array.getElem?_map] at hd hu
        obtain ⟨x, hx, rfl⟩ := hd
        rw [hx] at hu
        simp at hu
        subst hu
        exact hop x (by simp [Op.operands]; exact .inl (Array.mem_of_getElem? hx))
      · simp only [List.getElem?_map, Option.map_eq_some_iff, Array.getElem?_toList, Array.getElem?_map] at hd hu
        obtain ⟨x, hx, rfl⟩ := hd
        rw [hx] at hu
        simp at hu
        subst hu
        exact hop x (by simp [Op.operands]; exact .inr (Array.mem_of_getElem? hx))
    | _ => cases hv
  | call c =>
    rw [ho] at hv hop
    obtain ⟨callee, args, ts⟩ := c
    cases callee with
    | builtin b =>
      simp only [puR] at hv
      split at hv
      · rename_i x ty hargs hts
        obtain rfl : args = #[x] := by apply Array.ext'; simpa using hargs
        obtain rfl : ts = #[ty] := by apply Array.ext'; simpa using hts
        split at hv
        · rename_i v' hv'
          cases hv
          obtain ⟨r, h1, h2⟩ := run_lenR (P := P) (w := w) (t := ty) (ty := o.type) (hop x (by simp [Op.operands, Call.operands])) hv'
          exact ⟨r, by simp [execOp, ho, resolve, invoke, builtin, h1], h2⟩
        · obtain ⟨r, h1, h2⟩ := run_mlenR (ty := o.type) hh (hop x (by simp [Op.operands, Call.operands])) hv
          exact ⟨r, by simp [execOp, ho, resolve, invoke, builtin, h1], h2⟩
      · rename_i x ty hargs hts
        obtain rfl : args = #[x] := by apply Array.ext'; simpa using hargs
        obtain rfl : ts = #[ty] := by apply Array.ext'; simpa using hts
        obtain ⟨r, h1, h2⟩ := run_capR (P := P) (w := w) (t := ty) (ty := o.type) (hop x (by simp [Op.operands, Call.operands])) hv
        exact ⟨r, by simp [execOp, ho, resolve, invoke, builtin, h1], h2⟩
      · rename_i x y hargs
        obtain rfl : args = #[x, y] := by apply Array.ext'; simpa using hargs
        have hx := hop x (by simp [Op.operands, Call.operands])
        have hy := hop y (by simp [Op.operands, Call.operands])
        split at hv <;> try cases hv
        rename_i k p k' q e1 e2
        obtain ⟨h1, rfl⟩ := bif_some hv
        rw [e1] at hx
        rw [e2] at hy
        obtain ⟨r, h2, h3⟩ := run_maxI (P := P) (w := w) (I := noI) (A := noOwn) (ts := ts) (t := o.type) (d := .v (.int k p)) (e := .v (.int k' q)) (hx.toD (w := w)) (hy.toD (w := w)) (show k = k' from of_decide_eq_true h1)
        exact ⟨r, by simp [execOp, ho, resolve, invoke, builtin, h2], ofD_ok (d := .v (.int k (if q > p then q else p))) rfl h3⟩
      · rename_i x y hargs
        obtain rfl : args = #[x, y] := by apply Array.ext'; simpa using hargs
        have hx := hop x (by simp [Op.operands, Call.operands])
        have hy := hop y (by simp [Op.operands, Call.operands])
        split at hv <;> try cases hv
        rename_i k p k' q e1 e2
        obtain ⟨h1, rfl⟩ := bif_some hv
        rw [e1] at hx
        rw [e2] at hy
        obtain ⟨r, h2, h3⟩ := run_minI (P := P) (w := w) (I := noI) (A := noOwn) (ts := ts) (t := o.type) (d := .v (.int k p)) (e := .v (.int k' q)) (hx.toD (w := w)) (hy.toD (w := w)) (show k = k' from of_decide_eq_true h1)
        exact ⟨r, by simp [execOp, ho, resolve, invoke, builtin, h2], ofD_ok (d := .v (.int k (if q < p then q else p))) rfl h3⟩
      · cases hv
    | _ => cases hv
  | _ => rw [ho] at hv; cases hv
end
end Go.Rv
