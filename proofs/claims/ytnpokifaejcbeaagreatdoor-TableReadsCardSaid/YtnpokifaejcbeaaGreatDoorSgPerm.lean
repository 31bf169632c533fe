/- Regions walked in an order that is given, some operations flagged to be taken as effects: literals that become rows of the call's own. -/
import Derived.Test.YtnpokifaejcbeaaGreatDoorSgFix
set_option linter.unusedVariables false
set_option linter.unusedSimpArgs false
namespace Go.Sg
open Go.RowKit

/-- Taken as no more than a value. -/
def pur (fl : List Nat) (i : Nat) (o : Oper) : Bool := (pureOp o.op && o.dst.isSome) && !fl.contains i
theorem pur_spec {fl : List Nat} {i : Nat} {o : Oper} (h : pur fl i o = true) : pureOp o.op = true ∧ o.dst.isSome = true := by
  unfold pur at h; simp only [Bool.and_eq_true] at h; exact h.1

section
variable {P : Program} {nt : Nat} {ρ : Env} {ops : Array Oper}

/-- A literal as a row of the call's own. -/
theorem ow_litR {o : Oper} {K : Env → Prop} {t : TypeId} {n : Nat} {parts : Array (Nat × Operand)} {d : Nat} {e : TypeId} {z by_ : Nat} {zs : List Value} (hop : o.op = .buildSlice t n parts) (hg : o.guard = none) (hdst : o.dst = some d) (hd : d < nt)
    (ho : opsOk nt o = true) (hs : slE P t = some (e, z, by_)) (hz : zcOf P e = some zs) (hz0 : 0 < z) (hn0 : 0 < n) (hn : n * z ≤ 16777216) (hl : parts.toList.length = n) (hp : bsOk ρ z 0 parts.toList)
    (hK : K (set (kill d ρ) d (.row e z (bsL ρ parts.toList)))) : OW P nt ops o K ρ := by
  obtain ⟨hu, i, hi, rfl, rfl⟩ := slE_spec hs
  obtain ⟨i', zv, hi', hzv, rfl, _⟩ := zcOf_spec hz
  rw [hi] at hi'
  cases hi'
  refine ow_val hg fun I A a w hsim => ?_
  have hpart : ∀ (j : Nat) (p : Nat × Operand), parts.toList[j]? = some p → p.1 = j ∧ (a.eval p.2).cells.size = i.size ∧ (∀ u ∈ (a.eval p.2).cells.toList, u.oneCell' = true) ∧
      ∀ (r : Nat) (x : DV) (u : Value), (cellsD (un (ev ρ p.2)))[r]? = some x → (a.eval p.2).cells[r]? = some u → Rel w I noOwn x u := fun j p hj => by
    obtain ⟨h1, h2, h3, h4⟩ := bsOk_get hp j p hj
    have hx := hsim.opd p.2 (opsOk_mem ho (by
      simp only [hop, Op.operands]
      simp
      exact ⟨p.1, by have := List.mem_of_getElem? hj; simpa using this⟩)) h2
    obtain ⟨k1, k2, k3⟩ := cells_ok hx (.inl (by omega))
    exact ⟨by omega, by omega, k2, fun r x u hx hu => (k3 r x u hx hu).pure (allKL_get h4 hx)⟩
  let vparts : List (Nat × Value) := parts.toList.map fun p => (p.1, a.eval p.2)
  have hv : ∀ (j k : Nat) (v : Value), vparts[j]? = some (k, v) → ∃ p, parts.toList[j]? = some p ∧ p.1 = k ∧ a.eval p.2 = v := fun j k v h => by
    simp only [vparts, List.getElem?_map, Option.map_eq_some_iff] at h
    obtain ⟨p, hp, he⟩ := h
    simp at he
    exact ⟨p, hp, he.1, he.2⟩
  obtain ⟨zero, hzero⟩ : ∃ zero : Array Value, zero = (Array.range (n * i.size)).map (zv.cells[· % zv.cells.size]!) := ⟨_, rfl⟩
  have hzsz : zero.size = n * i.size := by simp [hzero]
  obtain ⟨out, o1, o2, o3⟩ := fill_spec (fun k => some (k * i.size, i.size)) vparts zero (fun j k v h => by
    obtain ⟨p, hpj, rfl, rfl⟩ := hv j k v h
    obtain ⟨h1, h2, _⟩ := hpart j p hpj
    have hjn : j < n := by
      rw [← hl]
      rcases Nat.lt_or_ge j parts.toList.length with h | h
      · exact h
      · rw [List.getElem?_eq_none h] at hpj; cases hpj
    refine ⟨p.1 * i.size, by rw [h2], ?_⟩
    rw [hzsz, h2, h1]
    have : (j + 1) * i.size ≤ n * i.size := Nat.mul_le_mul_right _ hjn
    rw [Nat.succ_mul] at this
    exact this)
  rw [hzsz] at o2
  have hout : ∀ (j : Nat) (p : Nat × Operand) (r : Nat), parts.toList[j]? = some p → r < i.size → out[j * i.size + r]? = (a.eval p.2).cells[r]? := fun j p r hj hr => by
    obtain ⟨h1, h2, _⟩ := hpart j p hj
    have hvj : vparts[j]? = some (p.1, a.eval p.2) := by simp only [vparts, List.getElem?_map, hj]; rfl
    rcases o3 (j * i.size + r) with ⟨j', k, v, off, k1, k2, k3, k4, k5⟩ | ⟨k1, _⟩
    · obtain ⟨p', hp', rfl, rfl⟩ := hv j' k v k1
      obtain ⟨h1', h2', _⟩ := hpart j' p' hp'
      simp only [Option.some.injEq, Prod.mk.injEq] at k2
      obtain ⟨rfl, _⟩ := k2
      have e1 := mul_range (z := i.size) (i := p'.1) hz0 k3 (by omega)
      have e2 := mul_range (z := i.size) (i := j) (q := j * i.size + r) hz0 (by omega) (by omega)
      have : j' = j := by omega
      subst this
      rw [hj] at hp'
      cases hp'
      rw [k5, h1]
      congr 1
      omega
    · exact absurd ⟨by rw [h1]; omega, by rw [h1, h2]; omega⟩ (k1 j p.1 _ (p.1 * i.size) hvj (by rw [h2]))
  have hgetp : ∀ m, m < n → ∃ p, parts.toList[m]? = some p ∧ (bsL ρ parts.toList)[m]? = some (cellsD (un (ev ρ p.2))) := fun m hm => by
    have h1 : parts.toList[m]? = some (parts.toList[m]'(by omega)) := List.getElem?_eq_getElem (by omega)
    exact ⟨_, h1, by simp only [bsL, List.getElem?_map, h1]; rfl⟩
  have hbl : (bsL ρ parts.toList).length = n := by simp only [bsL, List.length_map]; exact hl
  obtain ⟨A', k1, k2⟩ := hsim.newRow hd (e := e) (z := i.size) (c := n) (xs := bsL ρ parts.toList) (us := out) o2 (by
      unfold maxLen
      have : n * 1 ≤ n * i.size := Nat.mul_le_mul_left _ hz0
      omega) (by rw [hbl]; exact Nat.le_refl _) (fun m x hx => by
    have hm : m < n := by
      rw [← hbl]
      rcases Nat.lt_or_ge m (bsL ρ parts.toList).length with h | h
      · exact h
      · rw [List.getElem?_eq_none h] at hx; cases hx
    obtain ⟨p, hp1, hp2⟩ := hgetp m hm
    rw [hp2] at hx
    cases hx
    obtain ⟨_, h2, h3, h4⟩ := hpart m p hp1
    refine ⟨(bsOk_get hp m p hp1).2.2.1, fun r dv u hdv hu => ?_⟩
    have hr : r < i.size := by
      rw [← (bsOk_get hp m p hp1).2.2.1]
      rcases Nat.lt_or_ge r (cellsD (un (ev ρ p.2))).length with h | h
      · exact h
      · rw [List.getElem?_eq_none h] at hdv; cases hdv
    rw [hout m p r hp1 hr] at hu
    exact ⟨h3 u (by simpa using Array.mem_of_getElem? hu), h4 r dv u hdv hu⟩)
  refine ⟨.slice (some ⟨w.heap.size, 0, none⟩) n n, _, I, A', _, ?_, ?_, k2, hK⟩
  · have hne : n * i.size ≠ 0 := by
      have := Nat.mul_pos hn0 hz0
      omega
    have hmap : (parts.map fun p => (p.1, a.eval p.2)).toList = vparts := by simp [vparts]
    have h24 : ¬ (n * i.size > 2 ^ 24) := by
      have : (2 : Nat) ^ 24 = 16777216 := by decide
      omega
    simp only [execOp, hop, Instr.buildSlice, Sem.run_bind, run_underlying hu, Result.andThen_ok, run_sizeOf w hi, Program.cellsOf, hi, Option.map_some, Option.getD_some, h24, if_false, hne, zeroValue, run_typeInfo w hi, hzv, Sem.run_pure, Sem.run_ite]
    simp only [hmap]
    rw [← hzero, o1]
    simp [newRow]
  · rw [hdst]
    rw [hbl] at k1
    exact k1


/-- A literal that becomes a row of the call's own. -/
def litR (P : Program) (ρ : Env) (d : Nat) (sl : Option (TypeId × Nat × Nat)) (n : Nat) (parts : List (Nat × Operand)) (K : Env → Prop) : Prop :=
  match sl with
  | some (e, z, _) => (zcOf P e).isSome = true ∧ 0 < z ∧ 0 < n ∧ n * z ≤ 16777216 ∧ parts.length = n ∧ bsOk ρ z 0 parts ∧ K (set (kill d ρ) d (.row e z (bsL ρ parts)))
  | none => False

/-- What a row that is settled becomes. -/
def SettleG (z : Nat) (xs : List (List DV)) (k : DV → Prop) (_ : Tg k) : Prop := ∃ v, RWk (frz z xs) v ∧ isPl v = true ∧ k v
theorem settle_of {z : Nat} {xs : List (List DV)} {k : DV → Prop} {t : Tg k} (v : DV) (h : RWk (frz z xs) v) (h2 : isPl v = true) (hk : k v) : SettleG z xs k t := ⟨v, h, h2, hk⟩
/-- A row that an operation leaves in slot d is settled at once. -/
def settleK (d : Nat) (K : Env → Prop) (ρ : Env) : Prop :=
  match ρ d with
  | .row _ z xs => SettleG z xs (fun v => K (set (kill d ρ) d v)) ⟨⟩
  | _ => False
theorem ow_settle {o : Oper} {d : Nat} {K : Env → Prop} (hd : d < 100000) (h : OW P nt ops o (settleK d K) ρ) : OW P nt ops o K ρ := by
  intro I A a w hs hdf next Q' hn
  refine h I A a w hs hdf next Q' fun I' A' a' w' ρ' q1 q2 q3 q4 => ?_
  unfold settleK at q4
  split at q4
  · rename_i e z xs hrow
    obtain ⟨v, hv, hp, hK⟩ := q4
    obtain ⟨I2, A2, r1, r2⟩ := q1.frz hd hrow
    refine hn I2 A2 a' w' _ ?_ q2 (q3.trans r2) hK
    refine ⟨⟨fun t => ?_, r1.osim.inj, r1.osim.sep, r1.osim.imm⟩, r1.size, r1.bound, fun i hi => ?_, fun t ht => ?_⟩
    · have := r1.osim.own t
      simp only [set_apply] at this ⊢
      split
      · exact OwnRel.ofPure (by cases v <;> first | rfl | cases hp)
      · rename_i e1; rw [if_neg e1] at this; exact this
    · have := r1.slot i hi
      simp only [set_apply] at this ⊢
      split
      · rename_i e1
        rw [if_pos e1] at this
        exact .ofRel (hv _ _ _ _ (this.rel rfl))
      · rename_i e1; rw [if_neg e1] at this; exact this
    · have := r1.out t ht
      simp only [set_apply] at this ⊢
      rw [if_neg (by omega)] at this ⊢
      exact this
  · exact q4.elim

/-- Effects under a flag: a literal becomes a row; what an append leaves is settled. -/
def effF (P : Program) (ρ : Env) (op : Op) (dst : Option Nat) (K : Env → Prop) : Prop :=
  match op, dst with
  | .buildSlice t (n + 1) parts, some d => litR P ρ d (slE P t) (n + 1) parts.toList K
  | .call ⟨.builtin .append, args, ts⟩, some d => effG P ρ (.call ⟨.builtin .append, args, ts⟩) (some d) (settleK d K)
  | op, dst => effG P ρ op dst K

theorem effF_ok (hnt : nt ≤ 100000) {o : Oper} {K : Env → Prop} (hg : o.guard = none) (ho : opsOk nt o = true) (hd : dstOk nt o = true) (h : effF P ρ o.op o.dst K) : OW P nt ops o K ρ := by
  unfold effF at h
  split at h
  · rename_i t n parts d hop hdst
    unfold litR at h
    split at h
    · rename_i e z by_ hs
      obtain ⟨q1, q2, q3, q4, q5, q6, q7⟩ := h
      obtain ⟨zs, hz⟩ := Option.isSome_iff_exists.1 q1
      have hdn : d < nt := by unfold dstOk at hd; rw [hdst] at hd; simpa using hd
      exact ow_litR hop hg hdst hdn ho hs hz q2 q3 q4 q5 q6 q7
    · exact h.elim
  · rename_i args ts d hop hdst
    have hdn : d < nt := by unfold dstOk at hd; rw [hdst] at hd; simpa using hd
    refine ow_settle (d := d) (by omega) (effG_ok hg ho hd ?_)
    rw [hop, hdst]
    exact h
  · exact effG_ok hg ho hd h

/-! ## Whatever order -/

/-- One operation comes up: of those that only give a value a value is named; the others by their own rule. -/
def sEF (P : Program) (nt : Nat) (fl : List Nat) (l : List Oper) (i : Nat) (K : Env → Prop) (ρ : Env) : Prop :=
  match l[i]? with
  | none => K ρ
  | some o => if pur fl i o then ∃ d, effP P l ρ o d ∧ K (putD ρ o.dst d) else OW P nt l.toArray o K ρ

theorem sE_monoF {fl : List Nat} {l : List Oper} {i : Nat} {K K' : Env → Prop} (h : ∀ ρ, K ρ → K' ρ) (hh : sEF P nt fl l i K ρ) : sEF P nt fl l i K' ρ := by
  unfold sEF at *
  split
  · rename_i hi; rw [hi] at hh; exact h _ hh
  · rename_i o hi
    rw [hi] at hh
    simp only at hh
    split
    · rename_i hp; rw [if_pos hp] at hh; obtain ⟨d, h1, h2⟩ := hh; exact ⟨d, h1, h _ h2⟩
    · rename_i hp; rw [if_neg hp] at hh; exact hh.mono h

def anyEF (P : Program) (nt : Nat) (fl : List Nat) (l : List Oper) (k : Env → Prop) : Nat → Array Bool → Env → Prop
  | 0, listed, ρ => Region.ready .any l.toArray listed = [] ∧ k ρ
  | fuel + 1, listed, ρ => (Region.ready .any l.toArray listed = [] → k ρ) ∧ ∀ i ∈ Region.ready .any l.toArray listed, sEF P nt fl l i (anyEF P nt fl l k fuel (listed.setIfInBounds i true)) ρ

theorem any_soundF {fl : List Nat} {l : List Oper} {k : Env → Prop} {Q' : Exit → Act → World → Prop} (hr : regOk nt l = true) : ∀ (fuel : Nat) (listed : Array Bool) (ρ : Env) (I : Nat → Prop) (A : Own) (a : Act) (w : World),
    anyEF P nt fl l k fuel listed ρ → Sim nt w I A ρ a → a.defers = [] →
    (∀ I' A' a' w' ρ', Sim nt w' I' A' ρ' a' → a'.defers = [] → Ext w I A w' I' A' → k ρ' → Q' .normal a' w') → wpAny P .any l.toArray Q' fuel listed a w
  | 0, listed, ρ, I, A, a, w, h, hs, hd, hk => ⟨h.1, hk I A a w ρ hs hd (Ext.refl _ _ _) h.2⟩
  | fuel + 1, listed, ρ, I, A, a, w, h, hs, hd, hk => by
    refine ⟨fun h0 => hk I A a w ρ hs hd (Ext.refl _ _ _) (h.1 h0), fun i hi => ?_⟩
    have h2 := h.2 i hi
    have rec_ : ∀ I' A' a' w' ρ', Sim nt w' I' A' ρ' a' → a'.defers = [] → Ext w I A w' I' A' → anyEF P nt fl l k fuel (listed.setIfInBounds i true) ρ' → wpAny P .any l.toArray Q' fuel (listed.setIfInBounds i true) a' w' :=
      fun I' A' a' w' ρ' q1 q2 q3 q4 => any_soundF hr fuel _ ρ' I' A' a' w' q4 q1 q2 fun I2 A2 a2 w2 ρ2 k1 k2 k3 k4 => hk I2 A2 a2 w2 ρ2 k1 k2 (q3.trans k3) k4
    unfold wpOp
    unfold sEF at h2
    simp only [List.getElem?_toArray]
    split
    · rename_i ho
      rw [ho] at h2
      exact rec_ I A a w ρ hs hd (Ext.refl _ _ _) h2
    · rename_i o ho
      rw [ho] at h2
      have hOW : OW P nt l.toArray o (anyEF P nt fl l k fuel (listed.setIfInBounds i true)) ρ := by
        simp only at h2
        split at h2
        · rename_i hp
          obtain ⟨d, k1, k2⟩ := h2
          exact ow_effP (regOk_dst hr) (regOk_get hr ho).1 (regOk_get hr ho).2 (pur_spec hp).2 k1 k2
        · exact h2
      have := hOW I A a w hs hd (wpAny P .any l.toArray Q' fuel (listed.setIfInBounds i true)) Q' rec_
      split at this
      · rename_i hw; rw [if_pos hw]; exact .inl this
      · rename_i hw; rw [if_neg hw]; exact this

/-- Two operations that only give values: whether the one has been taken makes no difference to the other. -/
theorem sE_putF {fl : List Nat} {l : List Oper} {j : Nat} {oi oj : Oper} {d : DV} (hj : l[j]? = some oj) (hpj : (pur fl j oj) = true) {ki : Nat} (hki : oi.dst = some ki) (hap : oi.apart l.toArray oj = true) {K : Env → Prop}
    (hy : effP P l ρ oi d) (h : sEF P nt fl l j K (putD ρ oi.dst d)) : sEF P nt fl l j (fun ρ' => effP P l ρ' oi d ∧ K (putD ρ' oi.dst d)) ρ := by
  obtain ⟨h1, h2, h3⟩ := Oper.apart_spec hap
  unfold sEF at h ⊢
  rw [hj] at h ⊢
  simp only [hpj, if_true] at h ⊢
  obtain ⟨u, k1, k2⟩ := h
  obtain ⟨kj, hkj⟩ := Option.isSome_iff_exists.1 (pur_spec hpj).2
  have hne : kj ≠ ki := fun e => h2 ki hki (by rw [hkj, e])
  have hdi : isOwn d = false := hy.1
  have hui : isOwn u = false := k1.1
  have hρi : isOwn (ρ ki) = false := hy.2.1 ki hki
  have hρj : isOwn (ρ kj) = false := by
    have := k1.2.1 kj hkj
    rw [hki, putD_some, set_apply, if_neg hne] at this
    exact this
  refine ⟨u, ?_, ?_, ?_⟩
  · have := effP_set (ρ := putD ρ oi.dst d) (k := ki) (u := ρ ki) hρi (by rw [hki, putD_some, set_apply, if_pos rfl]; exact hdi) (h1 ki hki) (fun e => hne (by rw [hkj] at e; cases e; rfl)) k1
    rw [hki, putD_some, set_back] at this
    exact this
  · rw [hkj, putD_some]
    exact effP_set hui hρj (h3 kj hkj) (fun e => hne (by rw [hki] at e; cases e; rfl)) hy
  · rw [hki, hkj] at k2
    rw [hki, hkj]
    have : putD (putD ρ (some kj) u) (some ki) d = putD (putD ρ (some ki) d) (some kj) u := by
      funext i
      simp only [putD_some, set_apply]
      by_cases e1 : i = ki
      · rw [if_pos e1, if_neg (by rw [e1]; exact fun e => hne e.symm), if_pos e1]
      · simp only [if_neg e1]
    rw [this]
    exact k2

/-- The checks on a region's edges: each operation either only gives a value, and every operation that need not wait for it only gives a value as well and is apart from it; or it comes up alone. -/
def depsF (l : List Oper) (i : Nat) : List Nat :=
  (List.range l.length).foldl (fun acc j => match l[j]? with
    | some o => if o.after.any (fun e => Region.binds .any e && (e.on == i || acc.contains e.on)) then j :: acc else acc
    | none => acc) []
def freeEF (fl : List Nat) (l : List Oper) (listed : Array Bool) (i : Nat) : Bool :=
  match l[i]? with
  | none => false
  | some oi => (pur fl i oi && (depsF l i).all fun j => !listed.getD j true && match l[j]? with
      | some o => o.after.any (fun e => Region.binds .any e && (e.on == i || (depsF l i).contains e.on))
      | none => false) && (List.range l.length).all fun j =>
    j == i || listed.getD j true || (depsF l i).contains j || match l[j]? with
      | none => true
      | some oj => pur fl j oj && oi.apart l.toArray oj

theorem anyE_firstF {fl : List Nat} {l : List Oper} {k : Env → Prop} {i : Nat} {oi : Oper} {d : DV} (hi : l[i]? = some oi) (hpi : (pur fl i oi) = true) (D : Nat → Prop)
    (hD : ∀ j oj, D j → l[j]? = some oj → ∃ e ∈ oj.after, Region.binds .any e = true ∧ (e.on = i ∨ D e.on)) :
    ∀ (fuel : Nat) (listed : Array Bool) (ρ : Env), (∀ j, D j → listed.getD j true = false) →
      (∀ j oj, l[j]? = some oj → j ≠ i → listed.getD j true = false → ¬ D j → (pur fl j oj) = true ∧ oi.apart l.toArray oj = true) →
      i ∈ Region.ready .any l.toArray listed → effP P l ρ oi d → anyEF P nt fl l k fuel (listed.setIfInBounds i true) (putD ρ oi.dst d) → anyEF P nt fl l k (fuel + 1) listed ρ := by
  obtain ⟨ki, hki⟩ := Option.isSome_iff_exists.1 (pur_spec hpi).2
  have take : ∀ {K : Env → Prop} {ρ : Env}, effP P l ρ oi d → K (putD ρ oi.dst d) → sEF P nt fl l i K ρ := fun h1 h2 => by
    unfold sEF
    rw [hi]
    simp only [hpi, if_true]
    exact ⟨d, h1, h2⟩
  intro fuel
  induction fuel with
  | zero =>
    intro listed ρ _ _ hr hy H
    refine ⟨fun h => (by rw [h] at hr; cases hr), fun j hj => ?_⟩
    by_cases hji : j = i
    · subst hji; exact take hy H
    · have := ready_mono hj hji
      rw [H.1] at this
      cases this
  | succ fuel ih =>
    intro listed ρ hun0 hfree hr hy H
    refine ⟨fun h => (by rw [h] at hr; cases hr), fun j hj => ?_⟩
    by_cases hji : j = i
    · subst hji; exact take hy H
    · have h1 := H.2 j (ready_mono hj hji)
      obtain ⟨hjun, oj, hoj, hall⟩ := mem_ready.1 hj
      have hoj' : l[j]? = some oj := by simpa using hoj
      have hne : ∀ m, listed.getD m true = false → ∀ e ∈ oj.after, Region.binds .any e = true → e.on ≠ m := fun m h0 e he hb heq => by
        have h1 := hall e he hb
        rw [heq] at h1
        rcases Nat.lt_or_ge m listed.size with h' | h'
        · simp [h'] at h0 h1; rw [h0] at h1; cases h1
        · simp [Array.getElem?_eq_none h'] at h1
      have hnot : ¬ D j := fun hDj => by
        obtain ⟨e, he, hb, hon | hon⟩ := hD j oj hDj hoj'
        · exact hne i (mem_ready.1 hr).1 e he hb hon
        · exact hne e.on (hun0 _ hon) e he hb rfl
      obtain ⟨hpj, hap⟩ := hfree j oj hoj' hji hjun hnot
      have h2 := sE_putF hoj' hpj hki hap hy h1
      have hset : ∀ m, j ≠ m → (listed.setIfInBounds j true).getD m true = listed.getD m true := fun m h => getD_set_ne true h
      have hun' : ∀ m, D m → (listed.setIfInBounds j true).getD m true = false := fun m hm => by
        rw [hset m (fun e => hnot (e ▸ hm))]; exact hun0 m hm
      have hfree' : ∀ m om, l[m]? = some om → m ≠ i → (listed.setIfInBounds j true).getD m true = false → ¬ D m → (pur fl m om) = true ∧ oi.apart l.toArray om = true := fun m om hm hmi hun hno => by
        refine hfree m om hm hmi ?_ hno
        by_cases hjm : j = m
        · subst hjm; exact hjun
        · rw [hset m hjm] at hun; exact hun
      refine sE_monoF (fun ρ' h3 => ih (listed.setIfInBounds j true) ρ' hun' hfree' (ready_mono hr (Ne.symm hji)) h3.1 ?_) h2
      rw [Array.setIfInBounds_comm _ _ hji]
      exact h3.2

theorem freeE_specF {fl : List Nat} {l : List Oper} {listed : Array Bool} {i : Nat} {oi : Oper} (hi : l[i]? = some oi) (h : freeEF fl l listed i = true) : (pur fl i oi) = true ∧
    (∀ j oj, j ∈ depsF l i → l[j]? = some oj → ∃ e ∈ oj.after, Region.binds .any e = true ∧ (e.on = i ∨ e.on ∈ depsF l i)) ∧ (∀ j, j ∈ depsF l i → listed.getD j true = false) ∧
    ∀ j oj, l[j]? = some oj → j ≠ i → listed.getD j true = false → ¬ j ∈ depsF l i → (pur fl j oj) = true ∧ oi.apart l.toArray oj = true := by
  unfold freeEF at h
  rw [hi] at h
  generalize depsF l i = D at h ⊢
  simp only [Bool.and_eq_true] at h
  obtain ⟨⟨h1, h2⟩, h3⟩ := h
  rw [List.all_eq_true] at h2 h3
  refine ⟨h1, fun j oj hj hoj => ?_, fun j hj => ?_, fun j oj hj hne hun hno => ?_⟩
  · have := h2 j hj
    rw [hoj] at this
    simp only [Bool.and_eq_true, Array.any_eq_true', Bool.or_eq_true, beq_iff_eq] at this
    obtain ⟨_, e, he, hb, hon⟩ := this
    exact ⟨e, he, hb, hon.imp id fun h => by simpa using h⟩
  · have := h2 j hj
    simp only [Bool.and_eq_true, Bool.not_eq_true'] at this
    exact this.1
  · have hlt : j < l.length := by
      rcases Nat.lt_or_ge j l.length with h | h
      · exact h
      · rw [List.getElem?_eq_none h] at hj; cases hj
    have := h3 j (by simpa using hlt)
    rw [hj] at this
    simp only [Bool.or_eq_true, Bool.and_eq_true, beq_iff_eq] at this
    rcases this with ((h | h) | h) | h
    · exact absurd h hne
    · rw [hun] at h; cases h
    · exact absurd (by simpa using h) hno
    · exact h

/-- The given order's checks. -/
def permE (fl : List Nat) (l : List Oper) : List Nat → Array Bool → Bool
  | [], listed => (Region.ready .any l.toArray listed).isEmpty
  | i :: r, listed => ((Region.ready .any l.toArray listed).contains i && freeEF fl l listed i || Region.ready .any l.toArray listed == [i]) && permE fl l r (listed.setIfInBounds i true)

/-- The walk in the given order. -/
def permW (P : Program) (nt : Nat) (fl : List Nat) (l : List Oper) (k : Env → Prop) : List Nat → Env → Prop
  | [], ρ => k ρ
  | i :: r, ρ => match l[i]? with
    | none => False
    | some o => if pur fl i o then ∃ d, effP P l ρ o d ∧ permW P nt fl l k r (putD ρ o.dst d) else OW P nt l.toArray o (permW P nt fl l k r) ρ

theorem anyE_perm {fl : List Nat} {l : List Oper} {k : Env → Prop} : ∀ (r : List Nat) (listed : Array Bool) (ρ : Env), permE fl l r listed = true → permW P nt fl l k r ρ → anyEF P nt fl l k r.length listed ρ
  | [], _, _, hB, h => ⟨by simpa [permE] using hB, h⟩
  | i :: r, listed, ρ, hB, h => by
    simp only [permE, Bool.and_eq_true, Bool.or_eq_true] at hB
    obtain ⟨hB1, hB2⟩ := hB
    unfold permW at h
    split at h
    · exact h.elim
    rename_i o h0
    rcases hB1 with ⟨hr, hf⟩ | hone
    · obtain ⟨hp, hD, hun, hfree⟩ := freeE_specF h0 hf
      rw [if_pos hp] at h
      obtain ⟨d, k1, k2⟩ := h
      exact anyE_firstF h0 hp (fun j => j ∈ depsF l i) hD r.length listed ρ hun hfree (by simpa using hr) k1 (anyE_perm r _ _ hB2 k2)
    · have hone : Region.ready .any l.toArray listed = [i] := by simpa using hone
      refine ⟨fun h => (by rw [hone] at h; cases h), fun j hj => ?_⟩
      rw [hone] at hj
      obtain rfl : j = i := by simpa using hj
      unfold sEF
      rw [h0]
      simp only
      split
      · rename_i hp
        rw [if_pos hp] at h
        obtain ⟨d, k1, k2⟩ := h
        exact ⟨d, k1, anyE_perm r _ _ hB2 k2⟩
      · rename_i hp
        rw [if_neg hp] at h
        exact h.mono fun ρ' h' => anyE_perm r _ _ hB2 h'

theorem aw_drawF {fl r : List Nat} {id : Nat} {l : List Oper} {Q : Exit → Env → Prop} (hm : P.follows .mixedOrders = true) (hr : regOk nt l = true) (hl : r.length = l.length) (hB : permE fl l r (Array.replicate l.length false) = true)
    (h : permW P nt fl l (Q .normal) r ρ) : AW P nt (.region id l.toArray true) Q ρ := by
  intro I A a w hs hd
  refine wp_region_any hm ?_
  have h1 := anyE_perm (P := P) (nt := nt) r (Array.replicate l.length false) ρ hB h
  rw [hl] at h1
  have hgr : Grow w I w.drew I := ⟨rfl, ⟨rfl, Nat.le_succ _⟩, rfl, Nat.le_refl _, fun _ _ => rfl, fun _ h => h, fun _ h => .inl h⟩
  have := any_soundF (Q' := fun e a' w' => ∃ I' A' ρ', Sim nt w' I' A' ρ' a' ∧ a'.defers = [] ∧ Ext w I A w' I' A' ∧ Q e ρ') hr _ _ ρ I A a w.drew h1 (hs.grow hgr) hd
    fun I' A' a' w' ρ' q1 q2 q3 q4 => ⟨I', A', ρ', q1, q2, (hgr.ext hs.osim).trans q3, q4⟩
  simpa using this

/-! ## By reckoning -/

def opI (P : Program) (all : List Oper) (o : Oper) (f : Bool) (K : Env → Prop) (ρ : Env) : Prop :=
  match o.guard with
  | none => (match f, pureOp o.op && o.dst.isSome with
    | true, _ => effF P ρ o.op o.dst K
    | false, true => prG P ρ o.op o.dst K
    | false, false => effG P ρ o.op o.dst K)
  | some (j, want) => (match f with
    | true => False
    | false => gdG P ρ o.op o.dst (gAt all ρ j want) K)

def pwIX (P : Program) (all : List Oper) (k : Env → Prop) : List (Oper × Bool) → Env → Prop
  | [], ρ => k ρ
  | p :: r, ρ => opI P all p.1 p.2 (pwIX P all k r) ρ
def pwI (P : Program) (all : List Oper) (k : Env → Prop) (l : List (Oper × Bool)) (_ : Tg (all, k, l)) (ρ : Env) : Prop := pwIX P all k l ρ

def pickOps (fl : List Nat) (l : List Oper) : List Nat → Option (List (Oper × Bool))
  | [] => some []
  | i :: r => match l[i]?, pickOps fl l r with
    | some o, some q => (match fl.contains i with
      | true => some ((o, true) :: q)
      | false => some ((o, false) :: q))
    | _, _ => none
theorem pickOps_some {fl : List Nat} {l : List Oper} {i : Nat} {r : List Nat} {x : List (Oper × Bool)} (h : pickOps fl l (i :: r) = some x) : ∃ o q, l[i]? = some o ∧ pickOps fl l r = some q ∧ x = (o, fl.contains i) :: q := by
  unfold pickOps at h
  split at h
  · rename_i o q h1 h2
    split at h
    · rename_i hc; exact ⟨o, q, h1, h2, by rw [hc]; exact (Option.some.inj h).symm⟩
    · rename_i hc; exact ⟨o, q, h1, h2, by rw [hc]; exact (Option.some.inj h).symm⟩
  · cases h

theorem pwI_perm (hnt : nt ≤ 100000) {fl : List Nat} {all : List Oper} {k : Env → Prop} (hr : regOk nt all = true) (hgo : all.all gOk = true) : ∀ (r : List Nat) (l : List (Oper × Bool)) (ρ : Env), pickOps fl all r = some l → pwIX P all k l ρ → permW P nt fl all k r ρ
  | [], l, ρ, hl, h => by
    simp [pickOps] at hl; subst hl; exact h
  | i :: r, l, ρ, hl, h => by
    obtain ⟨o, q, hi, hq, rfl⟩ := pickOps_some hl
    · have hrec := fun ρ' => pwI_perm (k := k) hnt hr hgo r q ρ' hq
      obtain ⟨h1, h2⟩ := regOk_get hr hi
      unfold permW
      rw [hi]
      simp only
      unfold pwIX opI at h
      simp only at h
      split at h
      · rename_i hg
        split at h
        · rename_i hf
          rw [if_neg (by unfold pur; rw [hf]; simp)]
          exact (effF_ok hnt hg h1 h2 h).mono hrec
        · rename_i hf hp
          rw [if_pos (by unfold pur; rw [hf, hp]; rfl)]
          obtain ⟨d, k1, k2⟩ := prG_eff (all := all) hg h
          exact ⟨d, k1, hrec _ k2⟩
        · rename_i hf hp
          rw [if_neg (by unfold pur; rw [hp]; simp)]
          exact (effG_ok hg h1 h2 h).mono hrec
      · rename_i j want hg
        split at h
        · exact h.elim
        · rename_i hf
          have hgk := List.all_eq_true.1 hgo o (List.mem_of_getElem? hi)
          unfold gOk at hgk
          rw [hg] at hgk
          simp only [Option.isNone_some, Bool.false_or] at hgk
          obtain ⟨d, k1, k2⟩ := gdG_eff hg hgk h
          rw [if_pos (by unfold pur; rw [hf, hgk]; rfl)]
          exact ⟨d, k1, hrec _ k2⟩

theorem pwI_rw (hnt : nt ≤ 100000) {fl : List Nat} {all : List Oper} {k : Env → Prop} (hr : regOk nt all = true) (hgo : all.all gOk = true) : ∀ (os : List Oper) (i : Nat) (l : List (Oper × Bool)) (ρ : Env), (∀ j, os[j]? = all[i + j]?) → pickOps fl all (List.range' i os.length) = some l → pwIX P all k l ρ → RW P nt all.toArray k os ρ
  | [], i, l, ρ, _, hl, h => by
    simp [pickOps] at hl; subst hl; exact h
  | o :: os, i, l, ρ, ho, hl, h => by
    have hi : all[i]? = some o := by simpa using (ho 0).symm
    have ho' : ∀ j, os[j]? = all[i + 1 + j]? := fun j => by have := ho (j + 1); simpa [Nat.add_assoc, Nat.add_comm 1 j] using this
    rw [List.length_cons, List.range'_succ] at hl
    obtain ⟨o', q, hi', hq, rfl⟩ := pickOps_some hl
    · obtain rfl : o = o' := by rw [hi] at hi'; exact Option.some.inj hi'
      have hrec := fun ρ' => pwI_rw (k := k) hnt hr hgo os (i + 1) q ρ' ho' hq
      obtain ⟨h1, h2⟩ := regOk_get hr hi
      unfold RW
      unfold pwIX opI at h
      simp only at h
      split at h
      · rename_i hg
        split at h
        · exact (effF_ok hnt hg h1 h2 h).mono hrec
        · rename_i hf hp
          obtain ⟨d, k1, k2⟩ := prG_eff (all := all) hg h
          simp only [Bool.and_eq_true] at hp
          exact ow_effP (regOk_dst hr) h1 h2 hp.2 k1 (hrec _ k2)
        · exact (effG_ok hg h1 h2 h).mono hrec
      · rename_i j want hg
        split at h
        · exact h.elim
        · have hgk := List.all_eq_true.1 hgo o (List.mem_of_getElem? hi)
          unfold gOk at hgk
          rw [hg] at hgk
          simp only [Option.isNone_some, Bool.false_or] at hgk
          obtain ⟨d, k1, k2⟩ := gdG_eff hg hgk h
          simp only [Bool.and_eq_true] at hgk
          exact ow_effP (regOk_dst hr) h1 h2 hgk.2 k1 (hrec _ k2)

theorem aw_bnd {c : Code} {Q : Exit → Env → Prop} (h : nt ≤ 100000 → AW P nt c Q ρ) : AW P nt c Q ρ := fun I A a w hs hd => h hs.bound I A a w hs hd
theorem aw_claims {cl : List (Nat × Nat)} {c : Code} {Q : Exit → Env → Prop} (hc : (cl.all fun p => decide (p.1 < nt) && decide (p.2 < nt) && p.1 != p.2) = true)
    (h1 : AW P nt c (fun e ρ => match e with | .normal => clG cl (Q .normal) ρ | e => Q e ρ) ρ) : AW P nt c Q ρ := by
  intro I A a w hs hd
  refine wp_mono (h1 I A a w hs hd) ?_
  intro e a1 w1 ⟨I1, A1, ρ1, k1, k2, k3, k4⟩
  cases e with
  | normal =>
    obtain ⟨A2, ρ2, r1, r2, r3⟩ := Sim.claims cl k1 hc k4
    exact ⟨I1, A2, ρ2, r1, k2, k3.trans r2, r3⟩
  | exit i => exact ⟨I1, A1, ρ1, k1, k2, k3, k4⟩
  | goto l => exact ⟨I1, A1, ρ1, k1, k2, k3, k4⟩
  | ret => exact ⟨I1, A1, ρ1, k1, k2, k3, k4⟩
  | panic ch => exact ⟨I1, A1, ρ1, k1, k2, k3, k4⟩
  | outgrown => exact ⟨I1, A1, ρ1, k1, k2, k3, k4⟩

/-- A region in the order r, the operations fl as effects. -/
theorem aw_regI (L : List Nat) (cl : List (Nat × Nat)) (r fl : List Nat) {id : Nat} {l : List Oper} {Q : Exit → Env → Prop} (hm : P.follows .mixedOrders = true)
    (hr : (regOk2 nt l && decide (r.length = l.length) && permE fl l r (Array.replicate l.length false) && cl.all fun p => decide (p.1 < nt) && decide (p.2 < nt) && p.1 != p.2) = true)
    (h : ∀ q, pickOps fl l r = some q → pwI P l (clG cl (Q .normal)) q ⟨⟩ (keepC L ρ)) (hq : (pickOps fl l r).isSome = true) : AW P nt (.region id l.toArray true) Q ρ := by
  simp only [regOk2, Bool.and_eq_true, decide_eq_true_eq] at hr
  obtain ⟨⟨⟨⟨h1, h2⟩, h3⟩, h4⟩, h5⟩ := hr
  obtain ⟨q, hq⟩ := Option.isSome_iff_exists.1 hq
  refine aw_bnd fun hnt => ?_
  exact aw_claims h5 (aw_weaken (Le.keepC L ρ) (aw_drawF hm h1 h3 h4 (pwI_perm hnt h1 h2 r q _ hq (h q hq))))
theorem aw_regIp (L : List Nat) (cl : List (Nat × Nat)) (fl : List Nat) {id : Nat} {l : List Oper} {Q : Exit → Env → Prop}
    (hr : (regOk2 nt l && cl.all fun p => decide (p.1 < nt) && decide (p.2 < nt) && p.1 != p.2) = true)
    (h : ∀ q, pickOps fl l (List.range' 0 l.length) = some q → pwI P l (clG cl (Q .normal)) q ⟨⟩ (keepC L ρ)) (hq : (pickOps fl l (List.range' 0 l.length)).isSome = true) : AW P nt (.region id l.toArray false) Q ρ := by
  simp only [regOk2, Bool.and_eq_true] at hr
  obtain ⟨⟨h1, h2⟩, h5⟩ := hr
  obtain ⟨q, hq⟩ := Option.isSome_iff_exists.1 hq
  refine aw_bnd fun hnt => ?_
  exact aw_claims h5 (aw_weaken (Le.keepC L ρ) (aw_region (pwI_rw hnt h1 h2 l 0 q _ (by simp) hq (h q hq))))
end

@[congr] theorem SettleG_congr {z : Nat} {xs xs' : List (List DV)} {k : DV → Prop} {t : Tg k} (h : xs = xs') : SettleG z xs k t = SettleG z xs' k t := by rw [h]
@[congr] theorem pwI_congr {P : Program} {all : List Oper} {l : List (Oper × Bool)} {k : Env → Prop} {t : Tg (all, k, l)} {ρ ρ' : Env} (h : ρ = ρ') : pwI P all k l t ρ = pwI P all k l t ρ' := by rw [h]
section
variable {P : Program} {ρ : Env} (all : List Oper) (os : List (Oper × Bool)) (k : Env → Prop) (d : Option Tmp) (op : Op) (ty : TypeId) (pos : String) (af : Array Edge) (j : Nat) (want : Bool)
theorem pwI_nil : pwI P all k [] ⟨⟩ ρ = k ρ := rfl
theorem pwI_plain : pwI P all k ((⟨d, op, ty, pos, af, none⟩, false) :: os) ⟨⟩ ρ = (match pureOp op && d.isSome with
      | true => prG P ρ op d (pwI P all k os ⟨⟩)
      | false => effG P ρ op d (pwI P all k os ⟨⟩)) := by
  unfold pwI
  rw [pwIX]
  unfold opI
  simp only
  generalize (pureOp op && d.isSome) = b
  cases b <;> rfl
theorem pwI_eff : pwI P all k ((⟨d, op, ty, pos, af, none⟩, true) :: os) ⟨⟩ ρ = effF P ρ op d (pwI P all k os ⟨⟩) := rfl
theorem pwI_guard : pwI P all k ((⟨d, op, ty, pos, af, some (j, want)⟩, false) :: os) ⟨⟩ ρ = gdG P ρ op d (gAt all ρ j want) (pwI P all k os ⟨⟩) := rfl
variable (K : Env → Prop) (dd : Nat) (t : TypeId) (n : Nat) (parts : Array (Nat × Operand)) (x y : Operand)
theorem effF_lit : effF P ρ (.buildSlice t (n + 1) parts) (some dd) K = litR P ρ dd (slE P t) (n + 1) parts.toList K := rfl
theorem effF_lit0 : effF P ρ (.buildSlice t 0 parts) (some dd) K = effG P ρ (.buildSlice t 0 parts) (some dd) K := rfl
theorem effF_mk : effF P ρ (.makeSlice t x y) (some dd) K = effG P ρ (.makeSlice t x y) (some dd) K := rfl
theorem effF_asg : effF P ρ (.assign x) d K = effG P ρ (.assign x) d K := by cases d <;> rfl
theorem effF_app (args : Array Operand) (ts : Array TypeId) : effF P ρ (.call ⟨.builtin .append, args, ts⟩) (some dd) K = effG P ρ (.call ⟨.builtin .append, args, ts⟩) (some dd) (settleK dd K) := rfl
end
attribute [go_sem] pwI_nil pwI_plain pwI_eff pwI_guard effF_lit effF_lit0 effF_mk effF_asg effF_app litR settleK
end Go.Sg
