/- Regions that draw their order, on the heap of numbers: what an operation gives is found in the part of the heap that is there in every order. -/
import Derived.Test.YtnpokifaejcbeaaGreatDoorRvRun
set_option linter.unusedVariables false
set_option linter.unusedSimpArgs false
namespace Go.Rv
open Go.RowKit Go.Sg

/-! ## Who waits for whom -/

def mask1 (acc : List Nat) : List Edge → Nat → Nat
  | [], s => s
  | e :: l, s => mask1 acc l (bif Region.binds .any e then s ||| 2 ^ e.on ||| acc.getD e.on 0 else s)
def masks : List Oper → List Nat → List Nat
  | [], acc => acc
  | o :: l, acc => masks l (acc ++ [mask1 acc o.after.toList 0])

theorem mask1_bit (acc : List Nat) (j : Nat) : ∀ (l : List Edge) (s : Nat), (mask1 acc l s).testBit j = true → s.testBit j = true ∨ ∃ e ∈ l, Region.binds .any e = true ∧ (e.on = j ∨ (acc.getD e.on 0).testBit j = true)
  | [], s, h => .inl h
  | e :: l, s, h => by
    unfold mask1 at h
    rcases mask1_bit acc j l _ h with h1 | ⟨e', he, h1⟩
    · cases hb : Region.binds .any e with
      | false => rw [hb] at h1; exact .inl h1
      | true =>
        rw [hb] at h1
        simp only [cond_true, Nat.testBit_or, Bool.or_eq_true, Nat.testBit_two_pow, decide_eq_true_eq] at h1
        rcases h1 with (h1 | h1) | h1
        · exact .inl h1
        · exact .inr ⟨e, by simp, hb, .inl h1⟩
        · exact .inr ⟨e, by simp, hb, .inr h1⟩
    · exact .inr ⟨e', by simp [he], h1⟩

theorem masks_pre : ∀ (l : List Oper) (acc : List Nat) (q : Nat), q < acc.length → (masks l acc).getD q 0 = acc.getD q 0
  | [], acc, q, h => rfl
  | o :: l, acc, q, h => by
    unfold masks
    rw [masks_pre l _ q (by simp; omega)]
    simp [List.getD_eq_getElem?_getD, List.getElem?_append, h]

theorem masks_bit : ∀ (l : List Oper) (acc : List Nat) (i : Nat) (o : Oper) (j : Nat), l[i]? = some o → ((masks l acc).getD (acc.length + i) 0).testBit j = true →
    ∃ e ∈ o.after.toList, Region.binds .any e = true ∧ (e.on = j ∨ (e.on < acc.length + i ∧ ((masks l acc).getD e.on 0).testBit j = true))
  | [], acc, i, o, j, h, _ => by simp at h
  | q :: l, acc, 0, o, j, h, hb => by
    obtain rfl : q = o := by simpa using h
    unfold masks at hb ⊢
    rw [masks_pre l _ _ (by simp)] at hb
    have : (acc ++ [mask1 acc q.after.toList 0]).getD (acc.length + 0) 0 = mask1 acc q.after.toList 0 := by simp [List.getD_eq_getElem?_getD]
    rw [this] at hb
    rcases mask1_bit acc j _ _ hb with h1 | ⟨e, he, h1, h2⟩
    · simp at h1
    · refine ⟨e, he, h1, h2.imp id fun h3 => ?_⟩
      have hlt : e.on < acc.length := by
        rcases Nat.lt_or_ge e.on acc.length with h | h
        · exact h
        · simp [List.getD_eq_getElem?_getD, List.getElem?_eq_none h] at h3
      refine ⟨by omega, ?_⟩
      rw [masks_pre l _ _ (by simp; omega)]
      simpa [List.getD_eq_getElem?_getD, List.getElem?_append, hlt] using h3
  | q :: l, acc, i + 1, o, j, h, hb => by
    unfold masks at hb ⊢
    have := masks_bit l (acc ++ [mask1 acc q.after.toList 0]) i o j (by simpa using h) (by simpa [Nat.add_assoc, Nat.add_comm 1 i] using hb)
    simpa [Nat.add_assoc, Nat.add_comm 1 i] using this

def looks (ops : List Oper) (o : Oper) : List Nat := (o.op.operands.toList.filterMap fun x => match x with | .tmp t => some t | _ => none) ++ (gSlot ops o).toList

def drawOk (ops : List Oper) (M : List Nat) : Bool :=
  (List.range ops.length).all fun i => match ops[i]? with
    | none => true
    | some o => (o.after.toList.all fun e => !Region.binds .any e || decide (e.on < i)) &&
      (List.range ops.length).all fun j => j == i || match ops[j]? with
        | none => true
        | some oj => match oj.dst with
          | none => true
          | some q => !decide (o.dst = some q) && (!(looks ops o).contains q || (M.getD i 0).testBit j || (M.getD j 0).testBit i)

/-! ## Parts of the heap -/

def delRng (h : Tr Blk) (b : Nat) : Nat → Tr Blk
  | 0 => h
  | k + 1 => (delRng h b k).set (b + k) none
def resRng (h src : Tr Blk) (b : Nat) : Nat → Tr Blk
  | 0 => h
  | k + 1 => (resRng h src b k).set (b + k) (src.get (b + k))
theorem delRng_get (h : Tr Blk) (b : Nat) : ∀ (k : Nat), b + k ≤ ub → ∀ c, (delRng h b k).get c = if b ≤ c ∧ c < b + k then none else h.get c
  | 0, _, c => by rw [if_neg (by omega)]; rfl
  | k + 1, hk, c => by
    unfold delRng
    rw [Tr.get_set (by omega), delRng_get h b k (by omega)]
    by_cases e : c = b + k
    · rw [if_pos e, if_pos (by omega)]
    · rw [if_neg e]
      by_cases e2 : b ≤ c ∧ c < b + k
      · rw [if_pos e2, if_pos (by omega)]
      · rw [if_neg e2, if_neg (by omega)]
theorem resRng_get (h src : Tr Blk) (b : Nat) : ∀ (k : Nat), b + k ≤ ub → ∀ c, (resRng h src b k).get c = if b ≤ c ∧ c < b + k then src.get c else h.get c
  | 0, _, c => by rw [if_neg (by omega)]; rfl
  | k + 1, hk, c => by
    unfold resRng
    rw [Tr.get_set (by omega), resRng_get h src b k (by omega)]
    by_cases e : c = b + k
    · rw [if_pos e, if_pos (by omega), e]
    · rw [if_neg e]
      by_cases e2 : b ≤ c ∧ c < b + k
      · rw [if_pos e2, if_pos (by omega)]
      · rw [if_neg e2, if_neg (by omega)]

/-- Without the blocks that an operation need not find. -/
def masked (mk : Nat) : List (Nat × Nat × Nat) → Tr Blk → Tr Blk
  | [], h => h
  | x :: l, h => bif mk.testBit x.1 then masked mk l h else masked mk l (delRng h x.2.1 x.2.2)
def restored (mk : Nat) : List (Nat × Nat × Nat) → Tr Blk → Tr Blk → Tr Blk
  | [], _, h => h
  | x :: l, src, h => bif mk.testBit x.1 then restored mk l src h else restored mk l src (resRng h src x.2.1 x.2.2)
def Hid (mk : Nat) (l : List (Nat × Nat × Nat)) (c : Nat) : Prop := ∃ x ∈ l, mk.testBit x.1 = false ∧ x.2.1 ≤ c ∧ c < x.2.1 + x.2.2
theorem masked_get (mk : Nat) : ∀ (l : List (Nat × Nat × Nat)) (h : Tr Blk), (∀ x ∈ l, x.2.1 + x.2.2 ≤ ub) → ∀ c, (Hid mk l c → (masked mk l h).get c = none) ∧ (¬ Hid mk l c → (masked mk l h).get c = h.get c)
  | [], h, _, c => ⟨fun ⟨x, hx, _⟩ => (by cases hx), fun _ => rfl⟩
  | x :: l, h, hb, c => by
    unfold masked
    cases hm : mk.testBit x.1 with
    | true =>
      obtain ⟨i1, i2⟩ := masked_get mk l h (fun y hy => hb y (by simp [hy])) c
      have he : Hid mk (x :: l) c ↔ Hid mk l c := ⟨fun ⟨y, hy, h1, h2⟩ => by
        rcases List.mem_cons.1 hy with rfl | hy
        · rw [hm] at h1; cases h1
        · exact ⟨y, hy, h1, h2⟩, fun ⟨y, hy, h1⟩ => ⟨y, by simp [hy], h1⟩⟩
      exact ⟨fun q => i1 (he.1 q), fun q => i2 fun r => q (he.2 r)⟩
    | false =>
      obtain ⟨i1, i2⟩ := masked_get mk l (delRng h x.2.1 x.2.2) (fun y hy => hb y (by simp [hy])) c
      have hg := delRng_get h x.2.1 x.2.2 (hb x (by simp)) c
      refine ⟨fun ⟨y, hy, h1, h2⟩ => ?_, fun q => ?_⟩
      · by_cases hl : Hid mk l c
        · exact i1 hl
        · rcases List.mem_cons.1 hy with rfl | hy
          · show (masked mk l (delRng h y.2.1 y.2.2)).get c = none
            rw [i2 hl, hg, if_pos h2]
          · exact absurd ⟨y, hy, h1, h2⟩ hl
      · show (masked mk l (delRng h x.2.1 x.2.2)).get c = h.get c
        rw [i2 fun ⟨y, hy, r⟩ => q ⟨y, by simp [hy], r⟩, hg, if_neg fun r => q ⟨x, by simp, hm, r⟩]
theorem restored_get (mk : Nat) (src : Tr Blk) : ∀ (l : List (Nat × Nat × Nat)) (h : Tr Blk), (∀ x ∈ l, x.2.1 + x.2.2 ≤ ub) → ∀ c, (Hid mk l c → (restored mk l src h).get c = src.get c) ∧ (¬ Hid mk l c → (restored mk l src h).get c = h.get c)
  | [], h, _, c => ⟨fun ⟨x, hx, _⟩ => (by cases hx), fun _ => rfl⟩
  | x :: l, h, hb, c => by
    unfold restored
    cases hm : mk.testBit x.1 with
    | true =>
      obtain ⟨i1, i2⟩ := restored_get mk src l h (fun y hy => hb y (by simp [hy])) c
      have he : Hid mk (x :: l) c ↔ Hid mk l c := ⟨fun ⟨y, hy, h1, h2⟩ => by
        rcases List.mem_cons.1 hy with rfl | hy
        · rw [hm] at h1; cases h1
        · exact ⟨y, hy, h1, h2⟩, fun ⟨y, hy, h1⟩ => ⟨y, by simp [hy], h1⟩⟩
      exact ⟨fun q => i1 (he.1 q), fun q => i2 fun r => q (he.2 r)⟩
    | false =>
      obtain ⟨i1, i2⟩ := restored_get mk src l (resRng h src x.2.1 x.2.2) (fun y hy => hb y (by simp [hy])) c
      have hg := resRng_get h src x.2.1 x.2.2 (hb x (by simp)) c
      refine ⟨fun ⟨y, hy, h1, h2⟩ => ?_, fun q => ?_⟩
      · by_cases hl : Hid mk l c
        · exact i1 hl
        · rcases List.mem_cons.1 hy with rfl | hy
          · show (restored mk l src (resRng h src y.2.1 y.2.2)).get c = src.get c
            rw [i2 hl, hg, if_pos h2]
          · exact absurd ⟨y, hy, h1, h2⟩ hl
      · show (restored mk l src (resRng h src x.2.1 x.2.2)).get c = h.get c
        rw [i2 fun ⟨y, hy, r⟩ => q ⟨y, by simp [hy], r⟩, hg, if_neg fun r => q ⟨x, by simp, hm, r⟩]

/-! ## Running -/

/-- The block that a store or an append may write. -/
def wbOf (t : Tr RV) (op : Op) : Option Nat :=
  match op with
  | .store _ ad _ => (match evR t ad with
    | .ptr b _ => some b
    | _ => none)
  | .call ⟨.builtin .append, args, _⟩ => (match args.toList with
    | x :: _ => (match evR t x with
      | .sl b _ _ _ _ _ => some b
      | _ => none)
    | _ => none)
  | .next x _ => (match evR t x with
    | .ptr b _ => some b
    | _ => none)
  | .mapUpdate _ m _ _ => (match evR t m with
    | .mp b => some b
    | _ => none)
  | .insert _ m _ _ => (match evR t m with
    | .mp b => some b
    | _ => none)
  | .call ⟨.builtin .delete, args, _⟩ => (match args.toList with
    | x :: _ => (match evR t x with
      | .mp b => some b
      | _ => none)
    | _ => none)
  | _ => none
/-- The same, if the phase made it and the operation finds it. -/
def wbF (HL : List (Nat × Nat)) (i n0 n : Nat) (t : Tr RV) (hm : Tr Blk) (op : Op) : Option Nat :=
  match wbOf t op with
  | some b => bif (decide (n0 ≤ b) || HL.contains (i, b)) && decide (b < n) && (hm.get b).isSome then some b else none
  | none => none
theorem wbF_ok {HL : List (Nat × Nat)} {i n0 n : Nat} {t : Tr RV} {hm : Tr Blk} {op : Op} {b : Nat} (h : wbF HL i n0 n t hm op = some b) : wbOf t op = some b ∧ (n0 ≤ b ∨ (i, b) ∈ HL) ∧ b < n ∧ hm.get b ≠ none := by
  unfold wbF at h
  split at h <;> try cases h
  rename_i b' hb
  obtain ⟨h1, h2⟩ := bif_some h
  subst h2
  simp only [Bool.and_eq_true, Bool.or_eq_true, decide_eq_true_eq, List.contains_iff_mem] at h1
  exact ⟨hb, h1.1.1, h1.1.2, fun e => by rw [e] at h1; cases h1.2⟩

/-- Operations that write what was there ahead of the phase. -/
def isEff (effF : FuncId → Bool) (n0 : Nat) (t : Tr RV) (op : Op) : Bool :=
  match wbOf t op with
  | some b => decide (b < n0)
  | none => match op with
    | .call ⟨.value f, _, _⟩ => (match evR t f with
      | .fn g _ _ => effF g
      | _ => true)
    | _ => false
def isRun (ops : List Oper) (t : Tr RV) (o : Oper) : Bool :=
  match o.guard with
  | none => true
  | some (j, want) => match gAt ops t j want with
    | some false => false
    | _ => true

def covers (x : Nat × Nat × Nat) (b : Nat) : Bool := decide (x.2.1 ≤ b) && decide (b < x.2.1 + x.2.2)
theorem covers_iff {x : Nat × Nat × Nat} {b : Nat} : covers x b = true ↔ x.2.1 ≤ b ∧ b < x.2.1 + x.2.2 := by unfold covers; simp
/-- Whoever can see the block has had its turn. -/
def wbOk (M : List Nat) (i : Nat) (info : List (Nat × Nat × Nat)) : Option Nat → Bool
  | none => true
  | some b => info.all fun x => !covers x b || ((M.getD i 0).testBit x.1 && (List.range i).all fun p => decide (p ≤ x.1) || !(M.getD p 0).testBit x.1 || (M.getD i 0).testBit p)
def wbInfo (i : Nat) (wb : Option Nat) (info : List (Nat × Nat × Nat)) : List (Nat × Nat × Nat) :=
  match wb with
  | none => info
  | some b => (i, b, 1) :: info
def wbLo (lo n : Nat) : Option Nat → Nat
  | none => n
  | some _ => lo

/-- Blocks that were there ahead of the phase and that operations of the phase write (HL: who writes which): whoever has no order with a writer does not see its block. -/
def offs (M : List Nat) (HL : List (Nat × Nat)) (i : Nat) : List (Nat × Nat × Nat) :=
  (HL.filter fun x => !(x.1 == i) && !(M.getD i 0).testBit x.1 && !(M.getD x.1 0).testBit i).map fun x => (0, x.2, 1)
def Off (M : List Nat) (HL : List (Nat × Nat)) (i b : Nat) : Prop := ∃ x ∈ HL, x.2 = b ∧ x.1 ≠ i ∧ (M.getD i 0).testBit x.1 = false ∧ (M.getD x.1 0).testBit i = false
theorem hid_offs {M : List Nat} {HL : List (Nat × Nat)} {i b : Nat} : Hid 0 (offs M HL i) b ↔ Off M HL i b := by
  unfold Hid offs Off
  constructor
  · rintro ⟨x, hx, _, h2, h3⟩
    rw [List.mem_map] at hx
    obtain ⟨y, hy, rfl⟩ := hx
    rw [List.mem_filter] at hy
    simp only [Bool.and_eq_true, Bool.not_eq_true', beq_eq_false_iff_ne] at hy
    simp at h2 h3
    exact ⟨y, hy.1, by omega, hy.2.1.1, hy.2.1.2, hy.2.2⟩
  · rintro ⟨y, hy, rfl, h2, h3, h4⟩
    refine ⟨(0, y.2, 1), ?_, by simp, Nat.le_refl _, by simp⟩
    rw [List.mem_map]
    refine ⟨y, ?_, rfl⟩
    rw [List.mem_filter]
    simp only [Bool.and_eq_true, Bool.not_eq_true', beq_eq_false_iff_ne]
    exact ⟨hy, ⟨h2, h3⟩, h4⟩
def msk (M : List Nat) (HL : List (Nat × Nat)) (i : Nat) (info : List (Nat × Nat × Nat)) (h : Tr Blk) : Tr Blk := masked 0 (offs M HL i) (masked (M.getD i 0) info h)
def rst (M : List Nat) (HL : List (Nat × Nat)) (i : Nat) (info : List (Nat × Nat × Nat)) (h h' : Tr Blk) : Tr Blk := restored 0 (offs M HL i) h (restored (M.getD i 0) info h h')
def HidB (M : List Nat) (HL : List (Nat × Nat)) (i : Nat) (info : List (Nat × Nat × Nat)) (b : Nat) : Prop := Hid (M.getD i 0) info b ∨ Off M HL i b
theorem offs_ub {M : List Nat} {HL : List (Nat × Nat)} {i : Nat} (h : ∀ x ∈ HL, x.2 < ub) : ∀ x ∈ offs M HL i, x.2.1 + x.2.2 ≤ ub := fun x hx => by
  unfold offs at hx
  rw [List.mem_map] at hx
  obtain ⟨y, hy, rfl⟩ := hx
  exact h y (List.mem_filter.1 hy).1
theorem msk_get (M : List Nat) (HL : List (Nat × Nat)) (i : Nat) (info : List (Nat × Nat × Nat)) (h : Tr Blk) (h1 : ∀ x ∈ info, x.2.1 + x.2.2 ≤ ub) (h2 : ∀ x ∈ HL, x.2 < ub) (b : Nat) :
    (HidB M HL i info b → (msk M HL i info h).get b = none) ∧ (¬ HidB M HL i info b → (msk M HL i info h).get b = h.get b) := by
  have q1 := masked_get (M.getD i 0) info h h1 b
  have q2 := masked_get 0 (offs M HL i) (masked (M.getD i 0) info h) (offs_ub h2) b
  unfold msk HidB
  by_cases e : Off M HL i b
  · exact ⟨fun _ => q2.1 (hid_offs.2 e), fun hn => absurd (Or.inr e) hn⟩
  · have q3 := q2.2 fun hh => e (hid_offs.1 hh)
    exact ⟨fun hh => by rw [q3]; exact q1.1 (hh.resolve_right e), fun hn => by rw [q3]; exact q1.2 fun hh => hn (.inl hh)⟩
theorem rst_get (M : List Nat) (HL : List (Nat × Nat)) (i : Nat) (info : List (Nat × Nat × Nat)) (h h' : Tr Blk) (h1 : ∀ x ∈ info, x.2.1 + x.2.2 ≤ ub) (h2 : ∀ x ∈ HL, x.2 < ub) (b : Nat) :
    (HidB M HL i info b → (rst M HL i info h h').get b = h.get b) ∧ (¬ HidB M HL i info b → (rst M HL i info h h').get b = h'.get b) := by
  have q1 := restored_get (M.getD i 0) h info h' h1 b
  have q2 := restored_get 0 h (offs M HL i) (restored (M.getD i 0) info h h') (offs_ub h2) b
  unfold rst HidB
  by_cases e : Off M HL i b
  · exact ⟨fun _ => q2.1 (hid_offs.2 e), fun hn => absurd (Or.inr e) hn⟩
  · have q3 := q2.2 fun hh => e (hid_offs.1 hh)
    exact ⟨fun hh => by rw [q3]; exact q1.1 (hh.resolve_right e), fun hn => by rw [q3]; exact q1.2 fun hh => hn (.inl hh)⟩

def phR (P : Program) (call : Calr) (lo : Nat) (ops : List Oper) (M : List Nat) (HL : List (Nat × Nat)) (effF : FuncId → Bool) (n0 : Nat) : Nat → List Oper → List (Nat × Nat × Nat) → St → Option (Nat × St × List Oper)
  | i, [], _, s => some (i, s, [])
  | i, o :: l, info, ⟨t, h, n⟩ => bif isRun ops t o && isEff effF n0 t o.op && !HL.any (fun x => x.1 == i) then some (i, ⟨t, h, n⟩, o :: l) else bif decide (n ≤ ub) && wbOk M i info (bif isRun ops t o then wbF HL i n0 n t (msk M HL i info h) o.op else none) then
      match evO P call (wbLo lo n (bif isRun ops t o then wbF HL i n0 n t (msk M HL i info h) o.op else none)) ops t (msk M HL i info h) n o with
      | some (v, h', n') => phR P call lo ops M HL effF n0 (i + 1) l (wbInfo i (bif isRun ops t o then wbF HL i n0 n t (msk M HL i info h) o.op else none) (bif decide (n' = n) then info else (i, n, n' - n) :: info)) ⟨setD t o.dst (v.getD .nov), rst M HL i info h h', n'⟩
      | none => none
      else none

def effAt (M : List Nat) (k N : Nat) : Bool := (List.range k).all (fun j => (M.getD k 0).testBit j) && (List.range N).all fun j => decide (j ≤ k) || (M.getD j 0).testBit k

def evDraw (P : Program) (call : Calr) (lo : Nat) (ops : List Oper) (M : List Nat) (effF : FuncId → Bool) : Nat → Nat → List (Nat × Nat) → List Oper → St → Option St
  | 0, _, _, _, _ => none
  | f + 1, i, HL, l, s => bif HL.all (fun x => decide (lo ≤ x.2) && decide (x.2 < s.n)) && decide (s.n ≤ ub) then match phR P call lo ops M HL effF s.n i l [] s with
    | none => none
    | some (_, s1, []) => some s1
    | some (k, ⟨t, h, n⟩, o :: l') => bif effAt M k ops.length then
        match evO P call lo ops t h n o with
        | some (v, h', n') => evDraw P call lo ops M effF f (k + 1) [] l' ⟨setD t o.dst (v.getD .nov), h', n'⟩
        | none => none
        else match wbOf t o.op with
        | some b => evDraw P call lo ops M effF f i ((k, b) :: HL) l s
        | none => none
    else none

/-- One operation of a phase. -/
structure Rc where
  o : Oper
  t : Tr RV
  hm : Tr Blk
  h' : Tr Blk
  n : Nat
  n' : Nat
  v : Option RV
  wb : Option Nat

/-- What block b holds till p's turn and on: what its next writer finds, or what is left in the end. -/
def Nx (rcs : List Rc) (s' : St) (p b : Nat) (v : Option Blk) : Prop :=
  (∃ p' rc', rcs[p']? = some rc' ∧ p ≤ p' ∧ rc'.wb = some b ∧ (∀ p2 rc2, rcs[p2]? = some rc2 → p ≤ p2 → p2 < p' → rc2.wb ≠ some b) ∧ rc'.hm.get b = v) ∨
  ((∀ p2 rc2, rcs[p2]? = some rc2 → p ≤ p2 → rc2.wb ≠ some b) ∧ s'.h.get b = v)

theorem Nx.shift {rc : Rc} {rcs : List Rc} {s' : St} {p b : Nat} {v : Option Blk} (h : Nx rcs s' p b v) : Nx (rc :: rcs) s' (p + 1) b v := by
  rcases h with ⟨p', rc', h1, h2, h3, h4, h5⟩ | ⟨h1, h2⟩
  · refine .inl ⟨p' + 1, rc', by simpa using h1, by omega, h3, fun p2 rc2 hp2 hle hlt => ?_, h5⟩
    obtain ⟨p3, rfl⟩ : ∃ p3, p2 = p3 + 1 := ⟨p2 - 1, by omega⟩
    exact h4 p3 rc2 (by simpa using hp2) (by omega) (by omega)
  · refine .inr ⟨fun p2 rc2 hp2 hle => ?_, h2⟩
    obtain ⟨p3, rfl⟩ : ∃ p3, p2 = p3 + 1 := ⟨p2 - 1, by omega⟩
    exact h1 p3 rc2 (by simpa using hp2) (by omega)
theorem Nx.skip {rcs : List Rc} {s' : St} {p b : Nat} {v : Option Blk} (h : Nx rcs s' (p + 1) b v) (hn : ∀ rc, rcs[p]? = some rc → rc.wb ≠ some b) : Nx rcs s' p b v := by
  rcases h with ⟨p', rc', h1, h2, h3, h4, h5⟩ | ⟨h1, h2⟩
  · refine .inl ⟨p', rc', h1, by omega, h3, fun p2 rc2 hp2 hle hlt => ?_, h5⟩
    by_cases e : p2 = p
    · subst e; exact hn rc2 hp2
    · exact h4 p2 rc2 hp2 (by omega) hlt
  · refine .inr ⟨fun p2 rc2 hp2 hle => ?_, h2⟩
    by_cases e : p2 = p
    · subst e; exact hn rc2 hp2
    · exact h1 p2 rc2 hp2 (by omega)
theorem Nx.next {rcs : List Rc} {s' : St} {p b : Nat} {v : Option Blk} (h : Nx rcs s' p b v) (hn : ∀ rc, rcs[p]? = some rc → rc.wb ≠ some b) : Nx rcs s' (p + 1) b v := by
  rcases h with ⟨p', rc', h1, h2, h3, h4, h5⟩ | ⟨h1, h2⟩
  · have : p' ≠ p := fun e => by subst e; exact hn rc' h1 h3
    exact .inl ⟨p', rc', h1, by omega, h3, fun p2 rc2 hp2 hle hlt => h4 p2 rc2 hp2 (by omega) hlt, h5⟩
  · exact .inr ⟨fun p2 rc2 hp2 hle => h1 p2 rc2 hp2 (by omega), h2⟩

structure RcOk (P : Program) (lo : Nat) (ops : List Oper) (M : List Nat) (HL : List (Nat × Nat)) (n0 : Nat) (info : List (Nat × Nat × Nat)) (i : Nat) (s s' : St) (rcs : List Rc) (p : Nat) (rc : Rc) : Prop where
  n1 : s.n ≤ rc.n
  n2 : rc.n ≤ rc.n'
  n3 : rc.n' ≤ s'.n
  nx : ∀ p' rc', rcs[p']? = some rc' → p < p' → rc.n' ≤ rc'.n
  ok : ∃ l, lo ≤ l ∧ l ≤ rc.n ∧ GOk P l ops rc.t rc.hm rc.n rc.o (rc.v, rc.h', rc.n')
  low : ∀ b, b < rc.n → rc.hm.get b ≠ none → Nx rcs s' p b (rc.hm.get b)
  hi : ∀ b, rc.n ≤ b → rc.hm.get b ≠ none → rc.hm.get b = s.h.get b
  new : ∀ b, rc.n ≤ b → b < rc.n' → Nx rcs s' (p + 1) b (rc.h'.get b)
  wr : ∀ b, rc.wb = some b → Nx rcs s' (p + 1) b (rc.h'.get b)
  wv : ∀ b, rc.wb = some b → (n0 ≤ b ∨ (i + p, b) ∈ HL) ∧ b < rc.n ∧ rc.hm.get b ≠ none
  st : ∀ b, b < rc.n → rc.wb ≠ some b → rc.h'.get b = rc.hm.get b
  hid : ∀ b, Hid (M.getD (i + p) 0) info b → rc.hm.get b = none
  hid' : ∀ p' rc', rcs[p']? = some rc' → p' < p → (M.getD (i + p) 0).testBit (i + p') = false → ∀ b, (rc'.n ≤ b ∧ b < rc'.n') ∨ rc'.wb = some b → rc.hm.get b = none
  see : ∀ p' rc' b, rcs[p']? = some rc' → p < p' → rc'.wb = some b → (b < rc.n ∧ rc.hm.get b ≠ none) ∨ (rc.n ≤ b ∧ b < rc.n') → (M.getD (i + p') 0).testBit (i + p) = true
  kk : ∀ b, rc.wb = some b → ∀ x ∈ info, covers x b = true → (M.getD (i + p) 0).testBit x.1 = true ∧ ∀ q, x.1 < q → q < i + p → (M.getD q 0).testBit x.1 = true → (M.getD (i + p) 0).testBit q = true
  cov : ∀ b, n0 ≤ b → b < rc.n → (∃ x ∈ info, covers x b = true) ∨ ∃ p' rc', rcs[p']? = some rc' ∧ p' < p ∧ rc'.n ≤ b ∧ b < rc'.n'
  t0 : ∀ q, (∀ p' rc', rcs[p']? = some rc' → p' < p → rc'.o.dst ≠ some q) → rc.t.get q = s.t.get q
  t1 : ∀ q p' rc', rcs[p']? = some rc' → p' < p → rc'.o.dst = some q → (∀ p2 rc2, rcs[p2]? = some rc2 → p2 ≠ p' → rc2.o.dst ≠ some q) → rc.t.get q = s'.t.get q
  dst : ∀ q, rc.o.dst = some q → (∀ p2 rc2, rcs[p2]? = some rc2 → p2 ≠ p → rc2.o.dst ≠ some q) → s'.t.get q = some (rc.v.getD .nov)

section
variable {P : Program} {nt lo : Nat} {call : Calr}

theorem setD_get {t : Tr RV} {dst : Option Nat} {v : RV} (hd : ∀ d, dst = some d → d < ub) (q : Nat) : (setD t dst v).get q = if dst = some q then some v else t.get q := by
  cases dst with
  | none => simp [setD]
  | some d =>
    simp only [setD, Tr.get_set (hd d rfl)]
    by_cases e : q = d
    · subst e; simp
    · rw [if_neg e, if_neg (fun h => e (Option.some.inj h).symm)]

theorem updR_st {h : Tr Blk} {n : Nat} {ty : TypeId} {k x : RV} {r : Mv} {b : Nat} (hr : updR P lo h n ty (.mp b) k x = some r) (hub : n ≤ ub) : ∀ c, c ≠ b → r.2.1.get c = h.get c := by
  unfold updR at hr
  split at hr <;> try cases hr
  rename_i b' kv hu hm hk
  cases hm
  split at hr <;> try cases hr
  obtain ⟨hc, hr⟩ := bif_opt hr
  simp only [Bool.and_eq_true, decide_eq_true_eq] at hc
  intro c hcb
  split at hr <;> cases hr
  all_goals
    show (h.set b _).get c = h.get c
    rw [Tr.get_set hc.2, if_neg hcb]
theorem delR_st {h : Tr Blk} {n : Nat} {ty : TypeId} {k : RV} {r : Mv} {b : Nat} (hr : delR P lo h n ty (.mp b) k = some r) (hub : n ≤ ub) : ∀ c, c ≠ b → r.2.1.get c = h.get c := by
  unfold delR at hr
  split at hr <;> try cases hr
  rename_i b' kv hu hm hk
  cases hm
  split at hr <;> try cases hr
  obtain ⟨hc, hr⟩ := bif_opt hr
  simp only [Bool.and_eq_true, decide_eq_true_eq] at hc
  intro c hcb
  split at hr <;> cases hr
  all_goals
    show (h.set b _).get c = h.get c
    rw [Tr.get_set hc.2, if_neg hcb]

/-- A store, an append: no other block turns. -/
theorem mv_st {t : Tr RV} {h : Tr Blk} {n : Nat} {op : Op} {r : Mv} {b : Nat} (hr : mvR P lo t h n op = some r) (hb : wbOf t op = some b) (hbn : b < n) (hub : n ≤ ub) : ∀ c, c < n → c ≠ b → r.2.1.get c = h.get c := by
  cases op with
  | store ty ad x =>
    simp only [mvR] at hr
    simp only [wbOf] at hb
    split at hr <;> try cases hr
    rename_i s b' off vs e1 e2 e3
    rw [e2] at hb
    obtain rfl : b' = b := Option.some.inj hb
    split at hr <;> try cases hr
    obtain ⟨h1, rfl⟩ := bif_some hr
    intro c hc hcb
    show (h.set b' _).get c = h.get c
    rw [Tr.get_set (by omega), if_neg hcb]
  | call c =>
    obtain ⟨cl, args, ts⟩ := c
    cases cl with
    | builtin bi =>
      cases bi with
      | append =>
        simp only [mvR] at hr
        simp only [wbOf] at hb
        split at hr <;> try cases hr
        rename_i x y t1 t2 hargs hts
        rw [hargs] at hb
        simp only at hb
        split at hb <;> try cases hb
        rename_i off len z cap full hx
        rw [hx] at hr
        unfold appR at hr
        split at hr <;> try cases hr
        split at hr <;> try cases hr
        have hck := (bif_opt hr).1
        simp only [Bool.and_eq_true, decide_eq_true_eq] at hck
        replace hr := (bif_opt hr).2
        simp only at hr
        replace hr := (bif_opt hr).2
        intro c hc hcb
        split at hr <;> try cases hr
        · rfl
        · split at hr <;> try cases hr
          replace hr := (bif_opt hr).2
          split at hr
          · generalize hq : decide (len + (_ + 1) ≤ _) = q at hr
            cases q with
            | true =>
              obtain ⟨_, rfl⟩ := bif_some hr
              show (h.set b _).get c = h.get c
              rw [Tr.get_set (by omega), if_neg hcb]
            | false =>
              obtain rfl := Option.some.inj hr
              show (h.set n _).get c = h.get c
              rw [Tr.get_set (by omega), if_neg (by omega)]
          · obtain ⟨_, rfl⟩ := bif_some hr
            show ((h.set b none).set n _).get c = h.get c
            rw [Tr.get_set (by omega), if_neg (by omega), Tr.get_set (by omega), if_neg hcb]
      | delete =>
        simp only [mvR] at hr
        simp only [wbOf] at hb
        split at hr <;> try cases hr
        rename_i m k t1 tl hargs hts
        rw [hargs] at hb
        simp only at hb
        split at hb <;> try cases hb
        rename_i hx
        rw [hx] at hr
        exact fun c _ hcb => delR_st hr hub c hcb
      | _ => first | (cases hb; done) | (cases hr; done)
    | _ => cases hb
  | next x st =>
    cases st with
    | false => cases hr
    | true =>
      simp only [mvR] at hr
      simp only [wbOf] at hb
      split at hr <;> try cases hr
      rename_i b' hx
      rw [hx] at hb
      cases hb
      split at hr <;> try cases hr
      rename_i s pos hb2
      obtain ⟨hc, hr⟩ := bif_opt hr
      simp only [Bool.and_eq_true, decide_eq_true_eq] at hc
      intro c _ hcb
      cases hp : decide (pos < s.size) with
      | true =>
        rw [hp] at hr
        obtain rfl := Option.some.inj hr
        show (h.set b _).get c = h.get c
        rw [Tr.get_set hc.2, if_neg hcb]
      | false =>
        rw [hp] at hr
        obtain rfl := Option.some.inj hr
        rfl
  | mapUpdate ty m k x =>
    simp only [mvR] at hr
    simp only [wbOf] at hb
    split at hb <;> try cases hb
    rename_i hx
    rw [hx] at hr
    exact fun c _ hcb => updR_st hr hub c hcb
  | insert ty m k x =>
    simp only [mvR] at hr
    simp only [wbOf] at hb
    split at hb <;> try cases hb
    rename_i hx
    rw [hx] at hr
    exact fun c _ hcb => updR_st hr hub c hcb
  | _ => cases hb
theorem evO_st {ops : List Oper} {t : Tr RV} {h : Tr Blk} {n : Nat} {o : Oper} {r : Mv} {b : Nat} (hr : evO P call lo ops t h n o = some r) (hrun : isRun ops t o = true) (hb : wbOf t o.op = some b) (hbn : b < n) (hub : n ≤ ub) : ∀ c, c < n → c ≠ b → r.2.1.get c = h.get c := by
  have key : runR P call lo t h n o.op = some r → ∀ c, c < n → c ≠ b → r.2.1.get c = h.get c := fun hr => by
    refine mv_st (P := P) (lo := lo) ?_ hb hbn hub
    cases hop : o.op with
    | store ty ad x => rw [hop] at hr; exact hr
    | next x st => rw [hop] at hr; exact hr
    | mapUpdate ty m k x => rw [hop] at hr; exact hr
    | insert ty m k x => rw [hop] at hr; exact hr
    | call c =>
      obtain ⟨cl, args, ts⟩ := c
      rw [hop] at hr hb
      cases cl with
      | builtin bi =>
        cases bi <;> first | (cases hb; done) | exact hr
      | _ => cases hb
    | _ => rw [hop] at hb; cases hb
  unfold evO at hr
  unfold isRun at hrun
  split at hr
  · exact key hr
  · rename_i j want hg
    rw [hg] at hrun
    simp only at hrun
    split at hr
    · exact key hr
    · rename_i hgt; rw [hgt] at hrun; cases hrun
    · cases hr

theorem phR_ok (hc : CallsOk P call) {ops : List Oper} {M : List Nat} {HL : List (Nat × Nat)} {effF : FuncId → Bool} {n0 : Nat} (hbits : ∀ i j, (M.getD i 0).testBit j = true → j < i) (hHL : ∀ x ∈ HL, x.2 < n0) (hln : lo ≤ n0) (hnub : n0 ≤ ub) : ∀ (l : List Oper) (i : Nat) (info : List (Nat × Nat × Nat)) (s : St) (i' : Nat) (s' : St) (rest : List Oper), phR P call lo ops M HL effF n0 i l info s = some (i', s', rest) →
    (∀ x ∈ info, x.2.1 + x.2.2 ≤ s.n) → (∀ x ∈ info, x.1 < i) → (∀ b, n0 ≤ b → b < s.n → ∃ x ∈ info, covers x b = true) → n0 ≤ s.n → (∀ o ∈ l, ∀ d, o.dst = some d → d < ub) →
    ∃ rcs : List Rc, l = rcs.map (·.o) ++ rest ∧ i' = i + rcs.length ∧ (s.n ≤ s'.n ∧ ∀ b, (b < n0 ∧ ∀ x ∈ HL, x.2 ≠ b) ∨ s'.n ≤ b → s'.h.get b = s.h.get b) ∧ (∀ q, (∀ rc ∈ rcs, rc.o.dst ≠ some q) → s'.t.get q = s.t.get q) ∧
      (∀ b, n0 ≤ b → (∀ x ∈ info, covers x b = false) → (∀ rc ∈ rcs, ¬ (rc.n ≤ b ∧ b < rc.n')) → s'.h.get b = s.h.get b) ∧ (∀ b, b < s.n → Nx rcs s' 0 b (s.h.get b)) ∧
      ∀ p rc, rcs[p]? = some rc → RcOk P lo ops M HL n0 info i s s' rcs p rc
  | [], i, info, s, i', s', rest, h, _, _, _, _, _ => by
    unfold phR at h
    cases h
    exact ⟨[], rfl, rfl, ⟨Nat.le_refl _, fun _ _ => rfl⟩, fun _ _ => rfl, fun _ _ _ _ => rfl, fun b _ => .inr ⟨fun p2 rc2 h => by simp at h, rfl⟩, fun p rc hp => by simp at hp⟩
  | o :: l, i, info, ⟨t, h, n⟩, i', s', rest, hr, hinfo, hidx, hcov, hn0, hdu => by
    unfold phR at hr
    cases he : isRun ops t o && isEff effF n0 t o.op && !HL.any (fun x => x.1 == i) with
    | true =>
      rw [he] at hr
      cases hr
      exact ⟨[], rfl, rfl, ⟨Nat.le_refl _, fun _ _ => rfl⟩, fun _ _ => rfl, fun _ _ _ _ => rfl, fun b _ => .inr ⟨fun p2 rc2 h => by simp at h, rfl⟩, fun p rc hp => by simp at hp⟩
    | false =>
      rw [he] at hr
      simp only [cond_false] at hr
      have hub := (bif_opt hr).1
      replace hr := (bif_opt hr).2
      simp only [Bool.and_eq_true, decide_eq_true_eq] at hub
      obtain ⟨hub, hwok⟩ := hub
      have hn0 : n0 ≤ n := hn0
      have hinfo : ∀ x ∈ info, x.2.1 + x.2.2 ≤ n := hinfo
      have hcov : ∀ b, n0 ≤ b → b < n → ∃ x ∈ info, covers x b = true := hcov
      have hwb : ∀ b, (bif isRun ops t o then wbF HL i n0 n t (msk M HL i info h) o.op else none) = some b → isRun ops t o = true ∧ wbOf t o.op = some b ∧ (n0 ≤ b ∨ (i, b) ∈ HL) ∧ b < n ∧ (msk M HL i info h).get b ≠ none := fun b hb => by
        obtain ⟨h1, h2⟩ := bif_opt hb
        obtain ⟨h3, h4, h5, h6⟩ := wbF_ok h2
        exact ⟨h1, h3, h4, h5, h6⟩
      generalize (bif isRun ops t o then wbF HL i n0 n t (msk M HL i info h) o.op else none) = wb at *
      split at hr <;> try cases hr
      rename_i v h' n' hv
      have hlo1 : lo ≤ wbLo lo n wb ∧ wbLo lo n wb ≤ n := by cases wb <;> simp [wbLo] <;> omega
      have hg := evO_ok hc hlo1.2 hv
      obtain ⟨k1, k2⟩ := hg.1
      have k1 : n ≤ n' := k1
      have k2 : ∀ b, b < wbLo lo n wb ∨ n' ≤ b → h'.get b = (msk M HL i info h).get b := k2
      have hst : ∀ b, b < n → wb ≠ some b → h'.get b = (msk M HL i info h).get b := fun b hb hne => by
        cases hwbv : wb with
        | none => rw [hwbv] at k2; exact k2 b (.inl hb)
        | some c =>
          obtain ⟨q1, q2, q3, q4, q5⟩ := hwb c hwbv
          exact evO_st hv q1 q2 q4 hub b hb fun e => hne (by rw [hwbv, e])
      have hHu : ∀ x ∈ HL, x.2 < ub := fun x hx => by have := hHL x hx; omega
      have hmk := msk_get M HL i info h (fun x hx => Nat.le_trans (hinfo x hx) hub) hHu
      have hrs := rst_get M HL i info h h' (fun x hx => Nat.le_trans (hinfo x hx) hub) hHu
      have hidlt : ∀ b, HidB M HL i info b → b < n := fun b hb => by
        rcases hb with ⟨x, hx, _, _, h3⟩ | ⟨x, hx, rfl, _⟩
        · have := hinfo x hx; omega
        · have := hHL x hx; omega
      have hwn : ∀ b, wb = some b → ¬ HidB M HL i info b := fun b hb hh => (hwb b hb).2.2.2.2 ((hmk b).1 hh)
      -- the whole heap behind the operation
      have hnext1 : ∀ b, wb = some b ∨ (n ≤ b ∧ b < n') → (rst M HL i info h h').get b = h'.get b := fun b hb => by
        refine (hrs b).2 fun hh => ?_
        rcases hb with hb | hb
        · exact hwn b hb hh
        · have := hidlt b hh; omega
      have hnext0 : ∀ b, wb ≠ some b → ¬ (n ≤ b ∧ b < n') → (rst M HL i info h h').get b = h.get b := fun b hb1 hb2 => by
        by_cases hh : HidB M HL i info b
        · exact (hrs b).1 hh
        · rw [(hrs b).2 hh]
          rcases Nat.lt_or_ge b n with h3 | h3
          · rw [hst b h3 hb1, (hmk b).2 hh]
          · rw [k2 b (.inr (by omega)), (hmk b).2 hh]
      have hsub0 : ∀ x ∈ info, x ∈ wbInfo i wb (bif decide (n' = n) then info else (i, n, n' - n) :: info) := fun x hx => by
        have : x ∈ (bif decide (n' = n) then info else (i, n, n' - n) :: info) := by
          cases decide (n' = n) with
          | true => exact hx
          | false => exact List.mem_cons_of_mem _ hx
        cases wb with
        | none => exact this
        | some b => exact List.mem_cons_of_mem _ this
      have hnewin : n < n' → (i, n, n' - n) ∈ wbInfo i wb (bif decide (n' = n) then info else (i, n, n' - n) :: info) := fun hlt => by
        rw [decide_eq_false (show ¬ n' = n by omega)]
        cases wb with
        | none => exact List.mem_cons_self
        | some b => exact List.mem_cons_of_mem _ List.mem_cons_self
      have hcases : ∀ x ∈ wbInfo i wb (bif decide (n' = n) then info else (i, n, n' - n) :: info), x ∈ info ∨ (x = (i, n, n' - n) ∧ n < n') ∨ ∃ b, wb = some b ∧ x = (i, b, 1) := fun x hx => by
        have key : x ∈ (bif decide (n' = n) then info else (i, n, n' - n) :: info) → x ∈ info ∨ (x = (i, n, n' - n) ∧ n < n') := fun hx => by
          cases hd : decide (n' = n) with
          | true => rw [hd] at hx; exact .inl hx
          | false =>
            rw [hd] at hx
            have := of_decide_eq_false hd
            rcases List.mem_cons.1 hx with rfl | hx
            · exact .inr ⟨rfl, by omega⟩
            · exact .inl hx
        cases hwbv : wb with
        | none => rw [hwbv] at hx; exact (key hx).imp id fun q => .inl q
        | some b =>
          rw [hwbv] at hx
          rcases List.mem_cons.1 hx with rfl | hx
          · exact .inr (.inr ⟨b, rfl, rfl⟩)
          · exact (key hx).imp id fun q => .inl q
      obtain ⟨rcs, j1, j2, j3, j4, j6, j7, j5⟩ := phR_ok hc hbits hHL hln hnub l (i + 1) _ _ i' s' rest hr (fun x hx => by
          rcases hcases x hx with hx | ⟨rfl, _⟩ | ⟨b, hb, rfl⟩
          · have := hinfo x hx; show x.2.1 + x.2.2 ≤ n'; omega
          · show n + (n' - n) ≤ n'; omega
          · have := (hwb b hb).2.2.2.1; show b + 1 ≤ n'; omega)
        (fun x hx => by
          rcases hcases x hx with hx | ⟨rfl, _⟩ | ⟨b, hb, rfl⟩
          · have := hidx x hx; omega
          · show i < i + 1; omega
          · show i < i + 1; omega)
        (fun b hb1 hb2 => by
          have hb2 : b < n' := hb2
          rcases Nat.lt_or_ge b n with h3 | h3
          · obtain ⟨x, hx, hc⟩ := hcov b hb1 h3
            exact ⟨x, hsub0 x hx, hc⟩
          · exact ⟨_, hnewin (by omega), covers_iff.2 ⟨h3, by show b < n + (n' - n); omega⟩⟩)
        (Nat.le_trans hn0 k1) fun o' ho' => hdu o' (by simp [ho'])
      have hdo := hdu o (by simp)
      obtain ⟨j3a, j3b⟩ := j3
      have j3a : n' ≤ s'.n := j3a
      have j3b : ∀ b, (b < n0 ∧ ∀ x ∈ HL, x.2 ≠ b) ∨ s'.n ≤ b → s'.h.get b = (rst M HL i info h h').get b := j3b
      have j7 : ∀ b, b < n' → Nx rcs s' 0 b ((rst M HL i info h h').get b) := j7
      have hwlt : ∀ b, wb = some b → (n0 ≤ b ∨ (i, b) ∈ HL) ∧ b < n := fun b hb => ⟨(hwb b hb).2.2.1, (hwb b hb).2.2.2.1⟩
      have hpersist : ∀ b, b < n → Nx (⟨o, t, msk M HL i info h, h', n, n', v, wb⟩ :: rcs) s' 0 b (h.get b) := fun b hb => by
        by_cases e : wb = some b
        · refine .inl ⟨0, _, rfl, Nat.le_refl _, e, fun p2 rc2 _ _ hlt => absurd hlt (Nat.not_lt_zero _), ?_⟩
          exact (hmk b).2 (hwn b e)
        · have := j7 b (by omega)
          rw [hnext0 b e (by omega)] at this
          exact this.shift.skip fun rc hrc => by simp at hrc; subst hrc; exact e
      refine ⟨⟨o, t, msk M HL i info h, h', n, n', v, wb⟩ :: rcs, by rw [j1]; rfl, by rw [j2]; simp; omega, ⟨Nat.le_trans k1 j3a, fun b hb => ?_⟩, fun q hq => ?_, fun b hb1 hb2 hb3 => ?_, hpersist, fun p rc hp => ?_⟩
      · rw [j3b b hb, hnext0 b (fun e => by
          obtain ⟨q1, q2⟩ := hwlt b e
          rcases hb with ⟨q3, q4⟩ | q3
          · rcases q1 with q1 | q1
            · omega
            · exact q4 _ q1 rfl
          · have q3 : s'.n ≤ b := q3
            omega) (by
          rcases hb with ⟨q3, q4⟩ | q3
          · omega
          · have q3 : s'.n ≤ b := q3
            omega)]
      · rw [j4 q fun rc hrc => hq rc (by simp [hrc])]
        show (setD t o.dst (v.getD .nov)).get q = t.get q
        have hne : o.dst ≠ some q := hq _ List.mem_cons_self
        rw [setD_get hdo, if_neg hne]
      · have hne : ¬ (n ≤ b ∧ b < n') := hb3 _ List.mem_cons_self
        have hnw : wb ≠ some b := fun e => by
          obtain ⟨x, hx, hc⟩ := hcov b hb1 (hwlt b e).2
          rw [hb2 x hx] at hc; cases hc
        rw [j6 b hb1 (fun x hx => ?_) fun rc hrc => hb3 rc (by simp [hrc])]
        · show (rst M HL i info h h').get b = h.get b
          exact hnext0 b hnw hne
        · rcases hcases x hx with hx | ⟨rfl, _⟩ | ⟨b', hb', rfl⟩
          · exact hb2 x hx
          · cases hc : covers (i, n, n' - n) b with
            | false => rfl
            | true => have := covers_iff.1 hc; exact absurd ⟨this.1, by have := this.2; show b < n'; simp at this; omega⟩ hne
          · cases hc : covers (i, b', 1) b with
            | false => rfl
            | true => have := covers_iff.1 hc; simp at this; exact absurd (by rw [hb']; congr 1; omega) hnw
      · cases p with
        | zero =>
          simp at hp
          subst hp
          refine ⟨Nat.le_refl _, k1, j3a, fun p' rc' hp' hlt => ?_, ⟨_, hlo1.1, hlo1.2, hg⟩, fun b hb hn => ?_, fun b hb hn => ?_, fun b hb1 hb2 => ?_, fun b hb => ?_, fun b hb => ⟨by simpa using (hwlt b hb).1, (hwlt b hb).2, (hwb b hb).2.2.2.2⟩, hst, fun b hb => (hmk b).1 (.inl (by simpa using hb)), fun p' rc' _ hlt => absurd hlt (Nat.not_lt_zero _), fun p' rc' b hp' hlt hw' hv' => ?_, fun b hb x hx hcx => ?_, fun b hb1 hb2 => .inl (hcov b hb1 hb2), fun q _ => rfl, fun q p' rc' _ hlt => absurd hlt (Nat.not_lt_zero _), fun q hq hu => ?_⟩
          · obtain ⟨p2, rfl⟩ : ∃ p2, p' = p2 + 1 := ⟨p' - 1, by omega⟩
            exact (j5 p2 rc' (by simpa using hp')).n1
          · have hnh : ¬ HidB M HL i info b := fun q => hn ((hmk b).1 q)
            show Nx _ s' 0 b ((msk M HL i info h).get b)
            rw [(hmk b).2 hnh]
            exact hpersist b hb
          · have hnh : ¬ HidB M HL i info b := fun q => hn ((hmk b).1 q)
            show (msk M HL i info h).get b = _
            rw [(hmk b).2 hnh]
          · have := j7 b hb2
            rw [hnext1 b (.inr ⟨hb1, hb2⟩)] at this
            exact this.shift
          · have hb : wb = some b := hb
            have := j7 b (by have := hwlt b hb; omega)
            rw [hnext1 b (.inl hb)] at this
            exact this.shift
          · obtain ⟨p2, rfl⟩ : ∃ p2, p' = p2 + 1 := ⟨p' - 1, by omega⟩
            have R := j5 p2 rc' (by simpa using hp')
            rw [show i + (p2 + 1) = i + 1 + p2 by omega, Nat.add_zero]
            rcases hv' with ⟨h1, h2⟩ | ⟨h1, h2⟩
            · have h1 : b < n := h1
              have h2 : (msk M HL i info h).get b ≠ none := h2
              rcases Nat.lt_or_ge b n0 with h0 | h0
              · have hm : (i + 1 + p2, b) ∈ HL := by
                  rcases (R.wv b hw').1 with h3 | h3
                  · omega
                  · exact h3
                cases hq : (M.getD (i + 1 + p2) 0).testBit i with
                | true => rfl
                | false =>
                  refine absurd ((hmk b).1 (.inr ⟨_, hm, rfl, by show i + 1 + p2 ≠ i; omega, ?_, hq⟩)) h2
                  cases hq2 : (M.getD i 0).testBit (i + 1 + p2) with
                  | false => rfl
                  | true => have := hbits _ _ hq2; omega
              obtain ⟨x, hx, hcx⟩ := hcov b h0 h1
              have hbit : (M.getD i 0).testBit x.1 = true := by
                cases hq : (M.getD i 0).testBit x.1 with
                | true => rfl
                | false => exact absurd ((hmk b).1 (.inl ⟨x, hx, hq, covers_iff.1 hcx⟩)) h2
              exact (R.kk b hw' x (hsub0 x hx) hcx).2 i (hidx x hx) (by omega) hbit
            · have h1 : n ≤ b := h1
              have h2 : b < n' := h2
              exact (R.kk b hw' _ (hnewin (by omega)) (covers_iff.2 ⟨h1, by show b < n + (n' - n); omega⟩)).1
          · have hb : wb = some b := hb
            rw [hb] at hwok
            unfold wbOk at hwok
            simp only [List.all_eq_true, Bool.or_eq_true, Bool.not_eq_true', Bool.and_eq_true, List.mem_range, decide_eq_true_eq] at hwok
            rcases hwok x hx with h1 | ⟨h1, h2⟩
            · rw [hcx] at h1; cases h1
            · refine ⟨h1, fun q hq1 hq2 hq3 => ?_⟩
              rcases h2 q hq2 with (h3 | h3) | h3
              · omega
              · rw [hq3] at h3; cases h3
              · exact h3
          · rw [j4 q fun rc hrc => ?_]
            · show (setD t o.dst (v.getD .nov)).get q = _
              rw [setD_get hdo, if_pos hq]
            · obtain ⟨p2, hp2⟩ := List.getElem?_of_mem hrc
              exact hu (p2 + 1) rc (by simpa using hp2) (by omega)
        | succ p =>
          have hp : rcs[p]? = some rc := by simpa using hp
          have R := j5 p rc hp
          have hip : i + 1 + p = i + (p + 1) := by omega
          have rn1 : n' ≤ rc.n := R.n1
          refine ⟨Nat.le_trans k1 R.n1, R.n2, R.n3, fun p' rc' hp' hlt => ?_, R.ok, fun b hb hn => (R.low b hb hn).shift, fun b hb hn => ?_, fun b hb1 hb2 => (R.new b hb1 hb2).shift, fun b hb => (R.wr b hb).shift, fun b hb => by have := R.wv b hb; rwa [hip] at this, R.st, fun b hb => ?_, fun p' rc' hp' hlt hbit b hb => ?_, fun p' rc' b hp' hlt hw' hv' => ?_, fun b hb x hx hcx => ?_, fun b hb1 hb2 => ?_, fun q hq => ?_, fun q p' rc' hp' hlt hd hu => ?_, fun q hq hu => ?_⟩
          · obtain ⟨p2, rfl⟩ : ∃ p2, p' = p2 + 1 := ⟨p' - 1, by omega⟩
            exact R.nx p2 rc' (by simpa using hp') (by omega)
          · have := R.hi b hb hn
            rw [this]
            show (rst M HL i info h h').get b = h.get b
            exact hnext0 b (fun e => by have := (hwlt b e).2; omega) (by omega)
          · refine R.hid b ?_
            rw [hip]
            obtain ⟨x, hx, q1⟩ := hb
            exact ⟨x, hsub0 x hx, q1⟩
          · cases p' with
            | zero =>
              simp at hp'
              subst hp'
              refine R.hid b ?_
              rw [hip]
              rcases hb with ⟨hb1, hb2⟩ | hb
              · have hb1 : n ≤ b := hb1
                have hb2 : b < n' := hb2
                exact ⟨_, hnewin (by omega), by simpa using hbit, hb1, by show b < n + (n' - n); omega⟩
              · have hb : wb = some b := hb
                refine ⟨(i, b, 1), ?_, by simpa using hbit, Nat.le_refl _, by show b < b + 1; omega⟩
                rw [hb]
                exact List.mem_cons_self
            | succ p' => exact R.hid' p' rc' (by simpa using hp') (by omega) (by rw [hip, show i + 1 + p' = i + (p' + 1) by omega]; exact hbit) b hb
          · obtain ⟨p2, rfl⟩ : ∃ p2, p' = p2 + 1 := ⟨p' - 1, by omega⟩
            have := R.see p2 rc' b (by simpa using hp') (by omega) hw' hv'
            rwa [hip, show i + 1 + p2 = i + (p2 + 1) by omega] at this
          · have := R.kk b hb x (hsub0 x hx) hcx
            rwa [hip] at this
          · rcases R.cov b hb1 hb2 with ⟨x, hx, hcx⟩ | ⟨p', rc', h1, h2, h3⟩
            · rcases hcases x hx with hx | ⟨rfl, _⟩ | ⟨b', hb', rfl⟩
              · exact .inl ⟨x, hx, hcx⟩
              · have := covers_iff.1 hcx
                exact .inr ⟨0, _, rfl, by omega, this.1, by have := this.2; show b < n'; simp at this; omega⟩
              · have := covers_iff.1 hcx
                simp at this
                obtain rfl : b = b' := by omega
                exact .inl (hcov b hb1 (hwlt b hb').2)
            · exact .inr ⟨p' + 1, rc', by simpa using h1, by omega, h3⟩
          · have h1 := R.t0 q fun p' rc' hp' hlt => hq (p' + 1) rc' (by simpa using hp') (by omega)
            rw [h1]
            show (setD t o.dst (v.getD .nov)).get q = t.get q
            have hne : o.dst ≠ some q := hq 0 _ rfl (by omega)
            rw [setD_get hdo, if_neg hne]
          · cases p' with
            | zero =>
              simp at hp'
              subst hp'
              have hd : o.dst = some q := hd
              have hne : ∀ (p2 : Nat) (rc2 : Rc), rcs[p2]? = some rc2 → rc2.o.dst ≠ some q := fun p2 rc2 h2 => hu (p2 + 1) rc2 (by simpa using h2) (by omega)
              rw [R.t0 q fun p2 rc2 h2 _ => hne p2 rc2 h2, j4 q fun rc2 hrc2 => ?_]
              obtain ⟨p2, hp2⟩ := List.getElem?_of_mem hrc2
              exact hne p2 rc2 hp2
            | succ p' => exact R.t1 q p' rc' (by simpa using hp') (by omega) hd fun p2 rc2 h2 hne => hu (p2 + 1) rc2 (by simpa using h2) (by omega)
          · exact R.dst q hq fun p2 rc2 h2 hne => hu (p2 + 1) rc2 (by simpa using h2) (by omega)
end
end Go.Rv
