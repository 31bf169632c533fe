/- The model's operation gives just the abstract value that the layer's function names. -/
import Derived.Test.YtnpokifaejcbeaaGreatDoorSgOps
set_option linter.unusedVariables false
set_option linter.unusedSimpArgs false
namespace Go.Sg
open Go.RowKit

section
variable {P : Program} {nt : Nat} {w : World} {I : Nat → Prop} {A : Own} {ρ : Env} {a : Act}

theorem ERel.ungd {d : DV} {x : Value} (h : ERel w I A d x) (hg : gd d) : Rel w I A (un d) x := by
  cases d <;> first | exact h | exact h.1 hg

/-- The value of an operand, unguarded. -/
theorem Sim.opd (hs : Sim nt w I A ρ a) (o : Operand) (ho : opdOk nt o = true) (hg : gd (ev ρ o)) : Rel w I A (un (ev ρ o)) (a.eval o) :=
  (hs.evRel o ho).ungd hg

theorem agg_of_cells {B : Own} {cs : List DV} {us : Nat → Value} (hone : ∀ j, j < cs.length → (us j).oneCell' = true) (hr : ∀ (j : Nat) (d : DV), cs[j]? = some d → Rel w I B d (us j)) :
    Rel w I B (.agg cs) (.agg ((List.range cs.length).map us).toArray) := by
  refine .agg B cs _ (by simp) (fun u hu => ?_) fun j d u hd hu => ?_
  · simp at hu
    obtain ⟨j, hj, rfl⟩ := hu
    exact hone j hj
  · simp only [List.getElem?_toArray, List.getElem?_map, Option.map_eq_some_iff] at hu
    obtain ⟨k, hk, rfl⟩ := hu
    have hj : j < cs.length := by
      rcases Nat.lt_or_ge j cs.length with h | h
      · exact h
      · rw [List.getElem?_eq_none (by simpa using h)] at hk; cases hk
    rw [List.getElem?_range hj] at hk
    cases hk
    exact hr j d hd

theorem run_loadAt {B : Own} {t : TypeId} {ld : Option Nat} (h : ldOf P t = some ld) {b o : Nat} {cs : List DV} {us : Nat → Value} {off : Nat}
    (hcell : ∀ j, j < cs.length → w.cell? ⟨b, o + j, none⟩ = some (us j)) (hone : ∀ j, j < cs.length → (us j).oneCell' = true) (hr : ∀ (j : Nat) (d : DV), cs[j]? = some d → Rel w I B d (us j))
    (hc : (cut ld off cs).1) : ∃ x, (Instr.loadAt t (.pointer (some ⟨b, o + off, none⟩))).run P w = .ok x w ∧ Rel w I B (cut ld off cs).2 x := by
  unfold ldOf at h
  cases ld with
  | none =>
    simp only [cut] at hc ⊢
    refine ⟨us off, ?_, hr _ _ (by rw [List.getD_eq_getElem?_getD, List.getElem?_eq_getElem hc]; rfl)⟩
    have h2 := hcell off hc
    split at h <;> simp at h
    rename_i i d n1 n2 hi hu
    cases d <;> first
      | exact absurd rfl (n1 _)
      | exact absurd rfl (n2 _ _)
      | simp [Instr.loadAt, Instr.sureAddr, loadVar, isAgg, run_underlying hu, h2]
  | some n =>
    simp only [cut] at hc ⊢
    have key : ∀ i, P.info? t = some i → i.size = n → (loadCells ⟨b, o + off, none⟩ n).run P w = .ok ((List.range n).map fun j => us (off + j)).toArray w := fun i _ _ =>
      run_loadCells w _ n (fun j => us (off + j)) fun j hj => by
        rw [Addr.add_lit]
        have := hcell (off + j) (by omega)
        rwa [← Nat.add_assoc] at this
    have hlen : ((cs.drop off).take n).length = n := by simp; omega
    refine ⟨.agg ((List.range n).map fun j => us (off + j)).toArray, ?_, ?_⟩
    · split at h <;> simp at h
      · rename_i i fs hi hu
        have := key i hi h
        simp [Instr.loadAt, Instr.sureAddr, loadVar, isAgg, run_underlying hu, run_sizeOf w hi, Program.cellsOf, hi, h, this]
      · rename_i i m e hi hu
        have := key i hi h
        simp [Instr.loadAt, Instr.sureAddr, loadVar, isAgg, run_underlying hu, run_sizeOf w hi, Program.cellsOf, hi, h, this]
    · have := agg_of_cells (w := w) (I := I) (B := B) (cs := (cs.drop off).take n) (us := fun j => us (off + j)) (fun j hj => hone _ (by rw [hlen] at hj; omega)) (fun j d hd => by
        refine hr (off + j) d ?_
        rw [List.getElem?_take] at hd
        split at hd
        · rwa [List.getElem?_drop] at hd
        · cases hd)
      rwa [hlen] at this

theorem run_load (hs : Sim nt w I A ρ a) {t : TypeId} {d : DV} {x : Value} (hx : Rel w I A d x) (h : (loadP ρ (ldOf P t) d).1) :
    ∃ y, (Instr.loadAt t x).run P w = .ok y w ∧ Rel w I A (loadP ρ (ldOf P t) d).2 y := by
  cases hld : ldOf P t with
  | none => rw [hld] at h; exact h.elim
  | some ld =>
    rw [hld] at h
    cases hx with
    | dp _ cs b o us hI hcell hone hrel =>
      obtain ⟨y, h1, h2⟩ := run_loadAt hld (off := 0) hcell hone hrel h
      exact ⟨y, h1, h2.ofNoOwn⟩
    | bp _ s off g c hA =>
      simp only [loadP] at h ⊢
      have ho := hs.osim.own s
      cases hc : ρ s <;> rw [hc] at h ho <;> simp only [loadB] at h ⊢ <;> try exact h.elim
      obtain ⟨g', c', us, et, h1, h2, h3, h4, h5⟩ := ho
      rw [hA] at h1
      simp only [Option.some.injEq, Prod.mk.injEq] at h1
      obtain ⟨rfl, rfl⟩ := h1
      rename_i cs
      have hus : ∀ j, j < cs.length → us[j]? = some (us.getD j undef) := fun j hj => by simp [Array.getElem?_eq_getElem (show j < us.size by omega)]
      have := run_loadAt (P := P) (w := w) (I := I) (B := A) hld (b := g) (o := 0) (cs := cs) (us := fun j => us.getD j undef) (off := off)
        (fun j hj => by unfold World.cell?; simp only [Nat.zero_add, h2]; simp [Array.getElem?_eq_getElem (show j < us.size by omega)])
        (fun j hj => h4 _ (by have := hus j hj; exact Array.mem_toList_iff.2 (Array.mem_of_getElem? this)))
        (fun j d hd => h5 j d _ hd (hus j (by rcases Nat.lt_or_ge j cs.length with h' | h'; exact h'; rw [List.getElem?_eq_none h'] at hd; cases hd))) h
      simpa using this
    | rp _ s z i off g c hA =>
      simp only [loadP] at h ⊢
      have ho := hs.osim.own s
      cases hc : ρ s <;> rw [hc] at h ho <;> simp only [loadR] at h ⊢ <;> try exact h.elim
      obtain ⟨B, c', h1, h2⟩ := ho
      rw [hA] at h1
      simp only [Option.some.injEq, Prod.mk.injEq] at h1
      obtain ⟨rfl, rfl⟩ := h1
      rename_i e' z' xs
      obtain ⟨us, h2, h3, _, h4, h6⟩ := h2
      obtain ⟨rfl, hi, hcut⟩ := h
      have hxi : xs[i]? = some (xs.getD i []) := by rw [List.getD_eq_getElem?_getD, List.getElem?_eq_getElem hi]; rfl
      obtain ⟨hl, hd⟩ := h6 i _ hxi
      generalize xs.getD i [] = cs at *
      have hbound : ∀ j, j < cs.length → i * z + j < us.size := fun j hj => by
        have : (i + 1) * z ≤ c * z := Nat.mul_le_mul_right z (by omega)
        rw [Nat.succ_mul] at this
        omega
      have hus : ∀ j, j < cs.length → us[i * z + j]? = some (us.getD (i * z + j) undef) := fun j hj => by simp [Array.getElem?_eq_getElem (hbound j hj)]
      obtain ⟨y, h1, h2⟩ := run_loadAt (P := P) (w := w) (I := I) (B := noOwn) hld (b := g) (o := i * z) (cs := cs) (us := fun j => us.getD (i * z + j) undef) (off := off)
        (fun j hj => by unfold World.cell?; simp only [h2]; simp [Array.getElem?_eq_getElem (hbound j hj)])
        (fun j hj => (hd j _ _ (List.getElem?_eq_getElem hj) (hus j hj)).1)
        (fun j d hd' => (hd j d _ hd' (hus j (by rcases Nat.lt_or_ge j cs.length with h' | h'; exact h'; rw [List.getElem?_eq_none h'] at hd'; cases hd'))).2) hcut
      exact ⟨y, h1, h2.ofNoOwn⟩
    | _ => exact h.elim

theorem run_fieldAt {s : TypeId} {f : Nat} {d : DV} {x : Value} (hx : Rel w I A d x) (h : (fldP (fldOf P s f) d).1) :
    ∃ y, (Instr.fieldAt s x f).run P w = .ok y w ∧ Rel w I A (fldP (fldOf P s f) d).2 y := by
  unfold fldOf at h ⊢
  split at h <;> try exact h.elim
  rename_i fs hu
  split at h <;> try exact h.elim
  rename_i fd hf
  split at h <;> try exact h.elim
  rename_i i hi
  split at h <;> try exact h.elim
  rename_i hz
  simp only [hu, hf, hi, hz, if_false] at h ⊢
  have key : ∀ b o, (Instr.fieldAt s (.pointer (some ⟨b, o, none⟩)) f).run P w = .ok (.pointer (some ⟨b, o + fd.offset, none⟩)) w := fun b o => by
    simp [Instr.fieldAt, run_underlying hu, hf, Instr.sureAddr, fieldPlace, run_sizeOf w hi, Program.cellsOf, hi, hz, Addr.add_lit]
  cases hx with
  | dp _ cs b o us hI hcell hone hrel =>
    refine ⟨_, key b o, ?_⟩
    refine .dp A _ b (o + fd.offset) (fun j => us (fd.offset + j)) hI (fun j hj => ?_) (fun j hj => hone _ (by simp at hj; omega)) (fun j d hd => hrel _ _ (by rwa [List.getElem?_drop] at hd))
    have := hcell (fd.offset + j) (by simp at hj; omega)
    rwa [← Nat.add_assoc] at this
  | bp _ s off g c hA => exact ⟨_, key g off, .bp A s (off + fd.offset) g c hA⟩
  | rp _ s z i off g c hA => exact ⟨_, key g _, by rw [Nat.add_assoc]; exact .rp A s z i (off + fd.offset) g c hA⟩
  | _ => exact h.elim

theorem run_indexAt (hs : Sim nt w I A ρ a) {t : TypeId} {d e : DV} {x y : Value} (hx : Rel w I A d x) (hy : Rel w I A e y) (h : (idxP ρ (elOf P t) d e).1) :
    ∃ r, (Instr.indexAt t x y).run P w = .ok r w ∧ Rel w I A (idxP ρ (elOf P t) d e).2 r := by
  cases hel : elOf P t with
  | none => rw [hel] at h; exact h.elim
  | some el =>
    rw [hel] at h
    obtain ⟨on, z⟩ := el
    unfold elOf at hel
    have he : ∃ kk k, e = .v (.int kk k) := by
      cases on <;> cases e <;> simp only [idxP] at h <;> try exact h.elim
      all_goals (rename_i q; cases q <;> simp only [idxP] at h <;> first | exact h.elim | exact ⟨_, _, rfl⟩)
    obtain ⟨kk, k, rfl⟩ := he
    cases hy
    cases on with
    | none =>
      split at hel <;> simp at hel
      rename_i e' hu
      obtain ⟨i, hi, hz⟩ := hel
      have key : ∀ (b o n c : Nat), 0 ≤ k → k < (n : Int) → (Instr.indexAt t (.slice (some ⟨b, o, none⟩) n c) (.int kk k)).run P w = .ok (.pointer (some ⟨b, o + k.toNat * z, none⟩)) w := fun b o n c h1 h2 => by
        simp [Instr.indexAt, asIntOf, run_underlying hu, h1, h2, run_sizeOf w hi, Program.cellsOf, hi, hz, Addr.add_lit]
      cases hx with
      | sl0 _ z' f b c => simp only [idxP] at h; omega
      | sl _ z' n f b o c us hn hc hm hI hzz hcell hone hrel =>
        obtain ⟨rfl, h1, h2⟩ := h
        refine ⟨_, key b o n c h1 h2, ?_⟩
        have hk : k.toNat < n := by omega
        refine .dp A _ b _ (us k.toNat) hI (fun j hj => ?_) (fun j hj => hone _ _ hk (by rwa [hzz _ hk] at hj)) (fun j d hd => hrel _ _ _ hk hd)
        rw [Nat.add_assoc]
        exact hcell _ _ hk (by rwa [hzz _ hk] at hj)
      | own _ s n B c b hA hb =>
        obtain ⟨h1, h2, e', xs, hxs, hle⟩ := h
        have ho := hs.osim.own s
        rw [hxs] at ho
        obtain ⟨B', c', hA', hrow⟩ := ho
        rw [hA] at hA'
        simp only [Option.some.injEq, Prod.mk.injEq] at hA'
        obtain ⟨rfl, rfl⟩ := hA'
        cases B with
        | none =>
          obtain ⟨rfl, _⟩ := hrow
          simp at hle
          omega
        | some g =>
          obtain rfl := baseOk_some hb
          refine ⟨_, key g 0 n c h1 h2, ?_⟩
          have := Rel.rp (w := w) (I := I) A s z k.toNat 0 g c hA
          simp only [Nat.zero_add, Nat.add_zero] at this ⊢
          exact this
      | _ => exact h.elim
    | some n =>
      split at hel <;> simp at hel
      rename_i m e' hu
      obtain ⟨i, hi, rfl, hz⟩ := hel
      have key : ∀ b o, 0 ≤ k → k < (m : Int) → (Instr.indexAt t (.pointer (some ⟨b, o, none⟩)) (.int kk k)).run P w = .ok (.pointer (some ⟨b, o + k.toNat * z, none⟩)) w := fun b o h1 h2 => by
        simp [Instr.indexAt, Instr.sureAddr, asIntOf, run_underlying hu, h1, h2, run_sizeOf w hi, Program.cellsOf, hi, hz, Addr.add_lit]
      cases hx with
      | dp _ cs b o us hI hcell hone hrel =>
        refine ⟨_, key b o h.1 h.2, ?_⟩
        refine .dp A _ b _ (fun j => us (k.toNat * z + j)) hI (fun j hj => ?_) (fun j hj => hone _ (by simp at hj; omega)) (fun j d hd => hrel _ _ (by rwa [List.getElem?_drop] at hd))
        have := hcell (k.toNat * z + j) (by simp at hj; omega)
        rwa [← Nat.add_assoc] at this
      | bp _ s off g c hA => exact ⟨_, key g off h.1 h.2, .bp A s _ g c hA⟩
      | rp _ s z' i' off g c hA => exact ⟨_, key g _ h.1 h.2, by rw [Nat.add_assoc]; exact .rp A s z' i' _ g c hA⟩
      | _ => exact h.elim

theorem run_binI (op : BinOp) (t : TypeId) (x y : Operand) (k k' : IntKind) (p q : Int) (h : (binI op k p k' q).1) :
    ∃ r, (eqGuard op t x y (.int k p) (.int k' q) >>= fun _ => binOp op t (.int k p) (.int k' q)).run P w = .ok r w ∧ Rel w I A (binI op k p k' q).2 r := by
  rw [eqGuard_at_int]
  cases op <;> simp only [binI] at h ⊢
  case add => subst h; exact ⟨_, by simp [binOp, Op.intArith], .v A _⟩
  case sub => subst h; exact ⟨_, by simp [binOp, Op.intArith], .v A _⟩
  case mul => subst h; exact ⟨_, by simp [binOp, Op.intArith], .v A _⟩
  case quo => obtain ⟨rfl, h⟩ := h; exact ⟨_, by simp [binOp, Op.intDiv, h], .v A _⟩
  case rem => obtain ⟨rfl, h⟩ := h; exact ⟨_, by simp [binOp, Op.intDiv, h], .v A _⟩
  case and => subst h; exact ⟨_, by simp [binOp, Op.intBits], .v A _⟩
  case or => subst h; exact ⟨_, by simp [binOp, Op.intBits], .v A _⟩
  case xor => subst h; exact ⟨_, by simp [binOp, Op.intBits], .v A _⟩
  case andNot => subst h; exact ⟨_, by simp [binOp, Op.intBits], .v A _⟩
  case shl => exact ⟨_, by simp [binOp, Op.shift, Int.not_lt.2 h], .v A _⟩
  case shr => exact ⟨_, by simp [binOp, Op.shift, Int.not_lt.2 h], .v A _⟩
  case eql => subst h; exact ⟨_, by simp [binOp, Op.intCmp], .v A _⟩
  case neq => subst h; exact ⟨_, by simp [binOp, Op.intCmp], .v A _⟩
  case lss => subst h; exact ⟨_, by simp [binOp, Op.intCmp], .v A _⟩
  case leq => subst h; exact ⟨_, by simp [binOp, Op.intCmp], .v A _⟩
  case gtr => subst h; exact ⟨_, by simp [binOp, Op.intCmp], .v A _⟩
  case geq => subst h; exact ⟨_, by simp [binOp, Op.intCmp], .v A _⟩

theorem run_binS (op : BinOp) (t : TypeId) (x y : Operand) (p q : ByteArray) (h : (binS op p q).1) :
    ∃ r, (eqGuard op t x y (.string p) (.string q) >>= fun _ => binOp op t (.string p) (.string q)).run P w = .ok r w ∧ Rel w I A (binS op p q).2 r := by
  rw [eqGuard_at_string]
  cases op <;> simp only [binS] at h ⊢ <;> try exact h.elim
  case add =>
    have h' : ((p.size : Int) + (q.size : Int)) ≤ 9223372036854775807 := by unfold maxLen at h; omega
    exact ⟨_, by simp [binOp, Op.stringOp, h'], .v A _⟩
  case eql => exact ⟨_, by simp [binOp, Op.stringOp], .v A _⟩
  case neq => exact ⟨_, by simp [binOp, Op.stringOp], .v A _⟩
  case lss => exact ⟨_, by simp [binOp, Op.stringOp], .v A _⟩
  case leq => exact ⟨_, by simp [binOp, Op.stringOp], .v A _⟩
  case gtr => exact ⟨_, by simp [binOp, Op.stringOp], .v A _⟩
  case geq => exact ⟨_, by simp [binOp, Op.stringOp], .v A _⟩

theorem tk_bool {t : TypeId} (h : tk P t = 3) : P.underlying t = some .bool := by
  unfold tk at h
  split at h <;> simp_all

theorem tk_slice {t : TypeId} (h : tk P t = 2) : ∃ e, P.underlying t = some (.slice e) := by
  unfold tk at h
  split at h <;> simp_all

theorem tk_string {t : TypeId} (h : tk P t = 1) : P.underlying t = some .string := by
  unfold tk at h
  split at h <;> simp_all

theorem run_equal_bool {t : TypeId} (h : P.underlying t = some .bool) (p q : Bool) : (Op.equal t (.bool p) (.bool q)).run P w = .ok (p == q) w := by
  have : ∀ d, (Op.equalIn (d + 1) t (.bool p) (.bool q)).run P w = .ok (p == q) w := fun d => by simp [Op.equalIn, run_underlying h]
  exact this 9999

theorem run_binB (op : BinOp) (t : TypeId) (x y : Operand) (p q : Bool) (h : (binB (tk P t) op p q).1) :
    ∃ r, (eqGuard op t x y (.bool p) (.bool q) >>= fun _ => binOp op t (.bool p) (.bool q)).run P w = .ok r w ∧ Rel w I A (binB (tk P t) op p q).2 r := by
  rw [eqGuard_at_bool]
  cases op <;> simp only [binB] at h ⊢ <;> try exact h.elim
  case eql => exact ⟨_, by simp only [binOp]; simp [run_equal_bool (tk_bool h)], .v A _⟩
  case neq => exact ⟨_, by simp only [binOp]; simp [run_equal_bool (tk_bool h)], .v A _⟩

def okV : List Nat → List Value → List Value → Prop
  | [], [], [] => True
  | 1 :: ks, .int k _ :: xs, .int k' _ :: ys => k = k' ∧ okV ks xs ys
  | 2 :: ks, .bool _ :: xs, .bool _ :: ys => okV ks xs ys
  | 3 :: ks, .string _ :: xs, .string _ :: ys => okV ks xs ys
  | _, _, _ => False
def alV : List Value → List Value → Bool
  | [], [] => true
  | .int _ a :: xs, .int _ b :: ys => (a == b) && alV xs ys
  | .bool a :: xs, .bool b :: ys => (a == b) && alV xs ys
  | .string a :: xs, .string b :: ys => (a == b) && alV xs ys
  | _, _ => false
def vOf (P : Program) (t : TypeId) (cs : List Value) : Value :=
  match P.underlying t with
  | some (.struct _) => .agg cs.toArray
  | _ => cs.headD undef

theorem okV_cons {k : Nat} {ks : List Nat} {xs ys : List Value} (h : okV (k :: ks) xs ys) : ∃ x y xs' ys', xs = x :: xs' ∧ ys = y :: ys' ∧ okV [k] [x] [y] ∧ okV ks xs' ys' ∧ alV xs ys = (alV [x] [y] && alV xs' ys') := by
  unfold okV at h
  split at h <;> try exact h.elim
  · cases ‹_ :: _ = []›
  · rename_i he; cases he; exact ⟨_, _, _, _, rfl, rfl, ⟨h.1, trivial⟩, h.2, by simp [alV]⟩
  · rename_i he; cases he; exact ⟨_, _, _, _, rfl, rfl, trivial, h, by simp [alV]⟩
  · rename_i he; cases he; exact ⟨_, _, _, _, rfl, rfl, trivial, h, by simp [alV]⟩

theorem okV_len : ∀ {ks : List Nat} {xs ys : List Value}, okV ks xs ys → xs.length = ks.length ∧ ys.length = ks.length
  | [], xs, ys, h => by
    cases xs <;> cases ys <;> simp [okV] at h ⊢
  | k :: ks, xs, ys, h => by
    obtain ⟨x, y, xs', ys', rfl, rfl, _, h2, _⟩ := okV_cons h
    obtain ⟨h3, h4⟩ := okV_len h2
    exact ⟨by simp [h3], by simp [h4]⟩

theorem okV_app : ∀ {a b : List Nat} {xs ys : List Value}, okV (a ++ b) xs ys → okV a (xs.take a.length) (ys.take a.length) ∧ okV b (xs.drop a.length) (ys.drop a.length) ∧
      alV xs ys = (alV (xs.take a.length) (ys.take a.length) && alV (xs.drop a.length) (ys.drop a.length))
  | [], b, xs, ys, h => ⟨by simp [okV], by simpa using h, by simp [alV]⟩
  | k :: a, b, xs, ys, h => by
    rw [List.cons_append] at h
    obtain ⟨x, y, xs', ys', rfl, rfl, h1, h2, h3⟩ := okV_cons h
    obtain ⟨i1, i2, i3⟩ := okV_app h2
    refine ⟨?_, by simpa using i2, ?_⟩
    · simp only [List.length_cons, List.take_succ_cons]
      unfold okV at h1 ⊢
      split at h1 <;> first | exact h1.elim | skip
      all_goals simp_all
    · rw [h3, i3]
      simp only [List.length_cons, List.take_succ_cons, List.drop_succ_cons]
      rw [← Bool.and_assoc]
      congr 1
      unfold okV at h1
      split at h1 <;> first | exact h1.elim | skip
      all_goals simp_all [alV]

theorem run_part {w : World} {t : TypeId} {X : Array Value} {off d : Nat} {a : List Nat} {i : TypeInfo} (hk : eqKs P d t = some a) (hi : P.info? t = some i) (hs : i.size = a.length) (hl : off + a.length ≤ X.size) :
    (part t X off).run P w = .ok (vOf P t ((X.toList.drop off).take a.length)) w := by
  cases d with
  | zero => cases hk
  | succ d =>
    unfold eqKs at hk
    have hsz : (sizeOf t).run P w = .ok i.size w := by rw [run_sizeOf w hi]; simp [Program.cellsOf, hi]
    have one : a.length = 1 → (isAgg t).run P w = .ok false w → (∀ cs : List Value, vOf P t cs = cs.headD undef) → (part t X off).run P w = .ok (vOf P t ((X.toList.drop off).take a.length)) w := fun h1 h2 h3 => by
      have hlt : off < X.size := by omega
      have hx : X[off]? = some X[off] := Array.getElem?_eq_getElem hlt
      rw [h3, h1]
      have e : ((X.toList.drop off).take 1).headD undef = X[off] := by
        rw [List.drop_eq_getElem_cons (by simpa using hlt)]; simp
      rw [e]
      unfold part
      simp [h2, hx]
    split at hk
    · rename_i hu; cases hk; exact one rfl (by simp [isAgg, run_underlying hu]) fun cs => by simp [vOf, hu]
    · rename_i hu; cases hk; exact one rfl (by simp [isAgg, run_underlying hu]) fun cs => by simp [vOf, hu]
    · rename_i hu; cases hk; exact one rfl (by simp [isAgg, run_underlying hu]) fun cs => by simp [vOf, hu]
    · rename_i fs hu
      have h2 : (isAgg t).run P w = .ok true w := by simp [isAgg, run_underlying hu]
      unfold part
      simp only [Sem.run_bind, h2, Result.andThen_ok, if_true, hsz, Sem.run_pure, vOf, hu]
      congr 2
      apply Array.ext'
      simp [hs, List.extract_eq_take_drop]
    · cases hk

theorem equalIn_flat {w : World} : ∀ (d : Nat) (t : TypeId) (ks : List Nat) (xs ys : List Value), eqKs P d t = some ks → okV ks xs ys → ∀ m, (Op.equalIn (d + m) t (vOf P t xs) (vOf P t ys)).run P w = .ok (alV xs ys) w
  | 0, t, ks, xs, ys, hk, _, m => by cases hk
  | d + 1, t, ks, xs, ys, hk, ho, m => by
    rw [show d + 1 + m = (d + m) + 1 by omega]
    unfold eqKs at hk
    split at hk
    · rename_i hu; cases hk
      obtain ⟨x, y, xs', ys', rfl, rfl, h1, h2, _⟩ := okV_cons ho
      unfold okV at h1
      split at h1 <;> simp_all [okV]
      obtain ⟨h3, h4⟩ := okV_len h2
      obtain rfl := List.eq_nil_of_length_eq_zero h3
      obtain rfl := List.eq_nil_of_length_eq_zero h4
      unfold Op.equalIn
      simp [run_underlying hu, vOf, hu, alV]
    · rename_i hu; cases hk
      obtain ⟨x, y, xs', ys', rfl, rfl, h1, h2, _⟩ := okV_cons ho
      unfold okV at h1
      split at h1 <;> simp_all [okV]
      obtain ⟨h3, h4⟩ := okV_len h2
      obtain rfl := List.eq_nil_of_length_eq_zero h3
      obtain rfl := List.eq_nil_of_length_eq_zero h4
      unfold Op.equalIn
      simp [run_underlying hu, vOf, hu, alV]
    · rename_i hu; cases hk
      obtain ⟨x, y, xs', ys', rfl, rfl, h1, h2, _⟩ := okV_cons ho
      unfold okV at h1
      split at h1 <;> simp_all [okV]
      obtain ⟨h3, h4⟩ := okV_len h2
      obtain rfl := List.eq_nil_of_length_eq_zero h3
      obtain rfl := List.eq_nil_of_length_eq_zero h4
      unfold Op.equalIn
      simp [run_underlying hu, vOf, hu, alV]
    · rename_i fs hu
      split at hk
      · cases hk
      rename_i hst
      have hst : P.stoodInHeld t = false := by simpa using hst
      have loop : ∀ (l : List Field) (off : Nat) (k : List Nat), eqKf P (eqKs P d) l off = some k → okV k (xs.drop off) (ys.drop off) → off + k.length ≤ xs.length → off + k.length ≤ ys.length →
          (Sem.run P (forIn l ((none : Option Bool), ()) fun f (_ : Option Bool × Unit) => (if f.name = "_" then pure (ForInStep.yield (none, ())) else do
              let a ← part f.type xs.toArray f.offset
              let b ← part f.type ys.toArray f.offset
              let c ← Op.equalIn (d + m) f.type a b
              if c = false then pure (ForInStep.done (some false, ())) else pure (ForInStep.yield (none, ())) : Sem (ForInStep (Option Bool × Unit)))) w) = .ok (if alV (xs.drop off) (ys.drop off) then (none, ()) else (some false, ())) w := by
        intro l
        induction l with
        | nil =>
          intro off k hk ho h1 h2
          cases hk
          have := okV_len ho
          rw [List.eq_nil_of_length_eq_zero this.1, List.eq_nil_of_length_eq_zero this.2]
          rfl
        | cons f l ih =>
          intro off k hk ho h1 h2
          unfold eqKf at hk
          split at hk
          · cases hk
          rename_i hn
          rw [not_or, Decidable.not_not] at hn
          obtain ⟨hn1, hn2⟩ := hn
          split at hk <;> try cases hk
          rename_i i a hi ha
          split at hk <;> try cases hk
          rename_i hs
          obtain ⟨k', hk', rfl⟩ := Option.map_eq_some_iff.1 hk
          obtain ⟨o1, o2, o3⟩ := okV_app ho
          rw [List.length_append] at h1 h2
          have p1 := run_part (P := P) (w := w) (X := xs.toArray) (off := off) ha hi hs (by simp; omega)
          have p2 := run_part (P := P) (w := w) (X := ys.toArray) (off := off) ha hi hs (by simp; omega)
          have p3 := equalIn_flat (w := w) d f.type a _ _ ha o1 m
          rw [List.drop_drop, List.drop_drop] at o2 o3
          have p4 := ih (off + a.length) k' hk' o2 (by omega) (by omega)
          rw [List.forIn_cons]
          simp only [hn1, if_false, hn2, Sem.run_bind, p1, p2, p3, Result.andThen_ok, List.toList_toArray] at *
          cases hc : alV (List.take a.length (List.drop off xs)) (List.take a.length (List.drop off ys)) with
          | false => simp [o3, hc]
          | true => simp [o3, hc]; simpa using p4
      have hl := okV_len ho
      have := loop fs.toList 0 ks hk (by simpa using ho) (by omega) (by omega)
      unfold Op.equalIn
      simp only [vOf, hu]
      simp [run_underlying hu, hst]
      rw [← Array.forIn_toList, this, List.drop_zero, List.drop_zero]
      cases alV xs ys <;> rfl
    · cases hk

theorem eqL_vals {w : World} {I : Nat → Prop} {A : Own} : ∀ (ks : List Nat) (cs ds : List DV) (xs ys : List Value), cs.length = xs.length → ds.length = ys.length →
    (∀ (j : Nat) (d : DV) (u : Value), cs[j]? = some d → xs[j]? = some u → Rel w I A d u) → (∀ (j : Nat) (d : DV) (u : Value), ds[j]? = some d → ys[j]? = some u → Rel w I A d u) →
    (eqL ks cs ds).1 → okV ks xs ys ∧ (eqL ks cs ds).2 = alV xs ys := by
  intro ks
  induction ks with
  | nil =>
    intro cs ds xs ys h1 h2 h3 h4 h
    cases cs <;> cases ds <;> simp [eqL] at h
    cases xs <;> simp at h1
    cases ys <;> simp at h2
    exact ⟨trivial, rfl⟩
  | cons k ks ih =>
    intro cs ds xs ys h1 h2 h3 h4 h
    unfold eqL at h ⊢
    split at h
    · contradiction
    · rename_i he; cases he
      rcases xs with _ | ⟨x, xs⟩
      · simp at h1
      rcases ys with _ | ⟨y, ys⟩
      · simp at h2
      have r1 := h3 0 _ x rfl rfl
      have r2 := h4 0 _ y rfl rfl
      cases r1; cases r2
      obtain ⟨i1, i2⟩ := ih _ _ xs ys (by simpa using h1) (by simpa using h2) (fun j d u hd hu => h3 (j + 1) d u (by simpa using hd) (by simpa using hu)) (fun j d u hd hu => h4 (j + 1) d u (by simpa using hd) (by simpa using hu)) h.2
      exact ⟨⟨h.1, i1⟩, by simp [alV, i2]⟩
    · rename_i he; cases he
      rcases xs with _ | ⟨x, xs⟩
      · simp at h1
      rcases ys with _ | ⟨y, ys⟩
      · simp at h2
      have r1 := h3 0 _ x rfl rfl
      have r2 := h4 0 _ y rfl rfl
      cases r1; cases r2
      obtain ⟨i1, i2⟩ := ih _ _ xs ys (by simpa using h1) (by simpa using h2) (fun j d u hd hu => h3 (j + 1) d u (by simpa using hd) (by simpa using hu)) (fun j d u hd hu => h4 (j + 1) d u (by simpa using hd) (by simpa using hu)) h
      exact ⟨i1, by simp [alV, i2]⟩
    · rename_i he; cases he
      rcases xs with _ | ⟨x, xs⟩
      · simp at h1
      rcases ys with _ | ⟨y, ys⟩
      · simp at h2
      have r1 := h3 0 _ x rfl rfl
      have r2 := h4 0 _ y rfl rfl
      cases r1; cases r2
      obtain ⟨i1, i2⟩ := ih _ _ xs ys (by simpa using h1) (by simpa using h2) (fun j d u hd hu => h3 (j + 1) d u (by simpa using hd) (by simpa using hu)) (fun j d u hd hu => h4 (j + 1) d u (by simpa using hd) (by simpa using hu)) h
      exact ⟨i1, by simp [alV, i2]⟩
    · exact h.elim

theorem run_binP (op : BinOp) (t : TypeId) (x y : Operand) {d e : DV} {u v : Value} (hu : Rel w I A d u) (hv : Rel w I A e v) (h : (binP (esOf P t) (tk P t) op d e).1) :
    ∃ r, (eqGuard op t x y u v >>= fun _ => binOp op t u v).run P w = .ok r w ∧ Rel w I A (binP (esOf P t) (tk P t) op d e).2 r := by
  cases d with
  | v _ =>
    cases hu
    cases e with
    | v _ =>
      cases hv
      cases u <;> cases v <;> simp only [binP] at h ⊢ <;> first
        | exact run_binI op t x y _ _ _ _ h
        | exact run_binS op t x y _ _ h
        | exact run_binB op t x y _ _ h
        | exact h.elim
    | _ => cases u <;> exact h.elim
  | agg cs =>
    cases e with
    | agg ds =>
      cases hu with
      | agg _ _ xs hxl hxo hxr =>
        cases hv with
        | agg _ _ ys hyl hyo hyr =>
          have h : (binA (esOf P t) op cs ds).1 := h
          show ∃ r, _ ∧ Rel w I A (binA (esOf P t) op cs ds).2 r
          unfold binA at h ⊢
          cases hes : esOf P t with
          | none => rw [hes] at h; cases op <;> exact h.elim
          | some ks =>
            rw [hes] at h
            unfold esOf at hes
            split at hes <;> try cases hes
            rename_i fs hu
            split at hes <;> try cases hes
            rename_i hgd
            have hgd : P.eqGuardType P.depth t = false := by simpa using hgd
            have hguard : ∀ op, (eqGuard op t x y (.agg xs) (.agg ys)).run P w = .ok () w := fun op => by
              unfold eqGuard
              cases op <;> simp [hgd]
            have key : (eqL ks cs ds).1 → (Op.equal t (.agg xs) (.agg ys)).run P w = .ok (eqL ks cs ds).2 w := fun hk => by
              obtain ⟨k1, k2⟩ := eqL_vals ks cs ds xs.toList ys.toList (by simpa using hxl) (by simpa using hyl) (fun j d u hd hu' => hxr j d u hd (by simpa using hu')) (fun j d u hd hu' => hyr j d u hd (by simpa using hu')) hk
              have := equalIn_flat (P := P) (w := w) 40 t ks xs.toList ys.toList hes k1 9960
              rw [k2]
              simpa [vOf, hu, Op.equal, Op.maxDepth] using this
            cases op <;> simp only at h ⊢ <;> try exact h.elim
            case eql => exact ⟨_, by simp only [binOp]; simp [hguard, key h], .v A _⟩
            case neq => exact ⟨_, by simp only [binOp]; simp [hguard, key h], .v A _⟩
    | _ => exact h.elim
  | _ => exact h.elim

theorem run_unP (op : UnOp) {d : DV} {u : Value} (hu : Rel w I A d u) (h : (unP op d).1) : ∃ r, (Op.unary op u).run P w = .ok r w ∧ Rel w I A (unP op d).2 r := by
  cases d with
  | v _ =>
    cases hu
    cases op <;> cases u <;> simp only [unP] at h ⊢ <;> first
      | exact h.elim
      | exact ⟨_, by simp [Op.unary, Op.intArith], .v A _⟩
  | _ => cases op <;> exact h.elim

theorem run_lenP {t ty : TypeId} {d : DV} {u : Value} (hu : Rel w I A d u) (h : (lenP (tk P t) d).1) :
    ∃ r, (Builtin.len_ #[t] ty #[u]).run P w = .ok r w ∧ Rel w I A (lenP (tk P t) d).2 r := by
  cases hu with
  | sl0 _ z f b c => obtain ⟨e, he⟩ := tk_slice h; exact ⟨_, by simp [Builtin.len_, run_underlying he]; rfl, .v A _⟩
  | sl _ z n f b o c us hn hc hm hI hz hcell hone hrel => obtain ⟨e, he⟩ := tk_slice h; exact ⟨_, by simp [Builtin.len_, run_underlying he]; rfl, .v A _⟩
  | own _ s n B c b hA hb => obtain ⟨e, he⟩ := tk_slice h; exact ⟨_, by simp [Builtin.len_, run_underlying he]; rfl, .v A _⟩
  | ez _ b => obtain ⟨e, he⟩ := tk_slice h; exact ⟨_, by simp [Builtin.len_, run_underlying he]; rfl, .v A _⟩
  | v _ _ =>
    cases u <;> simp only [lenP] at h ⊢ <;> try exact h.elim
    case string s => exact ⟨_, by simp [Builtin.len_, run_underlying (tk_string h)]; rfl, .v A _⟩
    case slice b n c => obtain ⟨e, he⟩ := tk_slice h; exact ⟨_, by simp [Builtin.len_, run_underlying he]; rfl, .v A _⟩
  | _ => exact h.elim

theorem run_convP {s t : TypeId} {d : DV} {u : Value} (hs : (P.underlying s).isSome = true) (hu : Rel w I A d u) (h : (convP (ikOf P t) d).1) :
    ∃ r, (convert s t u).run P w = .ok r w ∧ Rel w I A (convP (ikOf P t) d).2 r := by
  cases hk : ikOf P t with
  | none => rw [hk] at h; exact h.elim
  | some k =>
    rw [hk] at h
    have ht : P.underlying t = some (.int k) := by
      unfold ikOf at hk
      split at hk <;> simp_all
    obtain ⟨sd, hsd⟩ := Option.isSome_iff_exists.mp hs
    cases d with
    | v _ =>
      cases hu
      cases u <;> simp only [convP] at h ⊢ <;> try exact h.elim
      exact ⟨_, by simp [convert, run_underlying hsd, run_underlying ht, Conv.intToInt], .v A _⟩
    | _ => exact h.elim

theorem run_extP {d : DV} {u : Value} {i : Nat} (hu : Rel w I A d u) (h : (extP d i).1) : ∃ r, (Instr.extract u i).run P w = .ok r w ∧ Rel w I A (extP d i).2 r := by
  cases hu with
  | tup _ cs vs hl hrel =>
    have hi : i < cs.length := h
    have hv : vs[i]? = some (vs[i]'(by omega)) := Array.getElem?_eq_getElem (by omega)
    exact ⟨vs[i]'(by omega), by simp [Instr.extract, hv], hrel i _ _ (by show cs[i]? = some (cs.getD i .any); rw [List.getD_eq_getElem?_getD, List.getElem?_eq_getElem hi]; rfl) hv⟩
  | _ => exact h.elim

theorem run_atP {t : TypeId} {el : Option (Option Nat × Nat)} {ld : Option (Option Nat)} {d e : DV} {u v : Value} (hu : Rel w I A d u) (hv : Rel w I A e v) (h : (atP el ld (tk P t) d e).1) :
    ∃ r, (Instr.index t u v).run P w = .ok r w ∧ Rel w I A (atP el ld (tk P t) d e).2 r := by
  cases d with
  | v _ =>
    cases hu
    cases e with
    | v _ =>
      cases hv
      cases u <;> cases v <;> simp only [atP] at h ⊢ <;> try exact h.elim
      rename_i s k n
      obtain ⟨h1, h2, h3⟩ := h
      have hn : n.toNat < s.data.size := by
        have : s.size = s.data.size := rfl
        omega
      have hb : s[n.toNat]? = some (s.data.getD n.toNat 0) := by
        show s.data[n.toNat]? = _
        simp [Array.getElem?_eq_getElem hn, Array.getD_eq_getD_getElem?]
      refine ⟨_, ?_, .v A _⟩
      simp [Instr.index, asIntOf, run_underlying (tk_string h1), h2, hb]
    | _ => cases u <;> exact h.elim
  | _ => exact h.elim

theorem run_bound {x : Value} {k : IntKind} {i : Int} {y : Nat} {c : BoundsCode} (hx : x = .int k i) (h0 : 0 ≤ i) (h1 : i ≤ y) : (Instr.sliceBound x y c).run P w = .ok i.toNat w := by
  subst hx
  simp [Instr.sliceBound, asIntOf, h0, h1]

/-- A bound of a slice expression: not written (then it is d), or this number. -/
def bnd (lv : Option Value) (l d : Nat) : Prop := (lv = none ∧ l = d) ∨ ∃ k i, lv = some (.int k i) ∧ 0 ≤ i ∧ i.toNat = l

theorem run_bounds {sl : Bool} {lv hv : Option Value} {l h n c : Nat} (hl : bnd lv l 0) (hh : bnd hv h n) (h1 : l ≤ h) (h2 : h ≤ c) :
    (Instr.sliceBounds sl n c lv hv none).run P w = .ok (l, h, c) w := by
  rcases hl with ⟨rfl, rfl⟩ | ⟨k, i, rfl, hi, rfl⟩
  · rcases hh with ⟨rfl, rfl⟩ | ⟨k', i', rfl, hi', rfl⟩
    · simp [Instr.sliceBounds]
    · have := run_bound (P := P) (w := w) (x := .int k' i') (c := if sl then .sliceAcap else .sliceAlen) rfl hi' (show i' ≤ (c : Int) by omega)
      simp [Instr.sliceBounds, this]
  · rcases hh with ⟨rfl, rfl⟩ | ⟨k', i', rfl, hi', rfl⟩
    · have := run_bound (P := P) (w := w) (x := .int k i) (c := .sliceB) rfl hi (show i ≤ (h : Int) by omega)
      simp [Instr.sliceBounds, this]
    · have h3 := run_bound (P := P) (w := w) (x := .int k' i') (c := if sl then .sliceAcap else .sliceAlen) rfl hi' (show i' ≤ (c : Int) by omega)
      have h4 := run_bound (P := P) (w := w) (x := .int k i) (c := .sliceB) rfl hi (show i ≤ ((i'.toNat : Nat) : Int) by omega)
      simp [Instr.sliceBounds, h3, h4]

theorem run_sub_sl {t : TypeId} {z : Nat} (hel : elOf P t = some (none, z)) {n : Nat} {f : Nat → List DV} {u : Value} (hu : Rel w I A (.sl z n f) u)
    {lv hv : Option Value} {l h : Nat} (hl : bnd lv l 0) (hh : bnd hv h n) (h1 : l ≤ h) (h2 : h ≤ n) :
    ∃ r, (Instr.sliceAt t u lv hv none).run P w = .ok r w ∧ Rel w I A (.sl z (h - l) fun i => f (l + i)) r := by
  unfold elOf at hel
  split at hel <;> simp at hel
  rename_i e hu'
  obtain ⟨i, hi, hz⟩ := hel
  have key : ∀ (b : Option Addr) (c : Nat), n ≤ c → (Instr.sliceAt t (.slice b n c) lv hv none).run P w = .ok (.slice (if c = l then b else b.map (·.add (l * z))) (h - l) (c - l)) w := fun b c hc => by
    simp [Instr.sliceAt, Instr.slice, run_underlying hu', run_bounds (P := P) (w := w) (sl := true) hl hh h1 (Nat.le_trans h2 hc), run_sizeOf w hi, Program.cellsOf, hi, hz]
  cases hu with
  | sl0 _ z f b c =>
    refine ⟨_, key b c (Nat.zero_le _), ?_⟩
    obtain rfl : h = 0 := by omega
    simp only [Nat.zero_sub]
    exact .sl0 A z _ _ _
  | sl _ z n f b o c us hn hc hm hI hzz hcell hone hrel =>
    refine ⟨_, key _ c hc, ?_⟩
    by_cases h0 : h - l = 0
    · rw [h0]; exact .sl0 A z _ _ _
    · rw [if_neg (by omega)]
      simp only [Option.map_some, Addr.add_lit]
      refine .sl A z _ _ b (o + l * z) (c - l) (fun i j => us (l + i) j) (by omega) (by omega) (by omega) hI (fun i hi => hzz _ (by omega)) (fun i j hi hj => ?_) (fun i j hi hj => hone _ _ (by omega) hj)
        (fun i j d hi hd => hrel _ _ _ (by omega) hd)
      have := hcell (l + i) j (by omega) hj
      rw [Nat.add_mul] at this
      rw [← this]
      congr 2
      omega

theorem run_sub_str {t : TypeId} (hk : tk P t = 1) {s : ByteArray} {lv hv : Option Value} {l h : Nat} (hl : bnd lv l 0) (hh : bnd hv h s.size) (h1 : l ≤ h) (h2 : h ≤ s.size) :
    (Instr.sliceAt t (.string s) lv hv none).run P w = .ok (.string (s.extract l h)) w := by
  simp [Instr.sliceAt, Instr.slice, run_underlying (tk_string hk), run_bounds (P := P) (w := w) (sl := false) hl hh h1 h2]

theorem run_sub_own {t : TypeId} {z : Nat} (hel : elOf P t = some (none, z)) {s n : Nat} {u : Value} (hu : Rel w I A (.own s n) u) (hs : Sim nt w I A ρ a)
    {hv : Option Value} {h : Nat} (hh : bnd hv h n) (h2 : h ≤ n) (hr : ∃ e z xs, ρ s = .row e z xs ∧ n ≤ xs.length) :
    ∃ r, (Instr.sliceAt t u none hv none).run P w = .ok r w ∧ Rel w I A (.own s h) r := by
  obtain ⟨e', z', xs, hxs, hle⟩ := hr
  have ho := hs.osim.own s
  rw [hxs] at ho
  obtain ⟨B', c', hA', hrow⟩ := ho
  unfold elOf at hel
  split at hel <;> simp at hel
  rename_i e hu'
  obtain ⟨i, hi, hz⟩ := hel
  cases hu with
  | own _ s n B c bb hA hbb =>
    rw [hA] at hA'
    simp only [Option.some.injEq, Prod.mk.injEq] at hA'
    obtain ⟨rfl, rfl⟩ := hA'
    have hnc : n ≤ c := by
      cases B with
      | none => obtain ⟨rfl, _⟩ := hrow; simp at hle; omega
      | some g => obtain ⟨us, _, _, _, h4, _⟩ := hrow; omega
    refine ⟨.slice (bb.map (·.add (0 * i.size))) h c, ?_, .own A s h B c _ hA fun g hg => by subst hg; obtain rfl := baseOk_some hbb; simp [Addr.add]⟩
    have hb := run_bounds (P := P) (w := w) (sl := true) (lv := none) (l := 0) (.inl ⟨rfl, rfl⟩) hh (Nat.zero_le _) (Nat.le_trans h2 hnc)
    simp only [Instr.sliceAt, Instr.slice, run_underlying hu', Sem.run_bind, Result.andThen_ok, hb, run_sizeOf w hi, Sem.run_pure]
    cases bb <;> simp [Addr.add, Program.cellsOf, hi]

theorem run_subP (hs : Sim nt w I A ρ a) {t : TypeId} {d : DV} {u : Value} {lo hi : Option DV} {lv hv : Option Value} (hu : Rel w I A d u)
    (hlo : ∀ e, lo = some e → ∃ v, lv = some v ∧ Rel w I A e v) (hlo' : lo = none → lv = none)
    (hhi : ∀ e, hi = some e → ∃ v, hv = some v ∧ Rel w I A e v) (hhi' : hi = none → hv = none)
    (h : (subP ρ (elOf P t) (tk P t) d lo hi).1) :
    ∃ r, (Instr.sliceAt t u lv hv none).run P w = .ok r w ∧ Rel w I A (subP ρ (elOf P t) (tk P t) d lo hi).2 r := by
  have hint : ∀ (o : Option DV) (ov : Option Value), (∀ e, o = some e → ∃ v, ov = some v ∧ Rel w I A e v) → ∀ k i, o = some (.v (.int k i)) → ov = some (.int k i) := fun o ov hh k i ho => by
    obtain ⟨v, h1, h2⟩ := hh _ ho
    cases h2
    exact h1
  unfold subP at h ⊢
  split at h
  · obtain rfl := hlo' rfl
    obtain rfl := hhi' rfl
    split at h
    · rename_i z n f
      obtain ⟨h1, h2⟩ := h
      obtain ⟨r, r1, r2⟩ := run_sub_sl h2 hu (lv := none) (hv := none) (l := 0) (h := n) (.inl ⟨rfl, rfl⟩) (.inl ⟨rfl, rfl⟩) (Nat.zero_le _) (Nat.le_refl _)
      exact ⟨r, r1, by simpa using r2⟩
    · exact h.elim
  · rename_i k i
    obtain rfl := hint _ _ hlo k i rfl
    obtain rfl := hhi' rfl
    split at h
    · rename_i z n f z' hz
      obtain ⟨rfl, h1, h2⟩ := h
      obtain ⟨r, r1, r2⟩ := run_sub_sl hz hu (lv := some (.int k i)) (hv := none) (l := i.toNat) (h := n) (.inr ⟨k, i, rfl, h1, rfl⟩) (.inl ⟨rfl, rfl⟩) (by omega) (Nat.le_refl _)
      exact ⟨r, r1, by simpa only [hz] using r2⟩
    · rename_i s _
      obtain ⟨h1, h2, h3⟩ := h
      cases hu
      exact ⟨_, run_sub_str h1 (.inr ⟨k, i, rfl, h2, rfl⟩) (.inl ⟨rfl, rfl⟩) (by omega) (Nat.le_refl _), .v A _⟩
    · exact h.elim
  · rename_i k i
    obtain rfl := hlo' rfl
    obtain rfl := hint _ _ hhi k i rfl
    split at h
    · rename_i z n f z' hz
      obtain ⟨rfl, h1, h2⟩ := h
      obtain ⟨r, r1, r2⟩ := run_sub_sl hz hu (lv := none) (hv := some (.int k i)) (l := 0) (h := i.toNat) (.inl ⟨rfl, rfl⟩) (.inr ⟨k, i, rfl, h1, rfl⟩) (Nat.zero_le _) (by omega)
      exact ⟨r, r1, by simpa only [hz, Nat.zero_add, Nat.sub_zero] using r2⟩
    · rename_i s _
      obtain ⟨h1, h2, h3⟩ := h
      cases hu
      exact ⟨_, run_sub_str h1 (.inl ⟨rfl, rfl⟩) (.inr ⟨k, i, rfl, h2, rfl⟩) (Nat.zero_le _) (by omega), .v A _⟩
    · rename_i s n z' hz
      obtain ⟨h1, h2, h3⟩ := h
      obtain ⟨r, r1, r2⟩ := run_sub_own hz hu hs (hv := some (.int k i)) (h := i.toNat) (.inr ⟨k, i, rfl, h1, rfl⟩) (by omega) h3
      exact ⟨r, r1, by simpa only [hz] using r2⟩
    · exact h.elim
  · rename_i k i k' i'
    obtain rfl := hint _ _ hlo k i rfl
    obtain rfl := hint _ _ hhi k' i' rfl
    split at h
    · rename_i z n f z' hz
      obtain ⟨rfl, h1, h2, h3⟩ := h
      obtain ⟨r, r1, r2⟩ := run_sub_sl hz hu (lv := some (.int k i)) (hv := some (.int k' i')) (l := i.toNat) (h := i'.toNat) (.inr ⟨k, i, rfl, h1, rfl⟩) (.inr ⟨k', i', rfl, by omega, rfl⟩) (by omega) (by omega)
      exact ⟨r, r1, by simpa only [hz] using r2⟩
    · rename_i s _
      obtain ⟨h1, h2, h3, h4⟩ := h
      cases hu
      exact ⟨_, run_sub_str h1 (.inr ⟨k, i, rfl, h2, rfl⟩) (.inr ⟨k', i', rfl, by omega, rfl⟩) (by omega) (by omega), .v A _⟩
    · exact h.elim
  · exact h.elim

theorem run_nilP (o : Oper) {x : Operand} (ho : o.op = .nilCheck x) {d : DV} (hu : Rel w I A d (a.eval x)) (h : (nilP d).1) :
    ∃ r, (execOp a.eval o).run P w = .ok (.value r) w ∧ Rel w I A (nilP d).2 r := by
  unfold execOp
  simp only [ho]
  generalize a.eval x = u at *
  cases hu with
  | dp _ cs b o us hI hcell hone hrel => exact ⟨_, by simp, .dp A cs b o us hI hcell hone hrel⟩
  | bp _ s off g c hA => exact ⟨_, by simp, .bp A s off g c hA⟩
  | rp _ s z i off g c hA => exact ⟨_, by simp, .rp A s z i off g c hA⟩
  | fn _ f fs cs us vs hf hc hfr hcr => exact ⟨_, by simp, .fn A f fs cs us vs hf hc hfr hcr⟩
  | _ => exact h.elim

theorem run_maxI {ts : Array TypeId} {t : TypeId} {d e : DV} {u v : Value} (hu : Rel w I A d u) (hv : Rel w I A e v) (h : (maxI [d, e]).1) :
    ∃ r, (Builtin.max_ ts t #[u, v]).run P w = .ok r w ∧ Rel w I A (maxI [d, e]).2 r := by
  cases d with
  | v _ =>
    cases hu
    cases e with
    | v _ =>
      cases hv
      cases u <;> cases v <;> first
        | exact h.elim
        | exact ⟨_, by simp [Builtin.max_, Builtin.max2], .v A _⟩
    | _ => cases u <;> exact h.elim
  | _ => exact h.elim

theorem run_minI {ts : Array TypeId} {t : TypeId} {d e : DV} {u v : Value} (hu : Rel w I A d u) (hv : Rel w I A e v) (h : (minI [d, e]).1) :
    ∃ r, (Builtin.min_ ts t #[u, v]).run P w = .ok r w ∧ Rel w I A (minI [d, e]).2 r := by
  cases d with
  | v _ =>
    cases hu
    cases e with
    | v _ =>
      cases hv
      cases u <;> cases v <;> first
        | exact h.elim
        | exact ⟨_, by simp [Builtin.min_, Builtin.min2], .v A _⟩
    | _ => cases u <;> exact h.elim
  | _ => exact h.elim

theorem pick_ok {c x y : DV} {u v q : Value} (hc : ERel w I A c u) (hx : ERel w I A x v) (hy : ERel w I A y q) (h : (pickP c x y).1) :
    ∃ r, (do pure (Next.value (if ← asBool u then v else q)) : Sem Next).run P w = .ok (.value r) w ∧ Rel w I A (pickP c x y).2 r := by
  unfold pickP at h ⊢
  split at h
  · rename_i b p r hb hp hr
    obtain ⟨h1, h2, h3⟩ := h
    have hc' := hc.ungd h1
    rw [hb] at hc'
    cases hc'
    cases b with
    | true =>
      have := hx.ungd (h2 rfl)
      rw [hp] at this
      cases this
      exact ⟨_, by simp [asBool], .v A _⟩
    | false =>
      have := hy.ungd (h3 rfl)
      rw [hr] at this
      cases this
      exact ⟨_, by simp [asBool], .v A _⟩
  · unfold pickR at h ⊢
    split at h
    · rename_i b hb
      split at h
      · split at h
        · rename_i p hp
          have hc' := hc.ungd h.1
          rw [hb] at hc'
          cases hc'
          have := hx.ungd h.2
          rw [hp] at this
          cases this
          simp only [hb, hp]
          exact ⟨_, by simp [asBool], .v A _⟩
        · exact h.elim
      · split at h
        · rename_i p hp
          have hc' := hc.ungd h.1
          rw [hb] at hc'
          cases hc'
          have := hy.ungd h.2
          rw [hp] at this
          cases this
          simp only [hb, hp]
          exact ⟨_, by simp [asBool], .v A _⟩
        · exact h.elim
    · exact h.elim

def opsOk (nt : Nat) (o : Oper) : Bool := o.op.operands.all (opdOk nt)

theorem opsOk_mem {o : Oper} (h : opsOk nt o = true) {x : Operand} (hx : x ∈ o.op.operands) : opdOk nt x = true := by
  unfold opsOk at h
  rw [Array.all_eq_true] at h
  obtain ⟨i, hi, rfl⟩ := Array.mem_iff_getElem.1 hx
  exact h i hi

/-- **What an operation that writes nothing gives.** -/
theorem opP_sound (hs : Sim nt w I A ρ a) (o : Oper) (hok : opsOk nt o = true) (h : (opP P ρ o.op).1) :
    ∃ r, (execOp a.eval o).run P w = .ok (.value r) w ∧ Rel w I A (opP P ρ o.op).2 r := by
  have hop := fun x hx hg => hs.opd x (opsOk_mem hok (x := x) hx) hg
  have hev := fun x hx => hs.evRel x (opsOk_mem hok (x := x) hx)
  cases ho : o.op with
  | move x =>
    rw [ho] at h hop
    exact ⟨a.eval x, by simp [execOp, ho], hop x (by simp [Op.operands]) h⟩
  | assign x =>
    rw [ho] at h hop
    exact ⟨a.eval x, by simp [execOp, ho], hop x (by simp [Op.operands]) h⟩
  | pick c x y =>
    rw [ho] at h hev
    obtain ⟨r, h1, h2⟩ := pick_ok (P := P) (hev c (by simp [Op.operands])) (hev x (by simp [Op.operands])) (hev y (by simp [Op.operands])) h
    exact ⟨r, by simpa [execOp, ho] using h1, h2⟩
  | load t x =>
    rw [ho] at h hop
    obtain ⟨r, h1, h2⟩ := run_load hs (hop x (by simp [Op.operands]) h.1) h.2
    exact ⟨r, by simp [execOp, ho, h1], h2⟩
  | nilCheck x =>
    rw [ho] at h hop
    exact run_nilP o ho (hop x (by simp [Op.operands]) h.1) h.2
  | binOp op t x y t' =>
    rw [ho] at h hop
    obtain ⟨r, h1, h2⟩ := run_binP op t x y (hop x (by simp [Op.operands]) h.1.1) (hop y (by simp [Op.operands]) h.1.2) h.2
    exact ⟨r, by simp only [execOp, ho, Sem.run_bind] at h1 ⊢; rw [h1]; rfl, h2⟩
  | unOp op t x =>
    rw [ho] at h hop
    obtain ⟨r, h1, h2⟩ := run_unP (P := P) op (hop x (by simp [Op.operands]) h.1) h.2
    exact ⟨r, by simp [execOp, ho, h1], h2⟩
  | convert s t x =>
    rw [ho] at h hop
    obtain ⟨r, h1, h2⟩ := run_convP h.1.2 (hop x (by simp [Op.operands]) h.1.1) h.2
    exact ⟨r, by simp [execOp, ho, h1], h2⟩
  | fieldAddr s x f =>
    rw [ho] at h hop
    obtain ⟨r, h1, h2⟩ := run_fieldAt (hop x (by simp [Op.operands]) h.1) h.2
    exact ⟨r, by simp [execOp, ho, h1], h2⟩
  | indexAddr t x i =>
    rw [ho] at h hop
    obtain ⟨r, h1, h2⟩ := run_indexAt hs (hop x (by simp [Op.operands]) h.1.1) (hop i (by simp [Op.operands]) h.1.2) h.2
    exact ⟨r, by simp [execOp, ho, h1], h2⟩
  | index t x i =>
    rw [ho] at h hop
    obtain ⟨r, h1, h2⟩ := run_atP (hop x (by simp [Op.operands]) h.1.1) (hop i (by simp [Op.operands]) h.1.2) h.2
    exact ⟨r, by simp [execOp, ho, h1], h2⟩
  | slice t x lo hi mx =>
    rw [ho] at h hop
    cases mx with
    | some m => exact h.elim
    | none =>
      obtain ⟨r, h1, h2⟩ := run_subP (P := P) hs (t := t) (lo := lo.map fun y => un (ev ρ y)) (hi := hi.map fun y => un (ev ρ y)) (lv := lo.map a.eval) (hv := hi.map a.eval) (hop x (by simp [Op.operands]) h.1.1)
        (fun e he => by
          obtain ⟨y, hy, rfl⟩ := Option.map_eq_some_iff.1 he
          exact ⟨_, by rw [hy]; rfl, hop y (by simp [Op.operands, hy]) (h.1.2.1 y (by simp [hy]))⟩)
        (fun he => by simpa using he)
        (fun e he => by
          obtain ⟨y, hy, rfl⟩ := Option.map_eq_some_iff.1 he
          exact ⟨_, by rw [hy]; rfl, hop y (by simp [Op.operands, hy]) (h.1.2.2 y (by simp [hy]))⟩)
        (fun he => by simpa using he) h.2
      exact ⟨r, by simp [execOp, ho, h1], h2⟩
  | extract x i =>
    rw [ho] at h hop
    obtain ⟨r, h1, h2⟩ := run_extP (P := P) (hop x (by simp [Op.operands]) h.1) h.2
    exact ⟨r, by simp [execOp, ho, h1], h2⟩
  | makeFunc fn first captured =>
    rw [ho] at h hop
    cases fn with
    | func f =>
      obtain ⟨g1, g2⟩ := h
      refine ⟨.func (.func f) (first.map a.eval) (captured.map a.eval), by simp [execOp, ho, Instr.makeFunc], ?_⟩
      refine .fn A f _ _ _ _ (by simp) (by simp) (fun j d u hd hu => ?_) fun j d u hd hu => ?_
      · simp only [List.getElem?_map, Option.map_eq_some_iff, Array.getElem?_toList, Array.getElem?_map] at hd hu
        obtain ⟨x, hx, rfl⟩ := hd
        rw [hx] at hu
        simp at hu
        subst hu
        exact hop x (by simp [Op.operands]; exact .inl (Array.mem_of_getElem? hx)) (g1 x (by simpa using Array.mem_of_getElem? hx))
      · simp only [List.getElem?_map, Option.map_eq_some_iff, Array.getElem?_toList, Array.getElem?_map] at hd hu
        obtain ⟨x, hx, rfl⟩ := hd
        rw [hx] at hu
        simp at hu
        subst hu
        exact hop x (by simp [Op.operands]; exact .inr (Array.mem_of_getElem? hx)) (g2 x (by simpa using Array.mem_of_getElem? hx))
    | _ => exact h.elim
  | call c =>
    rw [ho] at h hop
    obtain ⟨callee, args, ts⟩ := c
    cases callee with
    | builtin b =>
      simp only [opP, callP] at h ⊢
      unfold bltP at h ⊢
      split at h
      · rename_i x t hargs hts
        obtain rfl : args = #[x] := by apply Array.ext'; simpa using hargs
        obtain rfl : ts = #[t] := by apply Array.ext'; simpa using hts
        obtain ⟨r, h1, h2⟩ := run_lenP (P := P) (t := t) (ty := o.type) (hop x (by simp [Op.operands, Call.operands]) h.1) h.2
        exact ⟨r, by simp [execOp, ho, resolve, invoke, builtin, h1], h2⟩
      · rename_i x y hargs
        obtain rfl : args = #[x, y] := by apply Array.ext'; simpa using hargs
        obtain ⟨r, h1, h2⟩ := run_maxI (P := P) (ts := ts) (t := o.type) (hop x (by simp [Op.operands, Call.operands]) h.1.1) (hop y (by simp [Op.operands, Call.operands]) h.1.2) h.2
        exact ⟨r, by simp [execOp, ho, resolve, invoke, builtin, h1], h2⟩
      · rename_i x y hargs
        obtain rfl : args = #[x, y] := by apply Array.ext'; simpa using hargs
        obtain ⟨r, h1, h2⟩ := run_minI (P := P) (ts := ts) (t := o.type) (hop x (by simp [Op.operands, Call.operands]) h.1.1) (hop y (by simp [Op.operands, Call.operands]) h.1.2) h.2
        exact ⟨r, by simp [execOp, ho, resolve, invoke, builtin, h1], h2⟩
      · exact h.elim
    | _ => exact h.elim
  | _ => rw [ho] at h; exact h.elim

end
end Go.Sg
