/- Operations with effects: moved ownership, new variables, stores. -/
import Derived.Test.YtnpokifaejcbeaaGreatDoorSgReg
set_option linter.unusedVariables false
set_option linter.unusedSimpArgs false
namespace Go.Sg
open Go.RowKit

section
variable {P : Program} {nt : Nat} {ρ : Env} {ops : Array Oper}

theorem ow_assign {o : Oper} {K : Env → Prop} {x : Operand} (hop : o.op = .assign x) (hg : o.guard = none) (ho : opsOk nt o = true) (hd : dstOk nt o = true) (h : gd (ev ρ x)) (hK : K (putD ρ o.dst (un (ev ρ x)))) : OW P nt ops o K ρ :=
  ow_val hg fun I A a w hs => by
    have := hs.opd x (opsOk_mem ho (by simp [hop, Op.operands])) h
    exact ⟨a.eval x, w, I, A, _, by simp [execOp, hop], hs.putV hd this, Ext.refl _ _ _, hK⟩

theorem upd_eq_some {A : Own} {k s : Nat} {v : Option (Option Nat × Nat)} {y : Option Nat × Nat} (h : upd A k v s = some y) : (s = k ∧ v = some y) ∨ (s ≠ k ∧ A s = some y) := by
  unfold upd at h
  split at h
  · rename_i e; exact .inl ⟨e, h⟩
  · rename_i e; exact .inr ⟨e, h⟩

theorem Sim.moveOwn' {w : World} {I : Nat → Prop} {A : Own} {a : Act} (hs : Sim nt w I A ρ a) {t d : Nat} (hd : d < nt) (ht : t < nt) (hne : t ≠ d) (hown : isOwn (ρ t) = true) {x : Value} (hsl : SlotRel w I A t (ρ t) x) :
    ∃ A', Sim nt w I A' (set (kill d (set (kill t ρ) t .any)) d (killD d (killD t (ρ t)))) (a.put (some d) x) ∧ Ext w I A w I A' := by
  have hb := hs.bound
  have ho := hs.osim.own t
  have hAt : ∃ B c, A t = some (B, c) := by
    cases hρ : ρ t <;> rw [hρ] at hsl hown <;> first
      | (cases hown; done)
      | (obtain ⟨g, c, h1, _⟩ := hsl; exact ⟨_, c, h1⟩)
      | (obtain ⟨B, c, h1, _⟩ := hsl; exact ⟨B, c, h1⟩)
  obtain ⟨B, c, hA⟩ := hAt
  have hs1 := hs.disown (d := t) (by omega)
  have hc1 : ∀ s, (fun s => s != t) s = true → upd A t none s = A s := fun s h => upd_ne A _ (by simpa using h)
  have hc2 : ∀ s, (fun s => s != d) s = true → upd (upd A t none) d (some (B, c)) s = upd A t none s := fun s h => upd_ne _ _ (by simpa using h)
  have hs2 := hs1.own (d := d) hd (B := B) (c := c) (v := killD d (killD t (ρ t))) (x := x) (fun g hg => by
      subst hg
      refine ⟨(hs.osim.sep t g c hA).1, (hs.osim.sep t g c hA).2, fun s c' _ hc => ?_⟩
      rcases upd_eq_some hc with ⟨_, h⟩ | ⟨h1, h2⟩
      · cases h
      · exact h1 (hs.osim.inj s t g c' c h2 hA))
    (by
      cases hρ : ρ t <;> rw [hρ] at hsl hown <;> try (cases hown; done)
      · obtain ⟨g, c', h1, h2⟩ := hsl
        rw [hA] at h1
        simp only [Option.some.injEq, Prod.mk.injEq] at h1
        obtain ⟨rfl, rfl⟩ := h1
        unfold killD
        split <;> split <;> first
          | exact .any _ _
          | exact ⟨g, c, upd_same _ _ _, h2⟩
          | skip
      · obtain ⟨B', c', h1, h2⟩ := hsl
        rw [hA] at h1
        simp only [Option.some.injEq, Prod.mk.injEq] at h1
        obtain ⟨rfl, rfl⟩ := h1
        exact ⟨B, c, upd_same _ _ _, h2⟩
      · obtain ⟨g, c', h1, h2⟩ := hsl
        rw [hA] at h1
        simp only [Option.some.injEq, Prod.mk.injEq] at h1
        obtain ⟨rfl, rfl⟩ := h1
        exact ⟨g, c, upd_same _ _ _, h2⟩)
    (by
      cases hρ : ρ t <;> rw [hρ] at ho hown <;> try (cases hown; done)
      · obtain ⟨g, c', us, et, h1, h2, h3, h4, h5⟩ := ho
        rw [hA] at h1
        simp only [Option.some.injEq, Prod.mk.injEq] at h1
        obtain ⟨rfl, rfl⟩ := h1
        unfold killD
        split
        · rename_i hk1
          split
          · rename_i hk2
            exact ⟨g, c, us, et, upd_same _ _ _, h2, h3, h4, fun j e u he hu => ((h5 j e u he hu).congrA _ (allKL_get (by simpa [allK] using hk1) he) hc1).congrA _ (allKL_get (by simpa [allK] using hk2) he) hc2⟩
          · trivial
        · trivial
      · obtain ⟨B', c', h1, h2⟩ := ho
        rw [hA] at h1
        simp only [Option.some.injEq, Prod.mk.injEq] at h1
        obtain ⟨rfl, rfl⟩ := h1
        exact ⟨B, c, upd_same _ _ _, h2⟩
      · obtain ⟨g, c', vs, cl, h1, h2, h3⟩ := ho
        rw [hA] at h1
        simp only [Option.some.injEq, Prod.mk.injEq] at h1
        obtain ⟨rfl, rfl⟩ := h1
        exact ⟨g, c, vs, cl, upd_same _ _ _, h2, h3⟩)
  refine ⟨_, hs2, ⟨rfl, ⟨rfl, Nat.le_refl _⟩, rfl, Nat.le_refl _, fun _ h => h, fun g hg hAg => ⟨rfl, fun h => h, fun s c' hc => ?_⟩, fun s g c' hc hg hl => ?_, fun s hs' => ?_⟩⟩
  · rcases upd_eq_some hc with ⟨_, h⟩ | ⟨_, h⟩
    · simp only [Option.some.injEq, Prod.mk.injEq] at h
      obtain ⟨rfl, rfl⟩ := h
      exact hAg t c hA
    · rcases upd_eq_some h with ⟨_, h⟩ | ⟨_, h⟩
      · cases h
      · exact hAg s c' h
  · rcases upd_eq_some hc with ⟨_, h⟩ | ⟨_, h⟩
    · simp only [Option.some.injEq, Prod.mk.injEq] at h
      obtain ⟨rfl, rfl⟩ := h
      exact ⟨t, c, by omega, hA⟩
    · rcases upd_eq_some h with ⟨_, h⟩ | ⟨_, h⟩
      · cases h
      · exact ⟨s, c', hl, h⟩
  · rw [upd_ne _ _ (by omega), upd_ne _ _ (by omega)]

theorem Sim.moveOwn {w : World} {I : Nat → Prop} {A : Own} {a : Act} (hs : Sim nt w I A ρ a) {t d : Nat} (hd : d < nt) (ht : t < nt) (hne : t ≠ d) (hown : isOwn (ρ t) = true) :
    ∃ A', Sim nt w I A' (set (kill d (set (kill t ρ) t .any)) d (killD d (killD t (ρ t)))) (a.put (some d) (a.eval (.tmp t))) ∧ Ext w I A w I A' := hs.moveOwn' hd ht hne hown (hs.slot t ht)

theorem ow_move_own {o : Oper} {K : Env → Prop} {t d : Nat} (hop : o.op = .assign (.tmp t)) (hg : o.guard = none) (hdst : o.dst = some d) (hd : d < nt) (ht : t < nt) (hne : t ≠ d) (hown : isOwn (ρ t) = true)
    (hK : K (set (kill d (set (kill t ρ) t .any)) d (killD d (killD t (ρ t))))) : OW P nt ops o K ρ := by
  refine ow_val hg fun I A a w hs => ?_
  obtain ⟨A', h1, h2⟩ := hs.moveOwn hd ht hne hown
  exact ⟨a.eval (.tmp t), w, I, A', _, by simp [execOp, hop], by rw [hdst]; exact h1, h2, hK⟩

theorem put_same {a : Act} {d : Nat} {x : Value} (hd : d < a.tmps.size) (h : a.tmps.getD d undef = x) : a.put (some d) x = a := by
  have : a.tmps.setIfInBounds d x = a.tmps := by
    apply Array.ext (by simp)
    intro i h1 h2
    rw [Array.getElem_setIfInBounds]
    split
    · rename_i e1
      subst e1
      rw [← h, Array.getD_eq_getD_getElem?, Array.getElem?_eq_getElem hd]; rfl
    · rfl
  unfold Act.put
  simp [this]

/-- Slot d holds what slot t owns, whole: it may own it. -/
theorem Sim.claim {w : World} {I : Nat → Prop} {A : Own} {a : Act} (hs : Sim nt w I A ρ a) {t d : Nat} (hd : d < nt) (ht : t < nt) (hne : t ≠ d)
    (h : (∃ e z xs, ρ d = .own t xs.length ∧ ρ t = .row e z xs) ∨ (∃ cs, ρ d = .bp t 0 ∧ ρ t = .bx cs)) :
    ∃ A', Sim nt w I A' (set (kill d (set (kill t ρ) t .any)) d (killD d (killD t (ρ t)))) a ∧ Ext w I A w I A' := by
  have hown : isOwn (ρ t) = true := by rcases h with ⟨e, z, xs, _, h⟩ | ⟨cs, _, h⟩ <;> rw [h] <;> rfl
  have hsd := hs.slot d hd
  have hx : SlotRel w I A t (ρ t) (a.tmps.getD d undef) := by
    generalize a.tmps.getD d undef = x at hsd ⊢
    rcases h with ⟨e, z, xs, k1, k2⟩ | ⟨cs, k1, k2⟩
    · rw [k1] at hsd; rw [k2]
      have hsd : Rel w I A (.own t xs.length) x := hsd
      cases hsd with
      | own _ _ _ B' c' b q3 hb => exact ⟨B', c', q3, b, hb, rfl⟩
    · rw [k1] at hsd; rw [k2]
      have hsd : Rel w I A (.bp t 0) x := hsd
      cases hsd with
      | bp _ _ _ g' c' q3 => exact ⟨g', c', q3, rfl⟩
  obtain ⟨A', h1, h2⟩ := hs.moveOwn' hd ht hne hown hx
  rw [put_same (by rw [hs.size]; exact hd) rfl] at h1
  exact ⟨A', h1, h2⟩

/-! ## Cells of a value -/

/-- The cells of a value, where each is known to be one cell. -/
def cellsD : DV → List DV
  | .agg cs => cs
  | .v (.agg _) => []
  | .v (.tuple _) => []
  | .v x => [.v x]
  | .sl z n f => [.sl z n f]
  | .dp cs => [.dp cs]
  | .bp s o => [.bp s o]
  | .own s n => [.own s n]
  | .rp s z i o => [.rp s z i o]
  | .fn f a b => [.fn f a b]
  | .iface t x => [.iface t x]
  | .ez => [.ez]
  | _ => []

theorem cells_ok {w : World} {I : Nat → Prop} {A : Own} {d : DV} {x : Value} (h : Rel w I A d x) (hl : 0 < (cellsD d).length ∨ ∃ cs, d = .agg cs) :
    (cellsD d).length = x.cells.size ∧ (∀ u ∈ x.cells.toList, u.oneCell' = true) ∧ ∀ (j : Nat) (e : DV) (u : Value), (cellsD d)[j]? = some e → x.cells[j]? = some u → Rel w I A e u := by
  have one : ∀ (e : DV) (y : Value), Rel w I A e y → y.cells = #[y] → y.oneCell' = true → [e].length = y.cells.size ∧ (∀ u ∈ y.cells.toList, u.oneCell' = true) ∧
      ∀ (j : Nat) (e' : DV) (u : Value), [e][j]? = some e' → y.cells[j]? = some u → Rel w I A e' u := fun e y he hy hone => by
    rw [hy]
    refine ⟨rfl, by simpa using hone, fun j e' u h1 h2 => ?_⟩
    cases j with
    | zero => simp at h1 h2; subst h1; subst h2; exact he
    | succ j => simp at h1
  cases h with
  | any => rcases hl with h | ⟨cs, h⟩ <;> simp [cellsD] at h
  | v _ x =>
    cases x <;> first
      | exact one _ _ (.v A _) rfl rfl
      | (rcases hl with h | ⟨cs, h⟩ <;> simp [cellsD] at h)
  | agg _ cs vs hl' hone hrel => exact ⟨hl', hone, hrel⟩
  | tup _ cs vs hl' hrel => rcases hl with h | ⟨cs, h⟩ <;> simp [cellsD] at h
  | sl0 _ z f b c => exact one _ _ (.sl0 A z f b c) rfl rfl
  | sl _ z n f b o c us hn hc hm hI hz hcell hone hrel => exact one _ _ (.sl A z n f b o c us hn hc hm hI hz hcell hone hrel) rfl rfl
  | dp _ cs b o us hI hcell hone hrel => exact one _ _ (.dp A cs b o us hI hcell hone hrel) rfl rfl
  | bp _ s off g c h => exact one _ _ (.bp A s off g c h) rfl rfl
  | own _ s n B c b h hb => exact one _ _ (.own A s n B c b h hb) rfl rfl
  | rp _ s z i off g c h => exact one _ _ (.rp A s z i off g c h) rfl rfl
  | fn _ f fs cs us vs hf hc hfr hcr => exact one _ _ (.fn A f fs cs us vs hf hc hfr hcr) rfl rfl
  | iface _ t d x h => exact one _ _ (.iface A t d x h) rfl rfl
  | mr _ s g c h => rcases hl with h | ⟨cs, h⟩ <;> simp [cellsD] at h
  | ez _ b => exact one _ _ (.ez A b) rfl rfl

/-- A new variable with these contents. -/
theorem Sim.newBox {w : World} {I : Nat → Prop} {A : Own} {a : Act} (hs : Sim nt w I A ρ a) {d : Nat} (hd : d < nt) {cs : List DV} {us : Array Value} (t : TypeId) (hl : cs.length = us.size)
    (hone : ∀ u ∈ us.toList, u.oneCell' = true) (hr : ∀ (j : Nat) (e : DV) (u : Value), cs[j]? = some e → us[j]? = some u → Rel w I A e u) :
    ∃ A', Sim nt (w.alloc (.cells us t)) I A' (set (kill d ρ) d (killD d (.bx cs))) (a.put (some d) (.pointer (some ⟨w.heap.size, 0, none⟩))) ∧ Ext w I A (w.alloc (.cells us t)) I A' := by
  have hb := hs.bound
  have hgr := Grow.alloc hs.osim (.cells us t)
  have hs1 := hs.grow hgr
  refine ⟨upd A d (some (some w.heap.size, 0)), ?_, ?_⟩
  · refine hs1.own hd (fun g hg => ?_) ?_ ?_
    · cases hg
      refine ⟨by simp, fun hi => ?_, fun s c' _ hc => ?_⟩
      · have := hs.osim.imm _ hi; omega
      · have := (hs.osim.sep s _ c' hc).1; omega
    · unfold killD
      split
      · exact ⟨_, 0, upd_same _ _ _, rfl⟩
      · exact .any _ _
    · unfold killD
      split
      · rename_i hk
        refine ⟨w.heap.size, 0, us, t, upd_same _ _ _, heap_alloc_new w _, hl.symm, hone, fun j e u he hu => ?_⟩
        exact (hgr.rel hs.osim (hr j e u he hu)).congrA _ (allKL_get (by simpa [allK] using hk) he) fun s h => upd_ne A _ (by simpa using h)
      · trivial
  · have he := hgr.ext hs.osim
    refine ⟨rfl, ⟨rfl, Nat.le_refl _⟩, rfl, by simp, fun _ h => h, fun g hg hA => ⟨hgr.heap g hg, fun h => h, fun s c hc => ?_⟩, fun s g c hc hg hl' => ?_, fun s h => upd_ne A _ (by omega)⟩
    · rcases upd_eq_some hc with ⟨_, h⟩ | ⟨_, h⟩
      · simp only [Option.some.injEq, Prod.mk.injEq] at h; omega
      · exact hA s c h
    · rcases upd_eq_some hc with ⟨_, h⟩ | ⟨_, h⟩
      · simp only [Option.some.injEq, Prod.mk.injEq] at h; omega
      · exact ⟨s, c, hl', h⟩

theorem ow_box {o : Oper} {K : Env → Prop} {t : TypeId} {x : Operand} {d : Nat} (hop : o.op = .box t x) (hg : o.guard = none) (hdst : o.dst = some d) (hd : d < nt) (ho : opsOk nt o = true) (h : gd (ev ρ x))
    (hl : 0 < (cellsD (un (ev ρ x))).length ∨ ∃ cs, un (ev ρ x) = .agg cs) (hK : K (set (kill d ρ) d (killD d (.bx (cellsD (un (ev ρ x))))))) : OW P nt ops o K ρ := by
  refine ow_val hg fun I A a w hs => ?_
  have hx := hs.opd x (opsOk_mem ho (by simp [hop, Op.operands])) h
  obtain ⟨h1, h2, h3⟩ := cells_ok hx hl
  obtain ⟨A', k1, k2⟩ := hs.newBox hd t h1 h2 h3
  exact ⟨.pointer (some ⟨w.heap.size, 0, none⟩), _, I, A', _, by simp [execOp, hop, Instr.box, newVar, newRow], by rw [hdst]; exact k1, k2, hK⟩

/-- The zero value's cells. -/
def zcOf (P : Program) (t : TypeId) : Option (List Value) :=
  match P.info? t with
  | some i => match i.zero with
    | some z => if z.cells.toList.all (·.oneCell') then some z.cells.toList else none
    | none => none
  | none => none

theorem zcOf_spec {t : TypeId} {zs : List Value} (h : zcOf P t = some zs) : ∃ i z, P.info? t = some i ∧ i.zero = some z ∧ z.cells.toList = zs ∧ ∀ u ∈ zs, u.oneCell' = true := by
  unfold zcOf at h
  split at h <;> try cases h
  rename_i i hi
  split at h <;> try cases h
  rename_i z hz
  split at h <;> cases h
  rename_i hall
  exact ⟨i, z, hi, hz, rfl, List.all_eq_true.1 hall⟩

theorem ow_alloc {o : Oper} {K : Env → Prop} {t : TypeId} {zs : List Value} {d : Nat} (hop : o.op = .alloc t) (hg : o.guard = none) (hdst : o.dst = some d) (hd : d < nt) (hz : zcOf P t = some zs)
    (hK : K (set (kill d ρ) d (.bx (zs.map .v)))) : OW P nt ops o K ρ := by
  refine ow_val hg fun I A a w hs => ?_
  obtain ⟨i, z, h1, h2, h3, h4⟩ := zcOf_spec hz
  have hkill : killD d (.bx (zs.map .v)) = .bx (zs.map .v) := by
    unfold killD
    rw [if_pos]
    simp only [allK]
    rw [allKL_iff]
    intro e he
    simp at he
    obtain ⟨v, _, rfl⟩ := he
    rfl
  obtain ⟨A', k1, k2⟩ := hs.newBox hd (cs := zs.map .v) (us := z.cells) t (by simp [← h3]) (by rw [h3]; exact h4) (fun j e u he hu => by
    simp only [List.getElem?_map, Option.map_eq_some_iff, ← h3, Array.getElem?_toList] at he
    obtain ⟨y, hy, rfl⟩ := he
    rw [hu] at hy
    cases hy
    exact .v A _)
  rw [hkill] at k1
  refine ⟨.pointer (some ⟨w.heap.size, 0, none⟩), _, I, A', _, ?_, by rw [hdst]; exact k1, k2, hK⟩
  simp [execOp, hop, Instr.alloc, zeroValue, typeInfo, h1, h2, newVar, newRow]

/-! ## Stores -/

/-- A variable's contents behind a store. -/
def spl (off : Nat) (cs old : List DV) : List DV :=
  if cs.length = 1 then old.set off (cs.headD .any) else if cs.length = old.length then cs else old.take off ++ cs ++ old.drop (off + cs.length)

theorem spl_eq {off : Nat} {cs old : List DV} (h : off + cs.length ≤ old.length) : spl off cs old = old.take off ++ cs ++ old.drop (off + cs.length) := by
  unfold spl
  split
  · rename_i h1
    match cs, h1 with
    | [c], _ =>
      simp only [List.headD_cons, List.length_singleton]
      rw [List.set_eq_take_append_cons_drop, if_pos (by simp at h; omega)]
      simp
  · split
    · rename_i h1
      obtain rfl : off = 0 := by omega
      simp [h1]
    · rfl

def szOf (P : Program) (t : TypeId) : Option Nat := (P.info? t).map (·.size)

theorem run_storeAt {w : World} {t : TypeId} {n : Nat} (hz : szOf P t = some n) {x : Value} (hn : x.cells.size = n) {g o : Nat} {us : Array Value} {et : TypeId} (hg : w.heap[g]? = some (.cells us et (0, 0)))
    (hl : o + n ≤ us.size) (hone : ∀ u ∈ x.cells.toList, u.oneCell' = true) :
    (Instr.storeAt t (.pointer (some ⟨g, o, none⟩)) x).run P w = .ok () (w.setRow g (us.toList.take o ++ x.cells.toList ++ us.toList.drop (o + n)).toArray) := by
  unfold szOf at hz
  cases hi : P.info? t with
  | none => rw [hi] at hz; cases hz
  | some i =>
    rw [hi] at hz
    simp at hz
    have := run_storeCells_at (P := P) g o et x.cells.toList 0 us w hg (by simp [hn]; omega) hone
    simp only [Nat.add_zero, Array.length_toList, hn] at this
    simp [Instr.storeAt, Instr.sureAddr, storeVar, run_sizeOf w hi, Program.cellsOf, hi, hz, hn, this]

theorem rel_spl {w : World} {I : Nat → Prop} {A : Own} {cs old : List DV} {us vs : Array Value} {off : Nat} (hl : old.length = us.size) (hc : cs.length = vs.size) (h : off + cs.length ≤ old.length)
    (hold : ∀ (j : Nat) (e : DV) (u : Value), old[j]? = some e → us[j]? = some u → Rel w I A e u) (hnew : ∀ (j : Nat) (e : DV) (u : Value), cs[j]? = some e → vs[j]? = some u → Rel w I A e u) :
    ∀ (j : Nat) (e : DV) (u : Value), (old.take off ++ cs ++ old.drop (off + cs.length))[j]? = some e → (us.toList.take off ++ vs.toList ++ us.toList.drop (off + cs.length))[j]? = some u → Rel w I A e u := by
  intro j e u he hu
  rw [List.getElem?_append, List.getElem?_append] at he hu
  simp only [List.length_append, List.length_take, Array.length_toList, ← hl, ← hc, Nat.min_eq_left (show off ≤ old.length by omega)] at he hu
  split at he
  · rename_i h1
    rw [if_pos h1] at hu
    split at he
    · rename_i h2
      rw [if_pos h2] at hu
      rw [List.getElem?_take, if_pos h2] at he hu
      rw [Array.getElem?_toList] at hu
      exact hold j e u he hu
    · rename_i h2
      rw [if_neg h2] at hu
      rw [Array.getElem?_toList] at hu
      exact hnew _ e u he hu
  · rename_i h1
    rw [if_neg h1] at hu
    rw [List.getElem?_drop] at he hu
    rw [Array.getElem?_toList] at hu
    exact hold _ e u he hu

def stB (ρ : Env) (s off n : Nat) (cs : List DV) (c : DV) (K : Env → Prop) : Prop :=
  match c with
  | .bx old => cs.length = n ∧ off + n ≤ old.length ∧ (s < 100000 ∨ allKL (fun t => decide (100000 ≤ t)) cs = true) ∧ K (set ρ s (.bx (spl off cs old)))
  | _ => False

theorem all_spl {p : Nat → Bool} {off : Nat} {cs old : List DV} (h : off + cs.length ≤ old.length) (h1 : allKL p cs = true) (h2 : allKL p old = true) : allKL p (spl off cs old) = true := by
  rw [spl_eq h, allKL_iff]
  rw [allKL_iff] at h1 h2
  intro e he
  simp only [List.append_assoc, List.mem_append] at he
  rcases he with he | he | he
  · exact h2 e (List.mem_of_mem_take he)
  · exact h1 e he
  · exact h2 e (List.mem_of_mem_drop he)

theorem ow_store {o : Oper} {K : Env → Prop} {t : TypeId} {ad x : Operand} {n s off : Nat} (hop : o.op = .store t ad x) (hg : o.guard = none) (hdst : o.dst = none) (ho : opsOk nt o = true)
    (ha : ev ρ ad = .bp s off) (hx : gd (ev ρ x)) (hz : szOf P t = some n) (hl : 0 < n) (h : stB ρ s off n (cellsD (un (ev ρ x))) (ρ s) K) : OW P nt ops o K ρ := by
  refine ow_skip hg fun I A a w hs => ?_
  have hxr := hs.opd x (opsOk_mem ho (by simp [hop, Op.operands])) hx
  have hadr := hs.opd ad (opsOk_mem ho (by simp [hop, Op.operands])) (by rw [ha]; trivial)
  rw [ha] at hadr
  have hadr : Rel w I A (.bp s off) (a.eval ad) := hadr
  generalize hav : a.eval ad = av at *
  cases hadr with
  | bp _ _ _ g c hA =>
    have hown := hs.osim.own s
    cases hρ : ρ s <;> rw [hρ] at h hown <;> simp only [stB] at h <;> try exact h.elim
    rename_i old
    obtain ⟨h1, h2, h3, hK⟩ := h
    obtain ⟨g', c', us, et, q1, q2, q3, q4, q5⟩ := hown
    rw [hA] at q1
    simp only [Option.some.injEq, Prod.mk.injEq] at q1
    obtain ⟨rfl, rfl⟩ := q1
    obtain ⟨k1, k2, k3⟩ := cells_ok hxr (.inl (by omega))
    have hrun := run_storeAt (P := P) (w := w) hz (x := a.eval x) (by omega) q2 (o := off) (by omega) k2
    rw [← h1] at hrun
    generalize hnew : (us.toList.take off ++ (a.eval x).cells.toList ++ us.toList.drop (off + (cellsD (un (ev ρ x))).length)).toArray = new at hrun
    have hI : ∀ {B : Own} {d : DV} {v : Value}, Rel w I B d v → Rel (w.setRow g new) I B d v := fun hr =>
      hr.mono fun g' hg' => ⟨hg', fun o => cell_of_heap (setRow_other w g g' _ (fun e => (hs.osim.sep s g c hA).2 (e ▸ hg'))) o⟩
    refine ⟨w.setRow g new, I, A, _, ?_, ?_, Ext.turn hA new, hK⟩
    · simp only [execOp, hop, Sem.run_bind, hav, hrun, Result.andThen_ok, Sem.run_pure]
    · rw [hdst]
      refine hs.turn hA q2 (fun v hv => ?_) ?_ fun hs' => ?_
      · rw [hρ] at hv; exact hv
      · rw [spl_eq (by omega)]
        subst hnew
        refine ⟨g, c, _, et, hA, setRow_heap w g us _ et _ q2, by simp; omega, fun u hu => ?_, fun j e u he hu => hI (rel_spl q3.symm k1 (by omega) q5 k3 j e u he (by simpa using hu))⟩
        simp only [List.append_assoc, List.mem_append] at hu
        rcases hu with hu | hu | hu
        · exact q4 u (List.mem_of_mem_take hu)
        · exact k2 u hu
        · exact q4 u (List.mem_of_mem_drop hu)
      · have := hs.out s hs'
        rw [hρ] at this
        refine show allK _ (.bx _) = true from ?_
        simp only [allK]
        exact all_spl (by omega) (h3.resolve_left (by omega)) (by simpa [isOut, allK] using this)

end
end Go.Sg
