/- Several texts as one. -/
import Derived.Test.YtbndgcddihbhlaaSgA
import Derived.IntWalk
import Derived.MapKept
import Derived.Lib.SliceRun
import Derived.Still
set_option linter.unusedVariables false
set_option linter.unusedSimpArgs false
namespace Go.Sg
open Go.RowKit
section
variable {P : Program} {nt : Nat} {ρ : Env} {ops : Array Oper}
theorem ow_assign {o : Oper} {K : Env → Prop} {x : Operand} (hop : o.op = .assign x) (hg : o.guard = none) (ho : opsOk nt o = true) (hd : dstOk nt o = true) (h : gd (ev ρ x)) (hK : K (putD ρ o.dst (un (ev ρ x)))) : OW P nt ops o K ρ :=
  ow_val hg fun I A a w hs => by
    have := hs.opd x (opsOk_mem ho (by simp [hop, Op.operands])) h
    exact ⟨a.eval x, w, I, A, _, by simp [execOp, hop], hs.putV hd this, Ext.refl _ _ _, hK⟩
theorem upd_eq_some {A : Own} {k s : Nat} {v : Option (Option Nat × Nat)} {y : Option Nat × Nat} (h : upd A k v s = some y) : (s = k ∧ v = some y) ∨ (s ≠ k ∧ A s = some y) := by
  unfold upd at h
  split at h
  · rename_i e; exact .inl ⟨e, h⟩
  · rename_i e; exact .inr ⟨e, h⟩
theorem Sim.moveOwn' {w : World} {I : Nat → Prop} {A : Own} {a : Act} (hs : Sim nt w I A ρ a) {t d : Nat} (hd : d < nt) (ht : t < nt) (hne : t ≠ d) (hown : isOwn (ρ t) = true) {x : Value} (hsl : SlotRel w I A t (ρ t) x) :
    ∃ A', Sim nt w I A' (set (kill d (set (kill t ρ) t .any)) d (killD d (killD t (ρ t)))) (a.put (some d) x) ∧ Ext w I A w I A' := by
  have hb := hs.bound
  have ho := hs.osim.own t
  have hAt : ∃ B c, A t = some (B, c) := by
    cases hρ : ρ t <;> rw [hρ] at hsl hown <;> first
      | (cases hown; done)
      | (obtain ⟨g, c, h1, _⟩ := hsl; exact ⟨_, c, h1⟩)
      | (obtain ⟨B, c, h1, _⟩ := hsl; exact ⟨B, c, h1⟩)
  obtain ⟨B, c, hA⟩ := hAt
  have hs1 := hs.disown (d := t) (by omega)
  have hc1 : ∀ s, (fun s => s != t) s = true → upd A t none s = A s := fun s h => upd_ne A _ (by simpa using h)
  have hc2 : ∀ s, (fun s => s != d) s = true → upd (upd A t none) d (some (B, c)) s = upd A t none s := fun s h => upd_ne _ _ (by simpa using h)
  have hs2 := hs1.own (d := d) hd (B := B) (c := c) (v := killD d (killD t (ρ t))) (x := x) (fun g hg => by
      subst hg
      refine ⟨(hs.osim.sep t g c hA).1, (hs.osim.sep t g c hA).2, fun s c' _ hc => ?_⟩
      rcases upd_eq_some hc with ⟨_, h⟩ | ⟨h1, h2⟩
      · cases h
      · exact h1 (hs.osim.inj s t g c' c h2 hA))
    (by
      cases hρ : ρ t <;> rw [hρ] at hsl hown <;> try (cases hown; done)
      · obtain ⟨g, c', h1, h2⟩ := hsl
        rw [hA] at h1
        simp only [Option.some.injEq, Prod.mk.injEq] at h1
        obtain ⟨rfl, rfl⟩ := h1
        unfold killD
        split <;> split <;> first
          | exact .any _ _
          | exact ⟨g, c, upd_same _ _ _, h2⟩
          | skip
      · obtain ⟨B', c', h1, h2⟩ := hsl
        rw [hA] at h1
        simp only [Option.some.injEq, Prod.mk.injEq] at h1
        obtain ⟨rfl, rfl⟩ := h1
        exact ⟨B, c, upd_same _ _ _, h2⟩
      · obtain ⟨g, c', h1, h2⟩ := hsl
        rw [hA] at h1
        simp only [Option.some.injEq, Prod.mk.injEq] at h1
        obtain ⟨rfl, rfl⟩ := h1
        exact ⟨g, c, upd_same _ _ _, h2⟩)
    (by
      cases hρ : ρ t <;> rw [hρ] at ho hown <;> try (cases hown; done)
      · obtain ⟨g, c', us, et, h1, h2, h3, h4, h5⟩ := ho
        rw [hA] at h1
        simp only [Option.some.injEq, Prod.mk.injEq] at h1
        obtain ⟨rfl, rfl⟩ := h1
        unfold killD
        split
        · rename_i hk1
          split
          · rename_i hk2
            exact ⟨g, c, us, et, upd_same _ _ _, h2, h3, h4, fun j e u he hu => ((h5 j e u he hu).congrA _ (allKL_get (by simpa [allK] using hk1) he) hc1).congrA _ (allKL_get (by simpa [allK] using hk2) he) hc2⟩
          · trivial
        · trivial
      · obtain ⟨B', c', h1, h2⟩ := ho
        rw [hA] at h1
        simp only [Option.some.injEq, Prod.mk.injEq] at h1
        obtain ⟨rfl, rfl⟩ := h1
        exact ⟨B, c, upd_same _ _ _, h2⟩
      · obtain ⟨g, c', vs, cl, h1, h2, h3⟩ := ho
        rw [hA] at h1
        simp only [Option.some.injEq, Prod.mk.injEq] at h1
        obtain ⟨rfl, rfl⟩ := h1
        exact ⟨g, c, vs, cl, upd_same _ _ _, h2, h3⟩)
  refine ⟨_, hs2, ⟨rfl, ⟨rfl, Nat.le_refl _⟩, rfl, Nat.le_refl _, fun _ h => h, fun g hg hAg => ⟨rfl, fun h => h, fun s c' hc => ?_⟩, fun s g c' hc hg hl => ?_, fun s hs' => ?_⟩⟩
  · rcases upd_eq_some hc with ⟨_, h⟩ | ⟨_, h⟩
    · simp only [Option.some.injEq, Prod.mk.injEq] at h
      obtain ⟨rfl, rfl⟩ := h
      exact hAg t c hA
    · rcases upd_eq_some h with ⟨_, h⟩ | ⟨_, h⟩
      · cases h
      · exact hAg s c' h
  · rcases upd_eq_some hc with ⟨_, h⟩ | ⟨_, h⟩
    · simp only [Option.some.injEq, Prod.mk.injEq] at h
      obtain ⟨rfl, rfl⟩ := h
      exact ⟨t, c, by omega, hA⟩
    · rcases upd_eq_some h with ⟨_, h⟩ | ⟨_, h⟩
      · cases h
      · exact ⟨s, c', hl, h⟩
  · rw [upd_ne _ _ (by omega), upd_ne _ _ (by omega)]
theorem Sim.moveOwn {w : World} {I : Nat → Prop} {A : Own} {a : Act} (hs : Sim nt w I A ρ a) {t d : Nat} (hd : d < nt) (ht : t < nt) (hne : t ≠ d) (hown : isOwn (ρ t) = true) :
    ∃ A', Sim nt w I A' (set (kill d (set (kill t ρ) t .any)) d (killD d (killD t (ρ t)))) (a.put (some d) (a.eval (.tmp t))) ∧ Ext w I A w I A' := hs.moveOwn' hd ht hne hown (hs.slot t ht)
theorem ow_move_own {o : Oper} {K : Env → Prop} {t d : Nat} (hop : o.op = .assign (.tmp t)) (hg : o.guard = none) (hdst : o.dst = some d) (hd : d < nt) (ht : t < nt) (hne : t ≠ d) (hown : isOwn (ρ t) = true)
    (hK : K (set (kill d (set (kill t ρ) t .any)) d (killD d (killD t (ρ t))))) : OW P nt ops o K ρ := by
  refine ow_val hg fun I A a w hs => ?_
  obtain ⟨A', h1, h2⟩ := hs.moveOwn hd ht hne hown
  exact ⟨a.eval (.tmp t), w, I, A', _, by simp [execOp, hop], by rw [hdst]; exact h1, h2, hK⟩
theorem put_same {a : Act} {d : Nat} {x : Value} (hd : d < a.tmps.size) (h : a.tmps.getD d undef = x) : a.put (some d) x = a := by
  have : a.tmps.setIfInBounds d x = a.tmps := by
    apply Array.ext (by simp)
    intro i h1 h2
    rw [Array.getElem_setIfInBounds]
    split
    · rename_i e1
      subst e1
      rw [← h, Array.getD_eq_getD_getElem?, Array.getElem?_eq_getElem hd]; rfl
    · rfl
  unfold Act.put
  simp [this]
theorem Sim.claim {w : World} {I : Nat → Prop} {A : Own} {a : Act} (hs : Sim nt w I A ρ a) {t d : Nat} (hd : d < nt) (ht : t < nt) (hne : t ≠ d)
    (h : (∃ e z xs, ρ d = .own t xs.length ∧ ρ t = .row e z xs) ∨ (∃ cs, ρ d = .bp t 0 ∧ ρ t = .bx cs)) :
    ∃ A', Sim nt w I A' (set (kill d (set (kill t ρ) t .any)) d (killD d (killD t (ρ t)))) a ∧ Ext w I A w I A' := by
  have hown : isOwn (ρ t) = true := by rcases h with ⟨e, z, xs, _, h⟩ | ⟨cs, _, h⟩ <;> rw [h] <;> rfl
  have hsd := hs.slot d hd
  have hx : SlotRel w I A t (ρ t) (a.tmps.getD d undef) := by
    generalize a.tmps.getD d undef = x at hsd ⊢
    rcases h with ⟨e, z, xs, k1, k2⟩ | ⟨cs, k1, k2⟩
    · rw [k1] at hsd; rw [k2]
      have hsd : Rel w I A (.own t xs.length) x := hsd
      cases hsd with
      | own _ _ _ B' c' b q3 hb => exact ⟨B', c', q3, b, hb, rfl⟩
    · rw [k1] at hsd; rw [k2]
      have hsd : Rel w I A (.bp t 0) x := hsd
      cases hsd with
      | bp _ _ _ g' c' q3 => exact ⟨g', c', q3, rfl⟩
  obtain ⟨A', h1, h2⟩ := hs.moveOwn' hd ht hne hown hx
  rw [put_same (by rw [hs.size]; exact hd) rfl] at h1
  exact ⟨A', h1, h2⟩
/-! ## Cells of a value -/
def cellsD : DV → List DV
  | .agg cs => cs
  | .v (.agg _) => []
  | .v (.tuple _) => []
  | .v x => [.v x]
  | .sl z n f => [.sl z n f]
  | .dp cs => [.dp cs]
  | .bp s o => [.bp s o]
  | .own s n => [.own s n]
  | .rp s z i o => [.rp s z i o]
  | .fn f a b => [.fn f a b]
  | .iface t x => [.iface t x]
  | .ez => [.ez]
  | _ => []
theorem cells_ok {w : World} {I : Nat → Prop} {A : Own} {d : DV} {x : Value} (h : Rel w I A d x) (hl : 0 < (cellsD d).length ∨ ∃ cs, d = .agg cs) :
    (cellsD d).length = x.cells.size ∧ (∀ u ∈ x.cells.toList, u.oneCell' = true) ∧ ∀ (j : Nat) (e : DV) (u : Value), (cellsD d)[j]? = some e → x.cells[j]? = some u → Rel w I A e u := by
  have one : ∀ (e : DV) (y : Value), Rel w I A e y → y.cells = #[y] → y.oneCell' = true → [e].length = y.cells.size ∧ (∀ u ∈ y.cells.toList, u.oneCell' = true) ∧
      ∀ (j : Nat) (e' : DV) (u : Value), [e][j]? = some e' → y.cells[j]? = some u → Rel w I A e' u := fun e y he hy hone => by
    rw [hy]
    refine ⟨rfl, by simpa using hone, fun j e' u h1 h2 => ?_⟩
    cases j with
    | zero => simp at h1 h2; subst h1; subst h2; exact he
    | succ j => simp at h1
  cases h with
  | any => rcases hl with h | ⟨cs, h⟩ <;> simp [cellsD] at h
  | v _ x =>
    cases x <;> first
      | exact one _ _ (.v A _) rfl rfl
      | (rcases hl with h | ⟨cs, h⟩ <;> simp [cellsD] at h)
  | agg _ cs vs hl' hone hrel => exact ⟨hl', hone, hrel⟩
  | tup _ cs vs hl' hrel => rcases hl with h | ⟨cs, h⟩ <;> simp [cellsD] at h
  | sl0 _ z f b c => exact one _ _ (.sl0 A z f b c) rfl rfl
  | sl _ z n f b o c us hn hc hm hI hz hcell hone hrel => exact one _ _ (.sl A z n f b o c us hn hc hm hI hz hcell hone hrel) rfl rfl
  | dp _ cs b o us hI hcell hone hrel => exact one _ _ (.dp A cs b o us hI hcell hone hrel) rfl rfl
  | bp _ s off g c h => exact one _ _ (.bp A s off g c h) rfl rfl
  | own _ s n B c b h hb => exact one _ _ (.own A s n B c b h hb) rfl rfl
  | rp _ s z i off g c h => exact one _ _ (.rp A s z i off g c h) rfl rfl
  | fn _ f fs cs us vs hf hc hfr hcr => exact one _ _ (.fn A f fs cs us vs hf hc hfr hcr) rfl rfl
  | iface _ t d x h => exact one _ _ (.iface A t d x h) rfl rfl
  | mr _ s g c h => rcases hl with h | ⟨cs, h⟩ <;> simp [cellsD] at h
  | ez _ b => exact one _ _ (.ez A b) rfl rfl
theorem Sim.newBox {w : World} {I : Nat → Prop} {A : Own} {a : Act} (hs : Sim nt w I A ρ a) {d : Nat} (hd : d < nt) {cs : List DV} {us : Array Value} (t : TypeId) (hl : cs.length = us.size)
    (hone : ∀ u ∈ us.toList, u.oneCell' = true) (hr : ∀ (j : Nat) (e : DV) (u : Value), cs[j]? = some e → us[j]? = some u → Rel w I A e u) :
    ∃ A', Sim nt (w.alloc (.cells us t)) I A' (set (kill d ρ) d (killD d (.bx cs))) (a.put (some d) (.pointer (some ⟨w.heap.size, 0, none⟩))) ∧ Ext w I A (w.alloc (.cells us t)) I A' := by
  have hb := hs.bound
  have hgr := Grow.alloc hs.osim (.cells us t)
  have hs1 := hs.grow hgr
  refine ⟨upd A d (some (some w.heap.size, 0)), ?_, ?_⟩
  · refine hs1.own hd (fun g hg => ?_) ?_ ?_
    · cases hg
      refine ⟨by simp, fun hi => ?_, fun s c' _ hc => ?_⟩
      · have := hs.osim.imm _ hi; omega
      · have := (hs.osim.sep s _ c' hc).1; omega
    · unfold killD
      split
      · exact ⟨_, 0, upd_same _ _ _, rfl⟩
      · exact .any _ _
    · unfold killD
      split
      · rename_i hk
        refine ⟨w.heap.size, 0, us, t, upd_same _ _ _, heap_alloc_new w _, hl.symm, hone, fun j e u he hu => ?_⟩
        exact (hgr.rel hs.osim (hr j e u he hu)).congrA _ (allKL_get (by simpa [allK] using hk) he) fun s h => upd_ne A _ (by simpa using h)
      · trivial
  · have he := hgr.ext hs.osim
    refine ⟨rfl, ⟨rfl, Nat.le_refl _⟩, rfl, by simp, fun _ h => h, fun g hg hA => ⟨hgr.heap g hg, fun h => h, fun s c hc => ?_⟩, fun s g c hc hg hl' => ?_, fun s h => upd_ne A _ (by omega)⟩
    · rcases upd_eq_some hc with ⟨_, h⟩ | ⟨_, h⟩
      · simp only [Option.some.injEq, Prod.mk.injEq] at h; omega
      · exact hA s c h
    · rcases upd_eq_some hc with ⟨_, h⟩ | ⟨_, h⟩
      · simp only [Option.some.injEq, Prod.mk.injEq] at h; omega
      · exact ⟨s, c, hl', h⟩
theorem ow_box {o : Oper} {K : Env → Prop} {t : TypeId} {x : Operand} {d : Nat} (hop : o.op = .box t x) (hg : o.guard = none) (hdst : o.dst = some d) (hd : d < nt) (ho : opsOk nt o = true) (h : gd (ev ρ x))
    (hl : 0 < (cellsD (un (ev ρ x))).length ∨ ∃ cs, un (ev ρ x) = .agg cs) (hK : K (set (kill d ρ) d (killD d (.bx (cellsD (un (ev ρ x))))))) : OW P nt ops o K ρ := by
  refine ow_val hg fun I A a w hs => ?_
  have hx := hs.opd x (opsOk_mem ho (by simp [hop, Op.operands])) h
  obtain ⟨h1, h2, h3⟩ := cells_ok hx hl
  obtain ⟨A', k1, k2⟩ := hs.newBox hd t h1 h2 h3
  exact ⟨.pointer (some ⟨w.heap.size, 0, none⟩), _, I, A', _, by simp [execOp, hop, Instr.box, newVar, newRow], by rw [hdst]; exact k1, k2, hK⟩
def zcOf (P : Program) (t : TypeId) : Option (List Value) :=
  match P.info? t with
  | some i => match i.zero with
    | some z => if z.cells.toList.all (·.oneCell') then some z.cells.toList else none
    | none => none
  | none => none
theorem zcOf_spec {t : TypeId} {zs : List Value} (h : zcOf P t = some zs) : ∃ i z, P.info? t = some i ∧ i.zero = some z ∧ z.cells.toList = zs ∧ ∀ u ∈ zs, u.oneCell' = true := by
  unfold zcOf at h
  split at h <;> try cases h
  rename_i i hi
  split at h <;> try cases h
  rename_i z hz
  split at h <;> cases h
  rename_i hall
  exact ⟨i, z, hi, hz, rfl, List.all_eq_true.1 hall⟩
theorem ow_alloc {o : Oper} {K : Env → Prop} {t : TypeId} {zs : List Value} {d : Nat} (hop : o.op = .alloc t) (hg : o.guard = none) (hdst : o.dst = some d) (hd : d < nt) (hz : zcOf P t = some zs)
    (hK : K (set (kill d ρ) d (.bx (zs.map .v)))) : OW P nt ops o K ρ := by
  refine ow_val hg fun I A a w hs => ?_
  obtain ⟨i, z, h1, h2, h3, h4⟩ := zcOf_spec hz
  have hkill : killD d (.bx (zs.map .v)) = .bx (zs.map .v) := by
    unfold killD
    rw [if_pos]
    simp only [allK]
    rw [allKL_iff]
    intro e he
    simp at he
    obtain ⟨v, _, rfl⟩ := he
    rfl
  obtain ⟨A', k1, k2⟩ := hs.newBox hd (cs := zs.map .v) (us := z.cells) t (by simp [← h3]) (by rw [h3]; exact h4) (fun j e u he hu => by
    simp only [List.getElem?_map, Option.map_eq_some_iff, ← h3, Array.getElem?_toList] at he
    obtain ⟨y, hy, rfl⟩ := he
    rw [hu] at hy
    cases hy
    exact .v A _)
  rw [hkill] at k1
  refine ⟨.pointer (some ⟨w.heap.size, 0, none⟩), _, I, A', _, ?_, by rw [hdst]; exact k1, k2, hK⟩
  simp [execOp, hop, Instr.alloc, zeroValue, typeInfo, h1, h2, newVar, newRow]
/-! ## Stores -/
def spl (off : Nat) (cs old : List DV) : List DV :=
  if cs.length = 1 then old.set off (cs.headD .any) else if cs.length = old.length then cs else old.take off ++ cs ++ old.drop (off + cs.length)
theorem spl_eq {off : Nat} {cs old : List DV} (h : off + cs.length ≤ old.length) : spl off cs old = old.take off ++ cs ++ old.drop (off + cs.length) := by
  unfold spl
  split
  · rename_i h1
    match cs, h1 with
    | [c], _ =>
      simp only [List.headD_cons, List.length_singleton]
      rw [List.set_eq_take_append_cons_drop, if_pos (by simp at h; omega)]
      simp
  · split
    · rename_i h1
      obtain rfl : off = 0 := by omega
      simp [h1]
    · rfl
def szOf (P : Program) (t : TypeId) : Option Nat := (P.info? t).map (·.size)
theorem run_storeAt {w : World} {t : TypeId} {n : Nat} (hz : szOf P t = some n) {x : Value} (hn : x.cells.size = n) {g o : Nat} {us : Array Value} {et : TypeId} (hg : w.heap[g]? = some (.cells us et (0, 0)))
    (hl : o + n ≤ us.size) (hone : ∀ u ∈ x.cells.toList, u.oneCell' = true) :
    (Instr.storeAt t (.pointer (some ⟨g, o, none⟩)) x).run P w = .ok () (w.setRow g (us.toList.take o ++ x.cells.toList ++ us.toList.drop (o + n)).toArray) := by
  unfold szOf at hz
  cases hi : P.info? t with
  | none => rw [hi] at hz; cases hz
  | some i =>
    rw [hi] at hz
    simp at hz
    have := run_storeCells_at (P := P) g o et x.cells.toList 0 us w hg (by simp [hn]; omega) hone
    simp only [Nat.add_zero, Array.length_toList, hn] at this
    simp [Instr.storeAt, Instr.sureAddr, storeVar, run_sizeOf w hi, Program.cellsOf, hi, hz, hn, this]
theorem rel_spl {w : World} {I : Nat → Prop} {A : Own} {cs old : List DV} {us vs : Array Value} {off : Nat} (hl : old.length = us.size) (hc : cs.length = vs.size) (h : off + cs.length ≤ old.length)
    (hold : ∀ (j : Nat) (e : DV) (u : Value), old[j]? = some e → us[j]? = some u → Rel w I A e u) (hnew : ∀ (j : Nat) (e : DV) (u : Value), cs[j]? = some e → vs[j]? = some u → Rel w I A e u) :
    ∀ (j : Nat) (e : DV) (u : Value), (old.take off ++ cs ++ old.drop (off + cs.length))[j]? = some e → (us.toList.take off ++ vs.toList ++ us.toList.drop (off + cs.length))[j]? = some u → Rel w I A e u := by
  intro j e u he hu
  rw [List.getElem?_append, List.getElem?_append] at he hu
  simp only [List.length_append, List.length_take, Array.length_toList, ← hl, ← hc, Nat.min_eq_left (show off ≤ old.length by omega)] at he hu
  split at he
  · rename_i h1
    rw [if_pos h1] at hu
    split at he
    · rename_i h2
      rw [if_pos h2] at hu
      rw [List.getElem?_take, if_pos h2] at he hu
      rw [Array.getElem?_toList] at hu
      exact hold j e u he hu
    · rename_i h2
      rw [if_neg h2] at hu
      rw [Array.getElem?_toList] at hu
      exact hnew _ e u he hu
  · rename_i h1
    rw [if_neg h1] at hu
    rw [List.getElem?_drop] at he hu
    rw [Array.getElem?_toList] at hu
    exact hold _ e u he hu
def stB (ρ : Env) (s off n : Nat) (cs : List DV) (c : DV) (K : Env → Prop) : Prop :=
  match c with
  | .bx old => cs.length = n ∧ off + n ≤ old.length ∧ (s < 100000 ∨ allKL (fun t => decide (100000 ≤ t)) cs = true) ∧ K (set ρ s (.bx (spl off cs old)))
  | _ => False
theorem all_spl {p : Nat → Bool} {off : Nat} {cs old : List DV} (h : off + cs.length ≤ old.length) (h1 : allKL p cs = true) (h2 : allKL p old = true) : allKL p (spl off cs old) = true := by
  rw [spl_eq h, allKL_iff]
  rw [allKL_iff] at h1 h2
  intro e he
  simp only [List.append_assoc, List.mem_append] at he
  rcases he with he | he | he
  · exact h2 e (List.mem_of_mem_take he)
  · exact h1 e he
  · exact h2 e (List.mem_of_mem_drop he)
theorem ow_store {o : Oper} {K : Env → Prop} {t : TypeId} {ad x : Operand} {n s off : Nat} (hop : o.op = .store t ad x) (hg : o.guard = none) (hdst : o.dst = none) (ho : opsOk nt o = true)
    (ha : ev ρ ad = .bp s off) (hx : gd (ev ρ x)) (hz : szOf P t = some n) (hl : 0 < n) (h : stB ρ s off n (cellsD (un (ev ρ x))) (ρ s) K) : OW P nt ops o K ρ := by
  refine ow_skip hg fun I A a w hs => ?_
  have hxr := hs.opd x (opsOk_mem ho (by simp [hop, Op.operands])) hx
  have hadr := hs.opd ad (opsOk_mem ho (by simp [hop, Op.operands])) (by rw [ha]; trivial)
  rw [ha] at hadr
  have hadr : Rel w I A (.bp s off) (a.eval ad) := hadr
  generalize hav : a.eval ad = av at *
  cases hadr with
  | bp _ _ _ g c hA =>
    have hown := hs.osim.own s
    cases hρ : ρ s <;> rw [hρ] at h hown <;> simp only [stB] at h <;> try exact h.elim
    rename_i old
    obtain ⟨h1, h2, h3, hK⟩ := h
    obtain ⟨g', c', us, et, q1, q2, q3, q4, q5⟩ := hown
    rw [hA] at q1
    simp only [Option.some.injEq, Prod.mk.injEq] at q1
    obtain ⟨rfl, rfl⟩ := q1
    obtain ⟨k1, k2, k3⟩ := cells_ok hxr (.inl (by omega))
    have hrun := run_storeAt (P := P) (w := w) hz (x := a.eval x) (by omega) q2 (o := off) (by omega) k2
    rw [← h1] at hrun
    generalize hnew : (us.toList.take off ++ (a.eval x).cells.toList ++ us.toList.drop (off + (cellsD (un (ev ρ x))).length)).toArray = new at hrun
    have hI : ∀ {B : Own} {d : DV} {v : Value}, Rel w I B d v → Rel (w.setRow g new) I B d v := fun hr =>
      hr.mono fun g' hg' => ⟨hg', fun o => cell_of_heap (setRow_other w g g' _ (fun e => (hs.osim.sep s g c hA).2 (e ▸ hg'))) o⟩
    refine ⟨w.setRow g new, I, A, _, ?_, ?_, Ext.turn hA new, hK⟩
    · simp only [execOp, hop, Sem.run_bind, hav, hrun, Result.andThen_ok, Sem.run_pure]
    · rw [hdst]
      refine hs.turn hA q2 (fun v hv => ?_) ?_ fun hs' => ?_
      · rw [hρ] at hv; exact hv
      · rw [spl_eq (by omega)]
        subst hnew
        refine ⟨g, c, _, et, hA, setRow_heap w g us _ et _ q2, by simp; omega, fun u hu => ?_, fun j e u he hu => hI (rel_spl q3.symm k1 (by omega) q5 k3 j e u he (by simpa using hu))⟩
        simp only [List.append_assoc, List.mem_append] at hu
        rcases hu with hu | hu | hu
        · exact q4 u (List.mem_of_mem_take hu)
        · exact k2 u hu
        · exact q4 u (List.mem_of_mem_drop hu)
      · have := hs.out s hs'
        rw [hρ] at this
        refine show allK _ (.bx _) = true from ?_
        simp only [allK]
        exact all_spl (by omega) (h3.resolve_left (by omega)) (by simpa [isOut, allK] using this)
end
end Go.Sg
set_option linter.unusedVariables false
set_option linter.unusedSimpArgs false
namespace Go.Sg
open Go.RowKit
def slE (P : Program) (t : TypeId) : Option (TypeId × Nat × Nat) :=
  match P.underlying t with
  | some (.slice e) => (P.info? e).map fun i => (e, i.size, i.bytes)
  | _ => none
section
variable {P : Program} {nt : Nat} {ρ : Env} {ops : Array Oper}
theorem slE_spec {t : TypeId} {e : TypeId} {z b : Nat} (h : slE P t = some (e, z, b)) : P.underlying t = some (.slice e) ∧ ∃ i, P.info? e = some i ∧ i.size = z ∧ i.bytes = b := by
  unfold slE at h
  split at h <;> try cases h
  rename_i e' hu
  cases hi : P.info? e' with
  | none => rw [hi] at h; cases h
  | some i =>
    rw [hi] at h
    simp at h
    obtain ⟨rfl, rfl, rfl⟩ := h
    exact ⟨hu, i, hi, rfl, rfl⟩
theorem Sim.newRow {w : World} {I : Nat → Prop} {A : Own} {a : Act} (hs : Sim nt w I A ρ a) {d : Nat} (hd : d < nt) {e : TypeId} {z c : Nat} {xs : List (List DV)} {us : Array Value} (hu : us.size = c * z) (hc : c ≤ maxLen) (hx : xs.length ≤ c)
    (hr : ∀ (i : Nat) (x : List DV), xs[i]? = some x → x.length = z ∧ ∀ (j : Nat) (d : DV) (u : Value), x[j]? = some d → us[i * z + j]? = some u → u.oneCell' = true ∧ Rel w I noOwn d u) :
    ∃ A', Sim nt (w.alloc (.cells us e)) I A' (set (kill d ρ) d (.row e z xs)) (a.put (some d) (.slice (some ⟨w.heap.size, 0, none⟩) xs.length c)) ∧ Ext w I A (w.alloc (.cells us e)) I A' := by
  have hb := hs.bound
  have hgr := Grow.alloc hs.osim (.cells us e)
  have hs1 := hs.grow hgr
  refine ⟨upd A d (some (some w.heap.size, c)), ?_, ?_⟩
  · refine hs1.own hd (fun g hg => ?_) ⟨_, c, upd_same _ _ _, _, baseOk_mk _, rfl⟩ ⟨_, c, upd_same _ _ _, us, heap_alloc_new w _, hu, hc, hx, fun i x hx => ⟨(hr i x hx).1, fun j d' u h1 h2 => ⟨((hr i x hx).2 j d' u h1 h2).1, hgr.rel hs.osim ((hr i x hx).2 j d' u h1 h2).2⟩⟩⟩
    cases hg
    refine ⟨by simp, fun hi => ?_, fun s c' _ hc => ?_⟩
    · have := hs.osim.imm _ hi; omega
    · have := (hs.osim.sep s _ c' hc).1; omega
  · refine ⟨rfl, ⟨rfl, Nat.le_refl _⟩, rfl, by simp, fun _ h => h, fun g hg hA => ⟨hgr.heap g hg, fun h => h, fun s c hc => ?_⟩, fun s g c hc hg hl' => ?_, fun s h => upd_ne A _ (by omega)⟩
    · rcases upd_eq_some hc with ⟨_, h⟩ | ⟨_, h⟩
      · simp only [Option.some.injEq, Prod.mk.injEq] at h; omega
      · exact hA s c h
    · rcases upd_eq_some hc with ⟨_, h⟩ | ⟨_, h⟩
      · simp only [Option.some.injEq, Prod.mk.injEq] at h; omega
      · exact ⟨s, c, hl', h⟩
theorem Sim.newData {w : World} {I : Nat → Prop} {A : Own} {a : Act} (hs : Sim nt w I A ρ a) (e : TypeId) (us : Array Value) :
    Grow w I (w.alloc (.cells us e)) (fun g => I g ∨ g = w.heap.size) :=
  ⟨rfl, ⟨rfl, Nat.le_refl _⟩, rfl, by simp, fun g hg => Below.heap_alloc w _ g hg, fun _ h => .inl h, fun g h => h.imp id fun e => ⟨by omega, by simp [e]⟩⟩
theorem ow_makeSlice {o : Oper} {K : Env → Prop} {t : TypeId} {x y : Operand} {d : Nat} {e : TypeId} {z by_ : Nat} {zs : List Value} {k k' : IntKind} {n c : Int} (hop : o.op = .makeSlice t x y) (hg : o.guard = none) (hdst : o.dst = some d) (hd : d < nt)
    (ho : opsOk nt o = true) (hx : ev ρ x = .v (.int k n)) (hy : ev ρ y = .v (.int k' c)) (hs : slE P t = some (e, z, by_)) (hz : zcOf P e = some zs) (hzl : zs.length = z) (h0 : 0 ≤ n) (h1 : n ≤ c) (h2 : c ≤ 9223372036854775807)
    (h3 : c * by_ ≤ 140737488355328) (hK : K (set (kill d ρ) d (.row e z (List.replicate n.toNat (zs.map .v))))) : OW P nt ops o K ρ := by
  obtain ⟨hu, i, hi, rfl, rfl⟩ := slE_spec hs
  obtain ⟨i', zv, hi', hzv, rfl, hone⟩ := zcOf_spec hz
  rw [hi] at hi'
  cases hi'
  refine ow_val hg fun I A a w hsim => ?_
  have hxr := hsim.opd x (opsOk_mem ho (by simp [hop, Op.operands])) (by rw [hx]; trivial)
  have hyr := hsim.opd y (opsOk_mem ho (by simp [hop, Op.operands])) (by rw [hy]; trivial)
  rw [hx] at hxr
  rw [hy] at hyr
  have hxe : a.eval x = .int k n := by
    have hxr : Rel w I A (.v (.int k n)) (a.eval x) := hxr
    generalize a.eval x = q at hxr ⊢
    cases hxr; rfl
  have hye : a.eval y = .int k' c := by
    have hyr : Rel w I A (.v (.int k' c)) (a.eval y) := hyr
    generalize a.eval y = q at hyr ⊢
    cases hyr; rfl
  have hwn : IntKind.i64.wrap n = n := IntWalk.i64_in n ⟨by omega, by omega⟩
  have hwc : IntKind.i64.wrap c = c := IntWalk.i64_in c ⟨by omega, by omega⟩
  have hzs : zv.cells.size = i.size := by simpa using hzl
  obtain ⟨us, husd⟩ : ∃ us : Array Value, us = (Array.range (c.toNat * i.size)).map (zv.cells[· % zv.cells.size]!) := ⟨_, rfl⟩
  have hus : us.size = c.toNat * i.size := by simp [husd]
  have hget : ∀ m r, m < c.toNat → r < i.size → us[m * i.size + r]? = zv.cells[r]? := fun m r hm hr => by
    have hlt : m * i.size + r < c.toNat * i.size := by
      have : (m + 1) * i.size ≤ c.toNat * i.size := Nat.mul_le_mul_right _ (by omega)
      rw [Nat.succ_mul] at this
      omega
    have e1 : (m * i.size + r) % zv.cells.size = r := by rw [hzs, Nat.mul_comm, Nat.mul_add_mod, Nat.mod_eq_of_lt hr]
    simp only [husd, Array.getElem?_map, Array.getElem?_range, hlt, if_true, Option.map_some, e1]
    rw [Array.getElem?_eq_getElem (by omega), getElem!_pos _ _ (by omega)]
  have hrun : (execOp a.eval o).run P w = .ok (.value (.slice (some ⟨w.heap.size, 0, none⟩) n.toNat c.toNat)) (w.alloc (.cells us e)) := by
    simp only [execOp, hop, hxe, hye, Instr.makeSlice, asInt, asIntOf, Sem.run_bind, run_underlying hu, Result.andThen_ok, Sem.run_pure, run_typeInfo w hi, hwn, hwc, run_askRoom, run_sizeOf w hi, Program.cellsOf, hi, Option.map_some, Option.getD_some]
    have hcond : (decide (c < 0) || decide ((i.bytes : Int) * c > 2 ^ 48) || decide (n < 0) || decide (n > c)) = false := by
      have hc48 : (i.bytes : Int) * c ≤ 140737488355328 := by rw [Int.mul_comm]; exact h3
      have e48 : (2 : Int) ^ 48 = 281474976710656 := by decide
      simp only [Bool.or_eq_false_iff, decide_eq_false_iff_not, e48]
      omega
    rw [hcond, if_neg (by simp)]
    simp only [Sem.run_bind, run_askRoom, Result.andThen_ok, run_sizeOf w hi, Program.cellsOf, hi, Option.map_some, Option.getD_some]
    by_cases hzero : c.toNat * i.size = 0
    · have he : us = #[] := by
        apply Array.eq_empty_of_size_eq_zero
        rw [hus, hzero]
      rw [if_pos hzero, he]
      simp [newRow, hzero, Array.range_zero']
    · rw [if_neg hzero]
      simp [zeroValue, run_typeInfo w hi, hzv, newRow, husd]
  obtain ⟨A', k1, k2⟩ := hsim.newRow hd (e := e) (z := i.size) (c := c.toNat) (xs := List.replicate n.toNat (zv.cells.toList.map .v)) (us := us) hus (by unfold maxLen; omega) (by simp; omega) (fun m x hx => by
    rw [List.getElem?_replicate] at hx
    split at hx <;> cases hx
    rename_i hm
    refine ⟨by simp [hzs], fun r dv u hd hu => ?_⟩
    simp only [List.getElem?_map, Option.map_eq_some_iff, Array.getElem?_toList] at hd
    obtain ⟨q, hq, rfl⟩ := hd
    have hr : r < i.size := by
      rw [← hzs]
      rcases Nat.lt_or_ge r zv.cells.size with h | h
      · exact h
      · rw [Array.getElem?_eq_none h] at hq; cases hq
    rw [hget m r (by omega) hr, hq] at hu
    cases hu
    exact ⟨hone _ (by simpa using Array.mem_of_getElem? hq), .v _ _⟩)
  refine ⟨_, _, I, A', _, hrun, ?_, k2, hK⟩
  rw [hdst]
  simpa using k1
/-! ## Slice literals -/
def bsL (ρ : Env) (parts : List (Nat × Operand)) : List (List DV) := parts.map fun p => cellsD (un (ev ρ p.2))
def bsOk (ρ : Env) (z : Nat) : Nat → List (Nat × Operand) → Prop
  | _, [] => True
  | k, p :: l => p.1 = k ∧ gd (ev ρ p.2) ∧ (cellsD (un (ev ρ p.2))).length = z ∧ allKL (fun _ => false) (cellsD (un (ev ρ p.2))) = true ∧ bsOk ρ z (k + 1) l
theorem bsOk_get {z : Nat} : ∀ {parts : List (Nat × Operand)} {k : Nat}, bsOk ρ z k parts → ∀ (j : Nat) (p : Nat × Operand), parts[j]? = some p →
    p.1 = k + j ∧ gd (ev ρ p.2) ∧ (cellsD (un (ev ρ p.2))).length = z ∧ allKL (fun _ => false) (cellsD (un (ev ρ p.2))) = true
  | [], _, _, j, p, hp => by simp at hp
  | q :: l, k, h, j, p, hp => by
    obtain ⟨h1, h2, h3, h4, h5⟩ := h
    cases j with
    | zero => simp at hp; subst hp; exact ⟨by omega, h2, h3, h4⟩
    | succ j =>
      have := bsOk_get h5 j p (by simpa using hp)
      exact ⟨by omega, this.2⟩
theorem foldl_set (off : Nat) (xs : List Value) : ∀ (cs : Array Value) (k : Nat), off + k + xs.length ≤ cs.size →
    ((xs.zipIdx k).foldl (fun cs (p : Value × Nat) => cs.setIfInBounds (off + p.2) p.1) cs).size = cs.size ∧
    ∀ q, ((xs.zipIdx k).foldl (fun cs (p : Value × Nat) => cs.setIfInBounds (off + p.2) p.1) cs)[q]? = if off + k ≤ q ∧ q < off + k + xs.length then xs[q - (off + k)]? else cs[q]? := by
  induction xs with
  | nil => intro cs k h; exact ⟨rfl, fun q => by rw [if_neg (by simp)]; rfl⟩
  | cons x xs ih =>
    intro cs k h
    simp only [List.length_cons] at h
    obtain ⟨h1, h2⟩ := ih (cs.setIfInBounds (off + k) x) (k + 1) (by simp; omega)
    rw [List.zipIdx_cons, List.foldl_cons]
    refine ⟨by rw [h1]; simp, fun q => ?_⟩
    rw [h2 q, List.length_cons, Array.getElem?_setIfInBounds]
    by_cases hq : q = off + k
    · subst hq
      rw [if_neg (by omega), if_pos rfl, if_pos (by omega), if_pos (by omega)]
      simp
    · by_cases h3 : off + (k + 1) ≤ q ∧ q < off + (k + 1) + xs.length
      · rw [if_pos h3, if_pos (by omega)]
        obtain ⟨m, rfl⟩ : ∃ m, q = off + k + 1 + m := ⟨q - (off + k + 1), by omega⟩
        rw [show off + k + 1 + m - (off + k) = m + 1 from by omega, show off + k + 1 + m - (off + (k + 1)) = m from by omega]
        simp
      · rw [if_neg h3, if_neg (fun e => hq e.symm), if_neg (by omega)]
theorem fill_spec (place : Nat → Option (Nat × Nat)) : ∀ (parts : List (Nat × Value)) (cells : Array Value),
    (∀ (j i : Nat) (v : Value), parts[j]? = some (i, v) → ∃ off, place i = some (off, v.cells.size) ∧ off + v.cells.size ≤ cells.size) →
    ∃ out, Instr.fill place cells parts = some out ∧ out.size = cells.size ∧
      ∀ q, (∃ (j i : Nat) (v : Value) (off : Nat), parts[j]? = some (i, v) ∧ place i = some (off, v.cells.size) ∧ off ≤ q ∧ q < off + v.cells.size ∧ out[q]? = v.cells[q - off]?) ∨
        ((∀ (j i : Nat) (v : Value) (off : Nat), parts[j]? = some (i, v) → place i = some (off, v.cells.size) → ¬ (off ≤ q ∧ q < off + v.cells.size)) ∧ out[q]? = cells[q]?)
  | [], cells, _ => ⟨cells, rfl, rfl, fun q => .inr ⟨by simp, rfl⟩⟩
  | (i, v) :: rest, cells, h => by
    obtain ⟨off, hp, hl⟩ := h 0 i v (by simp)
    obtain ⟨f1, f2⟩ := foldl_set off v.cells.toList cells 0 (by simp; omega)
    simp only [Nat.add_zero, Array.length_toList] at f1 f2
    have hzip : (v.cells.zipIdx.foldl (fun cs (p : Value × Nat) => cs.setIfInBounds (off + p.2) p.1) cells) = (v.cells.toList.zipIdx 0).foldl (fun cs (p : Value × Nat) => cs.setIfInBounds (off + p.2) p.1) cells := by
      rw [← Array.foldl_toList, Array.toList_zipIdx]
    obtain ⟨out, o1, o2, o3⟩ := fill_spec place rest ((v.cells.toList.zipIdx 0).foldl (fun cs (p : Value × Nat) => cs.setIfInBounds (off + p.2) p.1) cells) (fun j i' v' hj => by
      obtain ⟨off', k1, k2⟩ := h (j + 1) i' v' (by simpa using hj)
      exact ⟨off', k1, by rw [f1]; exact k2⟩)
    refine ⟨out, ?_, o2.trans f1, fun q => ?_⟩
    · unfold Instr.fill
      simp only [hp]
      rw [if_neg (by simp; omega)]
      rw [← hzip] at o1
      exact o1
    · rcases o3 q with ⟨j, i', v', off', k1, k2, k3, k4, k5⟩ | ⟨k1, k2⟩
      · exact .inl ⟨j + 1, i', v', off', by simpa using k1, k2, k3, k4, k5⟩
      · rw [k2, f2 q]
        by_cases hq : off ≤ q ∧ q < off + v.cells.size
        · rw [if_pos hq]
          exact .inl ⟨0, i, v, off, by simp, hp, hq.1, hq.2, by simp⟩
        · rw [if_neg hq]
          refine .inr ⟨fun j i' v' off' hj hp' => ?_, rfl⟩
          cases j with
          | zero =>
            simp at hj
            obtain ⟨rfl, rfl⟩ := hj
            rw [hp] at hp'
            simp at hp'
            subst hp'
            exact hq
          | succ j => exact k1 j i' v' off' (by simpa using hj) hp'
theorem mul_range {z i q : Nat} (hz : 0 < z) (h1 : i * z ≤ q) (h2 : q < i * z + z) : q / z = i := by
  obtain ⟨r, rfl⟩ : ∃ r, q = i * z + r := ⟨q - i * z, by omega⟩
  rw [Nat.add_comm, Nat.add_mul_div_right _ _ hz, Nat.div_eq_of_lt (by omega)]
  omega
theorem ow_lit {o : Oper} {K : Env → Prop} {t : TypeId} {n : Nat} {parts : Array (Nat × Operand)} {d : Nat} {e : TypeId} {z by_ : Nat} {zs : List Value} (hop : o.op = .buildSlice t n parts) (hg : o.guard = none) (hdst : o.dst = some d) (hd : d < nt)
    (ho : opsOk nt o = true) (hs : slE P t = some (e, z, by_)) (hz : zcOf P e = some zs) (hz0 : 0 < z) (hn0 : 0 < n) (hn : n * z ≤ 16777216) (hl : parts.toList.length = n) (hp : bsOk ρ z 0 parts.toList)
    (hK : K (set ρ d (.sl z n fun i => (bsL ρ parts.toList).getD i []))) : OW P nt ops o K ρ := by
  obtain ⟨hu, i, hi, rfl, rfl⟩ := slE_spec hs
  obtain ⟨i', zv, hi', hzv, rfl, _⟩ := zcOf_spec hz
  rw [hi] at hi'
  cases hi'
  refine ow_val hg fun I A a w hsim => ?_
  have hpart : ∀ (j : Nat) (p : Nat × Operand), parts.toList[j]? = some p → p.1 = j ∧ (a.eval p.2).cells.size = i.size ∧ (∀ u ∈ (a.eval p.2).cells.toList, u.oneCell' = true) ∧
      ∀ (r : Nat) (x : DV) (u : Value), (cellsD (un (ev ρ p.2)))[r]? = some x → (a.eval p.2).cells[r]? = some u → Rel w I noOwn x u := fun j p hj => by
    obtain ⟨h1, h2, h3, h4⟩ := bsOk_get hp j p hj
    have hx := hsim.opd p.2 (opsOk_mem ho (by
      simp only [hop, Op.operands]
      simp
      exact ⟨p.1, by have := List.mem_of_getElem? hj; simpa using this⟩)) h2
    obtain ⟨k1, k2, k3⟩ := cells_ok hx (.inl (by omega))
    exact ⟨by omega, by omega, k2, fun r x u hx hu => (k3 r x u hx hu).pure (allKL_get h4 hx)⟩
  let vparts : List (Nat × Value) := parts.toList.map fun p => (p.1, a.eval p.2)
  have hv : ∀ (j k : Nat) (v : Value), vparts[j]? = some (k, v) → ∃ p, parts.toList[j]? = some p ∧ p.1 = k ∧ a.eval p.2 = v := fun j k v h => by
    simp only [vparts, List.getElem?_map, Option.map_eq_some_iff] at h
    obtain ⟨p, hp, he⟩ := h
    simp at he
    exact ⟨p, hp, he.1, he.2⟩
  obtain ⟨zero, hzero⟩ : ∃ zero : Array Value, zero = (Array.range (n * i.size)).map (zv.cells[· % zv.cells.size]!) := ⟨_, rfl⟩
  have hzsz : zero.size = n * i.size := by simp [hzero]
  obtain ⟨out, o1, o2, o3⟩ := fill_spec (fun k => some (k * i.size, i.size)) vparts zero (fun j k v h => by
    obtain ⟨p, hpj, rfl, rfl⟩ := hv j k v h
    obtain ⟨h1, h2, _⟩ := hpart j p hpj
    have hjn : j < n := by
      rw [← hl]
      rcases Nat.lt_or_ge j parts.toList.length with h | h
      · exact h
      · rw [List.getElem?_eq_none h] at hpj; cases hpj
    refine ⟨p.1 * i.size, by rw [h2], ?_⟩
    rw [hzsz, h2, h1]
    have : (j + 1) * i.size ≤ n * i.size := Nat.mul_le_mul_right _ hjn
    rw [Nat.succ_mul] at this
    exact this)
  rw [hzsz] at o2
  have hout : ∀ (j : Nat) (p : Nat × Operand) (r : Nat), parts.toList[j]? = some p → r < i.size → out[j * i.size + r]? = (a.eval p.2).cells[r]? := fun j p r hj hr => by
    obtain ⟨h1, h2, _⟩ := hpart j p hj
    have hvj : vparts[j]? = some (p.1, a.eval p.2) := by simp only [vparts, List.getElem?_map, hj]; rfl
    rcases o3 (j * i.size + r) with ⟨j', k, v, off, k1, k2, k3, k4, k5⟩ | ⟨k1, _⟩
    · obtain ⟨p', hp', rfl, rfl⟩ := hv j' k v k1
      obtain ⟨h1', h2', _⟩ := hpart j' p' hp'
      simp only [Option.some.injEq, Prod.mk.injEq] at k2
      obtain ⟨rfl, _⟩ := k2
      have e1 := mul_range (z := i.size) (i := p'.1) hz0 k3 (by omega)
      have e2 := mul_range (z := i.size) (i := j) (q := j * i.size + r) hz0 (by omega) (by omega)
      have : j' = j := by omega
      subst this
      rw [hj] at hp'
      cases hp'
      rw [k5, h1]
      congr 1
      omega
    · exact absurd ⟨by rw [h1]; omega, by rw [h1, h2]; omega⟩ (k1 j p.1 _ (p.1 * i.size) hvj (by rw [h2]))
  have hgr := hsim.newData e out
  refine ⟨.slice (some ⟨w.heap.size, 0, none⟩) n n, _, _, A, _, ?_, ?_, hgr.ext hsim.osim, hK⟩
  · have hne : n * i.size ≠ 0 := by
      have := Nat.mul_pos hn0 hz0
      omega
    have hmap : (parts.map fun p => (p.1, a.eval p.2)).toList = vparts := by simp [vparts]
    have h24 : ¬ (n * i.size > 2 ^ 24) := by
      have : (2 : Nat) ^ 24 = 16777216 := by decide
      omega
    simp only [execOp, hop, Instr.buildSlice, Sem.run_bind, run_underlying hu, Result.andThen_ok, run_sizeOf w hi, Program.cellsOf, hi, Option.map_some, Option.getD_some, h24, if_false, hne, zeroValue, run_typeInfo w hi, hzv, Sem.run_pure, Sem.run_ite]
    simp only [hmap]
    rw [← hzero, o1]
    simp [newRow]
  · rw [hdst]
    refine (hsim.grow hgr).put hd (.ofRel ?_) (.ofPure rfl)
    have hgetp : ∀ m, m < n → ∃ p, parts.toList[m]? = some p ∧ (bsL ρ parts.toList).getD m [] = cellsD (un (ev ρ p.2)) := fun m hm => by
      have h1 : parts.toList[m]? = some (parts.toList[m]'(by omega)) := List.getElem?_eq_getElem (by omega)
      exact ⟨_, h1, by simp only [bsL, List.getD_eq_getElem?_getD, List.getElem?_map, h1]; rfl⟩
    refine .sl A i.size n _ w.heap.size 0 n (fun m r => out.getD (m * i.size + r) undef) hn0 (Nat.le_refl _) ?_ (.inr rfl) (fun m hm => ?_) (fun m r hm hr => ?_) (fun m r hm hr => ?_) fun m r x hm hx => ?_
    · unfold maxLen
      have : n * 1 ≤ n * i.size := Nat.mul_le_mul_left _ hz0
      omega
    · obtain ⟨p, hp1, hp2⟩ := hgetp m hm
      rw [hp2]
      exact (bsOk_get hp m p hp1).2.2.1
    · obtain ⟨p, hp1, hp2⟩ := hgetp m hm
      have hlt : m * i.size + r < out.size := by
        rw [o2]
        have : (m + 1) * i.size ≤ n * i.size := Nat.mul_le_mul_right _ hm
        rw [Nat.succ_mul] at this
        omega
      rw [Nat.zero_add, World.cell?_alloc_new]
      simp [Array.getElem?_eq_getElem hlt]
    · obtain ⟨p, hp1, hp2⟩ := hgetp m hm
      obtain ⟨_, h2, h3, _⟩ := hpart m p hp1
      have := hout m p r hp1 hr
      rw [Array.getElem?_eq_getElem (show r < (a.eval p.2).cells.size by omega)] at this
      simp only [Array.getD_eq_getD_getElem?, this, Option.getD_some]
      exact h3 _ (by simp)
    · obtain ⟨p, hp1, hp2⟩ := hgetp m hm
      rw [hp2] at hx
      obtain ⟨_, h2, _, h4⟩ := hpart m p hp1
      have hr : r < i.size := by
        rw [← (bsOk_get hp m p hp1).2.2.1]
        rcases Nat.lt_or_ge r (cellsD (un (ev ρ p.2))).length with h | h
        · exact h
        · rw [List.getElem?_eq_none h] at hx; cases hx
      have := hout m p r hp1 hr
      rw [Array.getElem?_eq_getElem (show r < (a.eval p.2).cells.size by omega)] at this
      simp only [Array.getD_eq_getD_getElem?, this, Option.getD_some]
      exact hgr.rel hsim.osim (h4 r x _ hx (by simp [Array.getElem?_eq_getElem (show r < (a.eval p.2).cells.size by omega)]))
theorem ow_mkS {o : Oper} {K : Env → Prop} {t : TypeId} {x y : Operand} {d : Nat} {e : TypeId} {z by_ : Nat} {zs : List Value} {k k' : IntKind} {n c : Int} (hop : o.op = .makeSlice t x y) (hg : o.guard = none) (hdst : o.dst = some d) (hd : d < nt)
    (ho : opsOk nt o = true) (hx : ev ρ x = .v (.int k n)) (hy : ev ρ y = .v (.int k' c)) (hs : slE P t = some (e, z, by_)) (hz : zcOf P e = some zs) (hzl : zs.length = z) (h0 : 0 ≤ n) (h1 : n ≤ c) (h2 : c ≤ 9223372036854775807)
    (h3 : c * by_ ≤ 140737488355328) (hK : K (set ρ d (.sl z n.toNat fun _ => zs.map .v))) : OW P nt ops o K ρ := by
  obtain ⟨hu, i, hi, rfl, rfl⟩ := slE_spec hs
  obtain ⟨i', zv, hi', hzv, rfl, hone⟩ := zcOf_spec hz
  rw [hi] at hi'
  cases hi'
  refine ow_val hg fun I A a w hsim => ?_
  have hxr := hsim.opd x (opsOk_mem ho (by simp [hop, Op.operands])) (by rw [hx]; trivial)
  have hyr := hsim.opd y (opsOk_mem ho (by simp [hop, Op.operands])) (by rw [hy]; trivial)
  rw [hx] at hxr
  rw [hy] at hyr
  have hxe : a.eval x = .int k n := by
    have hxr : Rel w I A (.v (.int k n)) (a.eval x) := hxr
    generalize a.eval x = q at hxr ⊢
    cases hxr; rfl
  have hye : a.eval y = .int k' c := by
    have hyr : Rel w I A (.v (.int k' c)) (a.eval y) := hyr
    generalize a.eval y = q at hyr ⊢
    cases hyr; rfl
  have hwn : IntKind.i64.wrap n = n := IntWalk.i64_in n ⟨by omega, by omega⟩
  have hwc : IntKind.i64.wrap c = c := IntWalk.i64_in c ⟨by omega, by omega⟩
  have hzs : zv.cells.size = i.size := by simpa using hzl
  obtain ⟨us, husd⟩ : ∃ us : Array Value, us = (Array.range (c.toNat * i.size)).map (zv.cells[· % zv.cells.size]!) := ⟨_, rfl⟩
  have hus : us.size = c.toNat * i.size := by simp [husd]
  have hget : ∀ m r, m < c.toNat → r < i.size → us[m * i.size + r]? = zv.cells[r]? := fun m r hm hr => by
    have hlt : m * i.size + r < c.toNat * i.size := by
      have : (m + 1) * i.size ≤ c.toNat * i.size := Nat.mul_le_mul_right _ (by omega)
      rw [Nat.succ_mul] at this
      omega
    have e1 : (m * i.size + r) % zv.cells.size = r := by rw [hzs, Nat.mul_comm, Nat.mul_add_mod, Nat.mod_eq_of_lt hr]
    simp only [husd, Array.getElem?_map, Array.getElem?_range, hlt, if_true, Option.map_some, e1]
    rw [Array.getElem?_eq_getElem (by omega), getElem!_pos _ _ (by omega)]
  have hrun : (execOp a.eval o).run P w = .ok (.value (.slice (some ⟨w.heap.size, 0, none⟩) n.toNat c.toNat)) (w.alloc (.cells us e)) := by
    simp only [execOp, hop, hxe, hye, Instr.makeSlice, asInt, asIntOf, Sem.run_bind, run_underlying hu, Result.andThen_ok, Sem.run_pure, run_typeInfo w hi, hwn, hwc, run_askRoom, run_sizeOf w hi, Program.cellsOf, hi, Option.map_some, Option.getD_some]
    have hcond : (decide (c < 0) || decide ((i.bytes : Int) * c > 2 ^ 48) || decide (n < 0) || decide (n > c)) = false := by
      have hc48 : (i.bytes : Int) * c ≤ 140737488355328 := by rw [Int.mul_comm]; exact h3
      have e48 : (2 : Int) ^ 48 = 281474976710656 := by decide
      simp only [Bool.or_eq_false_iff, decide_eq_false_iff_not, e48]
      omega
    rw [hcond, if_neg (by simp)]
    simp only [Sem.run_bind, run_askRoom, Result.andThen_ok, run_sizeOf w hi, Program.cellsOf, hi, Option.map_some, Option.getD_some]
    by_cases hzero : c.toNat * i.size = 0
    · have he : us = #[] := by
        apply Array.eq_empty_of_size_eq_zero
        rw [hus, hzero]
      rw [if_pos hzero, he]
      simp [newRow, hzero, Array.range_zero']
    · rw [if_neg hzero]
      simp [zeroValue, run_typeInfo w hi, hzv, newRow, husd]
  have hgr := hsim.newData e us
  refine ⟨_, _, _, A, _, hrun, ?_, hgr.ext hsim.osim, hK⟩
  rw [hdst]
  refine (hsim.grow hgr).put hd (.ofRel ?_) (.ofPure rfl)
  rcases Nat.eq_zero_or_pos n.toNat with h00 | h00
  · rw [h00]; exact .sl0 A _ _ _ _
  · refine .sl A i.size n.toNat _ w.heap.size 0 c.toNat (fun m r => us.getD (m * i.size + r) undef) h00 (by omega) (by unfold maxLen; omega) (.inr rfl) (fun m hm => by simp [hzs]) (fun m r hm hr => ?_) (fun m r hm hr => ?_) fun m r x hm hx => ?_
    · have hlt : m * i.size + r < us.size := by
        rw [hus]
        have : (m + 1) * i.size ≤ c.toNat * i.size := Nat.mul_le_mul_right _ (by omega)
        rw [Nat.succ_mul] at this
        omega
      rw [Nat.zero_add, World.cell?_alloc_new]
      simp [Array.getElem?_eq_getElem hlt]
    · have := hget m r (by omega) hr
      simp only [Array.getD_eq_getD_getElem?, this]
      rw [Array.getElem?_eq_getElem (by omega)]
      exact hone _ (by simp)
    · have hr : r < i.size := by
        have := (List.getElem?_eq_some_iff.1 hx).1
        simpa [hzs] using this
      have := hget m r (by omega) hr
      simp only [Array.getD_eq_getD_getElem?, this]
      simp only [List.getElem?_map, Option.map_eq_some_iff, Array.getElem?_toList] at hx
      obtain ⟨q, hq, rfl⟩ := hx
      rw [hq]
      exact .v _ _
theorem ow_litE {o : Oper} {K : Env → Prop} {t : TypeId} {d : Nat} {e : TypeId} {z by_ : Nat} (hop : o.op = .buildSlice t 0 #[]) (hg : o.guard = none) (hdst : o.dst = some d) (hd : dstOk nt o = true)
    (hs : slE P t = some (e, z, by_)) (hK : K (set ρ d .ez)) : OW P nt ops o K ρ := by
  obtain ⟨hu, i, hi, rfl, rfl⟩ := slE_spec hs
  refine ow_val hg fun I A a w hsim => ?_
  have hgr := Grow.alloc hsim.osim (.cells #[] e)
  have hs1 := hsim.grow hgr
  refine ⟨.slice (some ⟨w.heap.size, 0, none⟩) 0 0, w.alloc (.cells #[] e), I, A, _, ?_, hs1.putV hd (.ez A _), hgr.ext hsim.osim, by rw [hdst]; exact hK⟩
  simp [execOp, hop, Instr.buildSlice, run_underlying hu, run_sizeOf w hi, Program.cellsOf, hi, Instr.fill, newRow, Array.range_zero']
theorem ow_lit0 {o : Oper} {K : Env → Prop} {t : TypeId} {d : Nat} {e : TypeId} {z by_ : Nat} (hop : o.op = .buildSlice t 0 #[]) (hg : o.guard = none) (hdst : o.dst = some d) (hd : d < nt)
    (hs : slE P t = some (e, z, by_)) (hK : K (set (kill d ρ) d (.row e z []))) : OW P nt ops o K ρ := by
  obtain ⟨hu, i, hi, rfl, rfl⟩ := slE_spec hs
  refine ow_val hg fun I A a w hsim => ?_
  obtain ⟨A', k1, k2⟩ := hsim.newRow hd (e := e) (z := i.size) (c := 0) (xs := []) (us := #[]) (by simp) (by unfold maxLen; omega) (by simp) (fun m x hx => by simp at hx)
  refine ⟨.slice (some ⟨w.heap.size, 0, none⟩) 0 0, _, I, A', _, ?_, by rw [hdst]; exact k1, k2, hK⟩
  simp [execOp, hop, Instr.buildSlice, run_underlying hu, run_sizeOf w hi, Instr.fill, newRow, Array.range_zero']
end
end Go.Sg
set_option linter.unusedVariables false
set_option linter.unusedSimpArgs false
namespace Go.Sg
open Go.RowKit
def plOf (P : Program) (t : TypeId) (i : Nat) : Option (Nat × Nat) :=
  match P.underlying t with
  | some (.struct fs) => match fs[i]? with
    | some f => match P.info? f.type with
      | some x => some (f.offset, x.size)
      | none => none
    | none => none
  | some (.array _ e) => match P.info? e with
    | some x => some (i * x.size, x.size)
    | none => none
  | _ => none
def bldOk (P : Program) (t : TypeId) : Bool :=
  match P.underlying t with
  | some (.struct fs) => fs.toList.all fun f => (P.info? f.type).isSome
  | some (.array _ e) => (P.info? e).isSome
  | _ => false
def bldGo (P : Program) (ρ : Env) (t : TypeId) : List (Nat × Operand) → List DV → Prop × List DV
  | [], cs => (True, cs)
  | p :: l, cs => match plOf P t p.1 with
    | some (off, s) => (gd (ev ρ p.2) ∧ (cellsD (un (ev ρ p.2))).length = s ∧ 0 < s ∧ off + s ≤ cs.length ∧ (bldGo P ρ t l (spl off (cellsD (un (ev ρ p.2))) cs)).1, (bldGo P ρ t l (spl off (cellsD (un (ev ρ p.2))) cs)).2)
    | none => (False, cs)
theorem bldGo_nil (P : Program) (ρ : Env) (t : TypeId) (cs : List DV) : bldGo P ρ t [] cs = (True, cs) := rfl
theorem bldGo_cons (P : Program) (ρ : Env) (t : TypeId) (i : Nat) (x : Operand) (l : List (Nat × Operand)) (cs : List DV) {off s : Nat} (h : plOf P t i = some (off, s)) : bldGo P ρ t ((i, x) :: l) cs =
    (gd (ev ρ x) ∧ (cellsD (un (ev ρ x))).length = s ∧ 0 < s ∧ off + s ≤ cs.length ∧ (bldGo P ρ t l (spl off (cellsD (un (ev ρ x))) cs)).1, (bldGo P ρ t l (spl off (cellsD (un (ev ρ x))) cs)).2) := by
  conv => lhs; unfold bldGo
  simp only [h]
def bldP (P : Program) (ρ : Env) (t : TypeId) (parts : List (Nat × Operand)) : Prop × DV :=
  match zcOf P t with
  | some zs => (bldOk P t = true ∧ (bldGo P ρ t parts (zs.map .v)).1, .agg (bldGo P ρ t parts (zs.map .v)).2)
  | none => (False, .any)
section
variable {P : Program} {nt : Nat} {ρ : Env} {ops : Array Oper}
def CR (w : World) (I : Nat → Prop) (A : Own) (cs : List DV) (us : Array Value) : Prop :=
  cs.length = us.size ∧ (∀ u ∈ us.toList, u.oneCell' = true) ∧ ∀ (j : Nat) (d : DV) (u : Value), cs[j]? = some d → us[j]? = some u → Rel w I A d u
theorem bld_fill {w : World} {I : Nat → Prop} {A : Own} {a : Act} (hs : Sim nt w I A ρ a) {t : TypeId} (place : Nat → Option (Nat × Nat)) (hp : ∀ i p, plOf P t i = some p → place i = some p) : ∀ (parts : List (Nat × Operand)) (cs : List DV) (us : Array Value),
    (∀ p ∈ parts, opdOk nt p.2 = true) → CR w I A cs us → (bldGo P ρ t parts cs).1 → ∃ out, Instr.fill place us (parts.map fun p => (p.1, a.eval p.2)) = some out ∧ CR w I A (bldGo P ρ t parts cs).2 out
  | [], cs, us, _, hc, _ => ⟨us, rfl, hc⟩
  | (i, x) :: l, cs, us, ho, hc, h => by
    cases hpl : plOf P t i with
    | none => unfold bldGo at h; simp only [hpl] at h
    | some q =>
      obtain ⟨off, s⟩ := q
      rw [bldGo_cons P ρ t i x l cs hpl] at h ⊢
      obtain ⟨h1, h2, h3, h4, h5⟩ := h
      have hx := hs.opd x (ho (i, x) (by simp)) h1
      obtain ⟨k1, k2, k3⟩ := cells_ok hx (.inl (by omega))
      have hsz : (a.eval x).cells.size = s := by omega
      obtain ⟨c1, c2, c3⟩ := hc
      obtain ⟨f1, f2⟩ := foldl_set off (a.eval x).cells.toList us 0 (by simp; omega)
      simp only [Nat.add_zero, Array.length_toList] at f1 f2
      have hzip : ((a.eval x).cells.zipIdx.foldl (fun cs (p : Value × Nat) => cs.setIfInBounds (off + p.2) p.1) us) = ((a.eval x).cells.toList.zipIdx 0).foldl (fun cs (p : Value × Nat) => cs.setIfInBounds (off + p.2) p.1) us := by
        rw [← Array.foldl_toList, Array.toList_zipIdx]
      generalize hnew : ((a.eval x).cells.toList.zipIdx 0).foldl (fun cs (p : Value × Nat) => cs.setIfInBounds (off + p.2) p.1) us = us' at *
      have hc' : CR w I A (spl off (cellsD (un (ev ρ x))) cs) us' := by
        have hle : off + (cellsD (un (ev ρ x))).length ≤ cs.length := by omega
        rw [spl_eq hle]
        refine ⟨by simp only [List.length_append, List.length_take, List.length_drop]; omega, fun u hu => ?_, fun j d u hd hu => ?_⟩
        · obtain ⟨q, hq⟩ := List.getElem?_of_mem hu
          rw [Array.getElem?_toList, f2] at hq
          split at hq
          · exact k2 u (List.mem_of_getElem? hq)
          · exact c2 u (by simpa using Array.mem_of_getElem? hq)
        · rw [f2] at hu
          rw [List.getElem?_append, List.getElem?_append] at hd
          simp only [List.length_append, List.length_take, Nat.min_eq_left (show off ≤ cs.length by omega)] at hd
          by_cases e1 : j < off
          · rw [if_pos (by omega), if_pos e1, List.getElem?_take, if_pos e1] at hd
            rw [if_neg (by omega)] at hu
            exact c3 j d u hd hu
          · by_cases e2 : j < off + s
            · rw [if_pos (by omega), if_neg e1] at hd
              rw [if_pos (by omega)] at hu
              exact k3 _ d u hd (by simpa using hu)
            · rw [if_neg (by omega), List.getElem?_drop] at hd
              rw [if_neg (by omega)] at hu
              rw [show off + (cellsD (un (ev ρ x))).length + (j - (off + (cellsD (un (ev ρ x))).length)) = j by omega] at hd
              exact c3 j d u hd hu
      obtain ⟨out, o1, o2⟩ := bld_fill hs place hp l _ us' (fun p hp' => ho p (by simp [hp'])) hc' h5
      refine ⟨out, ?_, o2⟩
      rw [List.map_cons]
      unfold Instr.fill
      rw [hp i _ hpl]
      simp only
      rw [if_neg (by simp [hsz]; omega), hzip]
      exact o1
theorem run_mapMβ {α β : Type} {w : World} (f : α → Sem β) : ∀ (l : List α) (vs : List β), l.length = vs.length → (∀ (j : Nat) (x : α) (v : β), l[j]? = some x → vs[j]? = some v → (f x).run P w = .ok v w) →
    (l.mapM f).run P w = .ok vs w
  | [], [], _, _ => rfl
  | x :: l, v :: vs, hl, h => by
    have h0 := h 0 x v (by simp) (by simp)
    have ih := run_mapMβ f l vs (by simpa using hl) fun j y u hy hu => h (j + 1) y u (by simpa using hy) (by simpa using hu)
    simp [List.mapM_cons, h0, ih]
  | [], _ :: _, hl, _ => by simp at hl
  | _ :: _, [], hl, _ => by simp at hl
theorem run_build {w : World} {I : Nat → Prop} {A : Own} {a : Act} (hs : Sim nt w I A ρ a) {t : TypeId} {parts : Array (Nat × Operand)} (ho : ∀ p ∈ parts.toList, opdOk nt p.2 = true) (h : (bldP P ρ t parts.toList).1) :
    ∃ x, (Instr.build t (parts.map fun (i, x) => (i, a.eval x))).run P w = .ok x w ∧ Rel w I A (bldP P ρ t parts.toList).2 x := by
  unfold bldP at h ⊢
  cases hz : zcOf P t with
  | none => rw [hz] at h; exact h.elim
  | some zs =>
    rw [hz] at h
    obtain ⟨h1, h2⟩ := h
    simp only
    obtain ⟨i, zv, hi, hzv, hzc, hone⟩ := zcOf_spec hz
    have h1' := h1
    unfold bldOk at h1'
    split at h1'
    · rename_i fs hu
      rw [List.all_eq_true] at h1'
      let places : Array (Nat × Nat) := fs.map fun f => (f.offset, P.cellsOf f.type)
      have hpl : ∀ k p, plOf P t k = some p → places[k]? = some p := fun k p hk => by
        unfold plOf at hk
        rw [hu] at hk
        simp only at hk
        split at hk <;> try cases hk
        rename_i f hf
        split at hk <;> try cases hk
        rename_i x hx
        simp only [places, Array.getElem?_map, hf, Option.map_some, Program.cellsOf, hx, Option.getD_some]
      have hrunp : (fs.mapM fun f => (do pure (f.offset, ← sizeOf f.type) : Sem (Nat × Nat))).run P w = .ok places w := by
        have := run_mapMβ (P := P) (w := w) (fun f : Field => (do pure (f.offset, ← sizeOf f.type) : Sem (Nat × Nat))) fs.toList places.toList (by simp [places]) (fun j f v hf hv => by
          have hf' : f ∈ fs.toList := List.mem_of_getElem? hf
          obtain ⟨x, hx⟩ := Option.isSome_iff_exists.1 (h1' f hf')
          have : v = (f.offset, P.cellsOf f.type) := by
            simp only [places, Array.toList_map, List.getElem?_map, hf, Option.map_some, Option.some.injEq] at hv
            exact hv.symm
          subst this
          simp [run_sizeOf w hx, Program.cellsOf, hx])
        have e : fs = fs.toList.toArray := by simp
        rw [e, List.mapM_toArray, Sem.run_map, this]
        show Result.ok places.toList.toArray w = Result.ok places w
        rw [Array.toArray_toList]
      have hc0 : CR w I A (zs.map .v) zv.cells := ⟨by rw [List.length_map, ← hzc]; simp, by rw [hzc]; exact hone, fun j d u hd hu => by
        rw [List.getElem?_map, Option.map_eq_some_iff] at hd
        obtain ⟨y, hy, rfl⟩ := hd
        rw [← hzc, Array.getElem?_toList, hu] at hy
        cases hy; exact .v A _⟩
      obtain ⟨out, o1, o2⟩ := bld_fill (P := P) hs (fun k => places[k]?) hpl parts.toList _ _ ho hc0 h2
      refine ⟨.agg out, ?_, ?_⟩
      · have hm : (parts.map fun (i, x) => (i, a.eval x)).toList = parts.toList.map fun p => (p.1, a.eval p.2) := by simp
        have e2 : (fun f : Field => (do pure (f.offset, ← sizeOf f.type) : Sem (Nat × Nat))) = fun f => Prod.mk f.offset <$> sizeOf f.type := by funext f; simp
        rw [e2] at hrunp
        unfold Instr.build
        simp [zeroValue, run_typeInfo w hi, hzv, run_underlying hu, hrunp, hm, o1]
      · exact .agg A _ out o2.1 o2.2.1 o2.2.2
    · rename_i n e hu
      obtain ⟨x, hx⟩ := Option.isSome_iff_exists.1 h1'
      have hpl : ∀ k p, plOf P t k = some p → (fun k => some (k * x.size, x.size)) k = some p := fun k p hk => by
        unfold plOf at hk
        rw [hu] at hk
        simp only [hx] at hk
        exact hk
      have hc0 : CR w I A (zs.map .v) zv.cells := ⟨by rw [List.length_map, ← hzc]; simp, by rw [hzc]; exact hone, fun j d u hd hu => by
        rw [List.getElem?_map, Option.map_eq_some_iff] at hd
        obtain ⟨y, hy, rfl⟩ := hd
        rw [← hzc, Array.getElem?_toList, hu] at hy
        cases hy; exact .v A _⟩
      obtain ⟨out, o1, o2⟩ := bld_fill (P := P) hs (fun k => some (k * x.size, x.size)) hpl parts.toList _ _ ho hc0 h2
      refine ⟨.agg out, ?_, ?_⟩
      · have hm : (parts.map fun (i, x) => (i, a.eval x)).toList = parts.toList.map fun p => (p.1, a.eval p.2) := by simp
        unfold Instr.build
        simp [zeroValue, run_typeInfo w hi, hzv, run_underlying hu, run_sizeOf w hx, Program.cellsOf, hx, hm, o1]
      · exact .agg A _ out o2.1 o2.2.1 o2.2.2
    · cases h1'
theorem ow_build {o : Oper} {K : Env → Prop} {t : TypeId} {parts : Array (Nat × Operand)} (hop : o.op = .build t parts) (hg : o.guard = none) (ho : opsOk nt o = true) (hd : dstOk nt o = true) (h : (bldP P ρ t parts.toList).1)
    (hK : K (putD ρ o.dst (bldP P ρ t parts.toList).2)) : OW P nt ops o K ρ :=
  ow_val hg fun I A a w hs => by
    obtain ⟨x, h1, h2⟩ := run_build (P := P) hs (fun p hp => opsOk_mem ho (x := p.2) (by
      simp only [hop, Op.operands]
      simp
      exact ⟨p.1, by simpa using hp⟩)) h
    exact ⟨x, w, I, A, _, by simp [execOp, hop, h1], hs.putV hd h2, Ext.refl _ _ _, hK⟩
end
end Go.Sg
set_option linter.unusedVariables false
set_option linter.unusedSimpArgs false
namespace Go.Sg
open Go.RowKit
section
variable {P : Program} {nt : Nat} {ρ : Env} {ops : Array Oper}
def srcL (ρ : Env) : DV → List (List DV)
  | .sl _ m f => (List.range m).map f
  | .own s m => match ρ s with
    | .row _ _ xs => xs.take m
    | _ => []
  | _ => []
def srcOk (ρ : Env) (z : Nat) : DV → Prop
  | .sl z' _ _ => z' = z
  | .own s m => ∃ e xs, ρ s = .row e z xs ∧ m ≤ xs.length
  | .v (.slice none 0 _) => True
  | .ez => True
  | _ => False
theorem src_ok {w : World} {I : Nat → Prop} {A : Own} {a : Act} (hs : Sim nt w I A ρ a) {z : Nat} {d : DV} {u : Value} (h : Rel w I A d u) (ho : srcOk ρ z d) :
    ∃ b m c, u = .slice b m c ∧ (srcL ρ d).length = m ∧ ((b = none ∧ m = 0) ∨ ∃ (ad : Addr) (news : List Value), b = some ad ∧ news.length = m * z ∧ (∀ j v, news[j]? = some v → w.cell? (ad.add j) = some v) ∧ (∀ v ∈ news, v.oneCell' = true) ∧
      ∀ (i : Nat) (x : List DV), (srcL ρ d)[i]? = some x → x.length = z ∧ ∀ (j : Nat) (e : DV) (v : Value), x[j]? = some e → news[i * z + j]? = some v → Rel w I noOwn e v) := by
  have mk : ∀ (bk o m : Nat) (us : Nat → Nat → Value) (src : List (List DV)), src.length = m →
      (∀ i j, i < m → j < z → w.cell? ⟨bk, o + (i * z + j), none⟩ = some (us i j)) → (∀ i j, i < m → j < z → (us i j).oneCell' = true) →
      (∀ (i : Nat) (x : List DV), src[i]? = some x → x.length = z ∧ ∀ (j : Nat) (e : DV), x[j]? = some e → Rel w I noOwn e (us i j)) →
      ∃ (news : List Value), news.length = m * z ∧ (∀ j v, news[j]? = some v → w.cell? ((⟨bk, o, none⟩ : Addr).add j) = some v) ∧ (∀ v ∈ news, v.oneCell' = true) ∧
        ∀ (i : Nat) (x : List DV), src[i]? = some x → x.length = z ∧ ∀ (j : Nat) (e : DV) (v : Value), x[j]? = some e → news[i * z + j]? = some v → Rel w I noOwn e v := by
    intro bk o m us src hl hcell hone hrel
    have hdm : ∀ j, j < m * z → j / z < m ∧ j % z < z := fun j hj => by
      have hz : 0 < z := by
        rcases Nat.eq_zero_or_pos z with h | h
        · subst h; simp at hj
        · exact h
      exact ⟨Nat.div_lt_of_lt_mul (by rwa [Nat.mul_comm] at hj), Nat.mod_lt _ hz⟩
    refine ⟨(List.range (m * z)).map fun j => us (j / z) (j % z), by simp, fun j v hj => ?_, fun v hv => ?_, fun i x hx => ⟨(hrel i x hx).1, fun j e v he hv => ?_⟩⟩
    · simp only [List.getElem?_map, Option.map_eq_some_iff] at hj
      obtain ⟨q, hq, rfl⟩ := hj
      have hlt : j < m * z := by
        rcases Nat.lt_or_ge j (m * z) with h | h
        · exact h
        · rw [List.getElem?_eq_none (by simpa using h)] at hq; cases hq
      rw [List.getElem?_range hlt] at hq
      cases hq
      obtain ⟨h1, h2⟩ := hdm j hlt
      rw [Addr.add_lit, ← hcell _ _ h1 h2]
      congr 3
      rw [Nat.mul_comm]
      exact (Nat.div_add_mod j z).symm
    · simp only [List.mem_map, List.mem_range] at hv
      obtain ⟨j, hj, rfl⟩ := hv
      exact hone _ _ (hdm j hj).1 (hdm j hj).2
    · simp only [List.getElem?_map, Option.map_eq_some_iff] at hv
      obtain ⟨q, hq, rfl⟩ := hv
      have hi : i < m := by
        rw [← hl]
        rcases Nat.lt_or_ge i src.length with h | h
        · exact h
        · rw [List.getElem?_eq_none h] at hx; cases hx
      have hj : j < z := by
        rw [← (hrel i x hx).1]
        rcases Nat.lt_or_ge j x.length with h | h
        · exact h
        · rw [List.getElem?_eq_none h] at he; cases he
      have hlt : i * z + j < m * z := by
        have : (i + 1) * z ≤ m * z := Nat.mul_le_mul_right _ hi
        rw [Nat.succ_mul] at this
        omega
      rw [List.getElem?_range hlt] at hq
      cases hq
      have e1 := mul_range (z := z) (i := i) (q := i * z + j) (by omega) (by omega) (by omega)
      have e2 : (i * z + j) % z = j := by rw [Nat.mul_comm, Nat.mul_add_mod, Nat.mod_eq_of_lt hj]
      rw [e1, e2]
      exact (hrel i x hx).2 j e he
  cases h with
  | sl0 _ z' f b c =>
    refine ⟨b, 0, c, rfl, rfl, ?_⟩
    cases b with
    | none => exact .inl ⟨rfl, rfl⟩
    | some ad => exact .inr ⟨ad, [], rfl, by simp, by simp, by simp, fun i x hx => by simp [srcL] at hx⟩
  | sl _ z' n f b o c us hn hc hm hI hzz hcell hone hrel =>
    obtain rfl : z' = z := ho
    refine ⟨_, n, c, rfl, by simp [srcL], .inr ?_⟩
    have hget : ∀ (i : Nat) (x : List DV), ((List.range n).map f)[i]? = some x → i < n ∧ x = f i := fun i x hx => by
      simp only [List.getElem?_map, Option.map_eq_some_iff] at hx
      obtain ⟨q, hq, rfl⟩ := hx
      have hlt : i < n := by
        rcases Nat.lt_or_ge i n with h | h
        · exact h
        · rw [List.getElem?_eq_none (by simpa using h)] at hq; cases hq
      rw [List.getElem?_range hlt] at hq
      cases hq
      exact ⟨hlt, rfl⟩
    obtain ⟨news, h1, h2, h3, h4⟩ := mk b o n us ((List.range n).map f) (by simp) hcell hone fun i x hx => by
      obtain ⟨hi, rfl⟩ := hget i x hx
      exact ⟨hzz i hi, fun j e he => hrel i j e hi he⟩
    exact ⟨_, news, rfl, h1, h2, h3, h4⟩
  | ez _ b =>
    refine ⟨b, 0, 0, rfl, rfl, ?_⟩
    cases b with
    | none => exact .inl ⟨rfl, rfl⟩
    | some ad => exact .inr ⟨ad, [], rfl, by simp, by simp, by simp, by simp [srcL]⟩
  | own _ s n B c b hA hb =>
    obtain ⟨e', xs, hρ, hle⟩ := ho
    have hown := hs.osim.own s
    rw [hρ] at hown
    obtain ⟨B', c', hA', hrow⟩ := hown
    rw [hA] at hA'
    simp only [Option.some.injEq, Prod.mk.injEq] at hA'
    obtain ⟨rfl, rfl⟩ := hA'
    simp only [srcL, hρ]
    cases B with
    | none =>
      obtain ⟨rfl, _⟩ := hrow
      simp at hle
      subst hle
      refine ⟨b, 0, c, rfl, by simp, ?_⟩
      cases b with
      | none => exact .inl ⟨rfl, rfl⟩
      | some ad => exact .inr ⟨ad, [], rfl, by simp, by simp, by simp, by simp⟩
    | some g =>
      obtain ⟨us, q1, q2, q3, q4, q5⟩ := hrow
      have hx : ∀ i, i < n → xs[i]? = some (xs.getD i []) := fun i hi => by rw [List.getD_eq_getElem?_getD, List.getElem?_eq_getElem (by omega)]; rfl
      have hin : ∀ i j, i < n → j < z → i * z + j < us.size := fun i j hi hj => by
        rw [q2]
        have : (i + 1) * z ≤ c * z := Nat.mul_le_mul_right _ (by omega)
        rw [Nat.succ_mul] at this
        omega
      have hus : ∀ i j, i < n → j < z → us[i * z + j]? = some (us.getD (i * z + j) undef) := fun i j hi hj => by simp [Array.getElem?_eq_getElem (hin i j hi hj)]
      obtain ⟨news, h1, h2, h3, h4⟩ := mk g 0 n (fun i j => us.getD (i * z + j) undef) (xs.take n) (by simp; omega)
        (fun i j hi hj => by unfold World.cell?; simp only [q1, Nat.zero_add]; simpa using hus i j hi hj)
        (fun i j hi hj => by
          obtain ⟨k1, k2⟩ := q5 i _ (hx i hi)
          exact (k2 j _ _ (List.getElem?_eq_getElem (by omega)) (hus i j hi hj)).1)
        (fun i x hx' => by
          rw [List.getElem?_take] at hx'
          split at hx' <;> try cases hx'
          rename_i hi
          obtain ⟨k1, k2⟩ := q5 i x hx'
          refine ⟨k1, fun j e he => ?_⟩
          have hj : j < z := by
            rw [← k1]
            rcases Nat.lt_or_ge j x.length with h | h
            · exact h
            · rw [List.getElem?_eq_none h] at he; cases he
          exact (k2 j e _ he (hus i j hi hj)).2)
      exact ⟨_, n, c, rfl, by simp; omega, .inr ⟨_, news, baseOk_some hb, h1, h2, h3, h4⟩⟩
  | v _ x =>
    cases u <;> try exact ho.elim
    rename_i b n c
    cases b <;> cases n <;> try exact ho.elim
    exact ⟨none, 0, c, rfl, rfl, .inl ⟨rfl, rfl⟩⟩
  | _ => exact ho.elim
theorem Sim.steady {w w' : World} {I : Nat → Prop} {A : Own} {a : Act} (hs : Sim nt w I A ρ a) (h1 : ∀ g, I g → w'.heap[g]? = w.heap[g]?) (h2 : ∀ s g c, A s = some (some g, c) → w'.heap[g]? = w.heap[g]?)
    (h3 : w.heap.size ≤ w'.heap.size) : Sim nt w' I A ρ a := by
  have hrel : ∀ B d x, Rel w I B d x → Rel w' I B d x := fun B d x hr => hr.mono fun g hg => ⟨hg, fun o => cell_of_heap (h1 g hg) o⟩
  refine ⟨⟨fun s => (hs.osim.own s).keep (fun g c hg => h2 s g c hg) hrel, hs.osim.inj, fun s g c hA => ⟨Nat.lt_of_lt_of_le (hs.osim.sep s g c hA).1 h3, (hs.osim.sep s g c hA).2⟩, hs.osim.imm.step (fun g hg => Nat.lt_of_lt_of_le (hs.osim.imm g hg) h3) fun g hg => ⟨hg, h1 g hg⟩⟩, hs.size, hs.bound, fun i hi => ?_, hs.out⟩
  have hsl := hs.slot i hi
  generalize a.tmps.getD i undef = x at *
  cases hd : ρ i with
  | bx cs => rw [hd] at hsl; exact hsl
  | row e z xs => rw [hd] at hsl; exact hsl
  | cond g y => rw [hd] at hsl; exact ⟨fun hg => hrel _ _ _ (hsl.1 hg), hsl.2⟩
  | any => exact .any A x
  | v y => rw [hd] at hsl; exact hrel _ _ _ hsl
  | sl z n f => rw [hd] at hsl; exact hrel _ _ _ hsl
  | agg cs => rw [hd] at hsl; exact hrel _ _ _ hsl
  | tup cs => rw [hd] at hsl; exact hrel _ _ _ hsl
  | dp cs => rw [hd] at hsl; exact hrel _ _ _ hsl
  | bp t o => rw [hd] at hsl; exact hrel _ _ _ hsl
  | own t n => rw [hd] at hsl; exact hrel _ _ _ hsl
  | rp t z i o => rw [hd] at hsl; exact hrel _ _ _ hsl
  | fn f b c => rw [hd] at hsl; exact hrel _ _ _ hsl
  | iface t y => rw [hd] at hsl; exact hrel _ _ _ hsl
  | mr t => rw [hd] at hsl; exact hrel _ _ _ hsl
  | ez => rw [hd] at hsl; exact hrel _ _ _ hsl
  | mo es => rw [hd] at hsl; exact hsl
theorem run_append_of_nil' {w : World} (base : Nat) (t ty e : TypeId) (i : TypeInfo) (size : Nat) (ht : P.underlying t = some (.slice e)) (hi : P.info? e = some i)
    (v : Value) (n : Nat) (xs : List Value) (hown : w.ownsRow base e size v n xs) (c : Nat) : (Builtin.append_ #[t, t] ty #[v, .slice none 0 c]).run P w = .ok v w := by
  rcases hown.2 with ⟨rfl, rfl⟩ | ⟨g, cap, cur, rfl, _, _, hnc, _⟩
  · simp [Builtin.append_, run_underlying ht, sizeOf, typeInfo, hi, Builtin.lenOf, Builtin.firstCells]
  · simp [Builtin.append_, run_underlying ht, sizeOf, typeInfo, hi, Builtin.lenOf, Builtin.firstCells, hnc, storeCells]
theorem append_core {w : World} {I : Nat → Prop} {A A1 : Own} {a : Act} {ρ1 : Env} (hs1 : Sim nt w I A1 ρ1 a) {d : Nat} (hd : d < nt) {t ty e : TypeId} {z by_ : Nat} {zs : List Value} (hsl : slE P t = some (e, z, by_)) (hz : zcOf P e = some zs) (hz0 : 0 < z) (hzl : zs.length = z)
    {v : Value} {n : Nat} {xs : List (List DV)} {xsV : List Value} (hown : w.ownsRow 0 e z v n xsV) (hxl : xs.length = n)
    (hxr : ∀ (i : Nat) (x : List DV), xs[i]? = some x → x.length = z ∧ ∀ (j : Nat) (d : DV) (u : Value), x[j]? = some d → xsV[i * z + j]? = some u → u.oneCell' = true ∧ Rel w I noOwn d u)
    {src : List (List DV)} {b : Option Addr} {m c : Nat} (hsrcl : src.length = m)
    (hsrc : (b = none ∧ m = 0) ∨ ∃ (ad : Addr) (news : List Value), b = some ad ∧ news.length = m * z ∧ (∀ j v, news[j]? = some v → w.cell? (ad.add j) = some v) ∧ (∀ v ∈ news, v.oneCell' = true) ∧
      ∀ (i : Nat) (x : List DV), src[i]? = some x → x.length = z ∧ ∀ (j : Nat) (e : DV) (v : Value), x[j]? = some e → news[i * z + j]? = some v → Rel w I noOwn e v)
    (hb1 : n + m ≤ 9223372036854775807) (hb2 : (n + m) * by_ ≤ 140737488355328)
    (hfree : ∀ g, v.ownBlock = some g → g < w.heap.size ∧ ¬ I g ∧ ∀ s c, A1 s ≠ some (some g, c)) (hA1 : ∀ s y, A1 s = some y → A s = some y)
    (hAv : ∀ g, v.ownBlock = some g → ∃ s c, s < 100000 ∧ A s = some (some g, c)) (hout : ∀ s, 100000 ≤ s → A1 s = A s) :
    ∃ x w' A', (Builtin.append_ #[t, t] ty #[v, .slice b m c]).run P w = .ok x w' ∧ Sim nt w' I A' (set (kill d ρ1) d (.row e z (xs ++ src))) (a.put (some d) x) ∧ Ext w I A w' I A' := by
  obtain ⟨hu, i, hi, rfl, rfl⟩ := slE_spec hsl
  obtain ⟨i', zv, hi', hzv, rfl, _⟩ := zcOf_spec hz
  rw [hi] at hi'
  cases hi'
  have hbnd := hs1.bound
  obtain ⟨x, w', news, hrun, hown', hgr, hat, hnr⟩ : ∃ x w' news, (Builtin.append_ #[t, t] ty #[v, .slice b m c]).run P w = .ok x w' ∧ w'.ownsRow 0 e i.size x (n + m) (xsV ++ news) ∧ w.grownBy w' v.ownBlock ∧
      (x.ownBlock = v.ownBlock ∨ x.ownBlock = some w.heap.size) ∧ (∀ (k : Nat) (y : List DV), src[k]? = some y → y.length = i.size ∧ ∀ (j : Nat) (e : DV) (u : Value), y[j]? = some e → news[k * i.size + j]? = some u → u.oneCell' = true ∧ Rel w I noOwn e u) := by
    rcases hsrc with ⟨rfl, rfl⟩ | ⟨ad, news, rfl, h1, h2, h3, h4⟩
    · obtain rfl : src = [] := List.eq_nil_of_length_eq_zero hsrcl
      exact ⟨v, w, [], run_append_of_nil' 0 t ty e i i.size hu hi v n xsV hown c, by simpa using hown, ⟨rfl, rfl, rfl, Nat.le_refl _, fun _ _ _ => rfl⟩, .inl rfl, by simp⟩
    · obtain ⟨x, w', k1, k2, k3, _, k5⟩ := run_append_own_at (P := P) w 0 t ty e i zv i.size i.bytes hu hi hzv rfl rfl (by simpa using hzl) hz0 v n xsV hown ad m c news h1 h2 h3 (by unfold maxLen; omega) hb2 (Nat.zero_le _)
      exact ⟨x, w', news, k1, k2, k3, k5, fun k y hy => ⟨(h4 k y hy).1, fun j e u he hu => ⟨h3 u (List.mem_of_getElem? hu), (h4 k y hy).2 j e u he hu⟩⟩⟩
  have hblk : ∀ g, g < w.heap.size → some g ≠ v.ownBlock → w'.heap[g]? = w.heap[g]? := hgr.block
  have hs2 : Sim nt w' I A1 ρ1 a := hs1.steady (fun g hg => hblk g (hs1.osim.imm g hg) fun e => (hfree g e.symm).2.1 hg)
    (fun s g c hA => hblk g (hs1.osim.sep s g c hA).1 fun e => (hfree g e.symm).2.2 s c hA) hgr.size
  have hrel : ∀ d y, Rel w I noOwn d y → Rel w' I noOwn d y := fun d y hr => hr.mono fun g hg => ⟨hg, fun o => cell_of_heap (hblk g (hs1.osim.imm g hg) fun e => (hfree g e.symm).2.1 hg) o⟩
  have hlen : xsV.length = n * i.size := hown.1
  have helem : ∀ (cur : List Value), cur.take ((n + m) * i.size) = xsV ++ news → ∀ (k : Nat) (y : List DV), (xs ++ src)[k]? = some y → y.length = i.size ∧ ∀ (j : Nat) (e : DV) (u : Value), y[j]? = some e → cur[k * i.size + j]? = some u →
      u.oneCell' = true ∧ Rel w' I noOwn e u := fun cur hcur k y hy => by
    have hk : k < n + m := by
      rw [← hxl, ← hsrcl, ← List.length_append]
      rcases Nat.lt_or_ge k (xs ++ src).length with h | h
      · exact h
      · rw [List.getElem?_eq_none h] at hy; cases hy
    have hcg : ∀ j, j < i.size → cur[k * i.size + j]? = (xsV ++ news)[k * i.size + j]? := fun j hj => by
      rw [← hcur, List.getElem?_take, if_pos]
      have : (k + 1) * i.size ≤ (n + m) * i.size := Nat.mul_le_mul_right _ hk
      rw [Nat.succ_mul] at this
      omega
    rw [List.getElem?_append, hxl] at hy
    split at hy
    · rename_i hkn
      obtain ⟨k1, k2⟩ := hxr k y hy
      refine ⟨k1, fun j e u he hu => ?_⟩
      have hj : j < i.size := by
        rw [← k1]
        rcases Nat.lt_or_ge j y.length with h | h
        · exact h
        · rw [List.getElem?_eq_none h] at he; cases he
      rw [hcg j hj, List.getElem?_append, if_pos (by
        rw [hlen]
        have : (k + 1) * i.size ≤ n * i.size := Nat.mul_le_mul_right _ hkn
        rw [Nat.succ_mul] at this
        omega)] at hu
      exact ⟨(k2 j e u he hu).1, hrel _ _ (k2 j e u he hu).2⟩
    · rename_i hkn
      obtain ⟨k1, k2⟩ := hnr (k - n) y hy
      refine ⟨k1, fun j e u he hu => ?_⟩
      have hj : j < i.size := by
        rw [← k1]
        rcases Nat.lt_or_ge j y.length with h | h
        · exact h
        · rw [List.getElem?_eq_none h] at he; cases he
      have hge : n * i.size ≤ k * i.size := Nat.mul_le_mul_right _ (by omega)
      rw [hcg j hj, List.getElem?_append, if_neg (by rw [hlen]; omega), hlen] at hu
      have e1 : k * i.size + j - n * i.size = (k - n) * i.size + j := by rw [Nat.sub_mul]; omega
      rw [e1] at hu
      exact ⟨(k2 j e u he hu).1, hrel _ _ (k2 j e u he hu).2⟩
  have hext : ∀ (B : Option Nat) (cap : Nat), B = x.ownBlock → Ext w I A w' I (upd A1 d (some (B, cap))) := fun B cap hB => by
    have hin : ∀ g, B = some g → g < w.heap.size → v.ownBlock = some g := fun g hg hlt => by
      subst hg
      rcases hat with h | h
      · rw [← h, ← hB]
      · rw [← hB] at h; cases h; omega
    refine ⟨hgr.os, ⟨hgr.tape, run_drawn _ hrun⟩, hgr.output, hgr.size, fun _ h => h, fun g hg hA => ⟨hblk g hg fun e => ?_, fun h => h, fun s c' hc => ?_⟩, fun s g c' hc hg hl => ?_, fun s hs' => ?_⟩
    · obtain ⟨s, c', _, hAs⟩ := hAv g e.symm
      exact hA s c' hAs
    · rcases upd_eq_some hc with ⟨_, h⟩ | ⟨_, h⟩
      · simp only [Option.some.injEq, Prod.mk.injEq] at h
        obtain ⟨s', c2, _, hAs⟩ := hAv g (hin g h.1 hg)
        exact hA s' c2 hAs
      · exact hA s c' (hA1 s _ h)
    · rcases upd_eq_some hc with ⟨_, h⟩ | ⟨_, h⟩
      · simp only [Option.some.injEq, Prod.mk.injEq] at h
        obtain ⟨s', c2, hs', hAs⟩ := hAv g (hin g h.1 hg)
        exact ⟨s', c2, hs', hAs⟩
      · exact ⟨s, c', hl, hA1 s _ h⟩
    · rw [upd_ne _ _ (by omega), hout s hs']
  have hxlen : (xs ++ src).length = n + m := by rw [List.length_append, hxl, hsrcl]
  rcases hown'.2 with ⟨rfl, h0⟩ | ⟨g, cap, cur, rfl, _, hg, hnc, hcm, hcs, htake⟩
  · have hx0 : xs = [] := List.eq_nil_of_length_eq_zero (by omega)
    have hs0 : src = [] := List.eq_nil_of_length_eq_zero (by omega)
    refine ⟨.slice none 0 0, w', upd A1 d (some (none, 0)), hrun, ?_, hext none 0 rfl⟩
    refine hs2.own hd (fun g hg => by cases hg) ⟨none, 0, upd_same _ _ _, none, baseOk_none _, by simp [hx0, hs0]⟩ ⟨none, 0, upd_same _ _ _, ?_⟩
    exact ⟨by simp [hx0, hs0], rfl⟩
  · refine ⟨.slice (some ⟨g, 0, none⟩) (n + m) cap, w', upd A1 d (some (some g, cap)), hrun, ?_, hext (some g) cap rfl⟩
    refine hs2.own hd (fun g' hg' => ?_) ⟨some g, cap, upd_same _ _ _, _, baseOk_mk _, by rw [hxlen]⟩ ⟨some g, cap, upd_same _ _ _, cur, hg, hcs, hcm, by rw [hxlen]; exact hnc, fun k y hy => ?_⟩
    · cases hg'
      have hlt : g < w'.heap.size := by
        rcases Nat.lt_or_ge g w'.heap.size with h | h
        · exact h
        · rw [Array.getElem?_eq_none h] at hg; cases hg
      rcases hat with h | h
      · have h : some g = v.ownBlock := h
        obtain ⟨q1, q2, q3⟩ := hfree g h.symm
        exact ⟨hlt, q2, fun s c' _ => q3 s c'⟩
      · have h : some g = some w.heap.size := h
        cases h
        exact ⟨hlt, fun hI => by have := hs1.osim.imm _ hI; omega, fun s c' _ hc => by have := (hs1.osim.sep s _ c' hc).1; omega⟩
    · obtain ⟨k1, k2⟩ := helem cur.toList htake k y hy
      exact ⟨k1, fun j e u he hu => k2 j e u he (by rw [Array.getElem?_toList]; exact hu)⟩
theorem run_append_base {w : World} {t ty e : TypeId} {i : TypeInfo} (ht : P.underlying t = some (.slice e)) (hi : P.info? e = some i) (b0 b : Option Addr) (m c : Nat) (hm : 0 < m) (hb : m * i.bytes ≤ 140737488355328) (hb1 : m ≤ 9223372036854775807) :
    (Builtin.append_ #[t, t] ty #[.slice b0 0 0, .slice b m c]).run P w = (Builtin.append_ #[t, t] ty #[.slice none 0 0, .slice b m c]).run P w := by
  have h1 : ¬ m = 0 := by omega
  have h4 : ¬ (9223372036854775807 : Int) < (m : Int) := by omega
  have h2 : Builtin.nextslicecap m 0 = m := by unfold Builtin.nextslicecap; rw [if_pos (by omega)]
  have h3 : ¬ 281474976710656 < m * i.bytes := by omega
  cases b0 with
  | none => rfl
  | some a => simp [Builtin.append_, run_underlying ht, sizeOf, run_typeInfo w hi, hi, Builtin.lenOf, Builtin.firstCells, h1, h2, h3, h4, loadCells, loadCellsFrom]
theorem append_core0 {w : World} {I : Nat → Prop} {A A1 : Own} {a : Act} {ρ1 : Env} (hs1 : Sim nt w I A1 ρ1 a) {d : Nat} (hd : d < nt) {t ty e : TypeId} {z by_ : Nat} {zs : List Value} (hsl : slE P t = some (e, z, by_)) (hz : zcOf P e = some zs) (hz0 : 0 < z) (hzl : zs.length = z)
    (b0 : Option Addr) {src : List (List DV)} {b : Option Addr} {m c : Nat} (hsrcl : src.length = m)
    (hsrc : (b = none ∧ m = 0) ∨ ∃ (ad : Addr) (news : List Value), b = some ad ∧ news.length = m * z ∧ (∀ j v, news[j]? = some v → w.cell? (ad.add j) = some v) ∧ (∀ v ∈ news, v.oneCell' = true) ∧
      ∀ (i : Nat) (x : List DV), src[i]? = some x → x.length = z ∧ ∀ (j : Nat) (e : DV) (v : Value), x[j]? = some e → news[i * z + j]? = some v → Rel w I noOwn e v)
    (hb1 : m ≤ 9223372036854775807) (hb2 : m * by_ ≤ 140737488355328) (hA1 : ∀ s y, A1 s = some y → A s = some y) (hout : ∀ s, 100000 ≤ s → A1 s = A s) :
    ∃ x w' A', (Builtin.append_ #[t, t] ty #[.slice b0 0 0, .slice b m c]).run P w = .ok x w' ∧ Sim nt w' I A' (set (kill d ρ1) d (.row e z src)) (a.put (some d) x) ∧ Ext w I A w' I A' := by
  obtain ⟨hu, i, hi, he1, he2⟩ := slE_spec hsl
  have hbnd := hs1.bound
  rcases Nat.eq_zero_or_pos m with h0 | h0
  · subst h0
    obtain rfl : src = [] := List.eq_nil_of_length_eq_zero hsrcl
    refine ⟨.slice b0 0 0, w, upd A1 d (some (none, 0)), ?_, ?_, ?_⟩
    · rcases hsrc with ⟨rfl, _⟩ | ⟨ad, news, rfl, _⟩ <;> cases b0 <;> simp [Builtin.append_, run_underlying hu, sizeOf, run_typeInfo w hi, hi, Builtin.lenOf, Builtin.firstCells, loadCells, loadCellsFrom, storeCells]
    · exact hs1.own hd (fun g hg => by cases hg) ⟨none, 0, upd_same _ _ _, b0, baseOk_none _, rfl⟩ ⟨none, 0, upd_same _ _ _, ⟨rfl, rfl⟩⟩
    · refine ⟨rfl, ⟨rfl, Nat.le_refl _⟩, rfl, Nat.le_refl _, fun _ h => h, fun g hg hA => ⟨rfl, fun h => h, fun s c' hc => ?_⟩, fun s g c' hc hg hl => ?_, fun s hs' => ?_⟩
      · rcases upd_eq_some hc with ⟨_, h⟩ | ⟨_, h⟩
        · cases h
        · exact hA s c' (hA1 s _ h)
      · rcases upd_eq_some hc with ⟨_, h⟩ | ⟨_, h⟩
        · cases h
        · exact ⟨s, c', hl, hA1 s _ h⟩
      · rw [upd_ne _ _ (by omega), hout s hs']
  · obtain ⟨x, w', A', k1, k2, k3⟩ := append_core (P := P) (A := A) (A1 := A1) (ty := ty) hs1 hd hsl hz hz0 hzl (v := .slice none 0 0) (n := 0) (xs := []) (xsV := []) (World.ownsRow_nil w 0 e z) rfl (by simp) (c := c) hsrcl hsrc (by omega) (by simpa using hb2)
      (fun g h => by cases h) hA1 (fun g h => by cases h) hout
    refine ⟨x, w', A', ?_, by simpa using k2, k3⟩
    rw [run_append_base hu hi b0 b m c h0 (by rw [he2]; exact hb2) hb1]
    exact k1
theorem ow_append {o : Oper} {K : Env → Prop} {t : TypeId} {x y : Operand} {d s n : Nat} {e : TypeId} {z by_ : Nat} {zs : List Value} {xs : List (List DV)} (hop : o.op = .call ⟨.builtin .append, #[x, y], #[t, t]⟩) (hg : o.guard = none) (hdst : o.dst = some d) (hd : d < nt)
    (ho : opsOk nt o = true) (hx : ev ρ x = .own s n) (hρ : ρ s = .row e z xs) (hs : s < 100000) (hn : n ≤ xs.length) (hy : gd (ev ρ y)) (hsl : slE P t = some (e, z, by_)) (hz : zcOf P e = some zs) (hz0 : 0 < z) (hzl : zs.length = z)
    (hsrc : srcOk ρ z (un (ev ρ y))) (hb1 : n + (srcL ρ (un (ev ρ y))).length ≤ 9223372036854775807) (hb2 : (n + (srcL ρ (un (ev ρ y))).length) * by_ ≤ 140737488355328)
    (hK : K (set (kill d (set (kill s ρ) s .any)) d (.row e z (xs.take n ++ srcL ρ (un (ev ρ y)))))) : OW P nt ops o K ρ := by
  refine ow_val hg fun I A a w hsim => ?_
  have hxr := hsim.opd x (opsOk_mem ho (by simp [hop, Op.operands, Call.operands])) (by rw [hx]; trivial)
  rw [hx] at hxr
  have hxr : Rel w I A (.own s n) (a.eval x) := hxr
  have hyr := hsim.opd y (opsOk_mem ho (by simp [hop, Op.operands, Call.operands])) hy
  obtain ⟨b, m, c, hye, hsl', hsrc'⟩ := src_ok hsim hyr hsrc
  rw [hsl'] at hb1 hb2
  generalize hxe : a.eval x = v at hxr
  have hown := hsim.osim.own s
  rw [hρ] at hown
  obtain ⟨B, cc, hA, hrow⟩ := hown
  cases hxr with
  | own _ _ _ B' c' b' hA' hb' =>
    rw [hA] at hA'
    simp only [Option.some.injEq, Prod.mk.injEq] at hA'
    obtain ⟨rfl, rfl⟩ := hA'
    have hs1 := hsim.disown hs
    have huu := slE_spec hsl
    have hA1 : ∀ s' y', upd A s none s' = some y' → A s' = some y' := fun s' y' h => by
      rcases upd_eq_some h with ⟨_, h⟩ | ⟨_, h⟩
      · cases h
      · exact h
    have fin : ∀ q w' A', (Builtin.append_ #[t, t] o.type #[.slice b' n cc, .slice b m c]).run P w = .ok q w' → Sim nt w' I A' (set (kill d (set (kill s ρ) s .any)) d (.row e z (xs.take n ++ srcL ρ (un (ev ρ y))))) (a.put (some d) q) → Ext w I A w' I A' →
        ∃ v w' I' A' ρ', (execOp a.eval o).run P w = .ok (.value v) w' ∧ Sim nt w' I' A' ρ' (a.put o.dst v) ∧ Ext w I A w' I' A' ∧ K ρ' := fun q w' A' k1 k2 k3 => by
      refine ⟨q, w', I, A', _, ?_, by rw [hdst]; exact k2, k3, hK⟩
      simp only [execOp, hop, resolve, Sem.run_bind, Sem.run_pure, Result.andThen_ok, invoke, builtin, List.map_toArray, List.map_cons, List.map_nil, hxe, hye]
      rw [k1]
      rfl
    cases B with
    | none =>
      obtain ⟨rfl, rfl⟩ := hrow
      obtain rfl : n = 0 := by simpa using hn
      obtain ⟨q, w', A', k1, k2, k3⟩ := append_core0 (P := P) (A := A) (ty := o.type) hs1 hd hsl hz hz0 hzl b' (c := c) hsl' hsrc' (by omega) (by simpa using hb2) hA1 (fun s' h => upd_ne A _ (by omega))
      exact fin q w' A' k1 (by simpa using k2) k3
    | some g =>
      obtain rfl := baseOk_some hb'
      obtain ⟨us, q1, q2, q3, q4, q5⟩ := hrow
      obtain ⟨xsV, hov, hov2⟩ : ∃ xsV, w.ownsRow 0 e z (.slice (some ⟨g, 0, none⟩) n cc) n xsV ∧
          ∀ (i : Nat) (q : List DV), (xs.take n)[i]? = some q → q.length = z ∧ ∀ (j : Nat) (d : DV) (u : Value), q[j]? = some d → xsV[i * z + j]? = some u → u.oneCell' = true ∧ Rel w I noOwn d u := by
        refine ⟨us.toList.take (n * z), ⟨?_, .inr ⟨g, cc, us, rfl, Nat.zero_le _, q1, by omega, q3, q2, rfl⟩⟩, fun i q hq => ?_⟩
        · rw [List.length_take, Array.length_toList, q2, Nat.min_eq_left]
          exact Nat.mul_le_mul_right _ (by omega)
        · rw [List.getElem?_take] at hq
          split at hq <;> try cases hq
          rename_i hi
          obtain ⟨k1, k2⟩ := q5 i q hq
          refine ⟨k1, fun j d u hd hu => ?_⟩
          rw [List.getElem?_take] at hu
          split at hu <;> try cases hu
          rw [Array.getElem?_toList] at hu
          exact k2 j d u hd hu
      have hfree : ∀ g', (Value.slice (some ⟨g, 0, none⟩) n cc).ownBlock = some g' → g' = g := fun g' h => by
        simp [Value.ownBlock] at h; exact h.symm
      obtain ⟨q, w', A', k1, k2, k3⟩ := append_core (P := P) (A := A) (ty := o.type) hs1 hd hsl hz hz0 hzl hov (by simp; omega) hov2 (c := c) hsl' hsrc' hb1 hb2
        (fun g' h => by
          obtain rfl := hfree g' h
          refine ⟨(hsim.osim.sep s _ cc hA).1, (hsim.osim.sep s _ cc hA).2, fun s' c' hc => ?_⟩
          rcases upd_eq_some hc with ⟨_, h⟩ | ⟨h1, h2⟩
          · cases h
          · exact h1 (hsim.osim.inj s' s _ c' cc h2 hA))
        hA1
        (fun g' h => by obtain rfl := hfree g' h; exact ⟨s, cc, hs, hA⟩)
        (fun s' h => upd_ne A _ (by omega))
      exact fin q w' A' k1 k2 k3
theorem ow_appendE {o : Oper} {K : Env → Prop} {t : TypeId} {x y : Operand} {d : Nat} {e : TypeId} {z by_ : Nat} {zs : List Value} (hop : o.op = .call ⟨.builtin .append, #[x, y], #[t, t]⟩) (hg : o.guard = none) (hdst : o.dst = some d) (hd : d < nt)
    (ho : opsOk nt o = true) (hx : ev ρ x = .ez) (hy : gd (ev ρ y)) (hsl : slE P t = some (e, z, by_)) (hz : zcOf P e = some zs) (hz0 : 0 < z) (hzl : zs.length = z)
    (hsrc : srcOk ρ z (un (ev ρ y))) (hb1 : (srcL ρ (un (ev ρ y))).length ≤ 9223372036854775807) (hb2 : (srcL ρ (un (ev ρ y))).length * by_ ≤ 140737488355328)
    (hK : K (set (kill d ρ) d (.row e z (srcL ρ (un (ev ρ y)))))) : OW P nt ops o K ρ := by
  refine ow_val hg fun I A a w hsim => ?_
  have hxr := hsim.opd x (opsOk_mem ho (by simp [hop, Op.operands, Call.operands])) (by rw [hx]; trivial)
  rw [hx] at hxr
  have hxr : Rel w I A .ez (a.eval x) := hxr
  have hyr := hsim.opd y (opsOk_mem ho (by simp [hop, Op.operands, Call.operands])) hy
  obtain ⟨b, m, c, hye, hsl', hsrc'⟩ := src_ok hsim hyr hsrc
  rw [hsl'] at hb1 hb2
  generalize hxe : a.eval x = v at hxr
  cases hxr with
  | ez _ b' =>
    obtain ⟨q, w', A', k1, k2, k3⟩ := append_core0 (P := P) (A := A) (A1 := A) (ty := o.type) hsim hd hsl hz hz0 hzl b' (c := c) hsl' hsrc' hb1 hb2 (fun _ _ h => h) (fun _ _ => rfl)
    refine ⟨q, w', I, A', _, ?_, by rw [hdst]; exact k2, k3, hK⟩
    simp only [execOp, hop, resolve, Sem.run_bind, Sem.run_pure, Result.andThen_ok, invoke, builtin, List.map_toArray, List.map_cons, List.map_nil, hxe, hye]
    rw [k1]
    rfl
theorem ow_append0 {o : Oper} {K : Env → Prop} {t : TypeId} {x y : Operand} {d : Nat} {e : TypeId} {z by_ : Nat} {zs : List Value} (hop : o.op = .call ⟨.builtin .append, #[x, y], #[t, t]⟩) (hg : o.guard = none) (hdst : o.dst = some d) (hd : d < nt)
    (ho : opsOk nt o = true) (hx : ev ρ x = .v (.slice none 0 0)) (hy : gd (ev ρ y)) (hsl : slE P t = some (e, z, by_)) (hz : zcOf P e = some zs) (hz0 : 0 < z) (hzl : zs.length = z)
    (hsrc : srcOk ρ z (un (ev ρ y))) (hb1 : (srcL ρ (un (ev ρ y))).length ≤ 9223372036854775807) (hb2 : (srcL ρ (un (ev ρ y))).length * by_ ≤ 140737488355328)
    (hK : K (set (kill d ρ) d (.row e z (srcL ρ (un (ev ρ y)))))) : OW P nt ops o K ρ := by
  refine ow_val hg fun I A a w hsim => ?_
  have hxr := hsim.opd x (opsOk_mem ho (by simp [hop, Op.operands, Call.operands])) (by rw [hx]; trivial)
  rw [hx] at hxr
  have hxr : Rel w I A (.v (.slice none 0 0)) (a.eval x) := hxr
  have hyr := hsim.opd y (opsOk_mem ho (by simp [hop, Op.operands, Call.operands])) hy
  obtain ⟨b, m, c, hye, hsl', hsrc'⟩ := src_ok hsim hyr hsrc
  rw [hsl'] at hb1 hb2
  generalize hxe : a.eval x = v at hxr
  cases hxr
  obtain ⟨q, w', A', k1, k2, k3⟩ := append_core (P := P) (A := A) (A1 := A) (ty := o.type) hsim hd hsl hz hz0 hzl (v := .slice none 0 0) (n := 0) (xs := []) (xsV := []) (World.ownsRow_nil w 0 e z) rfl (by simp) (c := c) hsl' hsrc' (by omega) (by simpa using hb2)
    (fun g h => by cases h) (fun _ _ h => h) (fun g h => by cases h) (fun _ _ => rfl)
  refine ⟨q, w', I, A', _, ?_, by rw [hdst]; exact k2, k3, by simpa using hK⟩
  simp only [execOp, hop, resolve, Sem.run_bind, Sem.run_pure, Result.andThen_ok, invoke, builtin, List.map_toArray, List.map_cons, List.map_nil, hxe, hye]
  rw [k1]
  rfl
end
end Go.Sg
set_option linter.unusedVariables false
set_option linter.unusedSimpArgs false
namespace Go.Sg
open Go.RowKit
def keyS : Value → Option ByteArray
  | .string s => some s
  | _ => none
theorem keyS_iff {v : Value} {s : ByteArray} : keyS v = some s ↔ v = .string s := by cases v <;> simp [keyS]
def getM : List (Value × Value) → ByteArray → Value → Value
  | [], _, z => z
  | e :: es, s, z => if keyS e.1 = some s then e.2 else getM es s z
def Keys (es : List (Value × Value)) : Prop := (∀ e ∈ es, (keyS e.1).isSome = true) ∧ (es.map (·.1)).Nodup
def NewK (es : List (Value × Value)) (s : ByteArray) : Prop := (∀ e ∈ es, (keyS e.1).isSome = true) ∧ ∀ e ∈ es, e.1 ≠ .string s
theorem getM_mem : ∀ {es : List (Value × Value)}, (es.map (·.1)).Nodup → ∀ {s : ByteArray} {v z : Value}, (.string s, v) ∈ es → getM es s z = v
  | [], _, s, v, z, h => by cases h
  | e :: es, hn, s, v, z, h => by
    rw [List.map_cons, List.nodup_cons] at hn
    unfold getM
    rcases List.mem_cons.1 h with rfl | h
    · rw [if_pos (keyS_iff.2 rfl)]
    · rw [if_neg]
      · exact getM_mem hn.2 h
      · intro he
        rw [keyS_iff] at he
        exact hn.1 (List.mem_map.2 ⟨_, h, he.symm⟩)
theorem getM_not : ∀ {es : List (Value × Value)} {s : ByteArray} {z : Value}, (∀ e ∈ es, e.1 ≠ .string s) → getM es s z = z
  | [], _, _, _ => rfl
  | e :: es, s, z, h => by
    unfold getM
    rw [if_neg fun he => h e (by simp) (keyS_iff.1 he)]
    exact getM_not fun e' he' => h e' (by simp [he'])
def mpOf (P : Program) (t : TypeId) : Option Value :=
  match P.underlying t with
  | some (.map kt e) => (match P.underlying kt, P.info? e with
    | some .string, some i => i.zero
    | _, _ => none)
  | _ => none
theorem mpOf_spec {P : Program} {t : TypeId} {z : Value} (h : mpOf P t = some z) : ∃ kt e i, P.underlying t = some (.map kt e) ∧ P.underlying kt = some .string ∧ P.info? e = some i ∧ i.zero = some z := by
  unfold mpOf at h
  split at h <;> try cases h
  rename_i kt e hu
  split at h <;> try cases h
  rename_i hk hi
  exact ⟨kt, e, _, hu, hk, hi, h⟩
theorem find_str {P : Program} {kt : TypeId} (hu : P.underlying kt = some .string) (w : World) (s : ByteArray) (vs : List MapEntry) (h : ∀ e ∈ vs, (keyS e.key).isSome = true) :
    ((Instr.findKey kt (.string s) vs).run P w = .ok none w ∧ ∀ e ∈ vs, e.key ≠ .string s) ∨ ∃ j e, (Instr.findKey kt (.string s) vs).run P w = .ok (some (j, e.val)) w ∧ vs[j]? = some e ∧ e.key = .string s := by
  rcases MapKept.findNow_spec (d := .string) (k := .string s) (show MapKept.IsKey .string (.string s) from trivial) vs 0 (fun e he => by
      have := h e he
      cases hk : e.key <;> rw [hk] at this <;> first | trivial | (simp [keyS] at this)) with ⟨h1, h2⟩ | ⟨j, e, h1, h2, h3⟩
  · exact .inl ⟨MapKept.run_findKey hu h1, h2⟩
  · exact .inr ⟨j, e, by rw [MapKept.run_findKey hu h1, Nat.zero_add], h2, h3⟩
section
variable {P : Program} {nt : Nat} {ρ : Env} {ops : Array Oper}
theorem Sim.turnO {w w' : World} {I : Nat → Prop} {A : Own} {a : Act} (hs : Sim nt w I A ρ a) {s g c : Nat} (hA : A s = some (some g, c)) (hoth : ∀ g', g' ≠ g → w'.heap[g']? = w.heap[g']?) (hsz : w'.heap.size = w.heap.size) {v : DV}
    (hsl : ∀ x, SlotRel w I A s (ρ s) x → SlotRel w' I A s v x) (ho : OwnRel w' I A s v) (hout : 100000 ≤ s → isOut v) : Sim nt w' I A (set ρ s v) a := by
  have hI := (hs.osim.sep s g c hA).2
  have hne : ∀ g', I g' → g' ≠ g := fun g' h e => hI (e ▸ h)
  have hrel : ∀ B d x, Rel w I B d x → Rel w' I B d x := fun B d x hr => hr.mono fun g' hg' => ⟨hg', fun o => cell_of_heap (hoth g' (hne g' hg')) o⟩
  have hslot : ∀ t d x, SlotRel w I A t d x → SlotRel w' I A t d x := fun t d x hr => by
    cases d with
    | bx cs => exact hr
    | row e z xs => exact hr
    | cond g y => exact ⟨fun hg => hrel _ _ _ (hr.1 hg), hr.2⟩
    | any => exact .any A x
    | v y => exact hrel _ _ _ hr
    | sl z n f => exact hrel _ _ _ hr
    | agg cs => exact hrel _ _ _ hr
    | tup cs => exact hrel _ _ _ hr
    | dp cs => exact hrel _ _ _ hr
    | bp t o => exact hrel _ _ _ hr
    | own t n => exact hrel _ _ _ hr
    | rp t z i o => exact hrel _ _ _ hr
    | fn f b c => exact hrel _ _ _ hr
    | iface t y => exact hrel _ _ _ hr
    | mr t => exact hrel _ _ _ hr
    | ez => exact hrel _ _ _ hr
    | mo es => exact hr
  refine ⟨⟨fun t => ?_, hs.osim.inj, fun t g' c' h' => ?_, hs.osim.imm.step (fun g' h' => by rw [hsz]; exact hs.osim.imm g' h') fun g' h' => ⟨h', hoth g' (hne g' h')⟩⟩, hs.size, hs.bound, fun i hi => ?_, fun t ht => ?_⟩
  · unfold set; split
    · rename_i e; rw [e]; exact ho
    · rename_i e
      exact (hs.osim.own t).keep (fun g' c' h' => hoth g' fun e' => e (hs.osim.inj t s g c' c (e' ▸ h') hA)) hrel
  · rw [hsz]; exact hs.osim.sep t g' c' h'
  · unfold set; split
    · rename_i e; rw [e] at hi ⊢; exact hsl _ (hs.slot s hi)
    · exact hslot i _ _ (hs.slot i hi)
  · unfold set; split
    · rename_i e; exact hout (e ▸ ht)
    · exact hs.out t ht
theorem Ext.turnO {w w' : World} {I : Nat → Prop} {A : Own} {s g c : Nat} (hA : A s = some (some g, c)) (hoth : ∀ g', g' ≠ g → w'.heap[g']? = w.heap[g']?) (hsz : w'.heap.size = w.heap.size) (h1 : w'.os = w.os) (h2 : w'.tape = w.tape ∧ w.drawn ≤ w'.drawn) (h3 : w'.output = w.output) : Ext w I A w' I A where
  os := h1
  tape := h2
  output := h3
  size := by rw [hsz]; exact Nat.le_refl _
  imm := fun _ h => h
  old := fun g' _ h' => ⟨hoth g' fun e => h' s c (e ▸ hA), fun h => h, h'⟩
  loc := fun s g c hA _ hs => ⟨s, c, hs, hA⟩
  outA := fun _ _ => rfl
def lkG (ρ : Env) (dst : Option Nat) (z : Option Value) (x k : DV) (K : Env → Prop) : Prop :=
  match z, x, k with
  | some z, .mr s, .v (.string q) => (match ρ s with
    | .mo es => Keys es ∧ K (putD ρ dst (.v (getM es q z)))
    | _ => False)
  | _, _, _ => False
def upG (ρ : Env) (z : Option Value) (x k v : DV) (K : Env → Prop) : Prop :=
  match z, x, k, v with
  | some _, .mr s, .v (.string q), .v y => (match ρ s with
    | .mo es => NewK es q ∧ K (set ρ s (.mo (es ++ [(.string q, y)])))
    | _ => False)
  | _, _, _, _ => False
theorem ow_lookup {o : Oper} {K : Env → Prop} {t : TypeId} {x k : Operand} (hop : o.op = .lookup t x k false) (hg : o.guard = none) (ho : opsOk nt o = true) (hd : dstOk nt o = true)
    (h : lkG ρ o.dst (mpOf P t) (ev ρ x) (ev ρ k) K) : OW P nt ops o K ρ := by
  unfold lkG at h
  split at h
  · rename_i _ _ _ z s q hz hx hk
    split at h
    · rename_i es hes
      obtain ⟨⟨hK1, hK2⟩, hK⟩ := h
      refine ow_val hg fun I A a w hs => ?_
      obtain ⟨kt, e, i, u1, u2, u3, u4⟩ := mpOf_spec hz
      have hxr := hs.opd x (opsOk_mem ho (by simp [hop, Op.operands])) (by rw [hx]; trivial)
      have hkr := hs.opd k (opsOk_mem ho (by simp [hop, Op.operands])) (by rw [hk]; trivial)
      rw [hx] at hxr; rw [hk] at hkr
      have hxr : Rel w I A (.mr s) (a.eval x) := hxr
      have hkr : Rel w I A (.v (.string q)) (a.eval k) := hkr
      generalize hav : a.eval x = av at *
      generalize hkv : a.eval k = kv at *
      cases hkr
      cases hxr with
      | mr _ _ g c hA =>
        have hown := hs.osim.own s
        rw [hes] at hown
        obtain ⟨g', c', vs, cl, q1, q2, q3⟩ := hown
        rw [hA] at q1
        simp only [Option.some.injEq, Prod.mk.injEq] at q1
        obtain ⟨rfl, rfl⟩ := q1
        have hks : ∀ e ∈ vs, (keyS e.key).isSome = true := fun m hm => hK1 (m.key, m.val) (by rw [← q3]; exact List.mem_map.2 ⟨m, hm, rfl⟩)
        have hck : ∀ em, (Instr.checkKey em 10000 kt (.string q)).run P w = .ok () w := fun em => MapKept.run_checkKey u2 (show MapKept.IsKey .string (.string q) from trivial) em 9999
        rcases find_str u2 w q vs hks with ⟨f1, f2⟩ | ⟨j, m, f1, f2, f3⟩
        · refine ⟨z, w, I, A, _, ?_, hs.putV hd ?_, Ext.refl _ _ _, hK⟩
          · simp [execOp, hop, hav, hkv, Instr.lookup, run_underlying u1, MapKept.run_getObj_map q2, hck, f1, zeroValue, typeInfo, u3, u4]
          · rw [getM_not fun e he => by
              rw [← q3] at he
              obtain ⟨m, hm, rfl⟩ := List.mem_map.1 he
              exact f2 m hm]
            exact .v _ _
        · refine ⟨m.val, w, I, A, _, ?_, hs.putV hd ?_, Ext.refl _ _ _, hK⟩
          · simp [execOp, hop, hav, hkv, Instr.lookup, run_underlying u1, MapKept.run_getObj_map q2, hck, f1]
          · rw [getM_mem hK2 (v := m.val) (by rw [← q3, ← f3]; exact List.mem_map.2 ⟨m, List.mem_of_getElem? f2, rfl⟩)]
            exact .v _ _
    · exact h.elim
  · exact h.elim
theorem ow_mapUpdate {o : Oper} {K : Env → Prop} {t : TypeId} {x k y : Operand} (hop : o.op = .mapUpdate t x k y) (hg : o.guard = none) (hdst : o.dst = none) (ho : opsOk nt o = true)
    (h : upG ρ (mpOf P t) (ev ρ x) (ev ρ k) (ev ρ y) K) : OW P nt ops o K ρ := by
  unfold upG at h
  split at h
  · rename_i _ _ _ _ z s q v hz hx hk hy
    split at h
    · rename_i es hes
      obtain ⟨⟨hK1, hK2⟩, hK⟩ := h
      refine ow_skip hg fun I A a w hs => ?_
      obtain ⟨kt, e, i, u1, u2, u3, u4⟩ := mpOf_spec hz
      have hxr := hs.opd x (opsOk_mem ho (by simp [hop, Op.operands])) (by rw [hx]; trivial)
      have hkr := hs.opd k (opsOk_mem ho (by simp [hop, Op.operands])) (by rw [hk]; trivial)
      have hyr := hs.opd y (opsOk_mem ho (by simp [hop, Op.operands])) (by rw [hy]; trivial)
      rw [hx] at hxr; rw [hk] at hkr; rw [hy] at hyr
      have hxr : Rel w I A (.mr s) (a.eval x) := hxr
      have hkr : Rel w I A (.v (.string q)) (a.eval k) := hkr
      have hyr : Rel w I A (.v v) (a.eval y) := hyr
      generalize hav : a.eval x = av at *
      generalize hkv : a.eval k = kv at *
      generalize hyv : a.eval y = yv at *
      cases hkr
      cases hyr
      cases hxr with
      | mr _ _ g c hA =>
        have hown := hs.osim.own s
        rw [hes] at hown
        obtain ⟨g', c', vs, cl, q1, q2, q3⟩ := hown
        rw [hA] at q1
        simp only [Option.some.injEq, Prod.mk.injEq] at q1
        obtain ⟨rfl, rfl⟩ := q1
        have hks : ∀ e ∈ vs, (keyS e.key).isSome = true := fun m hm => hK1 (m.key, m.val) (by rw [← q3]; exact List.mem_map.2 ⟨m, hm, rfl⟩)
        have hck : ∀ em, (Instr.checkKey em 10000 kt (.string q)).run P w = .ok () w := fun em => MapKept.run_checkKey u2 (show MapKept.IsKey .string (.string q) from trivial) em 9999
        have hst : (Instr.keyThatStays (.string q) (.string q)).run P w = .ok (.string q) w := MapKept.run_keyThatStays (show MapKept.IsKey .string (.string q) from trivial)
        rcases find_str u2 w q vs hks with ⟨f1, f2⟩ | ⟨j, m, f1, f2, f3⟩
        · have hset := MapKept.heap_set (o' := .map (vs ++ [({ key := .string q, val := v, born := cl } : MapEntry)]).toArray (cl + 1)) q2
          refine ⟨{ w with heap := w.heap.setIfInBounds g (.map (vs ++ [({ key := .string q, val := v, born := cl } : MapEntry)]).toArray (cl + 1)) }, I, A, _, ?_, ?_, Ext.turnO hA hset.2 (by simp) rfl ⟨rfl, Nat.le_refl _⟩ rfl, hK⟩
          · simp [execOp, hop, hav, hkv, hyv, Instr.mapUpdate, run_underlying u1, MapKept.run_getObj_map q2, hck, f1, MapKept.run_setObj_map _ q2]
          · rw [hdst]
            refine hs.turnO hA hset.2 (by simp) (fun x' hx' => ?_) ⟨g, c, _, _, hA, hset.1, by rw [List.map_append, q3]; rfl⟩ fun _ => rfl
            rw [hes] at hx'; exact hx'
        · exact absurd f3 (hK2 (m.key, m.val) (by rw [← q3]; exact List.mem_map.2 ⟨m, List.mem_of_getElem? f2, rfl⟩))
    · exact h.elim
  · exact h.elim
theorem ow_makeMap {o : Oper} {K : Env → Prop} {t : TypeId} {d : Nat} (hop : o.op = .makeMap t none) (hg : o.guard = none) (hdst : o.dst = some d) (hd : d < nt) (hK : K (set (kill d ρ) d (.mo []))) : OW P nt ops o K ρ := by
  refine ow_val hg fun I A a w hs => ?_
  have hb := hs.bound
  have hgr := Grow.alloc hs.osim (.map #[] 0)
  have hs1 := hs.grow hgr
  refine ⟨.map (some w.heap.size), w.alloc (.map #[] 0), I, upd A d (some (some w.heap.size, 0)), _, by simp [execOp, hop, Instr.makeMap, newObj, Sem.run], ?_, ?_, hK⟩
  · rw [hdst]
    refine hs1.own hd (fun g hg => ?_) ⟨_, 0, upd_same _ _ _, rfl⟩ ⟨w.heap.size, 0, [], 0, upd_same _ _ _, (MapKept.heap_alloc w _).1, rfl⟩
    cases hg
    refine ⟨by simp, fun hi => ?_, fun s c' _ hc => ?_⟩
    · have := hs.osim.imm _ hi; omega
    · have := (hs.osim.sep s _ c' hc).1; omega
  · refine ⟨rfl, ⟨rfl, Nat.le_refl _⟩, rfl, by simp, fun _ h => h, fun g hg hA => ⟨hgr.heap g hg, fun h => h, fun s c hc => ?_⟩, fun s g c hc hg hl' => ?_, fun s h => upd_ne A _ (by omega)⟩
    · rcases upd_eq_some hc with ⟨_, h⟩ | ⟨_, h⟩
      · simp only [Option.some.injEq, Prod.mk.injEq] at h; omega
      · exact hA s c h
    · rcases upd_eq_some hc with ⟨_, h⟩ | ⟨_, h⟩
      · simp only [Option.some.injEq, Prod.mk.injEq] at h; omega
      · exact ⟨s, c, hl', h⟩
end
end Go.Sg
set_option linter.unusedVariables false
set_option linter.unusedSimpArgs false
namespace Go.Sg
open Go.RowKit
/-! ## One operation -/
def asgG (ρ : Env) (d t : Nat) (c : DV) (K : Env → Prop) : Prop :=
  match isOwn c with
  | true => t ≠ d ∧ K (set (kill d (set (kill t ρ) t .any)) d (killD d (killD t c)))
  | false => gd c ∧ K (set ρ d (un c))
def boxG (ρ : Env) (d : Nat) (c : DV) (K : Env → Prop) : Prop :=
  gd c ∧ (0 < (cellsD (un c)).length ∨ ∃ cs, un c = .agg cs) ∧ K (set (kill d ρ) d (killD d (.bx (cellsD (un c)))))
def allocG (ρ : Env) (d : Nat) (zs : Option (List Value)) (K : Env → Prop) : Prop :=
  match zs with
  | some zs => K (set (kill d ρ) d (.bx (zs.map .v)))
  | none => False
def stR (ρ : Env) (s z i off n : Nat) (cs : List DV) (c : DV) (K : Env → Prop) : Prop :=
  match c with
  | .row e z' xs => z = z' ∧ cs.length = n ∧ i < xs.length ∧ off + n ≤ z ∧ allKL (fun _ => false) cs = true ∧ K (set ρ s (.row e z (xs.set i (spl off cs (xs.getD i [])))))
  | _ => False
def stG (ρ : Env) (n : Option Nat) (ad : DV) (x : DV) (K : Env → Prop) : Prop :=
  match n with
  | none => False
  | some n =>
    match ad with
    | .bp s off => gd x ∧ 0 < n ∧ stB ρ s off n (cellsD (un x)) (ρ s) K
    | .rp s z i off => gd x ∧ 0 < n ∧ stR ρ s z i off n (cellsD (un x)) (ρ s) K
    | _ => False
def mkG (P : Program) (ρ : Env) (d : Nat) (sl : Option (TypeId × Nat × Nat)) (x y : DV) (K : Env → Prop) : Prop :=
  match sl, x, y with
  | some (e, z, by_), .v (.int _ n), .v (.int _ c) =>
    (match zcOf P e with
    | some zs => zs.length = z ∧ 0 ≤ n ∧ n ≤ c ∧ c ≤ 9223372036854775807 ∧ c * by_ ≤ 140737488355328 ∧ K (set (kill d ρ) d (.row e z (List.replicate n.toNat (zs.map .v))))
    | none => False)
  | _, _, _ => False
def litG (P : Program) (ρ : Env) (d : Nat) (sl : Option (TypeId × Nat × Nat)) (n : Nat) (parts : List (Nat × Operand)) (K : Env → Prop) : Prop :=
  match sl with
  | some (e, z, _) =>
    (match parts with
    | [] => n = 0 ∧ K (set (kill d ρ) d (.row e z []))
    | parts => (zcOf P e).isSome = true ∧ 0 < z ∧ 0 < n ∧ n * z ≤ 16777216 ∧ parts.length = n ∧ bsOk ρ z 0 parts ∧ K (set ρ d (.sl z n fun i => (bsL ρ parts).getD i [])))
  | none => False
def appR (ρ : Env) (d s n e z by_ : Nat) (src : DV) (c : DV) (K : Env → Prop) : Prop :=
  match c with
  | .row e' z' xs => e' = e ∧ z' = z ∧ s < 100000 ∧ n ≤ xs.length ∧ srcOk ρ z src ∧ n + (srcL ρ src).length ≤ 9223372036854775807 ∧ (n + (srcL ρ src).length) * by_ ≤ 140737488355328 ∧
      K (set (kill d (set (kill s ρ) s .any)) d (.row e z (xs.take n ++ srcL ρ src)))
  | _ => False
def appG (P : Program) (ρ : Env) (d : Nat) (sl : Option (TypeId × Nat × Nat)) (x y : DV) (K : Env → Prop) : Prop :=
  match sl with
  | some (e, z, by_) => gd y ∧ 0 < z ∧ (zcOf P e).map List.length = some z ∧
    (match x with
    | .own s n => appR ρ d s n e z by_ (un y) (ρ s) K
    | .v (.slice none 0 0) => srcOk ρ z (un y) ∧ (srcL ρ (un y)).length ≤ 9223372036854775807 ∧ (srcL ρ (un y)).length * by_ ≤ 140737488355328 ∧ K (set (kill d ρ) d (.row e z (srcL ρ (un y))))
    | .ez => srcOk ρ z (un y) ∧ (srcL ρ (un y)).length ≤ 9223372036854775807 ∧ (srcL ρ (un y)).length * by_ ≤ 140737488355328 ∧ K (set (kill d ρ) d (.row e z (srcL ρ (un y))))
    | _ => False)
  | none => False
def gdL (ρ : Env) : List Operand → Prop
  | [] => True
  | x :: l => gd (ev ρ x) ∧ gdL ρ l
theorem gdL_iff (ρ : Env) (l : List Operand) : gdL ρ l ↔ ∀ x ∈ l, gd (ev ρ x) := by
  induction l with
  | nil => simp [gdL]
  | cons x l ih => simp [gdL, ih]
def evL (ρ : Env) (l : List Operand) : List DV := l.map fun x => un (ev ρ x)
def calG (P : Program) (ρ : Env) (d : Nat) (f : Option (FuncId × List DV)) (K : Env → Prop) : Prop :=
  match f with
  | some (f, l) => CallG P ρ f l (fun O' r => (isOwn r = true → killD d r = r) ∧ K (putR O' d r)) ⟨⟩
  | none => False
def bodyOk (P : Program) (f : Option (FuncId × List DV)) : Prop :=
  match f with
  | some (f, _) => hasBody P f = true
  | none => False
def cbG (P : Program) (ρ : Env) (b : Builtin) (args : List Operand) (ts : List TypeId) (d : Option Nat) (K : Env → Prop) : Prop :=
  match b, args, ts, d with
  | .append, [x, y], [t, t'], some d => t = t' ∧ appG P ρ d (slE P t) (ev ρ x) (ev ρ y) K
  | b, args, ts, d => (bltP P ρ b args ts).1 ∧ K (putD ρ d (bltP P ρ b args ts).2)
def isNilC : Operand → Bool
  | .const (.slice none _ _) => true
  | _ => false
def isEql : BinOp → Bool
  | .eql => true
  | _ => false
def nilG (P : Program) (ρ : Env) (t : TypeId) (x : DV) (dst : Option Nat) (K : Env → Prop) : Prop :=
  tk P t = 2 ∧ (match x with
    | .sl _ n _ => ∀ b : Bool, (0 < n → b = false) → K (putD ρ dst (.v (.bool b)))
    | .v (.slice a _ _) => K (putD ρ dst (.v (.bool a.isNone)))
    | _ => False)
def binG (P : Program) (ρ : Env) (b : BinOp) (t : TypeId) (x y : Operand) (dst : Option Nat) (K : Env → Prop) : Prop :=
  bif isEql b && isNilC y then gd (ev ρ x) ∧ nilG P ρ t (un (ev ρ x)) dst K
  else ((gd (ev ρ x) ∧ gd (ev ρ y)) ∧ (binP (esOf P t) (tk P t) b (un (ev ρ x)) (un (ev ρ y))).1) ∧ K (putD ρ dst (binP (esOf P t) (tk P t) b (un (ev ρ x)) (un (ev ρ y))).2)
def effG (P : Program) (ρ : Env) (op : Op) (dst : Option Nat) (K : Env → Prop) : Prop :=
  match op, dst with
  | .assign (.tmp t), some d => asgG ρ d t (ρ t) K
  | .assign x, dst => gd (ev ρ x) ∧ K (putD ρ dst (un (ev ρ x)))
  | .binOp b t x y _, dst => binG P ρ b t x y dst K
  | .build t parts, dst => (bldP P ρ t parts.toList).1 ∧ K (putD ρ dst (bldP P ρ t parts.toList).2)
  | .box _ x, some d => boxG ρ d (ev ρ x) K
  | .alloc t, some d => allocG ρ d (zcOf P t) K
  | .store t ad x, none => stG ρ (szOf P t) (ev ρ ad) (ev ρ x) K
  | .makeSlice t x y, some d => mkG P ρ d (slE P t) (ev ρ x) (ev ρ y) K
  | .buildSlice t n parts, some d => litG P ρ d (slE P t) n parts.toList K
  | .lookup t x k false, dst => lkG ρ dst (mpOf P t) (ev ρ x) (ev ρ k) K
  | .mapUpdate t x k y, none => upG ρ (mpOf P t) (ev ρ x) (ev ρ k) (ev ρ y) K
  | .makeMap _ none, some d => K (set (kill d ρ) d (.mo []))
  | .call c, dst =>
    (match c.callee with
    | .value f => (match dst with
      | some d => gd (ev ρ f) ∧ gdL ρ c.args.toList ∧ bodyOk P (callee (un (ev ρ f)) (evL ρ c.args.toList)) ∧ calG P ρ d (callee (un (ev ρ f)) (evL ρ c.args.toList)) K
      | none => False)
    | .builtin b => cbG P ρ b c.args.toList c.argTypes.toList dst K
    | _ => False)
  | op, dst => (opP P ρ op).1 ∧ K (putD ρ dst (opP P ρ op).2)
section
variable {P : Program} {nt : Nat} {ρ : Env} {ops : Array Oper}
theorem length_spl {off : Nat} {cs old : List DV} (h : off + cs.length ≤ old.length) : (spl off cs old).length = old.length := by
  unfold spl
  split
  · rw [List.length_set]
  · split
    · assumption
    · simp only [List.length_append, List.length_take, List.length_drop]; omega
theorem ow_storeR {o : Oper} {K : Env → Prop} {t : TypeId} {ad x : Operand} {n s z i off : Nat} (hop : o.op = .store t ad x) (hg : o.guard = none) (hdst : o.dst = none) (ho : opsOk nt o = true)
    (ha : ev ρ ad = .rp s z i off) (hx : gd (ev ρ x)) (hz : szOf P t = some n) (hl : 0 < n) (h : stR ρ s z i off n (cellsD (un (ev ρ x))) (ρ s) K) : OW P nt ops o K ρ := by
  refine ow_skip hg fun I A a w hs => ?_
  have hxr := hs.opd x (opsOk_mem ho (by simp [hop, Op.operands])) hx
  have hadr := hs.opd ad (opsOk_mem ho (by simp [hop, Op.operands])) (by rw [ha]; trivial)
  rw [ha] at hadr
  have hadr : Rel w I A (.rp s z i off) (a.eval ad) := hadr
  generalize hav : a.eval ad = av at *
  cases hadr with
  | rp _ _ _ _ _ g c hA =>
    have hown := hs.osim.own s
    cases hρ : ρ s <;> rw [hρ] at h hown <;> simp only [stR] at h <;> try exact h.elim
    rename_i e z' xs
    obtain ⟨rfl, h1, h2, h3, h4, hK⟩ := h
    obtain ⟨B, c', q1, q2⟩ := hown
    rw [hA] at q1
    simp only [Option.some.injEq, Prod.mk.injEq] at q1
    obtain ⟨rfl, rfl⟩ := q1
    obtain ⟨us, q2, q3, q4, q5, q6⟩ := q2
    obtain ⟨k1, k2, k3⟩ := cells_ok hxr (.inl (by omega))
    have hxi : xs[i]? = some (xs.getD i []) := by rw [List.getD_eq_getElem?_getD, List.getElem?_eq_getElem h2]; rfl
    have hol := (q6 i _ hxi).1
    have hbound : ∀ i' r, i' < xs.length → r < z → i' * z + r < us.size := fun i' r hi' hr => by
      rw [q3]
      have : (i' + 1) * z ≤ c * z := Nat.mul_le_mul_right _ (by omega)
      rw [Nat.succ_mul] at this
      omega
    have hcsl : (cellsD (un (ev ρ x))).length = n := h1
    have hfit : i * z + off + n ≤ us.size := by
      rw [q3]
      have : (i + 1) * z ≤ c * z := Nat.mul_le_mul_right _ (by omega)
      rw [Nat.succ_mul] at this
      omega
    have hrun := run_storeAt (P := P) (w := w) hz (x := a.eval x) (by omega) q2 (o := i * z + off) hfit k2
    generalize hnew : (us.toList.take (i * z + off) ++ (a.eval x).cells.toList ++ us.toList.drop (i * z + off + n)).toArray = new at hrun
    have hI : ∀ {B : Own} {d : DV} {v : Value}, Rel w I B d v → Rel (w.setRow g new) I B d v := fun hr =>
      hr.mono fun g' hg' => ⟨hg', fun o => cell_of_heap (setRow_other w g g' _ (fun e => (hs.osim.sep s g c hA).2 (e ▸ hg'))) o⟩
    have hnsz : new.size = us.size := by subst hnew; simp; omega
    have hget : ∀ q, new[q]? = if i * z + off ≤ q ∧ q < i * z + off + n then (a.eval x).cells[q - (i * z + off)]? else us[q]? := fun q => by
      subst hnew
      simp only [List.getElem?_toArray]
      rw [List.getElem?_append, List.getElem?_append]
      simp only [List.length_append, List.length_take, Array.length_toList, ← k1, hcsl, Nat.min_eq_left (show i * z + off ≤ us.size by omega)]
      by_cases c1 : q < i * z + off
      · rw [if_pos (by omega), if_pos c1, if_neg (by omega), List.getElem?_take, if_pos c1, Array.getElem?_toList]
      · by_cases c2 : q < i * z + off + n
        · rw [if_pos c2, if_neg c1, if_pos (by omega), Array.getElem?_toList]
        · rw [if_neg c2, if_neg (by omega), List.getElem?_drop, Array.getElem?_toList]
          congr 1
          omega
    refine ⟨w.setRow g new, I, A, _, ?_, ?_, Ext.turn hA new, hK⟩
    · simp only [execOp, hop, Sem.run_bind, hav, hrun, Result.andThen_ok, Sem.run_pure]
    · rw [hdst]
      refine hs.turn hA q2 (fun v hv => ?_) ?_ fun hs' => rfl
      · rw [hρ] at hv
        obtain ⟨B, c2, r1, r2⟩ := hv
        exact ⟨B, c2, r1, by rw [List.length_set]; exact r2⟩
      · refine ⟨some g, c, hA, new, setRow_heap w g us _ e _ q2, by rw [hnsz, q3], q4, by rw [List.length_set]; exact q5, fun i' y hy => ?_⟩
        rw [List.getElem?_set] at hy
        split at hy
        · rename_i hii
          subst hii
          cases hy
          refine ⟨by rw [length_spl (by omega)]; exact hol, fun j d u hd hu => ?_⟩
          have hj : j < z := by
            have : (spl off (cellsD (un (ev ρ x))) (xs.getD i [])).length = z := by rw [length_spl (by omega)]; exact hol
            rw [← this]
            rcases Nat.lt_or_ge j (spl off (cellsD (un (ev ρ x))) (xs.getD i [])).length with h | h
            · exact h
            · rw [List.getElem?_eq_none h] at hd; cases hd
          rw [hget] at hu
          rw [spl_eq (by omega), List.getElem?_append, List.getElem?_append] at hd
          simp only [List.length_append, List.length_take, Nat.min_eq_left (show off ≤ (xs.getD i []).length by omega), hcsl] at hd
          by_cases c1 : j < off
          · rw [if_pos (by omega), if_pos c1, List.getElem?_take, if_pos c1] at hd
            rw [if_neg (by omega)] at hu
            obtain ⟨r1, r2⟩ := (q6 i _ hxi).2 j d u hd hu
            exact ⟨r1, hI r2⟩
          · by_cases c2 : j < off + n
            · rw [if_pos c2, if_neg c1] at hd
              rw [if_pos (by omega)] at hu
              have e1 : i * z + j - (i * z + off) = j - off := by omega
              rw [e1] at hu
              exact ⟨k2 u (by simpa using Array.mem_of_getElem? hu), hI ((k3 _ d u hd hu).pure (allKL_get h4 hd))⟩
            · rw [if_neg c2, List.getElem?_drop] at hd
              rw [if_neg (by omega)] at hu
              have e1 : off + n + (j - (off + n)) = j := by omega
              rw [e1] at hd
              obtain ⟨r1, r2⟩ := (q6 i _ hxi).2 j d u hd hu
              exact ⟨r1, hI r2⟩
        · rename_i hii
          obtain ⟨r1, r2⟩ := q6 i' y hy
          refine ⟨r1, fun j d u hd hu => ?_⟩
          have hj : j < z := by
            rw [← r1]
            rcases Nat.lt_or_ge j y.length with h | h
            · exact h
            · rw [List.getElem?_eq_none h] at hd; cases hd
          rw [hget, if_neg (by
            intro ⟨a1, a2⟩
            have e1 := mul_range (z := z) (i := i') (q := i' * z + j) (by omega) (by omega) (by omega)
            have e2 := mul_range (z := z) (i := i) (q := i' * z + j) (by omega) (by omega) (by omega)
            omega)] at hu
          exact ⟨(r2 j d u hd hu).1, hI (r2 j d u hd hu).2⟩
theorem effG_ok {o : Oper} {K : Env → Prop} (hg : o.guard = none) (ho : opsOk nt o = true) (hd : dstOk nt o = true) (h : effG P ρ o.op o.dst K) : OW P nt ops o K ρ := by
  have hdn : ∀ d, o.dst = some d → d < nt := fun d e => by unfold dstOk at hd; rw [e] at hd; simpa using hd
  cases hop : o.op with
  | assign x =>
    rw [hop] at h
    cases hdst : o.dst with
    | none =>
      rw [hdst] at h
      have h' : gd (ev ρ x) ∧ K (putD ρ none (un (ev ρ x))) := by cases x <;> exact h
      exact ow_assign hop hg ho hd h'.1 (by rw [hdst]; exact h'.2)
    | some d =>
      rw [hdst] at h
      cases x with
      | tmp t =>
        have ht : t < nt := by
          have := opsOk_mem ho (x := .tmp t) (by simp [hop, Op.operands])
          simpa [opdOk] using this
        have h : asgG ρ d t (ρ t) K := h
        unfold asgG at h
        cases hown : isOwn (ρ t) with
        | true =>
          rw [hown] at h
          exact ow_move_own hop hg hdst (hdn d hdst) ht h.1 hown h.2
        | false =>
          rw [hown] at h
          have e1 : ev ρ (.tmp t) = ρ t := by
            rw [ev_tmp]
            cases hc : ρ t <;> first | rfl | (rw [hc] at hown; cases hown)
          exact ow_assign hop hg ho hd (by rw [e1]; exact h.1) (by rw [hdst, e1]; exact h.2)
      | const v => exact ow_assign hop hg ho hd h.1 (by rw [hdst]; exact h.2)
      | global g => exact ow_assign hop hg ho hd h.1 (by rw [hdst]; exact h.2)
      | func f => exact ow_assign hop hg ho hd h.1 (by rw [hdst]; exact h.2)
  | box t x =>
    rw [hop] at h
    cases hdst : o.dst with
    | none => rw [hdst] at h; exact h.1.elim
    | some d =>
      rw [hdst] at h
      obtain ⟨h1, h2, h3⟩ := h
      exact ow_box hop hg hdst (hdn d hdst) ho h1 h2 h3
  | alloc t =>
    rw [hop] at h
    cases hdst : o.dst with
    | none => rw [hdst] at h; exact h.1.elim
    | some d =>
      rw [hdst] at h
      have h : allocG ρ d (zcOf P t) K := h
      unfold allocG at h
      split at h
      · rename_i zs hz
        exact ow_alloc hop hg hdst (hdn d hdst) hz h
      · exact h.elim
  | lookup t x k ok =>
    rw [hop] at h
    cases ok with
    | false => exact ow_lookup hop hg ho hd h
    | true => exact ow_pure hg ho hd (by rw [hop]; exact h.1) (by rw [hop]; exact h.2)
  | mapUpdate t x k y =>
    rw [hop] at h
    cases hdst : o.dst with
    | some d => rw [hdst] at h; exact h.1.elim
    | none => rw [hdst] at h; exact ow_mapUpdate hop hg hdst ho h
  | makeMap t hint =>
    rw [hop] at h
    cases hdst : o.dst with
    | none => rw [hdst] at h; cases hint <;> exact h.1.elim
    | some d =>
      rw [hdst] at h
      cases hint with
      | none => exact ow_makeMap hop hg hdst (hdn d hdst) h
      | some x => exact h.1.elim
  | store t ad x =>
    rw [hop] at h
    cases hdst : o.dst with
    | some d => rw [hdst] at h; exact h.1.elim
    | none =>
      rw [hdst] at h
      have h : stG ρ (szOf P t) (ev ρ ad) (ev ρ x) K := h
      unfold stG at h
      split at h
      · exact h.elim
      · rename_i n hn
        split at h
        · rename_i s off ha
          exact ow_store hop hg hdst ho ha h.1 hn h.2.1 h.2.2
        · rename_i s z i off ha
          exact ow_storeR hop hg hdst ho ha h.1 hn h.2.1 h.2.2
        · exact h.elim
  | makeSlice t x y =>
    rw [hop] at h
    cases hdst : o.dst with
    | none => rw [hdst] at h; exact h.1.elim
    | some d =>
      rw [hdst] at h
      have h : mkG P ρ d (slE P t) (ev ρ x) (ev ρ y) K := h
      unfold mkG at h
      split at h
      · rename_i e z by_ k n k' c hs hx hy
        split at h
        · rename_i zs hz
          obtain ⟨h1, h2, h3, h4, h5, h6⟩ := h
          exact ow_makeSlice hop hg hdst (hdn d hdst) ho hx hy hs hz h1 h2 h3 h4 h5 h6
        · exact h.elim
      · exact h.elim
  | buildSlice t n parts =>
    rw [hop] at h
    cases hdst : o.dst with
    | none => rw [hdst] at h; exact h.1.elim
    | some d =>
      rw [hdst] at h
      have h : litG P ρ d (slE P t) n parts.toList K := h
      unfold litG at h
      split at h
      · rename_i e z by_ hs
        split at h
        · rename_i hp
          obtain ⟨rfl, hK⟩ := h
          obtain rfl : parts = #[] := by apply Array.ext'; simpa using hp
          exact ow_lit0 hop hg hdst (hdn d hdst) hs hK
        · obtain ⟨h1, h2, h3, h4, h5, h6, h7⟩ := h
          obtain ⟨zs, hz⟩ := Option.isSome_iff_exists.1 h1
          exact ow_lit hop hg hdst (hdn d hdst) ho hs hz h2 h3 h4 h5 h6 h7
      · exact h.elim
  | call c =>
    rw [hop] at h
    obtain ⟨cl, args, ts⟩ := c
    cases cl with
    | value f =>
      cases hdst : o.dst with
      | none => rw [hdst] at h; exact h.elim
      | some d =>
        rw [hdst] at h
        have h : gd (ev ρ f) ∧ gdL ρ args.toList ∧ bodyOk P (callee (un (ev ρ f)) (evL ρ args.toList)) ∧ calG P ρ d (callee (un (ev ρ f)) (evL ρ args.toList)) K := h
        obtain ⟨h1, h2, h3, h4⟩ := h
        cases hc : callee (un (ev ρ f)) (evL ρ args.toList) with
        | none => rw [hc] at h3; exact h3.elim
        | some p =>
          obtain ⟨g, l⟩ := p
          rw [hc] at h3 h4
          exact ow_call (t := ⟨⟩) hop hg hdst (hdn d hdst) ho h1 ((gdL_iff ρ _).1 h2) hc h3 h4
    | builtin b =>
      have hcb : cbG P ρ b args.toList ts.toList o.dst K := h
      clear h
      unfold cbG at hcb
      split at hcb
      · rename_i x y t t' d hargs hts hdst
        obtain rfl : args = #[x, y] := by apply Array.ext'; simpa using hargs
        obtain ⟨rfl, h⟩ := hcb
        obtain rfl : ts = #[t, t] := by apply Array.ext'; simpa using hts
        unfold appG at h
        split at h
        · rename_i e z by_ hs
          obtain ⟨h1, h2, h3, h4⟩ := h
          cases hz : zcOf P e with
          | none => rw [hz] at h3; cases h3
          | some zs =>
            rw [hz] at h3
            have hzl : zs.length = z := by simpa using h3
            split at h4
            · rename_i s n hx
              unfold appR at h4
              split at h4
              · rename_i e' z' xs hρ
                obtain ⟨rfl, rfl, k1, k2, k3, k4, k5, k6⟩ := h4
                exact ow_append hop hg hdst (hdn d hdst) ho hx hρ k1 k2 h1 hs hz h2 hzl k3 k4 k5 k6
              · exact h4.elim
            · rename_i hx
              obtain ⟨k1, k2, k3, k4⟩ := h4
              exact ow_append0 hop hg hdst (hdn d hdst) ho hx h1 hs hz h2 hzl k1 k2 k3 k4
            · rename_i hx
              obtain ⟨k1, k2, k3, k4⟩ := h4
              exact ow_appendE hop hg hdst (hdn d hdst) ho hx h1 hs hz h2 hzl k1 k2 k3 k4
            · exact h4.elim
        · exact h.elim
      · refine ow_pure hg ho hd ?_ ?_
        · rw [hop]; exact hcb.1
        · rw [hop]; exact hcb.2
    | invoke r m => exact h.elim
  | build t parts =>
    rw [hop] at h
    have h : (bldP P ρ t parts.toList).1 ∧ K (putD ρ o.dst (bldP P ρ t parts.toList).2) := h
    exact ow_build hop hg ho hd h.1 h.2
  | binOp b t x y t' =>
    rw [hop] at h
    have h : binG P ρ b t x y o.dst K := h
    unfold binG at h
    cases hc : isEql b && isNilC y with
    | false =>
      rw [hc] at h
      refine ow_pure hg ho hd ?_ ?_
      · rw [hop]; exact h.1
      · rw [hop]; exact h.2
    | true =>
      rw [hc] at h
      obtain ⟨h1, h2, h3⟩ := h
      rw [Bool.and_eq_true] at hc
      obtain ⟨c1, c2⟩ := hc
      obtain rfl : b = .eql := by cases b <;> first | rfl | cases c1
      obtain ⟨n', c', rfl⟩ : ∃ n' c', y = .const (.slice none n' c') := by
        unfold isNilC at c2; split at c2
        · exact ⟨_, _, rfl⟩
        · cases c2
      obtain ⟨e, he⟩ : ∃ e, P.underlying t = some (.slice e) := by
        unfold tk at h2; split at h2 <;> first | exact ⟨_, by assumption⟩ | omega
      refine ow_val hg fun I A a w hs => ?_
      have hr := hs.opd x (opsOk_mem ho (x := x) (by rw [hop]; simp [Op.operands])) h1
      have hrun : ∀ (b : Option Addr) n c, a.eval x = .slice b n c → (execOp a.eval o).run P w = .ok (.value (.bool b.isNone)) w := fun b n c hx => by
        have hb : execOp a.eval o = (do pure (.value (← (eqGuard .eql t x (.const (.slice none n' c')) (a.eval x) (.slice none n' c') >>= fun _ => binOp .eql t (a.eval x) (.slice none n' c'))))) := by unfold execOp; rw [hop]; rfl
        have hg : eqGuard .eql t x (.const (.slice none n' c')) (.slice b n c) (.slice none n' c') = (pure () : Sem Unit) := by unfold eqGuard; rfl
        rw [hb, hx, hg, Sem.run_bind]
        show Result.andThen ((binOp .eql t (.slice b n c) (.slice none n' c')).run P w) _ = _
        rw [Lib.run_eql_slice_nil w t e b n c n' c' he]
        rfl
      generalize un (ev ρ x) = d at *
      cases d with
      | sl z n f =>
        generalize hx : a.eval x = v at hr
        cases hr with
        | sl0 _ _ _ b c => exact ⟨_, w, I, A, _, hrun b 0 c hx, hs.putV hd (.v A _), Ext.refl _ _ _, h3 _ (by omega)⟩
        | sl _ _ _ _ b o c us hn hc hm hI hz hcell hone hrel => exact ⟨_, w, I, A, _, hrun _ n c hx, hs.putV hd (.v A _), Ext.refl _ _ _, h3 _ fun _ => rfl⟩
      | v y =>
        cases y with
        | slice b n c =>
          generalize hx : a.eval x = v at hr
          cases hr
          exact ⟨_, w, I, A, _, hrun b n c hx, hs.putV hd (.v A _), Ext.refl _ _ _, h3⟩
        | _ => exact h3.elim
      | _ => exact h3.elim
  | _ =>
    rw [hop] at h
    refine ow_pure hg ho hd ?_ ?_
    · rw [hop]; exact h.1
    · rw [hop]; exact h.2
end
end Go.Sg
set_option linter.unusedVariables false
set_option linter.unusedSimpArgs false
namespace Go.Sg
open Go.RowKit
open Go.Rv (FR)
def pureOp : Op → Bool
  | .call c => match c.callee with
    | .value _ => true
    | .builtin .len => true
    | .builtin .max => true
    | .builtin .min => true
    | _ => false
  | .assign _ | .move _ | .pick .. | .load .. | .nilCheck _ | .binOp .. | .unOp .. | .convert .. | .fieldAddr .. | .indexAddr .. | .index .. | .slice .. | .extract .. | .makeFunc .. => true
  | .buildSlice _ _ _ => true
  | .build _ _ => true
  | .makeSlice .. => true
  | _ => false
def litP (P : Program) (ρ : Env) (sl : Option (TypeId × Nat × Nat)) (n : Nat) (parts : List (Nat × Operand)) : Prop × DV :=
  match sl with
  | some (e, z, _) => if n = 0 then (parts = [], .ez) else ((zcOf P e).isSome = true ∧ 0 < z ∧ 0 < n ∧ n * z ≤ 16777216 ∧ parts.length = n ∧ bsOk ρ z 0 parts, .sl z n fun i => (bsL ρ parts).getD i [])
  | none => (False, .any)
def mkP (P : Program) (sl : Option (TypeId × Nat × Nat)) (x y : DV) : Prop × DV :=
  match sl, x, y with
  | some (e, z, by_), .v (.int _ n), .v (.int _ c) =>
    (match zcOf P e with
    | some zs => (zs.length = z ∧ 0 ≤ n ∧ n ≤ c ∧ c ≤ 9223372036854775807 ∧ c * by_ ≤ 140737488355328, .sl z n.toNat fun _ => zs.map .v)
    | none => (False, .any))
  | _, _, _ => (False, .any)
def opQ (P : Program) (ρ : Env) : Op → Prop × DV
  | .buildSlice t n parts => litP P ρ (slE P t) n parts.toList
  | .build t parts => bldP P ρ t parts.toList
  | .makeSlice t x y => mkP P (slE P t) (ev ρ x) (ev ρ y)
  | op => opP P ρ op
def prP (P : Program) (ρ : Env) (op : Op) (d : DV) : Prop :=
  match op with
  | .call ⟨.value f, args, _⟩ => gd (ev ρ f) ∧ gdL ρ args.toList ∧ ∃ g l, callee (un (ev ρ f)) (evL ρ args.toList) = some (g, l) ∧ hasBody P g = true ∧ PCall P ρ g l d
  | op => (opQ P ρ op).1 ∧ d = (opQ P ρ op).2
def effP (P : Program) (all : List Oper) (ρ : Env) (o : Oper) (d : DV) : Prop :=
  isOwn d = false ∧ (∀ k, o.dst = some k → isOwn (ρ k) = false) ∧
  match o.guard with
  | none => prP P ρ o.op d
  | some (j, want) => ∃ g d', gAt all ρ j want = some g ∧ d = .cond g d' ∧ isPl d' = true ∧ (g = true → prP P ρ o.op d')
section
variable {P : Program} {nt : Nat} {ρ : Env}
theorem isOwn_of_pl {d : DV} (h : isPl d = true) : isOwn d = false := by cases d <;> first | rfl | (cases h)
theorem ow_prP {ops : Array Oper} {o : Oper} {d : DV} {K : Env → Prop} (hg : o.guard = none) (ho : opsOk nt o = true) (hd : dstOk nt o = true) (hi : isOwn d = false) (hdst : o.dst.isSome = true) (h : prP P ρ o.op d) (hK : K (putD ρ o.dst d)) : OW P nt ops o K ρ := by
  obtain ⟨k, hk⟩ := Option.isSome_iff_exists.1 hdst
  have hkn : k < nt := by unfold dstOk at hd; rw [hk] at hd; simpa using hd
  have gen : (∀ t n parts, o.op ≠ .buildSlice t n parts) → (opP P ρ o.op).1 ∧ d = (opP P ρ o.op).2 → OW P nt ops o K ρ := fun _ h => ow_pure hg ho hd h.1 (by rw [← h.2]; exact hK)
  cases hop : o.op with
  | call c =>
    obtain ⟨cl, args, ts⟩ := c
    rw [hop] at h
    cases cl with
    | value f =>
      obtain ⟨h1, h2, g, l, h3, h4, h5⟩ := h
      refine ow_call (t := ⟨⟩) hop hg hk hkn ho h1 ((gdL_iff ρ _).1 h2) h3 h4 ⟨_, h5, ?_⟩
      rintro O' r ⟨rfl, rfl⟩
      refine ⟨?_, ?_⟩
      · intro h; rw [hi] at h; cases h
      · rw [hk] at hK
        unfold putR
        rw [if_neg (by simp [hi])]
        exact hK
    | _ => exact gen (by simp [hop]) (by rw [hop]; exact h)
  | buildSlice t n parts =>
    rw [hop] at h
    obtain ⟨h1, rfl⟩ := h
    simp only [opQ] at h1 hK
    unfold litP at h1 hK
    split at h1
    · rename_i e z by_ hs
      rw [hs] at hK
      split at h1
      · rename_i hn0
        simp only [if_pos hn0] at hK
        have h1 : parts.toList = [] := h1
        obtain rfl : parts = #[] := by apply Array.ext'; simpa using h1
        subst hn0
        exact ow_litE hop hg hk hd hs (by rw [hk] at hK; exact hK)
      rename_i hn0
      simp only [if_neg hn0] at hK
      obtain ⟨q1, q2, q3, q4, q5, q6⟩ := h1
      obtain ⟨zs, hz⟩ := Option.isSome_iff_exists.1 q1
      rw [hk] at hK
      exact ow_lit hop hg hk hkn ho hs hz q2 q3 q4 q5 q6 hK
    · exact h1.elim
  | build t parts =>
    rw [hop] at h
    obtain ⟨h1, rfl⟩ := h
    exact ow_build hop hg ho hd h1 hK
  | makeSlice t x y =>
    rw [hop] at h
    obtain ⟨h1, rfl⟩ := h
    simp only [opQ] at h1 hK
    unfold mkP at h1 hK
    split at h1
    · rename_i e z by_ k' n k'' c hs hx hy
      split at h1
      · rename_i zs hz
        rw [hs, hx, hy] at hK
        simp only [hz] at hK
        obtain ⟨q1, q2, q3, q4, q5⟩ := h1
        rw [hk] at hK
        exact ow_mkS hop hg hk hkn ho hx hy hs hz q1 q2 q3 q4 q5 hK
      · exact h1.elim
    · exact h1.elim
  | _ => exact gen (by simp [hop]) (by rw [hop]; rw [hop] at h; exact h)
/-! ## What an operation looks at -/
def unread (k : Nat) (op : Op) : Prop := ∀ x ∈ op.operands, x ≠ .tmp k
theorem ev_unread {k : Nat} {u : DV} {x : Operand} (h : x ≠ .tmp k) : ev (set ρ k u) x = ev ρ x := by
  cases x with
  | tmp t =>
    have : t ≠ k := fun e => h (by rw [e])
    rw [ev_tmp, ev_tmp, set_apply, if_neg this]
  | _ => rfl
theorem loadB_own {ld : Option Nat} {off : Nat} {c : DV} (h : isOwn c = false) : loadB ld off c = (False, .any) := by cases c <;> first | rfl | (cases h)
theorem loadR_own {ld : Option Nat} {z i off : Nat} {c : DV} (h : isOwn c = false) : loadR ld z i off c = (False, .any) := by cases c <;> first | rfl | (cases h)
theorem loadP_set {k : Nat} {u : DV} (hu : isOwn u = false) (hk : isOwn (ρ k) = false) (ld : Option (Option Nat)) (d : DV) : loadP (set ρ k u) ld d = loadP ρ ld d := by
  unfold loadP
  cases ld with
  | none => rfl
  | some ld =>
    cases d <;> try rfl
    · rename_i s off
      simp only [set_apply]
      split
      · rename_i e; subst e; rw [loadB_own hu, loadB_own hk]
      · rfl
    · rename_i s z i off
      simp only [set_apply]
      split
      · rename_i e; subst e; rw [loadR_own hu, loadR_own hk]
      · rfl
theorem row_set {k s : Nat} {u : DV} (hu : isOwn u = false) (hk : isOwn (ρ k) = false) (e : TypeId) (z : Nat) (xs : List (List DV)) : (set ρ k u s = .row e z xs) = (ρ s = .row e z xs) := by
  rw [set_apply]
  split
  · rename_i h
    subst h
    apply propext
    constructor
    · intro h; rw [h] at hu; cases hu
    · intro h; rw [h] at hk; cases hk
  · rfl
theorem idxP_set {k : Nat} {u : DV} (hu : isOwn u = false) (hk : isOwn (ρ k) = false) (el : Option (Option Nat × Nat)) (d i : DV) : idxP (set ρ k u) el d i = idxP ρ el d i := by
  unfold idxP
  simp only [row_set hu hk]
theorem subP_set {k : Nat} {u : DV} (hu : isOwn u = false) (hk : isOwn (ρ k) = false) (el : Option (Option Nat × Nat)) (t : Nat) (d : DV) (lo hi : Option DV) : subP (set ρ k u) el t d lo hi = subP ρ el t d lo hi := by
  unfold subP
  simp only [row_set hu hk]
theorem gdL_set {k : Nat} {u : DV} : ∀ {l : List Operand}, (∀ x ∈ l, x ≠ .tmp k) → gdL (set ρ k u) l = gdL ρ l
  | [], _ => rfl
  | x :: l, h => by
    have h1 := ev_unread (ρ := ρ) (u := u) (h x (by simp))
    have h2 := gdL_set (k := k) (u := u) (l := l) fun y hy => h y (by simp [hy])
    simp only [gdL, h1, h2]
theorem evL_set {k : Nat} {u : DV} {l : List Operand} (h : ∀ x ∈ l, x ≠ .tmp k) : evL (set ρ k u) l = evL ρ l := by
  unfold evL
  apply List.map_congr_left
  intro x hx
  rw [ev_unread (h x hx)]
theorem bsOk_set {k z : Nat} {u : DV} : ∀ {l : List (Nat × Operand)} {m : Nat}, (∀ p ∈ l, p.2 ≠ .tmp k) → bsOk (set ρ k u) z m l = bsOk ρ z m l
  | [], _, _ => rfl
  | p :: l, m, h => by
    have h1 := ev_unread (ρ := ρ) (u := u) (h p (by simp))
    have h2 := bsOk_set (z := z) (k := k) (u := u) (l := l) (m := m + 1) fun y hy => h y (by simp [hy])
    simp only [bsOk, h1, h2]
theorem bsL_set {k : Nat} {u : DV} {l : List (Nat × Operand)} (h : ∀ p ∈ l, p.2 ≠ .tmp k) : bsL (set ρ k u) l = bsL ρ l := by
  unfold bsL
  apply List.map_congr_left
  intro p hp
  rw [ev_unread (h p hp)]
theorem bldGo_set {k : Nat} {t : TypeId} {u : DV} : ∀ {l : List (Nat × Operand)} {cs : List DV}, (∀ p ∈ l, p.2 ≠ .tmp k) → bldGo P (set ρ k u) t l cs = bldGo P ρ t l cs
  | [], _, _ => rfl
  | p :: l, cs, h => by
    have h1 := ev_unread (ρ := ρ) (u := u) (h p (by simp))
    have h2 := fun cs => bldGo_set (k := k) (t := t) (u := u) (l := l) (cs := cs) fun y hy => h y (by simp [hy])
    unfold bldGo
    simp only [h1, h2]
theorem bltP_set {k : Nat} {u : DV} {b : Builtin} {l : List Operand} {ts : List TypeId} (h : ∀ x ∈ l, x ≠ .tmp k) : bltP P (set ρ k u) b l ts = bltP P ρ b l ts := by
  unfold bltP
  split
  · rename_i x t; rw [ev_unread (h x (by simp))]
  · rename_i x y; rw [ev_unread (h x (by simp)), ev_unread (h y (by simp))]
  · rename_i x y; rw [ev_unread (h x (by simp)), ev_unread (h y (by simp))]
  · rfl
theorem opQ_set {k : Nat} {u : DV} (hu : isOwn u = false) (hk : isOwn (ρ k) = false) {op : Op} (h : unread k op) : opQ P (set ρ k u) op = opQ P ρ op := by
  have hx : ∀ x ∈ op.operands, ev (set ρ k u) x = ev ρ x := fun x hx => ev_unread (h x hx)
  cases op with
  | buildSlice t n parts =>
    have hp : ∀ p ∈ parts.toList, p.2 ≠ .tmp k := fun p hp => h p.2 (by simp [Op.operands]; exact ⟨p.1, by simpa using hp⟩)
    simp only [opQ, litP, bsOk_set hp, bsL_set hp]
  | build t parts =>
    have hp : ∀ p ∈ parts.toList, p.2 ≠ .tmp k := fun p hp => h p.2 (by simp [Op.operands]; exact ⟨p.1, by simpa using hp⟩)
    simp only [opQ, bldP, bldGo_set hp]
  | makeSlice t x y => simp only [opQ, hx x (by simp [Op.operands]), hx y (by simp [Op.operands])]
  | move x => simp only [opQ, opP, hx x (by simp [Op.operands])]
  | assign x => simp only [opQ, opP, hx x (by simp [Op.operands])]
  | pick c a b => simp only [opQ, opP, hx c (by simp [Op.operands]), hx a (by simp [Op.operands]), hx b (by simp [Op.operands])]
  | load t x => simp only [opQ, opP, hx x (by simp [Op.operands]), loadP_set hu hk]
  | nilCheck x => simp only [opQ, opP, hx x (by simp [Op.operands])]
  | binOp op t x y t' => simp only [opQ, opP, hx x (by simp [Op.operands]), hx y (by simp [Op.operands])]
  | unOp op t x => simp only [opQ, opP, hx x (by simp [Op.operands])]
  | convert s t x => simp only [opQ, opP, hx x (by simp [Op.operands])]
  | fieldAddr s x f => simp only [opQ, opP, hx x (by simp [Op.operands])]
  | indexAddr t x i => simp only [opQ, opP, hx x (by simp [Op.operands]), hx i (by simp [Op.operands]), idxP_set hu hk]
  | index t x i => simp only [opQ, opP, hx x (by simp [Op.operands]), hx i (by simp [Op.operands])]
  | slice t x lo hi mx =>
    cases mx with
    | some m => rfl
    | none =>
      have hlo : lo.map (fun y => un (ev (set ρ k u) y)) = lo.map fun y => un (ev ρ y) := by
        cases lo with
        | none => rfl
        | some y => simp [hx y (by simp [Op.operands])]
      have hhi : hi.map (fun y => un (ev (set ρ k u) y)) = hi.map fun y => un (ev ρ y) := by
        cases hi with
        | none => rfl
        | some y => simp [hx y (by simp [Op.operands])]
      have glo : (∀ y ∈ lo, gd (ev (set ρ k u) y)) = ∀ y ∈ lo, gd (ev ρ y) := by
        cases lo with
        | none => simp
        | some y => simp [hx y (by simp [Op.operands])]
      have ghi : (∀ y ∈ hi, gd (ev (set ρ k u) y)) = ∀ y ∈ hi, gd (ev ρ y) := by
        cases hi with
        | none => simp
        | some y => simp [hx y (by simp [Op.operands])]
      simp only [opQ, opP, hx x (by simp [Op.operands]), hlo, hhi, glo, ghi, subP_set hu hk]
  | extract x i => simp only [opQ, opP, hx x (by simp [Op.operands])]
  | makeFunc fn first captured =>
    cases fn with
    | func f =>
      have h1 : ∀ x ∈ first.toList, ev (set ρ k u) x = ev ρ x := fun x hx' => hx x (by simp [Op.operands]; exact .inl (by simpa using hx'))
      have h2 : ∀ x ∈ captured.toList, ev (set ρ k u) x = ev ρ x := fun x hx' => hx x (by simp [Op.operands]; exact .inr (by simpa using hx'))
      have e1 : (first.toList.map fun x => un (ev (set ρ k u) x)) = first.toList.map fun x => un (ev ρ x) := List.map_congr_left fun x hx' => by rw [h1 x hx']
      have e2 : (captured.toList.map fun x => un (ev (set ρ k u) x)) = captured.toList.map fun x => un (ev ρ x) := List.map_congr_left fun x hx' => by rw [h2 x hx']
      have g1 : (∀ x ∈ first.toList, gd (ev (set ρ k u) x)) = ∀ x ∈ first.toList, gd (ev ρ x) := propext ⟨fun g x hx' => by rw [← h1 x hx']; exact g x hx', fun g x hx' => by rw [h1 x hx']; exact g x hx'⟩
      have g2 : (∀ x ∈ captured.toList, gd (ev (set ρ k u) x)) = ∀ x ∈ captured.toList, gd (ev ρ x) := propext ⟨fun g x hx' => by rw [← h2 x hx']; exact g x hx', fun g x hx' => by rw [h2 x hx']; exact g x hx'⟩
      simp only [opQ, opP, fnP, e1, e2, g1, g2]
    | _ => rfl
  | call c =>
    obtain ⟨cl, args, ts⟩ := c
    cases cl with
    | builtin b =>
      have hb : ∀ x ∈ args.toList, x ≠ .tmp k := fun x hx' => h x (by simp [Op.operands, Call.operands]; simpa using hx')
      simp only [opQ, opP, callP, bltP_set hb]
    | _ => rfl
  | _ => rfl
theorem PCall.set {k : Nat} {u : DV} (hu : isOwn u = false) (hk : isOwn (ρ k) = false) {f : FuncId} {l : List DV} {d : DV} (h : PCall P ρ f l d) : PCall P (Sg.set ρ k u) f l d := by
  have key : ∀ w I A, OSim w I A (Sg.set ρ k u) ↔ OSim w I A ρ := fun w I A => by
    have : ∀ s, OwnRel w I A s (Sg.set ρ k u s) ↔ OwnRel w I A s (ρ s) := fun s => by
      rw [set_apply]
      split
      · rename_i e
        subst e
        exact ⟨fun _ => .ofPure hk, fun _ => .ofPure hu⟩
      · exact Iff.rfl
    exact ⟨fun h => ⟨fun s => (this s).1 (h.own s), h.inj, h.sep, h.imm⟩, fun h => ⟨fun s => (this s).2 (h.own s), h.inj, h.sep, h.imm⟩⟩
  intro w I A vals h1 h2 h3
  refine (h w I A vals ((key w I A).1 h1) h2 h3).mono ?_
  rintro e w' ⟨v, I', O', r, k1, k2, k3, k4, k5, k6, rfl, rfl⟩
  exact ⟨v, I', _, r, k1, (key w' I' A).2 k2, fun s => frOk.refl _, fun s h => h, k5, k6, rfl, rfl⟩
theorem set_back {k : Nat} {u : DV} : Sg.set (Sg.set ρ k u) k (ρ k) = ρ := by
  funext i
  rw [set_apply, set_apply]
  split
  · rename_i e; rw [e]
  · rfl
theorem prP_set {k : Nat} {u : DV} (hu : isOwn u = false) (hk : isOwn (ρ k) = false) {op : Op} {d : DV} (h : unread k op) (hp : prP P ρ op d) : prP P (set ρ k u) op d := by
  have gen : (opQ P ρ op).1 ∧ d = (opQ P ρ op).2 → (opQ P (set ρ k u) op).1 ∧ d = (opQ P (set ρ k u) op).2 := by rw [opQ_set hu hk h]; exact id
  cases op with
  | call c =>
    obtain ⟨cl, args, ts⟩ := c
    cases cl with
    | value f =>
      obtain ⟨h1, h2, g, l, h3, h4, h5⟩ := hp
      have hf : ev (set ρ k u) f = ev ρ f := ev_unread (h f (by simp [Op.operands, Call.operands]))
      have ha : ∀ x ∈ args.toList, x ≠ .tmp k := fun x hx => h x (by simp [Op.operands, Call.operands]; exact .inr (by simpa using hx))
      refine ⟨by rw [hf]; exact h1, by rw [gdL_set ha]; exact h2, g, l, by rw [hf, evL_set ha]; exact h3, h4, h5.set hu hk⟩
    | _ => exact gen hp
  | _ => exact gen hp
theorem gAt_set {all : List Oper} {k j : Nat} {want : Bool} {u : DV} (h : ∀ o, all[j]? = some o → o.dst ≠ some k) : gAt all (set ρ k u) j want = gAt all ρ j want := by
  unfold gAt
  cases ho : all[j]? with
  | none => rfl
  | some o =>
    simp only
    cases hd : o.dst with
    | none => rfl
    | some d =>
      have : d ≠ k := fun e => h o ho (by rw [hd, e])
      simp only [set_apply, if_neg this]
theorem ow_effP {l : List Oper} {o : Oper} {d : DV} {K : Env → Prop} (hall : l.all (dstOk nt) = true) (ho : opsOk nt o = true) (hd : dstOk nt o = true) (hdst : o.dst.isSome = true) (h : effP P l ρ o d) (hK : K (putD ρ o.dst d)) : OW P nt l.toArray o K ρ := by
  obtain ⟨h1, h2, h3⟩ := h
  cases hg : o.guard with
  | none => rw [hg] at h3; exact ow_prP hg ho hd h1 hdst h3 hK
  | some jw =>
    obtain ⟨j, want⟩ := jw
    rw [hg] at h3
    obtain ⟨g, d', k1, rfl, k3, k4⟩ := h3
    obtain ⟨k, hk⟩ := Option.isSome_iff_exists.1 hdst
    have hkn : k < nt := by unfold dstOk at hd; rw [hk] at hd; simpa using hd
    intro ro ds I A a w hs hdf next Q' hn
    rw [gAt_sound hs hg hall k1]
    cases g with
    | true =>
      rw [if_pos rfl]
      have := ow_prP (P := P) (nt := nt) (ρ := ρ) (ops := l.toArray) (o := { o with guard := none }) (d := d') (K := fun ρ' => ρ' = putD ρ o.dst d') rfl ho hd (isOwn_of_pl k3) hdst (k4 rfl) rfl ro ds I A a w hs hdf next Q'
        (fun I' A' a' w' ρ' q1 q2 q3 q4 => by
          subst q4
          refine hn I' A' a' w' (putD ρ o.dst (.cond true d')) ?_ q2 q3 hK
          rw [hk] at q1 ⊢
          refine ⟨⟨fun s => ?_, q1.osim.inj, q1.osim.sep, q1.osim.imm⟩, q1.size, q1.bound, fun i hi => ?_, fun s hs' => ?_⟩
          · have := q1.osim.own s
            simp only [putD_some, set_apply] at this ⊢
            split
            · trivial
            · rename_i e; rw [if_neg e] at this; exact this
          · have := q1.slot i hi
            simp only [putD_some, set_apply] at this ⊢
            split
            · rename_i e
              rw [if_pos e] at this
              refine ⟨fun _ => ?_, fun h => by cases h⟩
              exact SlotRel.rel this k3
            · rename_i e; rw [if_neg e] at this; exact this
          · have := q1.out s hs'
            simp only [putD_some, set_apply] at this ⊢
            split
            · rename_i e; exact absurd (Nat.lt_of_lt_of_le hkn q1.bound) (by rw [← e]; exact Nat.not_lt.2 hs')
            · rename_i e; rw [if_neg e] at this; exact this)
      rw [if_pos (by simp [Region.wanted])] at this
      exact this
    | false =>
      rw [if_neg (by simp)]
      rw [hk]
      exact ⟨fun _ _ => trivial, hn I A _ w _ (hs.put (v := .cond false d') hkn ⟨(fun h => by cases h), fun _ => rfl⟩ trivial) (by rw [put_defers]; exact hdf) (Ext.refl _ _ _) (by rw [hk] at hK; exact hK)⟩
theorem looks_unread {ops : Array Oper} {o : Oper} {k : Nat} (h : k ∉ o.looksAt ops) : unread k o.op := fun x hx e => by
  subst e
  apply h
  unfold Oper.looksAt
  simp only [List.mem_append, List.mem_filterMap]
  exact .inl ⟨.tmp k, by simpa using hx, rfl⟩
theorem looks_guard {l : List Oper} {o : Oper} {k j : Nat} {want : Bool} (h : k ∉ o.looksAt l.toArray) (hg : o.guard = some (j, want)) : ∀ q, l[j]? = some q → q.dst ≠ some k := fun q hq e => by
  apply h
  unfold Oper.looksAt
  simp only [hg, List.mem_append]
  refine .inr ?_
  simp [hq, e]
theorem effP_set {l : List Oper} {o : Oper} {d u : DV} {k : Nat} (hu : isOwn u = false) (hk : isOwn (ρ k) = false) (hl : k ∉ o.looksAt l.toArray) (hne : o.dst ≠ some k) (h : effP P l ρ o d) : effP P l (set ρ k u) o d := by
  obtain ⟨h1, h2, h3⟩ := h
  refine ⟨h1, fun m hm => ?_, ?_⟩
  · have : m ≠ k := fun e => hne (by rw [hm, e])
    rw [set_apply, if_neg this]
    exact h2 m hm
  · cases hg : o.guard with
    | none => rw [hg] at h3; exact prP_set hu hk (looks_unread hl) h3
    | some jw =>
      obtain ⟨j, want⟩ := jw
      rw [hg] at h3
      obtain ⟨g, d', k1, k2, k3, k4⟩ := h3
      exact ⟨g, d', by rw [gAt_set (looks_guard hl hg)]; exact k1, k2, k3, fun hgt => prP_set hu hk (looks_unread hl) (k4 hgt)⟩
/-! ## Whatever order -/
def sE (P : Program) (nt : Nat) (l : List Oper) (i : Nat) (K : Env → Prop) (ρ : Env) : Prop :=
  match l[i]? with
  | none => K ρ
  | some o => if pureOp o.op && o.dst.isSome then ∃ d, effP P l ρ o d ∧ K (putD ρ o.dst d) else OW P nt l.toArray o K ρ
theorem sE_mono {l : List Oper} {i : Nat} {K K' : Env → Prop} (h : ∀ ρ, K ρ → K' ρ) (hh : sE P nt l i K ρ) : sE P nt l i K' ρ := by
  unfold sE at *
  split
  · rename_i hi; rw [hi] at hh; exact h _ hh
  · rename_i o hi
    rw [hi] at hh
    simp only at hh
    split
    · rename_i hp; rw [if_pos hp] at hh; obtain ⟨d, h1, h2⟩ := hh; exact ⟨d, h1, h _ h2⟩
    · rename_i hp; rw [if_neg hp] at hh; exact hh.mono h
def anyE (P : Program) (nt : Nat) (l : List Oper) (k : Env → Prop) : Nat → Array Bool → Env → Prop
  | 0, listed, ρ => Region.ready .any l.toArray listed = [] ∧ k ρ
  | fuel + 1, listed, ρ => (Region.ready .any l.toArray listed = [] → k ρ) ∧ ∀ i ∈ Region.ready .any l.toArray listed, sE P nt l i (anyE P nt l k fuel (listed.setIfInBounds i true)) ρ
def regOk (nt : Nat) (l : List Oper) : Bool := l.all fun o => opsOk nt o && dstOk nt o
theorem regOk_dst {l : List Oper} (h : regOk nt l = true) : l.all (dstOk nt) = true := by
  unfold regOk at h
  rw [List.all_eq_true] at h ⊢
  exact fun o ho => by have := h o ho; simp at this; exact this.2
theorem regOk_get {l : List Oper} (h : regOk nt l = true) {i : Nat} {o : Oper} (hi : l[i]? = some o) : opsOk nt o = true ∧ dstOk nt o = true := by
  unfold regOk at h
  rw [List.all_eq_true] at h
  have := h o (List.mem_of_getElem? hi)
  simpa using this
theorem any_sound {ro : Option Nat} {ds : List Deferred} {l : List Oper} {k : Env → Prop} {Q' : Exit → Act → World → Prop} (hr : regOk nt l = true) : ∀ (fuel : Nat) (listed : Array Bool) (ρ : Env) (I : Nat → Prop) (A : Own) (a : Act) (w : World),
    anyE P nt l k fuel listed ρ → Sim nt w I A ρ a → a.defers = ds →
    (∀ I' A' a' w' ρ', Sim nt w' I' A' ρ' a' → a'.defers = ds → Ext w I A w' I' A' → k ρ' → Q' .normal a' w') → wpAnyIn (FR ro) 0 P .any l.toArray Q' fuel listed a w
  | 0, listed, ρ, I, A, a, w, h, hs, hd, hk => ⟨h.1, hk I A a w ρ hs hd (Ext.refl _ _ _) h.2⟩
  | fuel + 1, listed, ρ, I, A, a, w, h, hs, hd, hk => by
    refine ⟨fun h0 => hk I A a w ρ hs hd (Ext.refl _ _ _) (h.1 h0), fun i hi => ?_⟩
    have h2 := h.2 i hi
    have rec_ : ∀ I' A' a' w' ρ', Sim nt w' I' A' ρ' a' → a'.defers = ds → Ext w I A w' I' A' → anyE P nt l k fuel (listed.setIfInBounds i true) ρ' → wpAnyIn (FR ro) 0 P .any l.toArray Q' fuel (listed.setIfInBounds i true) a' w' :=
      fun I' A' a' w' ρ' q1 q2 q3 q4 => any_sound hr fuel _ ρ' I' A' a' w' q4 q1 q2 fun I2 A2 a2 w2 ρ2 k1 k2 k3 k4 => hk I2 A2 a2 w2 ρ2 k1 k2 (q3.trans k3) k4
    unfold wpOpIn
    unfold sE at h2
    simp only [List.getElem?_toArray]
    split
    · rename_i ho
      rw [ho] at h2
      exact rec_ I A a w ρ hs hd (Ext.refl _ _ _) h2
    · rename_i o ho
      rw [ho] at h2
      have hOW : OW P nt l.toArray o (anyE P nt l k fuel (listed.setIfInBounds i true)) ρ := by
        simp only at h2
        split at h2
        · rename_i hp
          obtain ⟨d, k1, k2⟩ := h2
          simp only [Bool.and_eq_true] at hp
          exact ow_effP (regOk_dst hr) (regOk_get hr ho).1 (regOk_get hr ho).2 hp.2 k1 k2
        · exact h2
      have := hOW ro ds I A a w hs hd (wpAnyIn (FR ro) 0 P .any l.toArray Q' fuel (listed.setIfInBounds i true)) Q' rec_
      split at this
      · rename_i hw; rw [if_pos hw]; exact this
      · rename_i hw; rw [if_neg hw]; exact this
theorem sE_put {l : List Oper} {j : Nat} {oi oj : Oper} {d : DV} (hj : l[j]? = some oj) (hpj : (pureOp oj.op && oj.dst.isSome) = true) {ki : Nat} (hki : oi.dst = some ki) (hap : oi.apart l.toArray oj = true) {K : Env → Prop}
    (hy : effP P l ρ oi d) (h : sE P nt l j K (putD ρ oi.dst d)) : sE P nt l j (fun ρ' => effP P l ρ' oi d ∧ K (putD ρ' oi.dst d)) ρ := by
  obtain ⟨h1, h2, h3⟩ := Oper.apart_spec hap
  unfold sE at h ⊢
  rw [hj] at h ⊢
  simp only [hpj, if_true] at h ⊢
  obtain ⟨u, k1, k2⟩ := h
  simp only [Bool.and_eq_true] at hpj
  obtain ⟨kj, hkj⟩ := Option.isSome_iff_exists.1 hpj.2
  have hne : kj ≠ ki := fun e => h2 ki hki (by rw [hkj, e])
  have hdi : isOwn d = false := hy.1
  have hui : isOwn u = false := k1.1
  have hρi : isOwn (ρ ki) = false := hy.2.1 ki hki
  have hρj : isOwn (ρ kj) = false := by
    have := k1.2.1 kj hkj
    rw [hki, putD_some, set_apply, if_neg hne] at this
    exact this
  refine ⟨u, ?_, ?_, ?_⟩
  · have := effP_set (ρ := putD ρ oi.dst d) (k := ki) (u := ρ ki) hρi (by rw [hki, putD_some, set_apply, if_pos rfl]; exact hdi) (h1 ki hki) (fun e => hne (by rw [hkj] at e; cases e; rfl)) k1
    rw [hki, putD_some, set_back] at this
    exact this
  · rw [hkj, putD_some]
    exact effP_set hui hρj (h3 kj hkj) (fun e => hne (by rw [hki] at e; cases e; rfl)) hy
  · rw [hki, hkj] at k2
    rw [hki, hkj]
    have : putD (putD ρ (some kj) u) (some ki) d = putD (putD ρ (some ki) d) (some kj) u := by
      funext i
      simp only [putD_some, set_apply]
      by_cases e1 : i = ki
      · rw [if_pos e1, if_neg (by rw [e1]; exact fun e => hne e.symm), if_pos e1]
      · simp only [if_neg e1]
    rw [this]
    exact k2
def freeE (l : List Oper) (listed : Array Bool) (i : Nat) : Bool :=
  match l[i]? with
  | none => false
  | some oi => pureOp oi.op && oi.dst.isSome && (List.range l.length).all fun j =>
    j == i || listed.getD j true || match l[j]? with
      | none => true
      | some oj => oj.after.any (fun e => Region.binds .any e && e.on == i) || (pureOp oj.op && oj.dst.isSome && oi.apart l.toArray oj)
def lexE (l : List Oper) : Nat → Nat → Array Bool → Bool
  | 0, _, listed => (Region.ready .any l.toArray listed).isEmpty
  | fuel + 1, i, listed => ((Region.ready .any l.toArray listed).contains i && freeE l listed i || Region.ready .any l.toArray listed == [i]) && lexE l fuel (i + 1) (listed.setIfInBounds i true)
theorem anyE_first {l : List Oper} {k : Env → Prop} {i : Nat} {oi : Oper} {d : DV} (hi : l[i]? = some oi) (hpi : (pureOp oi.op && oi.dst.isSome) = true) :
    ∀ (fuel : Nat) (listed : Array Bool) (ρ : Env),
      (∀ j oj, l[j]? = some oj → j ≠ i → listed.getD j true = false → (∀ e ∈ oj.after, Region.binds .any e = true → e.on ≠ i) → (pureOp oj.op && oj.dst.isSome) = true ∧ oi.apart l.toArray oj = true) →
      i ∈ Region.ready .any l.toArray listed → effP P l ρ oi d → anyE P nt l k fuel (listed.setIfInBounds i true) (putD ρ oi.dst d) → anyE P nt l k (fuel + 1) listed ρ := by
  obtain ⟨ki, hki⟩ := Option.isSome_iff_exists.1 (by simp only [Bool.and_eq_true] at hpi; exact hpi.2)
  have take : ∀ {K : Env → Prop} {ρ : Env}, effP P l ρ oi d → K (putD ρ oi.dst d) → sE P nt l i K ρ := fun h1 h2 => by
    unfold sE
    rw [hi]
    simp only [hpi, if_true]
    exact ⟨d, h1, h2⟩
  intro fuel
  induction fuel with
  | zero =>
    intro listed ρ _ hr hy H
    refine ⟨fun h => (by rw [h] at hr; cases hr), fun j hj => ?_⟩
    by_cases hji : j = i
    · subst hji; exact take hy H
    · have := ready_mono hj hji
      rw [H.1] at this
      cases this
  | succ fuel ih =>
    intro listed ρ hfree hr hy H
    refine ⟨fun h => (by rw [h] at hr; cases hr), fun j hj => ?_⟩
    by_cases hji : j = i
    · subst hji; exact take hy H
    · have h1 := H.2 j (ready_mono hj hji)
      obtain ⟨hjun, oj, hoj, hall⟩ := mem_ready.1 hj
      have hoj' : l[j]? = some oj := by simpa using hoj
      have hnot : ∀ e ∈ oj.after, Region.binds .any e = true → e.on ≠ i := fun e he hb heq => by
        have h1 := hall e he hb
        have h0 := (mem_ready.1 hr).1
        rw [heq] at h1
        rcases Nat.lt_or_ge i listed.size with h' | h'
        · simp [h'] at h0 h1; rw [h0] at h1; cases h1
        · simp [Array.getElem?_eq_none h'] at h1
      obtain ⟨hpj, hap⟩ := hfree j oj hoj' hji hjun hnot
      have h2 := sE_put hoj' hpj hki hap hy h1
      have hfree' : ∀ m om, l[m]? = some om → m ≠ i → (listed.setIfInBounds j true).getD m true = false → (∀ e ∈ om.after, Region.binds .any e = true → e.on ≠ i) → (pureOp om.op && om.dst.isSome) = true ∧ oi.apart l.toArray om = true := fun m om hm hmi hun hno => by
        refine hfree m om hm hmi ?_ hno
        by_cases hjm : j = m
        · subst hjm; exact hjun
        · rw [getD_set_ne true hjm] at hun; exact hun
      refine sE_mono (fun ρ' h3 => ih (listed.setIfInBounds j true) ρ' hfree' (ready_mono hr (Ne.symm hji)) h3.1 ?_) h2
      rw [Array.setIfInBounds_comm _ _ hji]
      exact h3.2
def lexW (P : Program) (nt : Nat) (l : List Oper) (k : Env → Prop) : List Oper → Env → Prop
  | [], ρ => k ρ
  | o :: os, ρ => if pureOp o.op && o.dst.isSome then ∃ d, effP P l ρ o d ∧ lexW P nt l k os (putD ρ o.dst d) else OW P nt l.toArray o (lexW P nt l k os) ρ
theorem freeE_spec {l : List Oper} {listed : Array Bool} {i : Nat} {oi : Oper} (hi : l[i]? = some oi) (h : freeE l listed i = true) : (pureOp oi.op && oi.dst.isSome) = true ∧
    ∀ j oj, l[j]? = some oj → j ≠ i → listed.getD j true = false → (∀ e ∈ oj.after, Region.binds .any e = true → e.on ≠ i) → (pureOp oj.op && oj.dst.isSome) = true ∧ oi.apart l.toArray oj = true := by
  unfold freeE at h
  rw [hi] at h
  simp only [Bool.and_eq_true, List.all_eq_true, List.mem_range, Bool.or_eq_true, beq_iff_eq] at h
  obtain ⟨h1, h2⟩ := h
  refine ⟨by simpa using h1, fun j oj hj hne hun hno => ?_⟩
  have hlt : j < l.length := by
    rcases Nat.lt_or_ge j l.length with h | h
    · exact h
    · rw [List.getElem?_eq_none h] at hj; cases hj
  rcases h2 j hlt with (h3 | h3) | h3
  · exact absurd h3 hne
  · rw [hun] at h3; cases h3
  · rw [hj] at h3
    simp only [Bool.or_eq_true, Array.any_eq_true', Bool.and_eq_true, beq_iff_eq] at h3
    rcases h3 with ⟨e, he, hb, hon⟩ | h3
    · exact absurd hon (hno e he hb)
    · exact ⟨by simpa using h3.1, h3.2⟩
theorem anyE_lex {l : List Oper} {k : Env → Prop} : ∀ (r : List Oper) (i : Nat) (listed : Array Bool) (ρ : Env), (∀ j, r[j]? = l[i + j]?) → lexE l r.length i listed = true → lexW P nt l k r ρ → anyE P nt l k r.length listed ρ
  | [], _, _, _, _, hB, h => ⟨by simpa [lexE] using hB, h⟩
  | o :: r, i, listed, ρ, hl, hB, h => by
    have h0 : l[i]? = some o := by simpa using (hl 0).symm
    have hl' : ∀ j, r[j]? = l[i + 1 + j]? := fun j => by have := hl (j + 1); simpa [Nat.add_assoc, Nat.add_comm 1 j] using this
    simp only [List.length_cons, lexE, Bool.and_eq_true, Bool.or_eq_true] at hB
    obtain ⟨hB1, hB2⟩ := hB
    rcases hB1 with ⟨hr, hf⟩ | hone
    · obtain ⟨hp, hfree⟩ := freeE_spec h0 hf
      unfold lexW at h
      rw [if_pos hp] at h
      obtain ⟨d, k1, k2⟩ := h
      exact anyE_first h0 hp r.length listed ρ hfree (by simpa using hr) k1 (anyE_lex r (i + 1) _ _ hl' hB2 k2)
    · have hone : Region.ready .any l.toArray listed = [i] := by simpa using hone
      refine ⟨fun h => (by rw [hone] at h; cases h), fun j hj => ?_⟩
      rw [hone] at hj
      obtain rfl : j = i := by simpa using hj
      unfold sE
      rw [h0]
      unfold lexW at h
      simp only
      split
      · rename_i hp
        rw [if_pos hp] at h
        obtain ⟨d, k1, k2⟩ := h
        exact ⟨d, k1, anyE_lex r (j + 1) _ _ hl' hB2 k2⟩
      · rename_i hp
        rw [if_neg hp] at h
        exact h.mono fun ρ' h' => anyE_lex r (j + 1) _ _ hl' hB2 h'
theorem aw_draw {id : Nat} {l : List Oper} {Q : Exit → Env → Prop} (hm : P.follows .mixedOrders = true) (hr : regOk nt l = true) (hB : lexE l l.length 0 (Array.replicate l.length false) = true)
    (h : lexW P nt l (Q .normal) l ρ) : AW P nt (.region id l.toArray true) Q ρ := by
  intro ro ds I A a w hs hd
  refine wpIn_region_any hm ?_
  have h1 := anyE_lex (P := P) (nt := nt) l 0 (Array.replicate l.length false) ρ (by simp) hB h
  have hgr : Grow w I w.drew I := ⟨rfl, ⟨rfl, Nat.le_succ _⟩, rfl, Nat.le_refl _, fun _ _ => rfl, fun _ h => h, fun _ h => .inl h⟩
  have := any_sound (ro := ro) (Q' := fun e a' w' => ∃ I' A' ρ', Sim nt w' I' A' ρ' a' ∧ a'.defers = ds ∧ Ext w I A w' I' A' ∧ Q e ρ') hr _ _ ρ I A a w.drew h1 (hs.grow hgr) hd
    fun I' A' a' w' ρ' q1 q2 q3 q4 => ⟨I', A', ρ', q1, q2, (hgr.ext hs.osim).trans q3, q4⟩
  simpa using this
end
end Go.Sg
set_option linter.unusedVariables false
set_option linter.unusedSimpArgs false
namespace Go.Sg
open Go.RowKit
open Go.Rv (FR)
/-! ## Kept slots -/
def hi (ρ : Env) : Env := fun i => if i < 100000 then .any else ρ i
def keepC : List Nat → Env → Env
  | [], ρ => hi ρ
  | l :: L, ρ => set (keepC L ρ) l (ρ l)
theorem keepC_nil (ρ : Env) : keepC [] ρ = hi ρ := rfl
theorem keepC_cons (l : Nat) (L : List Nat) (ρ : Env) : keepC (l :: L) ρ = set (keepC L ρ) l (ρ l) := rfl
theorem hi_set (ρ : Env) {d : Nat} (x : DV) (h : d < 100000) : hi (set ρ d x) = hi ρ := by
  funext i
  unfold hi
  split
  · rfl
  · rw [set_apply, if_neg (by omega)]
theorem hi_set' (ρ : Env) {d : Nat} (x : DV) (h : ¬ d < 100000) : hi (set ρ d x) = set (hi ρ) d x := by
  funext i
  unfold hi
  rw [set_apply, set_apply]
  by_cases e : i = d
  · subst e; rw [if_neg h, if_pos rfl, if_pos rfl]
  · rw [if_neg e, if_neg e]
theorem hi_kill (ρ : Env) (d : Nat) : hi (kill d ρ) = hi ρ := by
  funext i
  unfold hi
  split
  · rfl
  · rename_i h; rw [kill_apply, if_neg h]
theorem hi_outer (O : Env) : hi (outer O) = outer O := by
  funext i
  unfold hi
  split
  · rename_i h; rw [outer_lo O h]
  · rfl
theorem hi_hi (ρ : Env) : hi (hi ρ) = hi ρ := by
  funext i
  unfold hi
  split <;> rfl
theorem Le.hi (ρ : Env) : Le ρ (hi ρ) := fun s => by
  unfold Sg.hi; split
  · exact Wk.any _
  · exact Wk.refl _
theorem Le.keepC : ∀ (L : List Nat) (ρ : Env), Le ρ (keepC L ρ)
  | [], ρ => Le.hi ρ
  | l :: L, ρ => fun s => by
    rw [keepC_cons, set_apply]
    split
    · rename_i e; rw [e]; exact Wk.refl _
    · exact Le.keepC L ρ s
theorem outer_app (O : Env) {i : Nat} (h : i < 100000) : outer O i = .any := outer_lo O h
/-! ## Regions -/
def dstFree (ρ : Env) : Option Nat → Prop
  | some k => isOwn (ρ k) = false
  | none => True
def CallD (P : Program) (ρ : Env) (f : FuncId) (l : List DV) (k : DV → Prop) (_ : Tg k) : Prop := ∃ r, isOwn r = false ∧ PCall P ρ f l r ∧ k r
def CallC (P : Program) (ρ : Env) (g : Bool) (pre : Prop) (f : FuncId) (l : List DV) (k : DV → Prop) (_ : Tg k) : Prop := ∃ r, isPl r = true ∧ (g = true → pre ∧ PCall P ρ f l r) ∧ k r
def gcG (P : Program) (ρ : Env) (d : Option Nat) (g : Bool) (f : DV) (gs : Prop) (c : Option (FuncId × List DV)) (K : Env → Prop) : Prop :=
  match c, d with
  | some (fid, l), some k => CallC P ρ g (gd f ∧ gs ∧ hasBody P fid = true) fid l (fun r => K (set ρ k (.cond g r))) ⟨⟩
  | _, _ => False
def gdG (P : Program) (ρ : Env) (op : Op) (d : Option Nat) (g : Option Bool) (K : Env → Prop) : Prop :=
  match g with
  | none => False
  | some g => dstFree ρ d ∧ (match op with
    | .call c => (match c.callee with
      | .value f => gcG P ρ d g (ev ρ f) (gdL ρ c.args.toList) (callee (un (ev ρ f)) (evL ρ c.args.toList)) K
      | _ => (g = true → (opQ P ρ op).1) ∧ isPl (opQ P ρ op).2 = true ∧ K (putD ρ d (.cond g (opQ P ρ op).2)))
    | op => (g = true → (opQ P ρ op).1) ∧ isPl (opQ P ρ op).2 = true ∧ K (putD ρ d (.cond g (opQ P ρ op).2)))
def pcG (P : Program) (ρ : Env) (d : Option Nat) (c : Option (FuncId × List DV)) (K : Env → Prop) : Prop :=
  match c, d with
  | some (fid, l), some k => hasBody P fid = true ∧ CallD P ρ fid l (fun r => K (set ρ k r)) ⟨⟩
  | _, _ => False
def prG (P : Program) (ρ : Env) (op : Op) (d : Option Nat) (K : Env → Prop) : Prop :=
  dstFree ρ d ∧ (match op with
    | .call c => (match c.callee with
      | .value f => gd (ev ρ f) ∧ gdL ρ c.args.toList ∧ pcG P ρ d (callee (un (ev ρ f)) (evL ρ c.args.toList)) K
      | _ => (opQ P ρ op).1 ∧ isOwn (opQ P ρ op).2 = false ∧ K (putD ρ d (opQ P ρ op).2))
    | op => (opQ P ρ op).1 ∧ isOwn (opQ P ρ op).2 = false ∧ K (putD ρ d (opQ P ρ op).2))
def pwX (P : Program) (all : List Oper) (k : Env → Prop) : List Oper → Env → Prop
  | [], ρ => k ρ
  | o :: os, ρ => match o.guard with
    | none => effG P ρ o.op o.dst (pwX P all k os)
    | some (j, want) => gdG P ρ o.op o.dst (gAt all ρ j want) (pwX P all k os)
def pw (P : Program) (all : List Oper) (k : Env → Prop) (l : List Oper) (_ : Tg (all, k, l)) (ρ : Env) : Prop := pwX P all k l ρ
def pwDX (P : Program) (all : List Oper) (k : Env → Prop) : List Oper → Env → Prop
  | [], ρ => k ρ
  | o :: os, ρ => match o.guard with
    | none => (match pureOp o.op && o.dst.isSome with
      | true => prG P ρ o.op o.dst (pwDX P all k os)
      | false => effG P ρ o.op o.dst (pwDX P all k os))
    | some (j, want) => gdG P ρ o.op o.dst (gAt all ρ j want) (pwDX P all k os)
def pwD (P : Program) (all : List Oper) (k : Env → Prop) (l : List Oper) (_ : Tg (all, k, l)) (ρ : Env) : Prop := pwDX P all k l ρ
section
variable {P : Program} {nt : Nat} {ρ : Env}
def gOk (o : Oper) : Bool := o.guard.isNone || (pureOp o.op && o.dst.isSome)
theorem gdG_eff {all : List Oper} {o : Oper} {K : Env → Prop} {j : Nat} {want : Bool} (hg : o.guard = some (j, want)) (hp : (pureOp o.op && o.dst.isSome) = true) (h : gdG P ρ o.op o.dst (gAt all ρ j want) K) : ∃ d, effP P all ρ o d ∧ K (putD ρ o.dst d) := by
  unfold gdG at h
  split at h
  · exact h.elim
  · rename_i g hgj
    obtain ⟨h1, h2⟩ := h
    have hfree : ∀ k, o.dst = some k → isOwn (ρ k) = false := fun k hk => by rw [hk] at h1; exact h1
    have gen : (g = true → (opQ P ρ o.op).1) ∧ isPl (opQ P ρ o.op).2 = true ∧ K (putD ρ o.dst (.cond g (opQ P ρ o.op).2)) → (∀ f args ts, o.op ≠ .call ⟨.value f, args, ts⟩) → ∃ d, effP P all ρ o d ∧ K (putD ρ o.dst d) := by
      rintro ⟨k1, k2, k3⟩ hn
      refine ⟨_, ⟨rfl, hfree, ?_⟩, k3⟩
      rw [hg]
      refine ⟨g, _, hgj, rfl, k2, fun hgt => ?_⟩
      have := k1 hgt
      cases hop : o.op with
      | call c =>
        obtain ⟨cl, args, ts⟩ := c
        cases cl with
        | value f => exact absurd hop (hn f args ts)
        | _ => rw [hop] at this; exact ⟨this, rfl⟩
      | _ => rw [hop] at this; exact ⟨this, rfl⟩
    cases hop : o.op with
    | call c =>
      obtain ⟨cl, args, ts⟩ := c
      rw [hop] at h2
      cases cl with
      | value f =>
        have h2 : gcG P ρ o.dst g (ev ρ f) (gdL ρ args.toList) (callee (un (ev ρ f)) (evL ρ args.toList)) K := h2
        unfold gcG at h2
        split at h2
        · rename_i fid l k hc hk
          obtain ⟨r, r1, r2, r3⟩ := h2
          refine ⟨.cond g r, ⟨rfl, hfree, ?_⟩, by rw [hk]; exact r3⟩
          rw [hg]
          refine ⟨g, r, hgj, rfl, r1, fun hgt => ?_⟩
          rw [hop]
          obtain ⟨⟨q1, q2, q3⟩, q4⟩ := r2 hgt
          exact ⟨q1, q2, fid, l, hc, q3, q4⟩
        · exact h2.elim
      | _ => exact gen (by rw [hop]; exact h2) (by simp [hop])
    | _ => exact gen (by rw [hop]; rw [hop] at h2; exact h2) (by simp [hop])
theorem prG_eff {all : List Oper} {o : Oper} {K : Env → Prop} (hg : o.guard = none) (h : prG P ρ o.op o.dst K) : ∃ d, effP P all ρ o d ∧ K (putD ρ o.dst d) := by
  obtain ⟨h1, h2⟩ := h
  have hfree : ∀ k, o.dst = some k → isOwn (ρ k) = false := fun k hk => by rw [hk] at h1; exact h1
  have gen : (opQ P ρ o.op).1 ∧ isOwn (opQ P ρ o.op).2 = false ∧ K (putD ρ o.dst (opQ P ρ o.op).2) → (∀ f args ts, o.op ≠ .call ⟨.value f, args, ts⟩) → ∃ d, effP P all ρ o d ∧ K (putD ρ o.dst d) := by
    rintro ⟨k1, k2, k3⟩ hn
    refine ⟨_, ⟨k2, hfree, ?_⟩, k3⟩
    rw [hg]
    cases hop : o.op with
    | call c =>
      obtain ⟨cl, args, ts⟩ := c
      cases cl with
      | value f => exact absurd hop (hn f args ts)
      | _ => rw [hop] at k1; exact ⟨k1, rfl⟩
    | _ => rw [hop] at k1; exact ⟨k1, rfl⟩
  cases hop : o.op with
  | call c =>
    obtain ⟨cl, args, ts⟩ := c
    rw [hop] at h2
    cases cl with
    | value f =>
      obtain ⟨q1, q2, q3⟩ := h2
      unfold pcG at q3
      split at q3
      · rename_i fid l k hc hk
        obtain ⟨q3, r, r1, r2, r3⟩ := q3
        refine ⟨r, ⟨r1, hfree, ?_⟩, by rw [hk]; exact r3⟩
        rw [hg, hop]
        exact ⟨q1, q2, fid, l, hc, q3, r2⟩
      · exact q3.elim
    | _ => exact gen (by rw [hop]; exact h2) (by simp [hop])
  | _ => exact gen (by rw [hop]; rw [hop] at h2; exact h2) (by simp [hop])
theorem pw_rw {all : List Oper} {k : Env → Prop} (hr : regOk nt all = true) (hgo : all.all gOk = true) : ∀ (l : List Oper) (ρ : Env), (∀ o ∈ l, o ∈ all) → pwX P all k l ρ → RW P nt all.toArray k l ρ
  | [], ρ, _, h => h
  | o :: l, ρ, hm, h => by
    have hrec := fun ρ' => pw_rw (k := k) hr hgo l ρ' fun o' ho => hm o' (by simp [ho])
    obtain ⟨i, hi⟩ := List.getElem?_of_mem (hm o (by simp))
    obtain ⟨h1, h2⟩ := regOk_get hr hi
    unfold pwX at h
    unfold RW
    split at h
    · rename_i hg
      exact (effG_ok hg h1 h2 h).mono hrec
    · rename_i j want hg
      have hgk := List.all_eq_true.1 hgo o (hm o (by simp))
      unfold gOk at hgk
      rw [hg] at hgk
      simp only [Option.isNone_some, Bool.false_or] at hgk
      obtain ⟨d, k1, k2⟩ := gdG_eff hg hgk h
      simp only [Bool.and_eq_true] at hgk
      exact ow_effP (regOk_dst hr) h1 h2 hgk.2 k1 (hrec _ k2)
theorem pwD_lex {all : List Oper} {k : Env → Prop} (hr : regOk nt all = true) (hgo : all.all gOk = true) : ∀ (l : List Oper) (ρ : Env), (∀ o ∈ l, o ∈ all) → pwDX P all k l ρ → lexW P nt all k l ρ
  | [], ρ, _, h => h
  | o :: l, ρ, hm, h => by
    have hrec := fun ρ' => pwD_lex (k := k) hr hgo l ρ' fun o' ho => hm o' (by simp [ho])
    obtain ⟨i, hi⟩ := List.getElem?_of_mem (hm o (by simp))
    obtain ⟨h1, h2⟩ := regOk_get hr hi
    unfold pwDX at h
    unfold lexW
    split at h
    · rename_i hg
      split at h
      · rename_i hp
        rw [if_pos hp]
        obtain ⟨d, k1, k2⟩ := prG_eff (all := all) hg h
        exact ⟨d, k1, hrec _ k2⟩
      · rename_i hp
        rw [if_neg (by rw [hp]; simp)]
        exact (effG_ok hg h1 h2 h).mono hrec
    · rename_i j want hg
      have hgk := List.all_eq_true.1 hgo o (hm o (by simp))
      unfold gOk at hgk
      rw [hg] at hgk
      simp only [Option.isNone_some, Bool.false_or] at hgk
      obtain ⟨d, k1, k2⟩ := gdG_eff hg hgk h
      rw [if_pos hgk]
      exact ⟨d, k1, hrec _ k2⟩
def regOk2 (nt : Nat) (l : List Oper) : Bool := regOk nt l && l.all gOk
theorem aw_reg (L : List Nat) {id : Nat} {l : List Oper} {Q : Exit → Env → Prop} (hr : regOk2 nt l = true) (h : pw P l (Q .normal) l ⟨⟩ (keepC L ρ)) : AW P nt (.region id l.toArray false) Q ρ := by
  simp only [regOk2, Bool.and_eq_true] at hr
  exact aw_weaken (Le.keepC L ρ) (aw_region (pw_rw hr.1 hr.2 l _ (fun _ h => h) h))
theorem aw_regD (L : List Nat) {id : Nat} {l : List Oper} {Q : Exit → Env → Prop} (hm : P.follows .mixedOrders = true) (hr : (regOk2 nt l && lexE l l.length 0 (Array.replicate l.length false)) = true) (h : pwD P l (Q .normal) l ⟨⟩ (keepC L ρ)) : AW P nt (.region id l.toArray true) Q ρ := by
  simp only [regOk2, Bool.and_eq_true] at hr
  exact aw_weaken (Le.keepC L ρ) (aw_draw hm hr.1.1 hr.2 (pwD_lex hr.1.1 hr.1.2 l _ (fun _ h => h) h))
def clG : List (Nat × Nat) → (Env → Prop) → Env → Prop
  | [], K, ρ => K ρ
  | (d, t) :: l, K, ρ => match ρ d, ρ t with
    | .own s n, .row e z xs => s = t ∧ n = xs.length ∧ clG l K (set (kill d (set (kill t ρ) t .any)) d (killD d (killD t (.row e z xs))))
    | .bp s off, .bx cs => s = t ∧ off = 0 ∧ clG l K (set (kill d (set (kill t ρ) t .any)) d (killD d (killD t (.bx cs))))
    | _, _ => clG l K ρ
theorem Sim.claims : ∀ (cl : List (Nat × Nat)) {K : Env → Prop} {ρ : Env} {w : World} {I : Nat → Prop} {A : Own} {a : Act}, Sim nt w I A ρ a → (cl.all fun p => decide (p.1 < nt) && decide (p.2 < nt) && p.1 != p.2) = true → clG cl K ρ →
    ∃ A' ρ', Sim nt w I A' ρ' a ∧ Ext w I A w I A' ∧ K ρ'
  | [], K, ρ, w, I, A, a, hs, _, h => ⟨A, ρ, hs, Ext.refl _ _ _, h⟩
  | (d, t) :: l, K, ρ, w, I, A, a, hs, hc, h => by
    simp only [List.all_cons, Bool.and_eq_true, decide_eq_true_eq, bne_iff_ne] at hc
    obtain ⟨⟨⟨h1, h2⟩, h3⟩, h4⟩ := hc
    unfold clG at h
    split at h
    · rename_i s n e z xs k1 k2
      obtain ⟨rfl, rfl, hk⟩ := h
      obtain ⟨A1, q1, q2⟩ := hs.claim h1 h2 (Ne.symm h3) (.inl ⟨e, z, xs, k1, k2⟩)
      rw [k2] at q1
      obtain ⟨A2, ρ2, r1, r2, r3⟩ := Sim.claims l q1 h4 hk
      exact ⟨A2, ρ2, r1, q2.trans r2, r3⟩
    · rename_i s off cs k1 k2
      obtain ⟨rfl, rfl, hk⟩ := h
      obtain ⟨A1, q1, q2⟩ := hs.claim h1 h2 (Ne.symm h3) (.inr ⟨cs, k1, k2⟩)
      rw [k2] at q1
      obtain ⟨A2, ρ2, r1, r2, r3⟩ := Sim.claims l q1 h4 hk
      exact ⟨A2, ρ2, r1, q2.trans r2, r3⟩
    · exact Sim.claims l hs h4 h
theorem aw_regDc (L : List Nat) (cl : List (Nat × Nat)) {id : Nat} {l : List Oper} {Q : Exit → Env → Prop} (hm : P.follows .mixedOrders = true)
    (hr : (regOk2 nt l && lexE l l.length 0 (Array.replicate l.length false) && cl.all fun p => decide (p.1 < nt) && decide (p.2 < nt) && p.1 != p.2) = true) (h : pwD P l (clG cl (Q .normal)) l ⟨⟩ (keepC L ρ)) : AW P nt (.region id l.toArray true) Q ρ := by
  rw [Bool.and_eq_true] at hr
  have h1 := aw_regD (Q := fun e ρ => match e with | .normal => clG cl (Q .normal) ρ | e => Q e ρ) (id := id) L hm hr.1 h
  intro ro ds I A a w hs hd
  refine wpIn_mono (h1 ro ds I A a w hs hd) ?_
  intro e a1 w1 ⟨I1, A1, ρ1, k1, k2, k3, k4⟩
  cases e with
  | normal =>
    obtain ⟨A2, ρ2, r1, r2, r3⟩ := Sim.claims cl k1 hr.2 k4
    exact ⟨I1, A2, ρ2, r1, k2, k3.trans r2, r3⟩
  | exit i => exact ⟨I1, A1, ρ1, k1, k2, k3, k4⟩
  | goto l => exact ⟨I1, A1, ρ1, k1, k2, k3, k4⟩
  | ret => exact ⟨I1, A1, ρ1, k1, k2, k3, k4⟩
  | panic ch => exact ⟨I1, A1, ρ1, k1, k2, k3, k4⟩
  | outgrown => exact ⟨I1, A1, ρ1, k1, k2, k3, k4⟩
theorem aw_loopK (L : List Nat) {c : Code} {Q : Exit → Env → Prop} (J : Nat → Env → Prop) (n₀ : Nat) (h₀ : J n₀ (keepC L ρ))
    (round : ∀ n ρ, J n ρ → ∀ K : Env → Prop, (∀ m ρ', m < n → J m (keepC L ρ') → K ρ') → AW P nt c (thenQ K Q) ρ) : AW P nt (.loop c) Q ρ := by
  refine aw_weaken (Le.keepC L ρ) (aw_loop (fun n ρ => ∃ ρ', J n ρ' ∧ Le ρ ρ') n₀ ⟨_, h₀, Le.refl _⟩ ?_)
  rintro n ρ1 ⟨ρ2, hJ, hle⟩ K hK
  exact aw_weaken hle (round n ρ2 hJ K fun m ρ' hm hj => hK m ρ' hm ⟨_, hj, Le.keepC L ρ'⟩)
/-! ## Coming and going -/
theorem pcall_of_aw {f : FuncId} {fn : Func} {c : Code} {O : Env} {args : List DV} {r : DV} (hf : P.funcs[f]? = some fn) (hb : fn.body = some c)
    (hn : (decide (args.length ≤ fn.ntmps) && decide (fn.ntmps ≤ 100000) && fn.results.toList.all (fun v => match v with | .tmp t => decide (t < fn.ntmps) | .cell t _ => decide (t < fn.ntmps))) = true)
    (h : AW P fn.ntmps c (retQ P fn O fun O' r' => O' = O ∧ r' = r) (entry O args)) : PCall P O f args r := ecall_of_aw hf hb hn h
theorem out_of_hi {ρ O : Env} (h : hi ρ = outer O) (s : Nat) : ρ (s + 100000) = sh (O s) := by
  have := congrFun h (s + 100000)
  rw [outer_hi] at this
  unfold hi at this
  rw [if_neg (by omega)] at this
  exact this
theorem ret_pure {fn : Func} {O : Env} {r : DV} (h1 : hi ρ = outer O) (h2 : RetOk P ρ fn.results.toList r) : retQ P fn O (fun O' r' => O' = O ∧ r' = r) .ret ρ :=
  ⟨O, r, out_of_hi h1, fun _ => frOk.refl _, fun _ h => h, h2, rfl, rfl⟩
theorem callG_of {f : FuncId} {l : List DV} {k : Env → DV → Prop} {t : Tg k} (r : DV) (h : PCall P ρ f l r) (hk : k ρ r) : CallG P ρ f l k t := ⟨_, h, by rintro O' r' ⟨rfl, rfl⟩; exact hk⟩
/-! ## simp stays out of what is to come -/
@[congr] theorem AW_congr {c : Code} {Q : Exit → Env → Prop} {ρ ρ' : Env} (h : ρ = ρ') : AW P nt c Q ρ = AW P nt c Q ρ' := by rw [h]
@[congr] theorem CallD_congr {f : FuncId} {l l' : List DV} {k : DV → Prop} {t : Tg k} (h : l = l') : CallD P ρ f l k t = CallD P ρ f l' k t := by rw [h]
@[congr] theorem CallG_congr {f : FuncId} {l l' : List DV} {k : Env → DV → Prop} {t : Tg k} (h : l = l') : CallG P ρ f l k t = CallG P ρ f l' k t := by rw [h]
@[congr] theorem CallC_congr {g g' : Bool} {p p' : Prop} {f : FuncId} {l l' : List DV} {k : DV → Prop} {t : Tg k} (h : l = l') (hp : p = p') (hg : g = g') : CallC P ρ g p f l k t = CallC P ρ g' p' f l' k t := by rw [h, hp, hg]
@[congr] theorem pw_congr {all l : List Oper} {k : Env → Prop} {t : Tg (all, k, l)} {ρ ρ' : Env} (h : ρ = ρ') : pw P all k l t ρ = pw P all k l t ρ' := by rw [h]
@[congr] theorem pwD_congr {all l : List Oper} {k : Env → Prop} {t : Tg (all, k, l)} {ρ ρ' : Env} (h : ρ = ρ') : pwD P all k l t ρ = pwD P all k l t ρ' := by rw [h]
/-! ## The rules, one an operation -/
section rules
variable (all os : List Oper) (k K : Env → Prop) (d : Option Tmp) (op : Op) (ty : TypeId) (pos : String) (af : Array Edge) (j : Nat) (want : Bool)
theorem pw_nil : pw P all k [] ⟨⟩ ρ = k ρ := rfl
theorem pw_plain : pw P all k (⟨d, op, ty, pos, af, none⟩ :: os) ⟨⟩ ρ = effG P ρ op d (pw P all k os ⟨⟩) := rfl
theorem pw_guard : pw P all k (⟨d, op, ty, pos, af, some (j, want)⟩ :: os) ⟨⟩ ρ = gdG P ρ op d (gAt all ρ j want) (pw P all k os ⟨⟩) := rfl
theorem pwD_nil : pwD P all k [] ⟨⟩ ρ = k ρ := rfl
theorem pwD_plain : pwD P all k (⟨d, op, ty, pos, af, none⟩ :: os) ⟨⟩ ρ = (match pureOp op && d.isSome with
      | true => prG P ρ op d (pwD P all k os ⟨⟩)
      | false => effG P ρ op d (pwD P all k os ⟨⟩)) := rfl
theorem pwD_guard : pwD P all k (⟨d, op, ty, pos, af, some (j, want)⟩ :: os) ⟨⟩ ρ = gdG P ρ op d (gAt all ρ j want) (pwD P all k os ⟨⟩) := rfl
end rules
section rules
variable (K : Env → Prop) (d : Nat) (dd : Option Nat) (x y : Operand) (t t' t'' : TypeId) (b : BinOp) (u : UnOp) (f i n : Nat) (a b' c : Operand)
theorem eff_move : effG P ρ (.move x) dd K = (gd (ev ρ x) ∧ K (putD ρ dd (un (ev ρ x)))) := rfl
theorem eff_asg : effG P ρ (.assign (.tmp n)) (some d) K = asgG ρ d n (ρ n) K := rfl
theorem eff_asgc (v : Value) : effG P ρ (.assign (.const v)) dd K = (gd (ev ρ (.const v)) ∧ K (putD ρ dd (un (ev ρ (.const v))))) := rfl
theorem eff_asgf : effG P ρ (.assign (.func f)) dd K = (gd (ev ρ (.func f)) ∧ K (putD ρ dd (un (ev ρ (.func f))))) := rfl
theorem eff_pick : effG P ρ (.pick c a b') dd K = ((pickP (ev ρ c) (ev ρ a) (ev ρ b')).1 ∧ K (putD ρ dd (pickP (ev ρ c) (ev ρ a) (ev ρ b')).2)) := rfl
theorem eff_load : effG P ρ (.load t x) dd K = ((gd (ev ρ x) ∧ (loadP ρ (ldOf P t) (un (ev ρ x))).1) ∧ K (putD ρ dd (loadP ρ (ldOf P t) (un (ev ρ x))).2)) := rfl
theorem eff_nil : effG P ρ (.nilCheck x) dd K = ((gd (ev ρ x) ∧ (nilP (un (ev ρ x))).1) ∧ K (putD ρ dd (nilP (un (ev ρ x))).2)) := rfl
theorem eff_bin : effG P ρ (.binOp b t x y t') dd K = binG P ρ b t x y dd K := rfl
theorem eff_un : effG P ρ (.unOp u t x) dd K = ((gd (ev ρ x) ∧ (unP u (un (ev ρ x))).1) ∧ K (putD ρ dd (unP u (un (ev ρ x))).2)) := rfl
theorem eff_conv : effG P ρ (.convert t t' x) dd K = (((gd (ev ρ x) ∧ (P.underlying t).isSome = true) ∧ (convP (ikOf P t') (un (ev ρ x))).1) ∧ K (putD ρ dd (convP (ikOf P t') (un (ev ρ x))).2)) := rfl
theorem eff_fld : effG P ρ (.fieldAddr t x f) dd K = ((gd (ev ρ x) ∧ (fldP (fldOf P t f) (un (ev ρ x))).1) ∧ K (putD ρ dd (fldP (fldOf P t f) (un (ev ρ x))).2)) := rfl
theorem eff_idx : effG P ρ (.indexAddr t x y) dd K = (((gd (ev ρ x) ∧ gd (ev ρ y)) ∧ (idxP ρ (elOf P t) (un (ev ρ x)) (un (ev ρ y))).1) ∧ K (putD ρ dd (idxP ρ (elOf P t) (un (ev ρ x)) (un (ev ρ y))).2)) := rfl
theorem eff_at : effG P ρ (.index t x y) dd K = (((gd (ev ρ x) ∧ gd (ev ρ y)) ∧ (atP (elOf P t) (ldOf P t) (tk P t) (un (ev ρ x)) (un (ev ρ y))).1) ∧ K (putD ρ dd (atP (elOf P t) (ldOf P t) (tk P t) (un (ev ρ x)) (un (ev ρ y))).2)) := rfl
theorem eff_sub (lo h' : Option Operand) : effG P ρ (.slice t x lo h' none) dd K = (((gd (ev ρ x) ∧ (∀ y ∈ lo, gd (ev ρ y)) ∧ ∀ y ∈ h', gd (ev ρ y)) ∧ (subP ρ (elOf P t) (tk P t) (un (ev ρ x)) (lo.map fun y => un (ev ρ y)) (h'.map fun y => un (ev ρ y))).1) ∧
      K (putD ρ dd (subP ρ (elOf P t) (tk P t) (un (ev ρ x)) (lo.map fun y => un (ev ρ y)) (h'.map fun y => un (ev ρ y))).2)) := rfl
theorem eff_ext : effG P ρ (.extract x i) dd K = ((gd (ev ρ x) ∧ (extP (un (ev ρ x)) i).1) ∧ K (putD ρ dd (extP (un (ev ρ x)) i).2)) := rfl
theorem eff_fn (fn : Fn) (l m : Array Operand) : effG P ρ (.makeFunc fn l m) dd K = ((fnP ρ fn l.toList m.toList).1 ∧ K (putD ρ dd (fnP ρ fn l.toList m.toList).2)) := rfl
theorem eff_box : effG P ρ (.box t x) (some d) K = boxG ρ d (ev ρ x) K := rfl
theorem eff_alloc : effG P ρ (.alloc t) (some d) K = allocG ρ d (zcOf P t) K := rfl
theorem eff_store : effG P ρ (.store t x y) none K = stG ρ (szOf P t) (ev ρ x) (ev ρ y) K := rfl
theorem eff_mk : effG P ρ (.makeSlice t x y) (some d) K = mkG P ρ d (slE P t) (ev ρ x) (ev ρ y) K := rfl
theorem eff_lit (parts : Array (Nat × Operand)) : effG P ρ (.buildSlice t n parts) (some d) K = litG P ρ d (slE P t) n parts.toList K := rfl
theorem eff_lk : effG P ρ (.lookup t x y false) dd K = lkG ρ dd (mpOf P t) (ev ρ x) (ev ρ y) K := rfl
theorem eff_up : effG P ρ (.mapUpdate t x y c) none K = upG ρ (mpOf P t) (ev ρ x) (ev ρ y) (ev ρ c) K := rfl
theorem eff_mkm : effG P ρ (.makeMap t none) (some d) K = K (set (kill d ρ) d (.mo [])) := rfl
theorem eff_len : effG P ρ (.call ⟨.builtin .len, #[x], #[t]⟩) dd K = ((gd (ev ρ x) ∧ (lenP (tk P t) (un (ev ρ x))).1) ∧ K (putD ρ dd (lenP (tk P t) (un (ev ρ x))).2)) := rfl
theorem eff_max : effG P ρ (.call ⟨.builtin .max, #[x, y], #[t, t']⟩) dd K = (((gd (ev ρ x) ∧ gd (ev ρ y)) ∧ (maxI [un (ev ρ x), un (ev ρ y)]).1) ∧ K (putD ρ dd (maxI [un (ev ρ x), un (ev ρ y)]).2)) := rfl
theorem eff_min : effG P ρ (.call ⟨.builtin .min, #[x, y], #[t, t']⟩) dd K = (((gd (ev ρ x) ∧ gd (ev ρ y)) ∧ (minI [un (ev ρ x), un (ev ρ y)]).1) ∧ K (putD ρ dd (minI [un (ev ρ x), un (ev ρ y)]).2)) := rfl
theorem eff_app : effG P ρ (.call ⟨.builtin .append, #[x, y], #[t, t']⟩) (some d) K = (t = t' ∧ appG P ρ d (slE P t) (ev ρ x) (ev ρ y) K) := rfl
theorem eff_call (args : Array Operand) (ts : Array TypeId) : effG P ρ (.call ⟨.value x, args, ts⟩) (some d) K =
    (gd (ev ρ x) ∧ gdL ρ args.toList ∧ bodyOk P (callee (un (ev ρ x)) (evL ρ args.toList)) ∧ calG P ρ d (callee (un (ev ρ x)) (evL ρ args.toList)) K) := rfl
theorem pr_call (args : Array Operand) (ts : Array TypeId) : prG P ρ (.call ⟨.value x, args, ts⟩) dd K = (dstFree ρ dd ∧ gd (ev ρ x) ∧ gdL ρ args.toList ∧ pcG P ρ dd (callee (un (ev ρ x)) (evL ρ args.toList)) K) := rfl
theorem pr_lit (parts : Array (Nat × Operand)) : prG P ρ (.buildSlice t n parts) dd K = (dstFree ρ dd ∧ (litP P ρ (slE P t) n parts.toList).1 ∧ isOwn (litP P ρ (slE P t) n parts.toList).2 = false ∧ K (putD ρ dd (litP P ρ (slE P t) n parts.toList).2)) := rfl
theorem gd_call (g : Bool) (args : Array Operand) (ts : Array TypeId) : gdG P ρ (.call ⟨.value x, args, ts⟩) dd (some g) K = (dstFree ρ dd ∧ gcG P ρ dd g (ev ρ x) (gdL ρ args.toList) (callee (un (ev ρ x)) (evL ρ args.toList)) K) := rfl
end rules
theorem pr_blt {b : Builtin} {args : Array Operand} {ts : Array TypeId} {dd : Option Nat} {K : Env → Prop} : prG P ρ (.call ⟨.builtin b, args, ts⟩) dd K = (dstFree ρ dd ∧ (bltP P ρ b args.toList ts.toList).1 ∧ isOwn (bltP P ρ b args.toList ts.toList).2 = false ∧ K (putD ρ dd (bltP P ρ b args.toList ts.toList).2)) := rfl
theorem gd_blt {b : Builtin} {args : Array Operand} {ts : Array TypeId} {dd : Option Nat} {g : Bool} {K : Env → Prop} : gdG P ρ (.call ⟨.builtin b, args, ts⟩) dd (some g) K =
    (dstFree ρ dd ∧ (g = true → (bltP P ρ b args.toList ts.toList).1) ∧ isPl (bltP P ρ b args.toList ts.toList).2 = true ∧ K (putD ρ dd (.cond g (bltP P ρ b args.toList ts.toList).2))) := rfl
section rules
variable (x y a b' c : Operand) (t t' : TypeId) (b : BinOp) (u : UnOp) (f i : Nat)
theorem opQ_move : opQ P ρ (.move x) = (gd (ev ρ x), un (ev ρ x)) := rfl
theorem opQ_asg : opQ P ρ (.assign x) = (gd (ev ρ x), un (ev ρ x)) := rfl
theorem opQ_pick : opQ P ρ (.pick c a b') = pickP (ev ρ c) (ev ρ a) (ev ρ b') := rfl
theorem opQ_load : opQ P ρ (.load t x) = (gd (ev ρ x) ∧ (loadP ρ (ldOf P t) (un (ev ρ x))).1, (loadP ρ (ldOf P t) (un (ev ρ x))).2) := rfl
theorem opQ_nil : opQ P ρ (.nilCheck x) = (gd (ev ρ x) ∧ (nilP (un (ev ρ x))).1, (nilP (un (ev ρ x))).2) := rfl
theorem opQ_bin : opQ P ρ (.binOp b t x y t') = ((gd (ev ρ x) ∧ gd (ev ρ y)) ∧ (binP (esOf P t) (tk P t) b (un (ev ρ x)) (un (ev ρ y))).1, (binP (esOf P t) (tk P t) b (un (ev ρ x)) (un (ev ρ y))).2) := rfl
theorem opQ_un : opQ P ρ (.unOp u t x) = (gd (ev ρ x) ∧ (unP u (un (ev ρ x))).1, (unP u (un (ev ρ x))).2) := rfl
theorem opQ_conv : opQ P ρ (.convert t t' x) = ((gd (ev ρ x) ∧ (P.underlying t).isSome = true) ∧ (convP (ikOf P t') (un (ev ρ x))).1, (convP (ikOf P t') (un (ev ρ x))).2) := rfl
theorem opQ_fld : opQ P ρ (.fieldAddr t x f) = (gd (ev ρ x) ∧ (fldP (fldOf P t f) (un (ev ρ x))).1, (fldP (fldOf P t f) (un (ev ρ x))).2) := rfl
theorem opQ_idx : opQ P ρ (.indexAddr t x y) = ((gd (ev ρ x) ∧ gd (ev ρ y)) ∧ (idxP ρ (elOf P t) (un (ev ρ x)) (un (ev ρ y))).1, (idxP ρ (elOf P t) (un (ev ρ x)) (un (ev ρ y))).2) := rfl
theorem opQ_at : opQ P ρ (.index t x y) = ((gd (ev ρ x) ∧ gd (ev ρ y)) ∧ (atP (elOf P t) (ldOf P t) (tk P t) (un (ev ρ x)) (un (ev ρ y))).1, (atP (elOf P t) (ldOf P t) (tk P t) (un (ev ρ x)) (un (ev ρ y))).2) := rfl
theorem opQ_sub (lo h' : Option Operand) : opQ P ρ (.slice t x lo h' none) = ((gd (ev ρ x) ∧ (∀ y ∈ lo, gd (ev ρ y)) ∧ ∀ y ∈ h', gd (ev ρ y)) ∧ (subP ρ (elOf P t) (tk P t) (un (ev ρ x)) (lo.map fun y => un (ev ρ y)) (h'.map fun y => un (ev ρ y))).1,
      (subP ρ (elOf P t) (tk P t) (un (ev ρ x)) (lo.map fun y => un (ev ρ y)) (h'.map fun y => un (ev ρ y))).2) := rfl
theorem opQ_ext : opQ P ρ (.extract x i) = (gd (ev ρ x) ∧ (extP (un (ev ρ x)) i).1, (extP (un (ev ρ x)) i).2) := rfl
theorem opQ_fn (fn : Fn) (l m : Array Operand) : opQ P ρ (.makeFunc fn l m) = fnP ρ fn l.toList m.toList := rfl
end rules
section rules
variable (x y a b' c : Operand) (t t' : TypeId) (b : BinOp) (u : UnOp) (f i : Nat) (lo h' : Option Operand) (fn : Fn) (l m : Array Operand) (dd : Option Nat) (g : Bool) (K : Env → Prop)
theorem pr_move : prG P ρ (.move x) dd K = (dstFree ρ dd ∧ (opQ P ρ (.move x)).1 ∧ isOwn (opQ P ρ (.move x)).2 = false ∧ K (putD ρ dd (opQ P ρ (.move x)).2)) := rfl
theorem gd_move : gdG P ρ (.move x) dd (some g) K = (dstFree ρ dd ∧ (g = true → (opQ P ρ (.move x)).1) ∧ isPl (opQ P ρ (.move x)).2 = true ∧ K (putD ρ dd (.cond g (opQ P ρ (.move x)).2))) := rfl
theorem pr_asg : prG P ρ (.assign x) dd K = (dstFree ρ dd ∧ (opQ P ρ (.assign x)).1 ∧ isOwn (opQ P ρ (.assign x)).2 = false ∧ K (putD ρ dd (opQ P ρ (.assign x)).2)) := rfl
theorem gd_asg : gdG P ρ (.assign x) dd (some g) K = (dstFree ρ dd ∧ (g = true → (opQ P ρ (.assign x)).1) ∧ isPl (opQ P ρ (.assign x)).2 = true ∧ K (putD ρ dd (.cond g (opQ P ρ (.assign x)).2))) := rfl
theorem pr_pick : prG P ρ (.pick c a b') dd K = (dstFree ρ dd ∧ (opQ P ρ (.pick c a b')).1 ∧ isOwn (opQ P ρ (.pick c a b')).2 = false ∧ K (putD ρ dd (opQ P ρ (.pick c a b')).2)) := rfl
theorem gd_pick : gdG P ρ (.pick c a b') dd (some g) K = (dstFree ρ dd ∧ (g = true → (opQ P ρ (.pick c a b')).1) ∧ isPl (opQ P ρ (.pick c a b')).2 = true ∧ K (putD ρ dd (.cond g (opQ P ρ (.pick c a b')).2))) := rfl
theorem pr_load : prG P ρ (.load t x) dd K = (dstFree ρ dd ∧ (opQ P ρ (.load t x)).1 ∧ isOwn (opQ P ρ (.load t x)).2 = false ∧ K (putD ρ dd (opQ P ρ (.load t x)).2)) := rfl
theorem gd_load : gdG P ρ (.load t x) dd (some g) K = (dstFree ρ dd ∧ (g = true → (opQ P ρ (.load t x)).1) ∧ isPl (opQ P ρ (.load t x)).2 = true ∧ K (putD ρ dd (.cond g (opQ P ρ (.load t x)).2))) := rfl
theorem pr_nil : prG P ρ (.nilCheck x) dd K = (dstFree ρ dd ∧ (opQ P ρ (.nilCheck x)).1 ∧ isOwn (opQ P ρ (.nilCheck x)).2 = false ∧ K (putD ρ dd (opQ P ρ (.nilCheck x)).2)) := rfl
theorem gd_nil : gdG P ρ (.nilCheck x) dd (some g) K = (dstFree ρ dd ∧ (g = true → (opQ P ρ (.nilCheck x)).1) ∧ isPl (opQ P ρ (.nilCheck x)).2 = true ∧ K (putD ρ dd (.cond g (opQ P ρ (.nilCheck x)).2))) := rfl
theorem pr_bin : prG P ρ (.binOp b t x y t') dd K = (dstFree ρ dd ∧ (opQ P ρ (.binOp b t x y t')).1 ∧ isOwn (opQ P ρ (.binOp b t x y t')).2 = false ∧ K (putD ρ dd (opQ P ρ (.binOp b t x y t')).2)) := rfl
theorem gd_bin : gdG P ρ (.binOp b t x y t') dd (some g) K = (dstFree ρ dd ∧ (g = true → (opQ P ρ (.binOp b t x y t')).1) ∧ isPl (opQ P ρ (.binOp b t x y t')).2 = true ∧ K (putD ρ dd (.cond g (opQ P ρ (.binOp b t x y t')).2))) := rfl
theorem pr_un : prG P ρ (.unOp u t x) dd K = (dstFree ρ dd ∧ (opQ P ρ (.unOp u t x)).1 ∧ isOwn (opQ P ρ (.unOp u t x)).2 = false ∧ K (putD ρ dd (opQ P ρ (.unOp u t x)).2)) := rfl
theorem gd_un : gdG P ρ (.unOp u t x) dd (some g) K = (dstFree ρ dd ∧ (g = true → (opQ P ρ (.unOp u t x)).1) ∧ isPl (opQ P ρ (.unOp u t x)).2 = true ∧ K (putD ρ dd (.cond g (opQ P ρ (.unOp u t x)).2))) := rfl
theorem pr_conv : prG P ρ (.convert t t' x) dd K = (dstFree ρ dd ∧ (opQ P ρ (.convert t t' x)).1 ∧ isOwn (opQ P ρ (.convert t t' x)).2 = false ∧ K (putD ρ dd (opQ P ρ (.convert t t' x)).2)) := rfl
theorem gd_conv : gdG P ρ (.convert t t' x) dd (some g) K = (dstFree ρ dd ∧ (g = true → (opQ P ρ (.convert t t' x)).1) ∧ isPl (opQ P ρ (.convert t t' x)).2 = true ∧ K (putD ρ dd (.cond g (opQ P ρ (.convert t t' x)).2))) := rfl
theorem pr_fld : prG P ρ (.fieldAddr t x f) dd K = (dstFree ρ dd ∧ (opQ P ρ (.fieldAddr t x f)).1 ∧ isOwn (opQ P ρ (.fieldAddr t x f)).2 = false ∧ K (putD ρ dd (opQ P ρ (.fieldAddr t x f)).2)) := rfl
theorem gd_fld : gdG P ρ (.fieldAddr t x f) dd (some g) K = (dstFree ρ dd ∧ (g = true → (opQ P ρ (.fieldAddr t x f)).1) ∧ isPl (opQ P ρ (.fieldAddr t x f)).2 = true ∧ K (putD ρ dd (.cond g (opQ P ρ (.fieldAddr t x f)).2))) := rfl
theorem pr_idx : prG P ρ (.indexAddr t x y) dd K = (dstFree ρ dd ∧ (opQ P ρ (.indexAddr t x y)).1 ∧ isOwn (opQ P ρ (.indexAddr t x y)).2 = false ∧ K (putD ρ dd (opQ P ρ (.indexAddr t x y)).2)) := rfl
theorem gd_idx : gdG P ρ (.indexAddr t x y) dd (some g) K = (dstFree ρ dd ∧ (g = true → (opQ P ρ (.indexAddr t x y)).1) ∧ isPl (opQ P ρ (.indexAddr t x y)).2 = true ∧ K (putD ρ dd (.cond g (opQ P ρ (.indexAddr t x y)).2))) := rfl
theorem pr_at : prG P ρ (.index t x y) dd K = (dstFree ρ dd ∧ (opQ P ρ (.index t x y)).1 ∧ isOwn (opQ P ρ (.index t x y)).2 = false ∧ K (putD ρ dd (opQ P ρ (.index t x y)).2)) := rfl
theorem gd_at : gdG P ρ (.index t x y) dd (some g) K = (dstFree ρ dd ∧ (g = true → (opQ P ρ (.index t x y)).1) ∧ isPl (opQ P ρ (.index t x y)).2 = true ∧ K (putD ρ dd (.cond g (opQ P ρ (.index t x y)).2))) := rfl
theorem pr_sub : prG P ρ (.slice t x lo h' none) dd K = (dstFree ρ dd ∧ (opQ P ρ (.slice t x lo h' none)).1 ∧ isOwn (opQ P ρ (.slice t x lo h' none)).2 = false ∧ K (putD ρ dd (opQ P ρ (.slice t x lo h' none)).2)) := rfl
theorem gd_sub : gdG P ρ (.slice t x lo h' none) dd (some g) K = (dstFree ρ dd ∧ (g = true → (opQ P ρ (.slice t x lo h' none)).1) ∧ isPl (opQ P ρ (.slice t x lo h' none)).2 = true ∧ K (putD ρ dd (.cond g (opQ P ρ (.slice t x lo h' none)).2))) := rfl
theorem pr_ext : prG P ρ (.extract x i) dd K = (dstFree ρ dd ∧ (opQ P ρ (.extract x i)).1 ∧ isOwn (opQ P ρ (.extract x i)).2 = false ∧ K (putD ρ dd (opQ P ρ (.extract x i)).2)) := rfl
theorem gd_ext : gdG P ρ (.extract x i) dd (some g) K = (dstFree ρ dd ∧ (g = true → (opQ P ρ (.extract x i)).1) ∧ isPl (opQ P ρ (.extract x i)).2 = true ∧ K (putD ρ dd (.cond g (opQ P ρ (.extract x i)).2))) := rfl
theorem pr_fn : prG P ρ (.makeFunc fn l m) dd K = (dstFree ρ dd ∧ (opQ P ρ (.makeFunc fn l m)).1 ∧ isOwn (opQ P ρ (.makeFunc fn l m)).2 = false ∧ K (putD ρ dd (opQ P ρ (.makeFunc fn l m)).2)) := rfl
theorem gd_fn : gdG P ρ (.makeFunc fn l m) dd (some g) K = (dstFree ρ dd ∧ (g = true → (opQ P ρ (.makeFunc fn l m)).1) ∧ isPl (opQ P ρ (.makeFunc fn l m)).2 = true ∧ K (putD ρ dd (.cond g (opQ P ρ (.makeFunc fn l m)).2))) := rfl
theorem pr_build (parts : Array (Nat × Operand)) : prG P ρ (.build t parts) dd K = (dstFree ρ dd ∧ (bldP P ρ t parts.toList).1 ∧ isOwn (bldP P ρ t parts.toList).2 = false ∧ K (putD ρ dd (bldP P ρ t parts.toList).2)) := rfl
theorem gd_build (parts : Array (Nat × Operand)) : gdG P ρ (.build t parts) dd (some g) K = (dstFree ρ dd ∧ (g = true → (bldP P ρ t parts.toList).1) ∧ isPl (bldP P ρ t parts.toList).2 = true ∧ K (putD ρ dd (.cond g (bldP P ρ t parts.toList).2))) := rfl
theorem eff_build (parts : Array (Nat × Operand)) : effG P ρ (.build t parts) dd K = ((bldP P ρ t parts.toList).1 ∧ K (putD ρ dd (bldP P ρ t parts.toList).2)) := rfl
theorem bldGo_at (i : Nat) (x : Operand) (l : List (Nat × Operand)) (cs : List DV) : bldGo P ρ t ((i, x) :: l) cs = (match plOf P t i with
    | some (off, s) => (gd (ev ρ x) ∧ (cellsD (un (ev ρ x))).length = s ∧ 0 < s ∧ off + s ≤ cs.length ∧ (bldGo P ρ t l (spl off (cellsD (un (ev ρ x))) cs)).1, (bldGo P ρ t l (spl off (cellsD (un (ev ρ x))) cs)).2)
    | none => (False, cs)) := rfl
theorem pr_mk : prG P ρ (.makeSlice t x y) dd K = (dstFree ρ dd ∧ (mkP P (slE P t) (ev ρ x) (ev ρ y)).1 ∧ isOwn (mkP P (slE P t) (ev ρ x) (ev ρ y)).2 = false ∧ K (putD ρ dd (mkP P (slE P t) (ev ρ x) (ev ρ y)).2)) := rfl
theorem gd_mk : gdG P ρ (.makeSlice t x y) dd (some g) K = (dstFree ρ dd ∧ (g = true → (mkP P (slE P t) (ev ρ x) (ev ρ y)).1) ∧ isPl (mkP P (slE P t) (ev ρ x) (ev ρ y)).2 = true ∧ K (putD ρ dd (.cond g (mkP P (slE P t) (ev ρ x) (ev ρ y)).2))) := rfl
theorem gd_lit (n : Nat) (parts : Array (Nat × Operand)) : gdG P ρ (.buildSlice t n parts) dd (some g) K = (dstFree ρ dd ∧ (g = true → (litP P ρ (slE P t) n parts.toList).1) ∧ isPl (litP P ρ (slE P t) n parts.toList).2 = true ∧ K (putD ρ dd (.cond g (litP P ρ (slE P t) n parts.toList).2))) := rfl
end rules
theorem entry_eq (O : Env) (l : List DV) : entry O l = entryGo 0 l (outer O) := rfl
theorem thenQ_normal (K : Env → Prop) (Q : Exit → Env → Prop) (ρ : Env) : thenQ K Q .normal ρ = K ρ := rfl
theorem thenQ_ret (K : Env → Prop) (Q : Exit → Env → Prop) (ρ : Env) : thenQ K Q .ret ρ = Q .ret ρ := rfl
theorem thenQ_exit (K : Env → Prop) (Q : Exit → Env → Prop) (i : Nat) (ρ : Env) : thenQ K Q (.exit i) ρ = Q (.exit i) ρ := rfl
theorem blockQ_normal (i : Nat) (Q : Exit → Env → Prop) (ρ : Env) : blockQ i Q .normal ρ = Q .normal ρ := rfl
theorem blockQ_ret (i : Nat) (Q : Exit → Env → Prop) (ρ : Env) : blockQ i Q .ret ρ = Q .ret ρ := rfl
theorem blockQ_exit (i j : Nat) (Q : Exit → Env → Prop) (ρ : Env) : blockQ i Q (.exit j) ρ = if j = i then Q .normal ρ else Q (.exit j) ρ := rfl
end
attribute [go_sem] eff_lk eff_up eff_mkm lkG upG pw_nil pw_plain pw_guard pwD_nil pwD_plain pwD_guard eff_move eff_asg eff_asgc eff_asgf eff_pick eff_load eff_nil eff_bin eff_un eff_conv eff_fld eff_idx eff_at eff_sub eff_ext eff_fn eff_box eff_alloc eff_store
  eff_mk eff_lit eff_len eff_max eff_min eff_app eff_call pr_call pr_lit gd_call pr_move gd_move pr_asg gd_asg pr_pick gd_pick pr_load gd_load pr_nil gd_nil pr_bin gd_bin pr_un gd_un pr_conv gd_conv pr_fld gd_fld pr_idx gd_idx pr_at gd_at pr_sub gd_sub pr_ext gd_ext pr_fn gd_fn gd_lit pr_mk gd_mk mkP pr_build gd_build eff_build bldGo_nil bldGo_at bldP pr_blt gd_blt opQ_move opQ_asg opQ_pick opQ_load opQ_nil opQ_bin opQ_un opQ_conv opQ_fld opQ_idx opQ_at opQ_sub opQ_ext opQ_fn
  pureOp ev_tmp ev_const ev_func ev_global cv rd un gd set_apply putD_some putD_none kill_apply killS killD allK allKL isOwn isPl dstFree clG asgG boxG allocG stG stB stR mkG litG appG appR srcOk srcL bsOk bsL cellsD spl gAt gW
  binG nilG isNilC isEql binP binA eqL binI binS binB unP lenP pickP pickR cut loadB loadR loadP fldP idxP atP subP convP extP nilP maxI minI bltP fnP gdL evL callee bodyOk calG pcG gcG litP putR keepC_nil keepC_cons hi_set hi_kill hi_outer hi_hi outer_app
  entry_eq entryGo_nil entryGo_cons ren renL thenQ_normal thenQ_ret thenQ_exit blockQ_normal blockQ_ret blockQ_exit
  true_and and_true imp_self implies_true forall_const List.getElem?_cons_succ List.getElem?_cons_zero List.getElem?_nil List.getD_cons_zero List.getD_cons_succ List.map_cons List.map_nil List.length_cons List.length_nil
  List.drop_zero List.drop_succ_cons List.take_zero List.take_succ_cons List.set_cons_zero List.set_cons_succ List.append_nil List.nil_append List.cons_append List.headD_cons Option.map_some Option.map_none Option.isSome_some Option.isSome_none
  Bool.and_true Bool.true_and Bool.and_false Bool.false_and beq_self_eq_true Bool.cond_true Bool.cond_false Nat.add_zero Nat.zero_add Option.mem_def Option.some.injEq forall_eq' List.not_mem_nil litP List.mem_cons false_implies
end Go.Sg
set_option linter.unusedVariables false
/- How conditions are written plainly: the set of push_cast serves as a name for these. -/
attribute [push_cast] decide_eq_true_eq decide_eq_false_iff_not Bool.not_eq_true' Bool.not_eq_false' beq_iff_eq bne_iff_ne beq_eq_false_iff_ne bne_eq_false_iff_eq Bool.not_eq_true Bool.not_eq_false Int.not_lt Int.not_le Nat.not_lt Nat.not_le ne_eq Int.ofNat_inj Bool.and_eq_true Bool.or_eq_true Bool.and_eq_false_iff Bool.or_eq_false_iff Bool.not_eq_eq_eq_not Bool.not_true Bool.not_false
namespace Go.Sg
theorem obl {p : Prop} (h : p := by first | omega | assumption | (simp only [List.length_append, List.length_cons, List.length_nil]; omega) | (intros; first | omega | assumption | (simp_all; done) | grind)) : p := h
theorem dfl {p : Prop} (h : p := by first | assumption | omega | (simp only [List.length_append, List.length_cons, List.length_nil] at *; omega) | (simp_all; done)) : p := h
end Go.Sg
