/- Abstract values for Go data and how they stand for the model's values: a plain layer of lemmas, no program in it. -/
import Derived.Deep.LoopGhost
import Derived.Below
import Derived.Laws.World
set_option linter.unusedVariables false
set_option linter.unusedSimpArgs false
namespace Go.Sg

theorem ask_drawn {α : Type} : ∀ (m : Ask α) (w : World), w.drawn ≤ (w.ask m).2.drawn
  | .done a, w => Nat.le_refl _
  | .ask what range k, w => by
    unfold World.ask
    simp only
    split
    · exact ask_drawn (k 0) w
    · exact Nat.le_trans (Nat.le_succ _) (ask_drawn (k _) { w with drawn := w.drawn + 1 })
theorem sys_drawn (w : World) (c : Sys) : w.drawn ≤ (w.sys c).2.drawn := by
  have := ask_drawn (Kernel.perform c w.os) w
  unfold World.sys
  split
  · exact Nat.le_refl _
  · rename_i h; rw [h] at this; exact this
theorem view_drawn {p : Program} {w : World} {at_ : Addr} {u : TypeId} {k : Addr} {v : Value} {b : Bool} {r : World × List Addr} (h : w.viewStore p at_ u k v b = .ok r) : r.1.drawn = w.drawn := by
  unfold World.viewStore at h
  simp only [bind, Except.bind, pure, Except.pure] at h
  repeat' split at h
  all_goals first | (cases h; done) | (cases h; rfl) | skip
theorem run_drawn {P : Program} {α : Type} : ∀ (m : Sem α) {w w' : World} {r : α}, m.run P w = .ok r w' → w.drawn ≤ w'.drawn
  | .pure a, w, w', r, h => by cases h; exact Nat.le_refl _
  | .load m a k, w, w', r, h => by
    unfold Sem.run at h
    split at h
    · exact run_drawn (k _) h
    · split at h
      · exact run_drawn (k _) h
      · cases h
  | .store m a v k, w, w', r, h => by
    have key : (match w.cell? a with
      | some _ => if w.frozen? a then Result.halt (.unsupported (.unsafePointer "a write to bytes that a string shares")) w else k.run P (w.setCell a v)
      | none => match w.farStore P a v (m == Mode.atomic) with
        | .ok (w, _) => k.run P w
        | .error h => .halt h w) = .ok r w' → w.drawn ≤ w'.drawn := fun h => by
      split at h
      · split at h
        · cases h
        · exact run_drawn k (w := w.setCell a v) h
      · split at h
        · rename_i w2 _ hf
          have h2 := run_drawn k h
          unfold World.farStore at hf
          split at hf
          · split at hf
            · rename_i r2 hv
              cases hf
              have := view_drawn hv
              simp only at this
              omega
            · cases hf
          · cases hf
        · cases h
    cases v <;> first | exact key h | (cases h; done)
  | .new o k, w, w', r, h => run_drawn (k _) (w := { w with heap := w.heap.push o }) h
  | .shape q k, w, w', r, h => run_drawn (k _) (w := w) h
  | .freeze a n k, w, w', r, h => by
    have h2 := run_drawn k (w := w.freeze a n) h
    have : (w.freeze a n).drawn = w.drawn := by unfold World.freeze; split <;> rfl
    omega
  | .frozen a k, w, w', r, h => run_drawn (k _) (w := w) h
  | .getObj q k, w, w', r, h => by
    unfold Sem.run at h
    split at h
    · cases h
    · exact run_drawn (k _) h
    · cases h
  | .setObj q o k, w, w', r, h => by
    unfold Sem.run at h
    split at h
    · cases h
    · exact run_drawn k (w := { w with heap := w.heap.setIfInBounds q o }) h
    · cases h
  | .choose q k, w, w', r, h => by
    unfold Sem.run at h
    split at h
    · exact run_drawn (k 0) h
    · exact Nat.le_trans (Nat.le_succ _) (run_drawn (k _) (w := { w with drawn := w.drawn + 1 }) h)
  | .sys c k, w, w', r, h => Nat.le_trans (sys_drawn w c) (run_drawn (k _) (w := (w.sys c).2) h)
  | .program k, w, w', r, h => run_drawn (k P) (w := w) h
  | .mark m k, w, w', r, h => run_drawn k (w := w) h
  | .halt h, w, w', r, hh => by cases hh

/-- Abstract values. 'sl z n f': a slice of n elements of z cells that nobody writes any more; 'dp': a pointer to such cells; 'bp s off', 'own s n', 'rp s z i off': references to what slot s owns; 'bx', 'row': what a slot owns; 'cond g x': x if g, else nothing was stored. -/
inductive DV where
  | any
  | v (x : Value)
  | sl (z n : Nat) (f : Nat → List DV)
  | agg (cs : List DV)
  | tup (cs : List DV)
  | dp (cs : List DV)
  | bp (s off : Nat)
  | own (s n : Nat)
  | rp (s z i off : Nat)
  | fn (f : FuncId) (first captured : List DV)
  | iface (t : TypeId) (x : DV)
  | cond (g : Bool) (x : DV)
  | bx (cs : List DV)
  | row (e : TypeId) (z : Nat) (xs : List (List DV))
  | mr (s : Nat)
  | ez
  | mo (es : List (Value × Value))

instance : Inhabited DV := ⟨.any⟩

abbrev Env := Nat → DV
abbrev Own := Nat → Option (Option Nat × Nat)
abbrev noOwn : Own := fun _ => none

mutual
def allK (p : Nat → Bool) : DV → Bool
  | .agg cs => allKL p cs
  | .tup cs => allKL p cs
  | .bp s _ => p s
  | .own s _ => p s
  | .rp s _ _ _ => p s
  | .mr s => p s
  | .fn _ a b => allKL p a && allKL p b
  | .iface _ x => allK p x
  | .cond _ x => allK p x
  | .bx cs => allKL p cs
  | _ => true
def allKL (p : Nat → Bool) : List DV → Bool
  | [] => true
  | d :: l => allK p d && allKL p l
end

mutual
def ren (k : Nat → Nat) : DV → DV
  | .agg cs => .agg (renL k cs)
  | .tup cs => .tup (renL k cs)
  | .bp s o => .bp (k s) o
  | .own s n => .own (k s) n
  | .rp s z i o => .rp (k s) z i o
  | .fn f a b => .fn f (renL k a) (renL k b)
  | .iface t x => .iface t (ren k x)
  | .cond g x => .cond g (ren k x)
  | .bx cs => .bx (renL k cs)
  | .any => .any
  | .v x => .v x
  | .sl z n f => .sl z n f
  | .dp cs => .dp cs
  | .row e z xs => .row e z xs
  | .mr s => .mr (k s)
  | .ez => .ez
  | .mo es => .mo es
def renL (k : Nat → Nat) : List DV → List DV
  | [] => []
  | d :: l => ren k d :: renL k l
end

theorem renL_eq (k : Nat → Nat) (l : List DV) : renL k l = l.map (ren k) := by
  induction l with
  | nil => rfl
  | cons d l ih => simp [renL, ih]

theorem allKL_iff (p : Nat → Bool) (l : List DV) : allKL p l = true ↔ ∀ d ∈ l, allK p d = true := by
  induction l with
  | nil => simp [allKL]
  | cons d l ih => simp [allKL, ih]

theorem allKL_get {p : Nat → Bool} {l : List DV} (h : allKL p l = true) {j : Nat} {d : DV} (hj : l[j]? = some d) : allK p d = true :=
  (allKL_iff p l).1 h d (List.mem_of_getElem? hj)

/-- The base of a slice whose owner is B: where nothing is owned, there is no room, and the base may be any. -/
def BaseOk (B : Option Nat) (b : Option Addr) : Prop := ∀ g, B = some g → b = some ⟨g, 0, none⟩
theorem baseOk_some {g : Nat} {b : Option Addr} (h : BaseOk (some g) b) : b = some ⟨g, 0, none⟩ := h g rfl
theorem baseOk_mk (g : Nat) : BaseOk (Option.some g) (Option.some ⟨g, 0, Option.none⟩) := fun _ h => by cases h; rfl
theorem baseOk_none (b : Option Addr) : BaseOk none b := fun _ h => by cases h
theorem baseOk_map (B : Option Nat) : BaseOk B (B.map fun g => ⟨g, 0, none⟩) := fun g h => by subst h; rfl

inductive Rel (w : World) (I : Nat → Prop) : Own → DV → Value → Prop
  | any (A : Own) (x : Value) : Rel w I A .any x
  | v (A : Own) (x : Value) : Rel w I A (.v x) x
  | sl0 (A : Own) (z : Nat) (f : Nat → List DV) (b : Option Addr) (c : Nat) : Rel w I A (.sl z 0 f) (.slice b 0 c)
  | sl (A : Own) (z n : Nat) (f : Nat → List DV) (b o c : Nat) (us : Nat → Nat → Value) (hn : 0 < n) (hc : n ≤ c) (hm : c ≤ maxLen) (hI : I b)
      (hz : ∀ i, i < n → (f i).length = z) (hcell : ∀ i j, i < n → j < z → w.cell? ⟨b, o + (i * z + j), none⟩ = some (us i j))
      (hone : ∀ i j, i < n → j < z → (us i j).oneCell' = true) (hrel : ∀ i j d, i < n → (f i)[j]? = some d → Rel w I noOwn d (us i j)) :
      Rel w I A (.sl z n f) (.slice (some ⟨b, o, none⟩) n c)
  | agg (A : Own) (cs : List DV) (vs : Array Value) (hl : cs.length = vs.size) (hone : ∀ u ∈ vs.toList, u.oneCell' = true)
      (hrel : ∀ (j : Nat) (d : DV) (u : Value), cs[j]? = some d → vs[j]? = some u → Rel w I A d u) : Rel w I A (.agg cs) (.agg vs)
  | tup (A : Own) (cs : List DV) (vs : Array Value) (hl : cs.length = vs.size)
      (hrel : ∀ (j : Nat) (d : DV) (u : Value), cs[j]? = some d → vs[j]? = some u → Rel w I A d u) : Rel w I A (.tup cs) (.tuple vs)
  | dp (A : Own) (cs : List DV) (b o : Nat) (us : Nat → Value) (hI : I b) (hcell : ∀ j, j < cs.length → w.cell? ⟨b, o + j, none⟩ = some (us j))
      (hone : ∀ j, j < cs.length → (us j).oneCell' = true) (hrel : ∀ (j : Nat) (d : DV), cs[j]? = some d → Rel w I noOwn d (us j)) : Rel w I A (.dp cs) (.pointer (some ⟨b, o, none⟩))
  | bp (A : Own) (s off g c : Nat) (h : A s = some (some g, c)) : Rel w I A (.bp s off) (.pointer (some ⟨g, off, none⟩))
  | own (A : Own) (s n : Nat) (B : Option Nat) (c : Nat) (b : Option Addr) (h : A s = some (B, c)) (hb : BaseOk B b) : Rel w I A (.own s n) (.slice b n c)
  | rp (A : Own) (s z i off g c : Nat) (h : A s = some (some g, c)) : Rel w I A (.rp s z i off) (.pointer (some ⟨g, i * z + off, none⟩))
  | fn (A : Own) (f : FuncId) (fs cs : List DV) (us vs : Array Value) (hf : fs.length = us.size) (hc : cs.length = vs.size)
      (hfr : ∀ (j : Nat) (d : DV) (u : Value), fs[j]? = some d → us[j]? = some u → Rel w I A d u)
      (hcr : ∀ (j : Nat) (d : DV) (u : Value), cs[j]? = some d → vs[j]? = some u → Rel w I A d u) : Rel w I A (.fn f fs cs) (.func (.func f) us vs)
  | iface (A : Own) (t : TypeId) (d : DV) (x : Value) (h : Rel w I A d x) : Rel w I A (.iface t d) (.iface t x)
  | mr (A : Own) (s g c : Nat) (h : A s = some (some g, c)) : Rel w I A (.mr s) (.map (some g))
  | ez (A : Own) (b : Option Addr) : Rel w I A .ez (.slice b 0 0)

/-- What changes in the world and in the set of settled blocks leaves every relation alone. -/
theorem Rel.mono {w w' : World} {I I' : Nat → Prop} {A : Own} {d : DV} {x : Value} (h : Rel w I A d x)
    (hk : ∀ g, I g → I' g ∧ ∀ o, w'.cell? ⟨g, o, none⟩ = w.cell? ⟨g, o, none⟩) : Rel w' I' A d x := by
  induction h with
  | any A x => exact .any A x
  | v A x => exact .v A x
  | sl0 A z f b c => exact .sl0 A z f b c
  | sl A z n f b o c us hn hc hm hI hz hcell hone hrel ih =>
    exact .sl A z n f b o c us hn hc hm (hk _ hI).1 hz (fun i j hi hj => ((hk _ hI).2 _).trans (hcell i j hi hj)) hone ih
  | agg A cs vs hl hone hrel ih => exact .agg A cs vs hl hone ih
  | tup A cs vs hl hrel ih => exact .tup A cs vs hl ih
  | dp A cs b o us hI hcell hone hrel ih => exact .dp A cs b o us (hk _ hI).1 (fun j hj => ((hk _ hI).2 _).trans (hcell j hj)) hone ih
  | bp A s off g c h => exact .bp A s off g c h
  | own A s n B c b h hb => exact .own A s n B c b h hb
  | rp A s z i off g c h => exact .rp A s z i off g c h
  | fn A f fs cs us vs hf hc hfr hcr ih1 ih2 => exact .fn A f fs cs us vs hf hc ih1 ih2
  | iface A t d x h ih => exact .iface A t d x ih
  | mr A s g c h => exact .mr A s g c h
  | ez A b => exact .ez A b

/-- Owners that a value does not mention do not matter. -/
theorem Rel.congrA {w : World} {I : Nat → Prop} {A A' : Own} {d : DV} {x : Value} (h : Rel w I A d x) (p : Nat → Bool) (hp : allK p d = true)
    (ha : ∀ s, p s = true → A' s = A s) : Rel w I A' d x := by
  induction h with
  | any A x => exact .any A' x
  | v A x => exact .v A' x
  | sl0 A z f b c => exact .sl0 A' z f b c
  | sl A z n f b o c us hn hc hm hI hz hcell hone hrel ih => exact .sl A' z n f b o c us hn hc hm hI hz hcell hone hrel
  | agg A cs vs hl hone hrel ih => exact .agg A' cs vs hl hone fun j d u hd hu => ih j d u hd hu (allKL_get (by simpa [allK] using hp) hd) ha
  | tup A cs vs hl hrel ih => exact .tup A' cs vs hl fun j d u hd hu => ih j d u hd hu (allKL_get (by simpa [allK] using hp) hd) ha
  | dp A cs b o us hI hcell hone hrel ih => exact .dp A' cs b o us hI hcell hone hrel
  | bp A s off g c h => exact .bp A' s off g c ((ha s (by simpa [allK] using hp)).trans h)
  | own A s n B c b h hb => exact .own A' s n B c b ((ha s (by simpa [allK] using hp)).trans h) hb
  | rp A s z i off g c h => exact .rp A' s z i off g c ((ha s (by simpa [allK] using hp)).trans h)
  | fn A f fs cs us vs hf hc hfr hcr ih1 ih2 =>
    simp only [allK, Bool.and_eq_true] at hp
    exact .fn A' f fs cs us vs hf hc (fun j d u hd hu => ih1 j d u hd hu (allKL_get hp.1 hd) ha) fun j d u hd hu => ih2 j d u hd hu (allKL_get hp.2 hd) ha
  | iface A t d x h ih => exact .iface A' t d x (ih (by simpa [allK] using hp) ha)
  | mr A s g c h => exact .mr A' s g c ((ha s (by simpa [allK] using hp)).trans h)
  | ez A b => exact .ez A' b

/-- A value without references fits every owner. -/
theorem Rel.pure {w : World} {I : Nat → Prop} {A A' : Own} {d : DV} {x : Value} (h : Rel w I A d x) (hp : allK (fun _ => false) d = true) : Rel w I A' d x :=
  h.congrA (fun _ => false) hp fun _ h => by cases h

theorem Rel.ofNoOwn {w : World} {I : Nat → Prop} {A : Own} {d : DV} {x : Value} (h : Rel w I noOwn d x) : Rel w I A d x := by
  generalize hN : noOwn = N at h
  induction h with
  | any A' x => exact .any A x
  | v A' x => exact .v A x
  | sl0 A' z f b c => exact .sl0 A z f b c
  | sl A' z n f b o c us hn hc hm hI hz hcell hone hrel ih => exact .sl A z n f b o c us hn hc hm hI hz hcell hone hrel
  | agg A' cs vs hl hone hrel ih => exact .agg A cs vs hl hone fun j d u hd hu => ih j d u hd hu hN
  | tup A' cs vs hl hrel ih => exact .tup A cs vs hl fun j d u hd hu => ih j d u hd hu hN
  | dp A' cs b o us hI hcell hone hrel ih => exact .dp A cs b o us hI hcell hone hrel
  | bp A' s off g c h => subst hN; cases h
  | own A' s n B c b h hb => subst hN; cases h
  | rp A' s z i off g c h => subst hN; cases h
  | fn A' f fs cs us vs hf hc hfr hcr ih1 ih2 => exact .fn A f fs cs us vs hf hc (fun j d u hd hu => ih1 j d u hd hu hN) fun j d u hd hu => ih2 j d u hd hu hN
  | iface A' t d x h ih => exact .iface A t d x (ih hN)
  | mr A' s g c h => subst hN; cases h
  | ez A' b => exact .ez A b

theorem getElem?_renL {k : Nat → Nat} {l : List DV} {j : Nat} {d : DV} (h : (renL k l)[j]? = some d) : ∃ d', l[j]? = some d' ∧ d = ren k d' := by
  rw [renL_eq, List.getElem?_map] at h
  cases hl : l[j]? with
  | none => simp [hl] at h
  | some d' => simp [hl] at h; exact ⟨d', rfl, h.symm⟩

theorem renL_getElem? {k : Nat → Nat} {l : List DV} {j : Nat} {d : DV} (h : l[j]? = some d) : (renL k l)[j]? = some (ren k d) := by
  rw [renL_eq, List.getElem?_map, h]; rfl

/-- Renamed owners. -/
theorem Rel.rename {w : World} {I : Nat → Prop} {A : Own} {k : Nat → Nat} {d : DV} {x : Value} {A' : Own} (h : Rel w I A' d x) (hA : ∀ s, A (k s) = A' s) : Rel w I A (ren k d) x := by
  induction h with
  | any A' x => exact .any A x
  | v A' x => exact .v A x
  | sl0 A' z f b c => exact .sl0 A z f b c
  | sl A' z n f b o c us hn hc hm hI hz hcell hone hrel ih => exact .sl A z n f b o c us hn hc hm hI hz hcell hone hrel
  | agg A' cs vs hl hone hrel ih =>
    refine .agg A _ vs (by rw [renL_eq, List.length_map]; exact hl) hone fun j d u hd hu => ?_
    obtain ⟨d', h1, rfl⟩ := getElem?_renL hd
    exact ih j d' u h1 hu hA
  | tup A' cs vs hl hrel ih =>
    refine .tup A _ vs (by rw [renL_eq, List.length_map]; exact hl) fun j d u hd hu => ?_
    obtain ⟨d', h1, rfl⟩ := getElem?_renL hd
    exact ih j d' u h1 hu hA
  | dp A' cs b o us hI hcell hone hrel ih => exact .dp A cs b o us hI hcell hone hrel
  | bp A' s off g c h => exact .bp A (k s) off g c ((hA s).trans h)
  | own A' s n B c b h hb => exact .own A (k s) n B c b ((hA s).trans h) hb
  | rp A' s z i off g c h => exact .rp A (k s) z i off g c ((hA s).trans h)
  | fn A' f fs cs us vs hf hc hfr hcr ih1 ih2 =>
    refine .fn A f _ _ us vs (by rw [renL_eq, List.length_map]; exact hf) (by rw [renL_eq, List.length_map]; exact hc) (fun j d u hd hu => ?_) fun j d u hd hu => ?_
    · obtain ⟨d', h1, rfl⟩ := getElem?_renL hd
      exact ih1 j d' u h1 hu hA
    · obtain ⟨d', h1, rfl⟩ := getElem?_renL hd
      exact ih2 j d' u h1 hu hA
  | iface A' t d x h ih => exact .iface A t _ x (ih hA)
  | mr A' s g c h => exact .mr A (k s) g c ((hA s).trans h)
  | ez A' b => exact .ez A b

theorem Rel.unname {w : World} {I : Nat → Prop} {A : Own} {k : Nat → Nat} {e : DV} {x : Value} (h : Rel w I A e x) : ∀ d, e = ren k d → Rel w I (fun s => A (k s)) d x := by
  induction h with
  | any A x => intro d hd; cases d <;> simp [ren] at hd; exact .any _ x
  | v A x => intro d hd; cases d <;> simp [ren] at hd; subst hd; exact .v _ _
  | sl0 A z f b c =>
    intro d hd
    cases d <;> simp [ren] at hd
    obtain ⟨rfl, rfl, rfl⟩ := hd
    exact .sl0 _ _ _ b c
  | sl A z n f b o c us hn hc hm hI hz hcell hone hrel ih =>
    intro d hd
    cases d <;> simp [ren] at hd
    obtain ⟨rfl, rfl, rfl⟩ := hd
    exact .sl _ _ _ _ b o c us hn hc hm hI hz hcell hone hrel
  | agg A cs vs hl hone hrel ih =>
    intro d hd
    cases d <;> simp [ren] at hd
    subst hd
    refine .agg _ _ vs (by rw [renL_eq, List.length_map] at hl; exact hl) hone fun j d u hd hu => ih j _ u (renL_getElem? hd) hu d rfl
  | tup A cs vs hl hrel ih =>
    intro d hd
    cases d <;> simp [ren] at hd
    subst hd
    refine .tup _ _ vs (by rw [renL_eq, List.length_map] at hl; exact hl) fun j d u hd hu => ih j _ u (renL_getElem? hd) hu d rfl
  | dp A cs b o us hI hcell hone hrel ih =>
    intro d hd
    cases d <;> simp [ren] at hd
    subst hd
    exact .dp _ _ b o us hI hcell hone hrel
  | bp A s off g c h =>
    intro d hd
    cases d <;> simp [ren] at hd
    obtain ⟨rfl, rfl⟩ := hd
    exact .bp _ _ _ g c h
  | own A s n B c b h hb =>
    intro d hd
    cases d <;> simp [ren] at hd
    obtain ⟨rfl, rfl⟩ := hd
    exact .own _ _ _ B c b h hb
  | rp A s z i off g c h =>
    intro d hd
    cases d <;> simp [ren] at hd
    obtain ⟨rfl, rfl, rfl, rfl⟩ := hd
    exact .rp _ _ _ _ _ g c h
  | fn A f fs cs us vs hf hc hfr hcr ih1 ih2 =>
    intro d hd
    cases d <;> simp [ren] at hd
    obtain ⟨rfl, rfl, rfl⟩ := hd
    rw [renL_eq, List.length_map] at hf hc
    exact .fn _ _ _ _ us vs hf hc (fun j d u hd hu => ih1 j _ u (renL_getElem? hd) hu d rfl) fun j d u hd hu => ih2 j _ u (renL_getElem? hd) hu d rfl
  | iface A t d' x h ih =>
    intro d hd
    cases d <;> simp [ren] at hd
    obtain ⟨rfl, rfl⟩ := hd
    exact .iface _ _ _ x (ih _ rfl)
  | mr A s g c h =>
    intro d hd
    cases d <;> simp [ren] at hd
    subst hd
    exact .mr _ _ g c h
  | ez A b => intro d hd; cases d <;> simp [ren] at hd; exact .ez _ b

end Go.Sg
