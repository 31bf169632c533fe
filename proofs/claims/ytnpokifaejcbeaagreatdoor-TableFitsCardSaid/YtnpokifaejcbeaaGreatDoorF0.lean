/- Several texts as one. -/
import Derived.Below
import Derived.ChangeKeysEq
import Derived.Deep.LoopGhost
import Derived.IntWalk
import Derived.Laws.Cells
import Derived.Laws.CopyRow
import Derived.Laws.Entries
import Derived.Laws.World
import Derived.Maps.AppendAt
import Derived.OrdersIn
import Derived.RangeFuncLeaves
import Derived.Sort.LoopGhostIn
import Derived.TacticsIn
set_option linter.unusedSectionVars false
set_option linter.unusedVariables false
set_option linter.unusedSimpArgs false
namespace Go.Sg
theorem uP {α : Type} : ∀ (m : Ask α) (w : World), w.drawn ≤ (w.ask m).2.drawn
 | .done a, w => Nat.le_refl _
 | .ask what range k, w => by
  unfold World.ask
  simp only
  split
  ·exact uP (k 0) w
  exact Nat.le_trans (Nat.le_succ _) (uP (k _) { w with drawn := w.drawn + 1 })
theorem aOq (w : World) (c : Sys) : w.drawn ≤ (w.sys c).2.drawn := by
 have := uP (Kernel.perform c w.os) w
 unfold World.sys
 split
 ·exact Nat.le_refl _
 rename_i h; rw [h] at this; exact this
theorem aKy {p : Program} {w : World} {at_ : Addr} {u : TypeId} {k : Addr} {v : Value} {b : Bool} {r : World × List Addr} (h : w.viewStore p at_ u k v b = .ok r) : r.1.drawn = w.drawn := by
 unfold World.viewStore at h
 simp only [bind, Except.bind, pure, Except.pure] at h
 repeat' split at h
 all_goals first | (cases h; done) | (cases h; rfl) | skip
theorem dN {P : Program} {α : Type} : ∀ (m : Sem α) {w w' : World} {r : α}, m.run P w = .ok r w' → w.drawn ≤ w'.drawn
 | .pure a, w, w', r, h => by cases h; exact Nat.le_refl _
 | .load m a k, w, w', r, h => by
  unfold Sem.run at h
  split at h
  ·exact dN (k _) h
  split at h
  ·exact dN (k _) h
  cases h
 | .store m a v k, w, w', r, h => by
  have key : (match w.cell? a with
   | some _ => if w.frozen? a then Result.halt (.unsupported (.unsafePointer "a write to bytes that a string shares")) w else k.run P (w.setCell a v)
   | none => match w.farStore P a v (m == Mode.atomic) with
    | .ok (w, _) => k.run P w
    | .error h => .halt h w) = .ok r w' → w.drawn ≤ w'.drawn := fun h => by
   split at h
   ·split at h
    ·cases h
    exact dN k (w := w.setCell a v) h
   split at h
   ·rename_i w2 _ hf
    have h2 := dN k h
    unfold World.farStore at hf
    split at hf
    ·split at hf
     ·rename_i r2 hv
      cases hf
      have := aKy hv
      simp only at this
      omega
     cases hf
    cases hf
   cases h
  cases v <;> first | exact key h | (cases h; done)
 | .new o k, w, w', r, h => dN (k _) (w := { w with heap := w.heap.push o }) h
 | .shape q k, w, w', r, h => dN (k _) (w := w) h
 | .freeze a n k, w, w', r, h => by
  have h2 := dN k (w := w.freeze a n) h
  have : (w.freeze a n).drawn = w.drawn := by unfold World.freeze; split <;> rfl
  omega
 | .frozen a k, w, w', r, h => dN (k _) (w := w) h
 | .getObj q k, w, w', r, h => by
  unfold Sem.run at h
  split at h
  ·cases h
  ·exact dN (k _) h
  cases h
 | .setObj q o k, w, w', r, h => by
  unfold Sem.run at h
  split at h
  ·cases h
  ·exact dN k (w := { w with heap := w.heap.setIfInBounds q o }) h
  cases h
 | .choose q k, w, w', r, h => by
  unfold Sem.run at h
  split at h
  ·exact dN (k 0) h
  exact Nat.le_trans (Nat.le_succ _) (dN (k _) (w := { w with drawn := w.drawn + 1 }) h)
 | .sys c k, w, w', r, h => Nat.le_trans (aOq w c) (dN (k _) (w := (w.sys c).2) h)
 | .program k, w, w', r, h => dN (k P) (w := w) h
 | .mark m k, w, w', r, h => dN k (w := w) h
 | .halt h, w, w', r, hh => by cases hh
inductive DV where
 | any
 | v (x : Value)
 | sl (z n : Nat) (f : Nat → List DV)
 | agg (cs : List DV)
 | tup (cs : List DV)
 | dp (cs : List DV)
 | bp (s off : Nat)
 | own (s n : Nat)
 | rp (s z i off : Nat)
 | fn (f : FuncId) (first captured : List DV)
 | iface (t : TypeId) (x : DV)
 | cond (g : Bool) (x : DV)
 | bx (cs : List DV)
 | row (e : TypeId) (z : Nat) (xs : List (List DV))
 | mr (s : Nat)
 | ez
 | mo (es : List (Value × Value))
instance : Inhabited DV := ⟨.any⟩
abbrev aS := Nat → DV
abbrev cO := Nat → Option (Option Nat × Nat)
abbrev cU : cO := fun _ => none
mutual
def d7 (p : Nat → Bool) : DV → Bool
 | .agg cs => dF p cs
 | .tup cs => dF p cs
 | .bp s _ => p s
 | .own s _ => p s
 | .rp s _ _ _ => p s
 | .mr s => p s
 | .fn _ a b => dF p a && dF p b
 | .iface _ x => d7 p x
 | .cond _ x => d7 p x
 | .bx cs => dF p cs
 | _ => true
def dF (p : Nat → Bool) : List DV → Bool
 | [] => true
 | d :: l => d7 p d && dF p l
end
mutual
def qL (k : Nat → Nat) : DV → DV
 | .agg cs => .agg (gT k cs)
 | .tup cs => .tup (gT k cs)
 | .bp s o => .bp (k s) o
 | .own s n => .own (k s) n
 | .rp s z i o => .rp (k s) z i o
 | .fn f a b => .fn f (gT k a) (gT k b)
 | .iface t x => .iface t (qL k x)
 | .cond g x => .cond g (qL k x)
 | .bx cs => .bx (gT k cs)
 | .any => .any
 | .v x => .v x
 | .sl z n f => .sl z n f
 | .dp cs => .dp cs
 | .row e z xs => .row e z xs
 | .mr s => .mr (k s)
 | .ez => .ez
 | .mo es => .mo es
def gT (k : Nat → Nat) : List DV → List DV
 | [] => []
 | d :: l => qL k d :: gT k l
end
theorem jE (k : Nat → Nat) (l : List DV) : gT k l = l.map (qL k) := by
 induction l with
 | nil => rfl
 | cons d l ih => simp [gT, ih]
theorem nB (p : Nat → Bool) (l : List DV) : dF p l = true ↔ ∀ d ∈ l, d7 p d = true := by
 induction l with
 | nil => simp [dF]
 | cons d l ih => simp [dF, ih]
theorem fC {p : Nat → Bool} {l : List DV} (h : dF p l = true) {j : Nat} {d : DV} (hj : l[j]? = some d) : d7 p d = true :=
 (nB p l).1 h d (List.mem_of_getElem? hj)
def jI (B : Option Nat) (b : Option Addr) : Prop := ∀ g, B = some g → b = some ⟨g, 0, none⟩
theorem fL {g : Nat} {b : Option Addr} (h : jI (some g) b) : b = some ⟨g, 0, none⟩ := h g rfl
theorem qJ (g : Nat) : jI (Option.some g) (Option.some ⟨g, 0, Option.none⟩) := fun _ h => by cases h; rfl
theorem jO (b : Option Addr) : jI none b := fun _ h => by cases h
inductive bH (w : World) (I : Nat → Prop) : cO → DV → Value → Prop
 | any (A : cO) (x : Value) : bH w I A .any x
 | v (A : cO) (x : Value) : bH w I A (.v x) x
 | sl0 (A : cO) (z : Nat) (f : Nat → List DV) (b : Option Addr) (c : Nat) : bH w I A (.sl z 0 f) (.slice b 0 c)
 | sl (A : cO) (z n : Nat) (f : Nat → List DV) (b o c : Nat) (us : Nat → Nat → Value) (hn : 0 < n) (hc : n ≤ c) (hm : c ≤ maxLen) (hI : I b)
   (hz : ∀ i, i < n → (f i).length = z) (hcell : ∀ i j, i < n → j < z → w.cell? ⟨b, o + (i * z + j), none⟩ = some (us i j))
   (hone : ∀ i j, i < n → j < z → (us i j).oneCell' = true) (hrel : ∀ i j d, i < n → (f i)[j]? = some d → bH w I cU d (us i j)) :
   bH w I A (.sl z n f) (.slice (some ⟨b, o, none⟩) n c)
 | agg (A : cO) (cs : List DV) (vs : Array Value) (hl : cs.length = vs.size) (hone : ∀ u ∈ vs.toList, u.oneCell' = true)
   (hrel : ∀ (j : Nat) (d : DV) (u : Value), cs[j]? = some d → vs[j]? = some u → bH w I A d u) : bH w I A (.agg cs) (.agg vs)
 | tup (A : cO) (cs : List DV) (vs : Array Value) (hl : cs.length = vs.size)
   (hrel : ∀ (j : Nat) (d : DV) (u : Value), cs[j]? = some d → vs[j]? = some u → bH w I A d u) : bH w I A (.tup cs) (.tuple vs)
 | dp (A : cO) (cs : List DV) (b o : Nat) (us : Nat → Value) (hI : I b) (hcell : ∀ j, j < cs.length → w.cell? ⟨b, o + j, none⟩ = some (us j))
   (hone : ∀ j, j < cs.length → (us j).oneCell' = true) (hrel : ∀ (j : Nat) (d : DV), cs[j]? = some d → bH w I cU d (us j)) : bH w I A (.dp cs) (.pointer (some ⟨b, o, none⟩))
 | bp (A : cO) (s off g c : Nat) (h : A s = some (some g, c)) : bH w I A (.bp s off) (.pointer (some ⟨g, off, none⟩))
 | own (A : cO) (s n : Nat) (B : Option Nat) (c : Nat) (b : Option Addr) (h : A s = some (B, c)) (hb : jI B b) : bH w I A (.own s n) (.slice b n c)
 | rp (A : cO) (s z i off g c : Nat) (h : A s = some (some g, c)) : bH w I A (.rp s z i off) (.pointer (some ⟨g, i * z + off, none⟩))
 | fn (A : cO) (f : FuncId) (fs cs : List DV) (us vs : Array Value) (hf : fs.length = us.size) (hc : cs.length = vs.size)
   (hfr : ∀ (j : Nat) (d : DV) (u : Value), fs[j]? = some d → us[j]? = some u → bH w I A d u)
   (hcr : ∀ (j : Nat) (d : DV) (u : Value), cs[j]? = some d → vs[j]? = some u → bH w I A d u) : bH w I A (.fn f fs cs) (.func (.func f) us vs)
 | iface (A : cO) (t : TypeId) (d : DV) (x : Value) (h : bH w I A d x) : bH w I A (.iface t d) (.iface t x)
 | mr (A : cO) (s g c : Nat) (h : A s = some (some g, c)) : bH w I A (.mr s) (.map (some g))
 | ez (A : cO) (b : Option Addr) : bH w I A .ez (.slice b 0 0)
theorem bH.mono {w w' : World} {I I' : Nat → Prop} {A : cO} {d : DV} {x : Value} (h : bH w I A d x)
  (hk : ∀ g, I g → I' g ∧ ∀ o, w'.cell? ⟨g, o, none⟩ = w.cell? ⟨g, o, none⟩) : bH w' I' A d x := by
 induction h with
 | any A x => exact .any A x
 | v A x => exact .v A x
 | sl0 A z f b c => exact .sl0 A z f b c
 | sl A z n f b o c us hn hc hm hI hz hcell hone hrel ih =>
  exact .sl A z n f b o c us hn hc hm (hk _ hI).1 hz (fun i j hi hj => ((hk _ hI).2 _).trans (hcell i j hi hj)) hone ih
 | agg A cs vs hl hone hrel ih => exact .agg A cs vs hl hone ih
 | tup A cs vs hl hrel ih => exact .tup A cs vs hl ih
 | dp A cs b o us hI hcell hone hrel ih => exact .dp A cs b o us (hk _ hI).1 (fun j hj => ((hk _ hI).2 _).trans (hcell j hj)) hone ih
 | bp A s off g c h => exact .bp A s off g c h
 | own A s n B c b h hb => exact .own A s n B c b h hb
 | rp A s z i off g c h => exact .rp A s z i off g c h
 | fn A f fs cs us vs hf hc hfr hcr ih1 ih2 => exact .fn A f fs cs us vs hf hc ih1 ih2
 | iface A t d x h ih => exact .iface A t d x ih
 | mr A s g c h => exact .mr A s g c h
 | ez A b => exact .ez A b
theorem bH.congrA {w : World} {I : Nat → Prop} {A A' : cO} {d : DV} {x : Value} (h : bH w I A d x) (p : Nat → Bool) (hp : d7 p d = true)
  (ha : ∀ s, p s = true → A' s = A s) : bH w I A' d x := by
 induction h with
 | any A x => exact .any A' x
 | v A x => exact .v A' x
 | sl0 A z f b c => exact .sl0 A' z f b c
 | sl A z n f b o c us hn hc hm hI hz hcell hone hrel ih => exact .sl A' z n f b o c us hn hc hm hI hz hcell hone hrel
 | agg A cs vs hl hone hrel ih => exact .agg A' cs vs hl hone fun j d u hd hu => ih j d u hd hu (fC (by simpa [d7] using hp) hd) ha
 | tup A cs vs hl hrel ih => exact .tup A' cs vs hl fun j d u hd hu => ih j d u hd hu (fC (by simpa [d7] using hp) hd) ha
 | dp A cs b o us hI hcell hone hrel ih => exact .dp A' cs b o us hI hcell hone hrel
 | bp A s off g c h => exact .bp A' s off g c ((ha s (by simpa [d7] using hp)).trans h)
 | own A s n B c b h hb => exact .own A' s n B c b ((ha s (by simpa [d7] using hp)).trans h) hb
 | rp A s z i off g c h => exact .rp A' s z i off g c ((ha s (by simpa [d7] using hp)).trans h)
 | fn A f fs cs us vs hf hc hfr hcr ih1 ih2 =>
  simp only [d7, Bool.and_eq_true] at hp
  exact .fn A' f fs cs us vs hf hc (fun j d u hd hu => ih1 j d u hd hu (fC hp.1 hd) ha) fun j d u hd hu => ih2 j d u hd hu (fC hp.2 hd) ha
 | iface A t d x h ih => exact .iface A' t d x (ih (by simpa [d7] using hp) ha)
 | mr A s g c h => exact .mr A' s g c ((ha s (by simpa [d7] using hp)).trans h)
 | ez A b => exact .ez A' b
theorem bH.pure {w : World} {I : Nat → Prop} {A A' : cO} {d : DV} {x : Value} (h : bH w I A d x) (hp : d7 (fun _ => false) d = true) : bH w I A' d x :=
 h.congrA (fun _ => false) hp fun _ h => by cases h
theorem bH.ofNoOwn {w : World} {I : Nat → Prop} {A : cO} {d : DV} {x : Value} (h : bH w I cU d x) : bH w I A d x := by
 generalize hN : cU = N at h
 induction h with
 | any A' x => exact .any A x
 | v A' x => exact .v A x
 | sl0 A' z f b c => exact .sl0 A z f b c
 | sl A' z n f b o c us hn hc hm hI hz hcell hone hrel ih => exact .sl A z n f b o c us hn hc hm hI hz hcell hone hrel
 | agg A' cs vs hl hone hrel ih => exact .agg A cs vs hl hone fun j d u hd hu => ih j d u hd hu hN
 | tup A' cs vs hl hrel ih => exact .tup A cs vs hl fun j d u hd hu => ih j d u hd hu hN
 | dp A' cs b o us hI hcell hone hrel ih => exact .dp A cs b o us hI hcell hone hrel
 | bp A' s off g c h => subst hN; cases h
 | own A' s n B c b h hb => subst hN; cases h
 | rp A' s z i off g c h => subst hN; cases h
 | fn A' f fs cs us vs hf hc hfr hcr ih1 ih2 => exact .fn A f fs cs us vs hf hc (fun j d u hd hu => ih1 j d u hd hu hN) fun j d u hd hu => ih2 j d u hd hu hN
 | iface A' t d x h ih => exact .iface A t d x (ih hN)
 | mr A' s g c h => subst hN; cases h
 | ez A' b => exact .ez A b
theorem i8 {k : Nat → Nat} {l : List DV} {j : Nat} {d : DV} (h : (gT k l)[j]? = some d) : ∃ d', l[j]? = some d' ∧ d = qL k d' := by
 rw [jE, List.getElem?_map] at h
 cases hl : l[j]? with
 | none => simp [hl] at h
 | some d' => simp [hl] at h; exact ⟨d', rfl, h.symm⟩
theorem gO {k : Nat → Nat} {l : List DV} {j : Nat} {d : DV} (h : l[j]? = some d) : (gT k l)[j]? = some (qL k d) := by
 rw [jE, List.getElem?_map, h]; rfl
theorem bH.rename {w : World} {I : Nat → Prop} {A : cO} {k : Nat → Nat} {d : DV} {x : Value} {A' : cO} (h : bH w I A' d x) (hA : ∀ s, A (k s) = A' s) : bH w I A (qL k d) x := by
 induction h with
 | any A' x => exact .any A x
 | v A' x => exact .v A x
 | sl0 A' z f b c => exact .sl0 A z f b c
 | sl A' z n f b o c us hn hc hm hI hz hcell hone hrel ih => exact .sl A z n f b o c us hn hc hm hI hz hcell hone hrel
 | agg A' cs vs hl hone hrel ih =>
  refine .agg A _ vs (by rw [jE, List.length_map]; exact hl) hone fun j d u hd hu => ?_
  obtain ⟨d', h1, rfl⟩ := i8 hd
  exact ih j d' u h1 hu hA
 | tup A' cs vs hl hrel ih =>
  refine .tup A _ vs (by rw [jE, List.length_map]; exact hl) fun j d u hd hu => ?_
  obtain ⟨d', h1, rfl⟩ := i8 hd
  exact ih j d' u h1 hu hA
 | dp A' cs b o us hI hcell hone hrel ih => exact .dp A cs b o us hI hcell hone hrel
 | bp A' s off g c h => exact .bp A (k s) off g c ((hA s).trans h)
 | own A' s n B c b h hb => exact .own A (k s) n B c b ((hA s).trans h) hb
 | rp A' s z i off g c h => exact .rp A (k s) z i off g c ((hA s).trans h)
 | fn A' f fs cs us vs hf hc hfr hcr ih1 ih2 =>
  refine .fn A f _ _ us vs (by rw [jE, List.length_map]; exact hf) (by rw [jE, List.length_map]; exact hc) (fun j d u hd hu => ?_) fun j d u hd hu => ?_
  ·obtain ⟨d', h1, rfl⟩ := i8 hd
   exact ih1 j d' u h1 hu hA
  obtain ⟨d', h1, rfl⟩ := i8 hd
  exact ih2 j d' u h1 hu hA
 | iface A' t d x h ih => exact .iface A t _ x (ih hA)
 | mr A' s g c h => exact .mr A (k s) g c ((hA s).trans h)
 | ez A' b => exact .ez A b
theorem bH.unname {w : World} {I : Nat → Prop} {A : cO} {k : Nat → Nat} {e : DV} {x : Value} (h : bH w I A e x) : ∀ d, e = qL k d → bH w I (fun s => A (k s)) d x := by
 induction h with
 | any A x => intro d hd; cases d <;> simp [qL] at hd; exact .any _ x
 | v A x => intro d hd; cases d <;> simp [qL] at hd; subst hd; exact .v _ _
 | sl0 A z f b c =>
  intro d hd
  cases d <;> simp [qL] at hd
  obtain ⟨rfl, rfl, rfl⟩ := hd
  exact .sl0 _ _ _ b c
 | sl A z n f b o c us hn hc hm hI hz hcell hone hrel ih =>
  intro d hd
  cases d <;> simp [qL] at hd
  obtain ⟨rfl, rfl, rfl⟩ := hd
  exact .sl _ _ _ _ b o c us hn hc hm hI hz hcell hone hrel
 | agg A cs vs hl hone hrel ih =>
  intro d hd
  cases d <;> simp [qL] at hd
  subst hd
  refine .agg _ _ vs (by rw [jE, List.length_map] at hl; exact hl) hone fun j d u hd hu => ih j _ u (gO hd) hu d rfl
 | tup A cs vs hl hrel ih =>
  intro d hd
  cases d <;> simp [qL] at hd
  subst hd
  refine .tup _ _ vs (by rw [jE, List.length_map] at hl; exact hl) fun j d u hd hu => ih j _ u (gO hd) hu d rfl
 | dp A cs b o us hI hcell hone hrel ih =>
  intro d hd
  cases d <;> simp [qL] at hd
  subst hd
  exact .dp _ _ b o us hI hcell hone hrel
 | bp A s off g c h =>
  intro d hd
  cases d <;> simp [qL] at hd
  obtain ⟨rfl, rfl⟩ := hd
  exact .bp _ _ _ g c h
 | own A s n B c b h hb =>
  intro d hd
  cases d <;> simp [qL] at hd
  obtain ⟨rfl, rfl⟩ := hd
  exact .own _ _ _ B c b h hb
 | rp A s z i off g c h =>
  intro d hd
  cases d <;> simp [qL] at hd
  obtain ⟨rfl, rfl, rfl, rfl⟩ := hd
  exact .rp _ _ _ _ _ g c h
 | fn A f fs cs us vs hf hc hfr hcr ih1 ih2 =>
  intro d hd
  cases d <;> simp [qL] at hd
  obtain ⟨rfl, rfl, rfl⟩ := hd
  rw [jE, List.length_map] at hf hc
  exact .fn _ _ _ _ us vs hf hc (fun j d u hd hu => ih1 j _ u (gO hd) hu d rfl) fun j d u hd hu => ih2 j _ u (gO hd) hu d rfl
 | iface A t d' x h ih =>
  intro d hd
  cases d <;> simp [qL] at hd
  obtain ⟨rfl, rfl⟩ := hd
  exact .iface _ _ _ x (ih _ rfl)
 | mr A s g c h =>
  intro d hd
  cases d <;> simp [qL] at hd
  subst hd
  exact .mr _ _ g c h
 | ez A b => intro d hd; cases d <;> simp [qL] at hd; exact .ez _ b
end Go.Sg
namespace Go.Sg
def aMm : Array Value := #[.int .i64 1, .int .i64 0, .int .i64 1, .int .i64 0, .int .i64 1, .int .i64 1, .int .i64 0, .int .i64 0, .int .i64 2, .int .i64 0, .int .i64 1, .int .i64 1, .int .i64 2, .int .i64 0, .int .i64 2, .int .i64 2, .int .i64 2, .int .i64 1, .int .i64 0, .int .i64 1, .int .i64 2, .int .i64 2, .int .i64 0, .int .i64 2, .int .i64 3, .int .i64 0, .int .i64 1, .int .i64 0, .int .i64 3, .int .i64 1, .int .i64 0, .int .i64 0, .int .i64 3, .int .i64 2, .int .i64 3, .int .i64 0, .int .i64 3, .int .i64 3, .int .i64 2, .int .i64 0]
def aIp : Array Value := #[.int .i64 0, .int .i64 2, .int .i64 3, .int .i64 4]
def aLx : Array Value := #[.int .u64 1, .int .u64 10, .int .u64 100, .int .u64 1000, .int .u64 10000, .int .u64 100000, .int .u64 1000000, .int .u64 10000000, .int .u64 100000000, .int .u64 1000000000, .int .u64 10000000000, .int .u64 100000000000, .int .u64 1000000000000, .int .u64 10000000000000, .int .u64 100000000000000, .int .u64 1000000000000000, .int .u64 10000000000000000, .int .u64 100000000000000000, .int .u64 1000000000000000000, .int .u64 10000000000000000000]
def aSx : Array Value := #[.int .u8 0, .int .u8 1, .int .u8 28, .int .u8 2, .int .u8 29, .int .u8 14, .int .u8 24, .int .u8 3, .int .u8 30, .int .u8 22, .int .u8 20, .int .u8 15, .int .u8 25, .int .u8 17, .int .u8 4, .int .u8 8, .int .u8 31, .int .u8 27, .int .u8 13, .int .u8 23, .int .u8 21, .int .u8 19, .int .u8 16, .int .u8 7, .int .u8 26, .int .u8 12, .int .u8 18, .int .u8 6, .int .u8 11, .int .u8 5, .int .u8 10, .int .u8 9]
def aUp : Array Value := #[.int .u8 0, .int .u8 1, .int .u8 56, .int .u8 2, .int .u8 57, .int .u8 49, .int .u8 28, .int .u8 3, .int .u8 61, .int .u8 58, .int .u8 42, .int .u8 50, .int .u8 38, .int .u8 29, .int .u8 17, .int .u8 4, .int .u8 62, .int .u8 47, .int .u8 59, .int .u8 36, .int .u8 45, .int .u8 43, .int .u8 51, .int .u8 22, .int .u8 53, .int .u8 39, .int .u8 33, .int .u8 30, .int .u8 24, .int .u8 18, .int .u8 12, .int .u8 5, .int .u8 63, .int .u8 55, .int .u8 48, .int .u8 27, .int .u8 60, .int .u8 41, .int .u8 37, .int .u8 16, .int .u8 46, .int .u8 35, .int .u8 44, .int .u8 21, .int .u8 52, .int .u8 32, .int .u8 23, .int .u8 11, .int .u8 54, .int .u8 26, .int .u8 40, .int .u8 15, .int .u8 34, .int .u8 20, .int .u8 31, .int .u8 10, .int .u8 25, .int .u8 14, .int .u8 19, .int .u8 9, .int .u8 13, .int .u8 8, .int .u8 7, .int .u8 6]
def GT : Nat → Option (Array Value × TypeId)
 | 0 => some (aMm, 184)
 | 1 => some (aIp, 185)
 | 2 => some (aLx, 227)
 | 3 => some (aSx, 230)
 | 4 => some (aUp, 231)
 | _ => none
end Go.Sg
namespace Go.Rv
def FR (ro : Option Nat) : Fence := { Fence.wide with round := ro }
theorem qH : FR none = Fence.wide := rfl
theorem aVa (ro : Option Nat) {n k : Nat} : (FR ro).depth.isSome = true → k ≤ n := fun h => by simp [FR, Fence.wide] at h
theorem aKx {ro : Option Nat} {n : Nat} {P : Program} {f : FuncId} {args : Array Value} {w : World} {R : Ending → World → Prop} (h : Calls P f args w R) : CallsIn (FR ro) n P f args w R :=
 ⟨trivial, fun cs _ => let ⟨e, w', fr, r, s, x⟩ := h cs; ⟨e, w', fr, r, comesIn_wide.2 s, x⟩⟩
end Go.Rv
namespace Go.Sg
open Go.RowKit
open Go.Rv (FR)
def cX (w : World) (I : Nat → Prop) (A : cO) (s : Nat) (d : DV) (x : Value) : Prop :=
 match d with
 | .bx _ => ∃ g c, A s = some (some g, c) ∧ x = .pointer (some ⟨g, 0, none⟩)
 | .row _ _ xs => ∃ B c, A s = some (B, c) ∧ ∃ b, jI B b ∧ x = .slice b xs.length c
 | .cond g y => (g = true → bH w I A y x) ∧ (g = false → x = undef)
 | .mo _ => ∃ g c, A s = some (some g, c) ∧ x = .map (some g)
 | d => bH w I A d x
def iY (w : World) (I : Nat → Prop) (e : TypeId) (z : Nat) (xs : List (List DV)) (B : Option Nat) (c : Nat) : Prop :=
 match B with
 | none => xs = [] ∧ c = 0
 | some g => ∃ us, w.heap[g]? = some (.cells us e (0, 0)) ∧ us.size = c * z ∧ c ≤ maxLen ∧ xs.length ≤ c ∧
   ∀ (i : Nat) (x : List DV), xs[i]? = some x → x.length = z ∧ ∀ (j : Nat) (d : DV) (u : Value), x[j]? = some d → us[i * z + j]? = some u → u.oneCell' = true ∧ bH w I cU d u
def dY (w : World) (I : Nat → Prop) (A : cO) (s : Nat) (d : DV) : Prop :=
 match d with
 | .bx cs => ∃ g c us et, A s = some (some g, c) ∧ w.heap[g]? = some (.cells us et (0, 0)) ∧ us.size = cs.length ∧ (∀ u ∈ us.toList, u.oneCell' = true) ∧
   ∀ (j : Nat) (d : DV) (u : Value), cs[j]? = some d → us[j]? = some u → bH w I A d u
 | .row e z xs => ∃ B c, A s = some (B, c) ∧ iY w I e z xs B c
 | .mo es => ∃ g c vs cl, A s = some (some g, c) ∧ w.heap[g]? = some (.map (List.toArray vs) cl) ∧ vs.map (fun (m : MapEntry) => (m.key, m.val)) = es
 | _ => True
structure Imm (w : World) (I : Nat → Prop) : Prop where
 lt : ∀ g, I g → g < w.heap.size
 glob : ∀ g us e, GT g = some (us, e) → I g ∧ w.heap[g]? = some (.cells us e (0, 0))
instance {w : World} {I : Nat → Prop} : CoeFun (Imm w I) (fun _ => ∀ g, I g → g < w.heap.size) := ⟨Imm.lt⟩
theorem Imm.step {w w' : World} {I I' : Nat → Prop} (h : Imm w I) (h1 : ∀ g, I' g → g < w'.heap.size) (h2 : ∀ g, I g → I' g ∧ w'.heap[g]? = w.heap[g]?) : Imm w' I' :=
 ⟨h1, fun g us e hg => ⟨(h2 g (h.glob g us e hg).1).1, (h2 g (h.glob g us e hg).1).2.trans (h.glob g us e hg).2⟩⟩
structure gK (w : World) (I : Nat → Prop) (A : cO) (ρ : aS) : Prop where
 own : ∀ s, dY w I A s (ρ s)
 inj : ∀ s t g c c', A s = some (some g, c) → A t = some (some g, c') → s = t
 sep : ∀ s g c, A s = some (some g, c) → g < w.heap.size ∧ ¬ I g
 imm : Imm w I
abbrev cM (d : DV) : Prop := d7 (fun t => decide (100000 ≤ t)) d = true
structure b9 (nt : Nat) (w : World) (I : Nat → Prop) (A : cO) (ρ : aS) (a : Act) : Prop where
 osim : gK w I A ρ
 size : a.tmps.size = nt
 bound : nt ≤ 100000
 slot : ∀ i, i < nt → cX w I A i (ρ i) (a.tmps.getD i undef)
 out : ∀ s, 100000 ≤ s → cM (ρ s)
structure eA (w : World) (I : Nat → Prop) (A : cO) (w' : World) (I' : Nat → Prop) (A' : cO) : Prop where
 os : w'.os = w.os
 tape : w'.tape = w.tape ∧ w.drawn ≤ w'.drawn
 output : w'.output = w.output
 size : w.heap.size ≤ w'.heap.size
 imm : ∀ g, I g → I' g
 old : ∀ g, g < w.heap.size → (∀ s c, A s ≠ some (some g, c)) → w'.heap[g]? = w.heap[g]? ∧ (I' g → I g) ∧ (∀ s c, A' s ≠ some (some g, c))
 loc : ∀ s g c, A' s = some (some g, c) → g < w.heap.size → s < 100000 → ∃ t c', t < 100000 ∧ A t = some (some g, c')
 outA : ∀ s, 100000 ≤ s → A' s = A s
theorem eA.refl (w : World) (I : Nat → Prop) (A : cO) : eA w I A w I A :=
 ⟨rfl, ⟨rfl, Nat.le_refl _⟩, rfl, Nat.le_refl _, fun _ h => h, fun g _ hA => ⟨rfl, fun h => h, hA⟩, fun s g c h _ hs => ⟨s, c, hs, h⟩, fun _ _ => rfl⟩
theorem eA.trans {w w1 w2 : World} {I I1 I2 : Nat → Prop} {A A1 A2 : cO} (h : eA w I A w1 I1 A1) (k : eA w1 I1 A1 w2 I2 A2) : eA w I A w2 I2 A2 where
 os := k.os.trans h.os
 tape := ⟨k.tape.1.trans h.tape.1, Nat.le_trans h.tape.2 k.tape.2⟩
 output := k.output.trans h.output
 size := Nat.le_trans h.size k.size
 imm := fun g hg => k.imm g (h.imm g hg)
 old := fun g hg hA => by
  obtain ⟨h1, h2, h3⟩ := h.old g hg hA
  obtain ⟨k1, k2, k3⟩ := k.old g (Nat.lt_of_lt_of_le hg h.size) h3
  exact ⟨k1.trans h1, fun x => h2 (k2 x), k3⟩
 loc := fun s g c hs hg hl => by
  obtain ⟨t, c', ht, hA⟩ := k.loc s g c hs (Nat.lt_of_lt_of_le hg h.size) hl
  exact h.loc t g c' hA hg ht
 outA := fun s hs => (k.outA s hs).trans (h.outA s hs)
theorem eA.keep {w w' : World} {I I' : Nat → Prop} {A A' : cO} {ρ : aS} (h : eA w I A w' I' A') (hs : gK w I A ρ) (g : Nat) (hg : I g) : I' g ∧ w'.heap[g]? = w.heap[g]? :=
 ⟨h.imm g hg, (h.old g (hs.imm g hg) fun s c e => (hs.sep s g c e).2 hg).1⟩
theorem cY {w w' : World} {g : Nat} (h : w'.heap[g]? = w.heap[g]?) (o : Nat) : w'.cell? ⟨g, o, none⟩ = w.cell? ⟨g, o, none⟩ := by
 unfold World.cell?; rw [h]
theorem eA.rel {w w' : World} {I I' : Nat → Prop} {A A' : cO} {ρ : aS} (h : eA w I A w' I' A') (hs : gK w I A ρ) {B : cO} {d : DV} {x : Value} (hr : bH w I B d x) : bH w' I' B d x :=
 hr.mono fun g hg => ⟨(h.keep hs g hg).1, fun o => cY (h.keep hs g hg).2 o⟩
def AW (P : Program) (nt : Nat) (c : Code) (Q : Exit → aS → Prop) (ρ : aS) : Prop :=
 ∀ (ro : Option Nat) (ds : List Deferred) I A a w, b9 nt w I A ρ a → a.defers = ds →
  c.wpIn (FR ro) 0 P (fun e a' w' => ∃ I' A' ρ', b9 nt w' I' A' ρ' a' ∧ a'.defers = ds ∧ eA w I A w' I' A' ∧ Q e ρ') a w
section
variable {P : Program} {nt : Nat} {Q : Exit → aS → Prop} {ρ : aS}
theorem bDd {c : Code} {Q' : Exit → aS → Prop} (h : AW P nt c Q ρ) (hq : ∀ e ρ, Q e ρ → Q' e ρ) : AW P nt c Q' ρ :=
 fun ro ds I A a w hs hd => wpIn_mono (h ro ds I A a w hs hd) fun _ _ _ ⟨I', A', ρ', h1, h2, h3, h4⟩ => ⟨I', A', ρ', h1, h2, h3, hq _ _ h4⟩
theorem aJ (h : Q .normal ρ) : AW P nt .skip Q ρ := fun ro ds I A a w hs hd => wpIn_skip ⟨I, A, ρ, hs, hd, eA.refl _ _ _, h⟩
theorem bA {i : Nat} (h : Q (.exit i) ρ) : AW P nt (.exit i) Q ρ := fun ro ds I A a w hs hd => wpIn_exit ⟨I, A, ρ, hs, hd, eA.refl _ _ _, h⟩
theorem aM (h : Q .ret ρ) : AW P nt .ret Q ρ := fun ro ds I A a w hs hd => wpIn_ret ⟨I, A, ρ, hs, hd, eA.refl _ _ _, h⟩
def oZ (K : aS → Prop) (Q : Exit → aS → Prop) : Exit → aS → Prop
 | .normal, ρ => K ρ
 | e, ρ => Q e ρ
theorem aA {x y : Code} (h : ∀ K : aS → Prop, (∀ ρ, AW P nt y Q ρ → K ρ) → AW P nt x (oZ K Q) ρ) : AW P nt (.seq x y) Q ρ := by
 intro ro ds I A a w hs hd
 refine wpIn_seq (wpIn_mono (h (fun ρ => AW P nt y Q ρ) (fun _ h => h) ro ds I A a w hs hd) ?_)
 intro e a1 w1 ⟨I1, A1, ρ1, h1, h2, h3, h4⟩
 cases e with
 | normal => exact wpIn_mono (h4 ro ds I1 A1 a1 w1 h1 h2) fun _ _ _ ⟨I', A', ρ', k1, k2, k3, k4⟩ => ⟨I', A', ρ', k1, k2, h3.trans k3, k4⟩
 | exit i => exact ⟨I1, A1, ρ1, h1, h2, h3, h4⟩
 | goto l => exact ⟨I1, A1, ρ1, h1, h2, h3, h4⟩
 | ret => exact ⟨I1, A1, ρ1, h1, h2, h3, h4⟩
 | panic ch => exact ⟨I1, A1, ρ1, h1, h2, h3, h4⟩
 | outgrown => exact ⟨I1, A1, ρ1, h1, h2, h3, h4⟩
def m8 (id : Nat) (Q : Exit → aS → Prop) : Exit → aS → Prop
 | .exit id', ρ => if id' = id then Q .normal ρ else Q (.exit id') ρ
 | e, ρ => Q e ρ
theorem aL {id : Nat} {c : Code} (h : AW P nt c (m8 id Q) ρ) : AW P nt (.block id c) Q ρ := by
 intro ro ds I A a w hs hd
 refine wpIn_block (wpIn_mono (h ro ds I A a w hs hd) ?_)
 intro e a1 w1 ⟨I1, A1, ρ1, h1, h2, h3, h4⟩
 cases e with
 | exit i =>
  simp only [Exit.inBlock, m8] at *
  split <;> rename_i hi
  ·rw [if_pos hi] at h4; exact ⟨I1, A1, ρ1, h1, h2, h3, h4⟩
  rw [if_neg hi] at h4; exact ⟨I1, A1, ρ1, h1, h2, h3, h4⟩
 | normal => exact ⟨I1, A1, ρ1, h1, h2, h3, h4⟩
 | goto l => exact ⟨I1, A1, ρ1, h1, h2, h3, h4⟩
 | ret => exact ⟨I1, A1, ρ1, h1, h2, h3, h4⟩
 | panic ch => exact ⟨I1, A1, ρ1, h1, h2, h3, h4⟩
 | outgrown => exact ⟨I1, A1, ρ1, h1, h2, h3, h4⟩
theorem bDf {c : Code} (J : Nat → aS → Prop) (n₀ : Nat) (h₀ : J n₀ ρ)
  (round : ∀ n ρ, J n ρ → ∀ K : aS → Prop, (∀ m ρ', m < n → J m ρ' → K ρ') → AW P nt c (oZ K Q) ρ) : AW P nt (.loop c) Q ρ := by
 intro ro ds I A a w hs hd
 refine wpIn_loop_ghost (fun n a' w' => ∃ I' A' ρ', b9 nt w' I' A' ρ' a' ∧ a'.defers = ds ∧ eA w I A w' I' A' ∧ J n ρ') n₀ ⟨I, A, ρ, hs, hd, eA.refl _ _ _, h₀⟩ ?_
 intro n a1 w1 ⟨I1, A1, ρ1, h1, h2, h3, h4⟩
 refine wpIn_mono (round n ρ1 h4 (fun ρ => ∃ m, m < n ∧ J m ρ) (fun m ρ' hm hj => ⟨m, hm, hj⟩) ro ds I1 A1 a1 w1 h1 h2) ?_
 intro e a2 w2 ⟨I2, A2, ρ2, k1, k2, k3, k4⟩
 cases e with
 | normal => obtain ⟨m, hm, hj⟩ := k4; exact ⟨m, hm, I2, A2, ρ2, k1, k2, h3.trans k3, hj⟩
 | exit i => exact ⟨I2, A2, ρ2, k1, k2, h3.trans k3, k4⟩
 | goto l => exact ⟨I2, A2, ρ2, k1, k2, h3.trans k3, k4⟩
 | ret => exact ⟨I2, A2, ρ2, k1, k2, h3.trans k3, k4⟩
 | panic ch => exact ⟨I2, A2, ρ2, k1, k2, h3.trans k3, k4⟩
 | outgrown => exact ⟨I2, A2, ρ2, k1, k2, h3.trans k3, k4⟩
def rd (t : Nat) : DV → DV
 | .bx _ => .bp t 0
 | .row _ _ xs => .own t xs.length
 | .mo _ => .mr t
 | d => d
def cv : Value → DV
 | .agg cs => .agg (cs.toList.map .v)
 | v => .v v
def ev (ρ : aS) : Operand → DV
 | .tmp t => rd t (ρ t)
 | .const v => cv v
 | .global g => match GT g with
  | some (us, _) => .dp (us.toList.map .v)
  | none => .v (.pointer (some ⟨g, 0, none⟩))
 | .func f => .fn f [] []
theorem yC (ρ : aS) (t : Tmp) : ev ρ (.tmp t) = rd t (ρ t) := rfl
theorem aRf (ρ : aS) (v : Value) : ev ρ (.const v) = cv v := rfl
theorem aBq (ρ : aS) (g : Nat) : ev ρ (.global g) = match GT g with
  | some (us, _) => .dp (us.toList.map .v)
  | none => .v (.pointer (some ⟨g, 0, none⟩)) := rfl
theorem aZk (ρ : aS) (f : FuncId) : ev ρ (.func f) = .fn f [] [] := rfl
def aQe (w : World) (I : Nat → Prop) (A : cO) (d : DV) (x : Value) : Prop :=
 match d with
 | .cond g y => (g = true → bH w I A y x) ∧ (g = false → x = undef)
 | d => bH w I A d x
def nL (nt : Nat) : Operand → Bool
 | .tmp t => decide (t < nt)
 | .const (.agg cs) => cs.toList.all (·.oneCell')
 | .global g => match GT g with
  | some (us, _) => us.toList.all (·.oneCell')
  | none => true
 | _ => true
theorem b9.evRel {w : World} {I : Nat → Prop} {A : cO} {a : Act} (h : b9 nt w I A ρ a) (o : Operand) (ho : nL nt o = true) : aQe w I A (ev ρ o) (a.eval o) := by
 cases o with
 | tmp t =>
  have ht : t < nt := by simpa [nL] using ho
  have hs := h.slot t ht
  simp only [yC, Act.eval]
  generalize a.tmps.getD t undef = x at *
  cases hd : ρ t with
  | bx cs =>
   rw [hd] at hs
   obtain ⟨g, c, h1, rfl⟩ := hs
   exact .bp A t 0 g c h1
  | row e z xs =>
   rw [hd] at hs
   obtain ⟨B, c, h1, b, hb, rfl⟩ := hs
   exact .own A t _ B c b h1 hb
  | cond g y => rw [hd] at hs; exact hs
  | any => rw [hd] at hs; exact hs
  | v y => rw [hd] at hs; exact hs
  | sl z n f => rw [hd] at hs; exact hs
  | agg cs => rw [hd] at hs; exact hs
  | tup cs => rw [hd] at hs; exact hs
  | dp cs => rw [hd] at hs; exact hs
  | bp s o => rw [hd] at hs; exact hs
  | own s n => rw [hd] at hs; exact hs
  | rp s z i o => rw [hd] at hs; exact hs
  | fn f b c => rw [hd] at hs; exact hs
  | iface t' y => rw [hd] at hs; exact hs
  | mr s => rw [hd] at hs; exact hs
  | ez => rw [hd] at hs; exact hs
  | mo es =>
   rw [hd] at hs
   obtain ⟨g, c, h1, rfl⟩ := hs
   exact .mr A t g c h1
 | const v =>
  cases v with
  | agg cs =>
   have ho : cs.toList.all (·.oneCell') = true := ho
   rw [List.all_eq_true] at ho
   refine bH.agg A _ cs (by simp) ho fun j d u hd hu => ?_
   rw [List.getElem?_map, Option.map_eq_some_iff] at hd
   obtain ⟨y, hy, rfl⟩ := hd
   rw [Array.getElem?_toList, hu] at hy
   cases hy
   exact .v A _
  | _ => exact .v A _
 | global g =>
  simp only [nL] at ho
  rw [aBq]
  cases hg : GT g with
  | none => exact .v A _
  | some p =>
   obtain ⟨us, e⟩ := p
   rw [hg] at ho
   rw [List.all_eq_true] at ho
   obtain ⟨h1, h2⟩ := h.osim.imm.glob g us e hg
   have hc : ∀ j, j < us.size → w.cell? ⟨g, 0 + j, none⟩ = some (us.getD j undef) := fun j hj => by
    rw [Nat.zero_add, show w.cell? ⟨g, j, none⟩ = us[j]? by simp [World.cell?, h2], Array.getElem?_eq_getElem hj, Array.getD_eq_getD_getElem?, Array.getElem?_eq_getElem hj]
    rfl
   refine .dp A _ g 0 (fun j => us.getD j undef) h1 (fun j hj => hc j (by simpa using hj)) (fun j hj => ?_) fun j d hd => ?_
   ·have hj' : j < us.size := by simpa using hj
    have : us.getD j undef ∈ us.toList := by
     rw [Array.getD_eq_getD_getElem?, Array.getElem?_eq_getElem hj']
     exact Array.mem_toList_iff.2 (Array.getElem_mem hj')
    exact ho _ this
   rw [List.getElem?_map, Option.map_eq_some_iff] at hd
   obtain ⟨y, hy, rfl⟩ := hd
   rw [Array.getElem?_toList] at hy
   have : us.getD j undef = y := by rw [Array.getD_eq_getD_getElem?, hy]; rfl
   rw [this]
   exact .v _ _
 | func f => exact .fn A f [] [] #[] #[] rfl rfl (by simp) (by simp)
theorem qI {x : Operand} {c d : Code} (b : Bool) (ho : nL nt x = true) (hx : ev ρ x = .v (.bool b)) (ht : b = true → AW P nt c Q ρ) (hf : b = false → AW P nt d Q ρ) : AW P nt (.cond x c d) Q ρ := by
 intro ro ds I A a w hs hd
 have he := hs.evRel x ho
 rw [hx] at he
 have hv : a.eval x = .bool b := by
  generalize a.eval x = y at he ⊢
  cases he; rfl
 exact wpIn_cond_split hv (fun h => ht h ro ds I A a w hs hd) (fun h => hf h ro ds I A a w hs hd)
def Wk (d d' : DV) : Prop :=
 ∀ w I A s x, (cX w I A s d x → cX w I A s d' x) ∧ (dY w I A s d → dY w I A s d') ∧ (cM d → cM d')
theorem Wk.refl (d : DV) : Wk d d := fun _ _ _ _ _ => ⟨fun h => h, fun h => h, fun h => h⟩
theorem Wk.any (d : DV) : Wk d .any := fun _ _ A _ x => ⟨fun _ => .any A x, fun _ => trivial, fun _ => rfl⟩
theorem Wk.trans {d e f : DV} (h : Wk d e) (k : Wk e f) : Wk d f := fun w I A s x => ⟨fun r => (k w I A s x).1 ((h w I A s x).1 r), fun r => (k w I A s x).2.1 ((h w I A s x).2.1 r), fun r => (k w I A s x).2.2 ((h w I A s x).2.2 r)⟩
theorem Wk.sl (z n : Nat) (f g : Nat → List DV) (h : ∀ i, i < n → f i = g i) : Wk (.sl z n f) (.sl z n g) := fun _ _ A _ x => ⟨fun hr => by
 have hr : bH _ _ A (.sl z n f) x := hr
 cases hr with
 | sl0 _ _ _ b c => exact .sl0 A z g b c
 | sl _ _ _ _ b o c us hn hc hm hI hz hcell hone hrel =>
  exact bH.sl A z n g b o c us hn hc hm hI (fun i hi => by rw [← h i hi]; exact hz i hi) hcell hone (fun i j d hi hd => hrel i j d hi (by rw [h i hi]; exact hd)), fun _ => trivial, fun _ => rfl⟩
def Le (ρ ρ' : aS) : Prop := ∀ s, Wk (ρ s) (ρ' s)
theorem Le.refl (ρ : aS) : Le ρ ρ := fun s => Wk.refl _
theorem Le.trans {ρ ρ1 ρ2 : aS} (h : Le ρ ρ1) (k : Le ρ1 ρ2) : Le ρ ρ2 := fun s => (h s).trans (k s)
theorem b9.weaken {w : World} {I : Nat → Prop} {A : cO} {a : Act} {ρ ρ' : aS} (h : b9 nt w I A ρ a) (hl : Le ρ ρ') : b9 nt w I A ρ' a where
 osim := ⟨fun s => (hl s w I A s undef).2.1 (h.osim.own s), h.osim.inj, h.osim.sep, h.osim.imm⟩
 size := h.size
 bound := h.bound
 slot := fun i hi => (hl i w I A i _).1 (h.slot i hi)
 out := fun s hs => (hl s w I A s undef).2.2 (h.out s hs)
theorem cH {c : Code} {ρ ρ' : aS} (hl : Le ρ ρ') (h : AW P nt c Q ρ') : AW P nt c Q ρ := fun ro ds I A a w hs hd => h ro ds I A a w (hs.weaken hl) hd
def set (ρ : aS) (d : Nat) (x : DV) : aS := fun i => if i = d then x else ρ i
def bZ (ρ : aS) (d : Option Nat) (x : DV) : aS := match d with | some d => set ρ d x | none => ρ
theorem aO (ρ : aS) (d : Nat) (x : DV) (i : Nat) : set ρ d x i = if i = d then x else ρ i := rfl
theorem iJ (ρ : aS) (d : Nat) (x : DV) : bZ ρ (some d) x = set ρ d x := rfl
theorem aOn (ρ : aS) (x : DV) : bZ ρ none x = ρ := rfl
def bT (O : aS) : aS := fun i => if i < 100000 then .any else qL (· + 100000) (O (i - 100000))
theorem mF (O : aS) {i : Nat} (h : i < 100000) : bT O i = .any := if_pos h
theorem bW (O : aS) (i : Nat) : bT O (i + 100000) = qL (· + 100000) (O i) := by
 unfold bT; rw [if_neg (by omega), Nat.add_sub_cancel]
def keep (L : List Nat) (ρ : aS) : aS := fun i => if i < 100000 then (if i ∈ L then ρ i else .any) else ρ i
theorem Le.set {ρ ρ' : aS} (h : Le ρ ρ') (d : Nat) {x x' : DV} (hx : Wk x x') : Le (set ρ d x) (set ρ' d x') := fun s => by
 unfold Sg.set; split
 ·exact hx
 exact h s
end
end Go.Sg
namespace Go.Sg
open Go.RowKit
def un : DV → DV
 | .cond _ d => d
 | d => d
def gd : DV → Prop
 | .cond g _ => g = true
 | _ => True
def eD (P : Program) (t : TypeId) : Option (Option Nat) :=
 match P.info? t, P.underlying t with
 | some i, some (.struct _) => some (some i.size)
 | some i, some (.array _ _) => some (some i.size)
 | some _, some _ => some none
 | _, _ => none
def b7 (P : Program) (s : TypeId) (f : Nat) : Option Nat :=
 match P.underlying s with
 | some (.struct fs) => match fs[f]? with
  | some fd => match P.info? fd.type with
   | some i => if i.size = 0 then none else some fd.offset
   | none => none
  | none => none
 | _ => none
def eU (P : Program) (t : TypeId) : Option (Option Nat × Nat) :=
 match P.underlying t with
 | some (.slice e) => (P.info? e).map fun i => (none, i.size)
 | some (.array n e) => (P.info? e).map fun i => (some n, i.size)
 | _ => none
def tk (P : Program) (t : TypeId) : Nat :=
 match P.underlying t with
 | some .string => 1
 | some (.slice _) => 2
 | some .bool => 3
 | some (.int _) => 4
 | _ => 0
def aAw (P : Program) (t : TypeId) : Option IntKind :=
 match P.underlying t with
 | some (.int k) => some k
 | _ => none
def aZo (P : Program) (ks : TypeId → Option (List Nat)) : List Field → Nat → Option (List Nat)
 | [], _ => some []
 | f :: l, off =>
  if f.name = "_" ∨ f.offset ≠ off then none else
  match P.info? f.type, ks f.type with
  | some i, some a => if i.size = a.length then (aZo P ks l (off + a.length)).map (a ++ ·) else none
  | _, _ => none
def aAx (P : Program) : Nat → TypeId → Option (List Nat)
 | 0, _ => none
 | d + 1, t => match P.underlying t with
  | some .bool => some [2]
  | some (.int _) => some [1]
  | some .string => some [3]
  | some (.struct fs) => if P.stoodInHeld t then none else aZo P (aAx P d) fs.toList 0
  | _ => none
def qZ (P : Program) (t : TypeId) : Option (List Nat) :=
 match P.underlying t with
 | some (.struct _) => if P.eqGuardType P.depth t then none else aAx P 40 t
 | some (.array n e) => if P.eqGuardType P.depth t then none else match P.info? e, aAx P 1 e with
  | some i, some [k] => if i.size = 1 then some (List.replicate n k) else none
  | _, _ => none
 | _ => none
def aSt (op : BinOp) (k : IntKind) (a : Int) (k' : IntKind) (b : Int) : Prop × DV :=
 match op with
 | .add => (k = k', .v (.int k (k.wrap (a + b))))
 | .sub => (k = k', .v (.int k (k.wrap (a - b))))
 | .mul => (k = k', .v (.int k (k.wrap (a * b))))
 | .quo => (k = k' ∧ b ≠ 0, .v (.int k (k.wrap (a.tdiv b))))
 | .rem => (k = k' ∧ b ≠ 0, .v (.int k (a.tmod b)))
 | .and => (k = k', .v (.int k (k.wrap (BitVec.ofInt k.bits a &&& BitVec.ofInt k.bits b).toNat)))
 | .or => (k = k', .v (.int k (k.wrap (BitVec.ofInt k.bits a ||| BitVec.ofInt k.bits b).toNat)))
 | .xor => (k = k', .v (.int k (k.wrap (BitVec.ofInt k.bits a ^^^ BitVec.ofInt k.bits b).toNat)))
 | .andNot => (k = k', .v (.int k (k.wrap (BitVec.ofInt k.bits a &&& ~~~ BitVec.ofInt k.bits b).toNat)))
 | .shl => (0 ≤ b, .v (.int k (k.wrap (a * 2 ^ (min b.toNat k.bits)))))
 | .shr => (0 ≤ b, .v (.int k (a.fdiv (2 ^ (min b.toNat k.bits)))))
 | .eql => (k = k', .v (.bool (a == b)))
 | .neq => (k = k', .v (.bool (a != b)))
 | .lss => (k = k', .v (.bool (decide (a < b))))
 | .leq => (k = k', .v (.bool (decide (a ≤ b))))
 | .gtr => (k = k', .v (.bool (decide (b < a))))
 | .geq => (k = k', .v (.bool (decide (b ≤ a))))
def aWt (op : BinOp) (a b : ByteArray) : Prop × DV :=
 match op with
 | .add => (a.size + b.size ≤ maxLen, .v (.string (a ++ b)))
 | .eql => (True, .v (.bool (a.toList == b.toList)))
 | .neq => (True, .v (.bool !(a.toList == b.toList)))
 | .lss => (True, .v (.bool (Op.bytesLess a.toList b.toList)))
 | .leq => (True, .v (.bool (Op.bytesLess a.toList b.toList || a.toList == b.toList)))
 | .gtr => (True, .v (.bool !(Op.bytesLess a.toList b.toList || a.toList == b.toList)))
 | .geq => (True, .v (.bool !(Op.bytesLess a.toList b.toList)))
 | _ => (False, .any)
def aRh (k : Nat) (op : BinOp) (a b : Bool) : Prop × DV :=
 match op with
 | .eql => (k = 3, .v (.bool (a == b)))
 | .neq => (k = 3, .v (.bool !(a == b)))
 | _ => (False, .any)
def eqL : List Nat → List DV → List DV → Prop × Bool
 | [], [], [] => (True, true)
 | 1 :: ks, .v (.int k a) :: cs, .v (.int k' b) :: ds => (k = k' ∧ (eqL ks cs ds).1, (a == b) && (eqL ks cs ds).2)
 | 2 :: ks, .v (.bool a) :: cs, .v (.bool b) :: ds => ((eqL ks cs ds).1, (a == b) && (eqL ks cs ds).2)
 | 3 :: ks, .v (.string a) :: cs, .v (.string b) :: ds => ((eqL ks cs ds).1, (a == b) && (eqL ks cs ds).2)
 | _, _, _ => (False, false)
def aWo (es : Option (List Nat)) (op : BinOp) (cs ds : List DV) : Prop × DV :=
 match es, op with
 | some ks, .eql => ((eqL ks cs ds).1, .v (.bool (eqL ks cs ds).2))
 | some ks, .neq => ((eqL ks cs ds).1, .v (.bool !(eqL ks cs ds).2))
 | _, _ => (False, .any)
def aAn (es : Option (List Nat)) (k : Nat) (op : BinOp) (x y : DV) : Prop × DV :=
 match x, y with
 | .agg cs, .agg ds => aWo es op cs ds
 | .v (.int k a), .v (.int k' b) => aSt op k a k' b
 | .v (.string a), .v (.string b) => aWt op a b
 | .v (.bool a), .v (.bool b) => aRh k op a b
 | _, _ => (False, .any)
def unP (op : UnOp) (x : DV) : Prop × DV :=
 match op, x with
 | .not, .v (.bool b) => (True, .v (.bool !b))
 | .neg, .v (.int k n) => (True, .v (.int k (k.wrap (0 - n))))
 | _, _ => (False, .any)
def aGt (k : Nat) (x : DV) : Prop × DV :=
 match x with
 | .sl _ n _ => (k = 2, .v (.int .i64 n))
 | .own _ n => (k = 2, .v (.int .i64 n))
 | .ez => (k = 2, .v (.int .i64 0))
 | .v (.slice _ n _) => (k = 2, .v (.int .i64 n))
 | .v (.string s) => (k = 1, .v (.int .i64 s.size))
 | _ => (False, .any)
def aRj (c x y : DV) : Prop × DV :=
 match un c with
 | .v (.bool b) => (match b with
  | true => (match un x with
   | .v (.bool p) => (gd c ∧ gd x, .v (.bool p))
   | _ => (False, .any))
  | false => (match un y with
   | .v (.bool p) => (gd c ∧ gd y, .v (.bool p))
   | _ => (False, .any)))
 | _ => (False, .any)
def vQ (c x y : DV) : Prop × DV :=
 match un c, un x, un y with
 | .v (.bool b), .v (.bool p), .v (.bool q) => (gd c ∧ (b = true → gd x) ∧ (b = false → gd y), .v (.bool (bif b then p else q)))
 | _, _, _ => aRj c x y
def cut (ld : Option Nat) (off : Nat) (cs : List DV) : Prop × DV :=
 match ld with
 | none => (off < cs.length, cs.getD off .any)
 | some n => (off + n ≤ cs.length, .agg ((cs.drop off).take n))
def aBz (ld : Option Nat) (off : Nat) (c : DV) : Prop × DV :=
 match c with
 | .bx cs => cut ld off cs
 | _ => (False, .any)
def aNc (ld : Option Nat) (z i off : Nat) (c : DV) : Prop × DV :=
 match c with
 | .row _ z' xs => (z = z' ∧ i < xs.length ∧ (cut ld off (xs.getD i [])).1, (cut ld off (xs.getD i [])).2)
 | _ => (False, .any)
def lN (ρ : aS) (ld : Option (Option Nat)) (x : DV) : Prop × DV :=
 match ld with
 | none => (False, .any)
 | some ld =>
  match x with
  | .dp cs => cut ld 0 cs
  | .bp s off => aBz ld off (ρ s)
  | .rp s z i off => aNc ld z i off (ρ s)
  | _ => (False, .any)
def aEw (o : Option Nat) (x : DV) : Prop × DV :=
 match o with
 | none => (False, .any)
 | some o =>
  match x with
  | .dp cs => (True, .dp (cs.drop o))
  | .bp s off => (True, .bp s (off + o))
  | .rp s z i off => (True, .rp s z i (off + o))
  | _ => (False, .any)
def rR (ρ : aS) (el : Option (Option Nat × Nat)) (x i : DV) : Prop × DV :=
 match el, i with
 | some (none, z), .v (.int _ k) =>
  match x with
  | .sl z' n f => (z = z' ∧ 0 ≤ k ∧ k < n, .dp (f k.toNat))
  | .own s n => (0 ≤ k ∧ k < n ∧ ∃ e xs, ρ s = .row e z xs ∧ n ≤ xs.length, .rp s z k.toNat 0)
  | _ => (False, .any)
 | some (some n, z), .v (.int _ k) =>
  match x with
  | .dp cs => (0 ≤ k ∧ k < n, .dp (cs.drop (k.toNat * z)))
  | .bp s off => (0 ≤ k ∧ k < n, .bp s (off + k.toNat * z))
  | .rp s z' j off => (0 ≤ k ∧ k < n, .rp s z' j (off + k.toNat * z))
  | _ => (False, .any)
 | _, _ => (False, .any)
def atP (el : Option (Option Nat × Nat)) (ld : Option (Option Nat)) (k : Nat) (x i : DV) : Prop × DV :=
 match x, i with
 | .v (.string s), .v (.int _ n) => (k = 1 ∧ 0 ≤ n ∧ n < s.size, .v (.int .u8 (s.data.getD n.toNat 0).toNat))
 | _, _ => (False, .any)
def uK (ρ : aS) (el : Option (Option Nat × Nat)) (k : Nat) (x : DV) (lo hi : Option DV) : Prop × DV :=
 match lo, hi with
 | none, none => (match x with | .sl z _ _ => (k = 2 ∧ el = some (none, z), x) | _ => (False, .any))
 | some (.v (.int _ a)), none =>
  (match x, el with
  | .sl z n f, some (none, z') => (z = z' ∧ 0 ≤ a ∧ a ≤ n, .sl z (n - a.toNat) fun i => f (a.toNat + i))
  | .v (.string s), _ => (k = 1 ∧ 0 ≤ a ∧ a ≤ s.size, .v (.string (s.extract a.toNat s.size)))
  | _, _ => (False, .any))
 | none, some (.v (.int _ b)) =>
  (match x, el with
  | .sl z n f, some (none, z') => (z = z' ∧ 0 ≤ b ∧ b ≤ n, .sl z b.toNat f)
  | .v (.string s), _ => (k = 1 ∧ 0 ≤ b ∧ b ≤ s.size, .v (.string (s.extract 0 b.toNat)))
  | .own s n, some (none, _) => (0 ≤ b ∧ b ≤ n ∧ ∃ e z xs, ρ s = .row e z xs ∧ n ≤ xs.length, .own s b.toNat)
  | .dp cs, some (some n, z) => (0 ≤ b ∧ b ≤ n ∧ n * z ≤ cs.length ∧ n ≤ 1048576, .sl z b.toNat fun i => (cs.drop (i * z)).take z)
  | _, _ => (False, .any))
 | some (.v (.int _ a)), some (.v (.int _ b)) =>
  (match x, el with
  | .sl z n f, some (none, z') => (z = z' ∧ 0 ≤ a ∧ a ≤ b ∧ b ≤ n, .sl z (b.toNat - a.toNat) fun i => f (a.toNat + i))
  | .v (.string s), _ => (k = 1 ∧ 0 ≤ a ∧ a ≤ b ∧ b ≤ s.size, .v (.string (s.extract a.toNat b.toNat)))
  | _, _ => (False, .any))
 | _, _ => (False, .any)
def rH (k : Option IntKind) (x : DV) : Prop × DV :=
 match k, x with
 | some k, .v (.int _ n) => (True, .v (.int k (k.wrap n)))
 | _, _ => (False, .any)
def aDg (x : DV) (i : Nat) : Prop × DV :=
 match x with
 | .tup cs => (i < cs.length, cs.getD i .any)
 | _ => (False, .any)
def aFo (x : DV) : Prop × DV :=
 match x with
 | .dp cs => (True, .dp cs)
 | .bp s o => (True, .bp s o)
 | .rp s z i o => (True, .rp s z i o)
 | .fn f a b => (True, .fn f a b)
 | _ => (False, .any)
def aKv : List DV → Prop × DV
 | [.v (.int k a), .v (.int k' b)] => (k = k', .v (.int k (if b > a then b else a)))
 | _ => (False, .any)
def aJk : List DV → Prop × DV
 | [.v (.int k a), .v (.int k' b)] => (k = k', .v (.int k (if b < a then b else a)))
 | _ => (False, .any)
def tS (P : Program) (ρ : aS) (b : Builtin) (args : List Operand) (ts : List TypeId) : Prop × DV :=
 match b, args, ts with
 | .len, [x], [t] => (gd (ev ρ x) ∧ (aGt (tk P t) (un (ev ρ x))).1, (aGt (tk P t) (un (ev ρ x))).2)
 | .max, [x, y], _ => ((gd (ev ρ x) ∧ gd (ev ρ y)) ∧ (aKv [un (ev ρ x), un (ev ρ y)]).1, (aKv [un (ev ρ x), un (ev ρ y)]).2)
 | .min, [x, y], _ => ((gd (ev ρ x) ∧ gd (ev ρ y)) ∧ (aJk [un (ev ρ x), un (ev ρ y)]).1, (aJk [un (ev ρ x), un (ev ρ y)]).2)
 | _, _, _ => (False, .any)
def aRs (P : Program) (ρ : aS) (c : Call) : Prop × DV :=
 match c.callee with
 | .builtin b => tS P ρ b c.args.toList c.argTypes.toList
 | _ => (False, .any)
def fnP (ρ : aS) (fn : Fn) (first captured : List Operand) : Prop × DV :=
 match fn with
 | .func f => ((∀ x ∈ first, gd (ev ρ x)) ∧ ∀ x ∈ captured, gd (ev ρ x), .fn f (first.map fun x => un (ev ρ x)) (captured.map fun x => un (ev ρ x)))
 | _ => (False, .any)
def w4 (P : Program) (ρ : aS) : Op → Prop × DV
 | .move x => (gd (ev ρ x), un (ev ρ x))
 | .assign x => (gd (ev ρ x), un (ev ρ x))
 | .pick c a b => vQ (ev ρ c) (ev ρ a) (ev ρ b)
 | .load t x => (gd (ev ρ x) ∧ (lN ρ (eD P t) (un (ev ρ x))).1, (lN ρ (eD P t) (un (ev ρ x))).2)
 | .nilCheck x => (gd (ev ρ x) ∧ (aFo (un (ev ρ x))).1, (aFo (un (ev ρ x))).2)
 | .binOp op t x y _ => ((gd (ev ρ x) ∧ gd (ev ρ y)) ∧ (aAn (qZ P t) (tk P t) op (un (ev ρ x)) (un (ev ρ y))).1, (aAn (qZ P t) (tk P t) op (un (ev ρ x)) (un (ev ρ y))).2)
 | .unOp op _ x => (gd (ev ρ x) ∧ (unP op (un (ev ρ x))).1, (unP op (un (ev ρ x))).2)
 | .convert s t x => ((gd (ev ρ x) ∧ (P.underlying s).isSome = true) ∧ (rH (aAw P t) (un (ev ρ x))).1, (rH (aAw P t) (un (ev ρ x))).2)
 | .fieldAddr s x f => (gd (ev ρ x) ∧ (aEw (b7 P s f) (un (ev ρ x))).1, (aEw (b7 P s f) (un (ev ρ x))).2)
 | .indexAddr t x i => ((gd (ev ρ x) ∧ gd (ev ρ i)) ∧ (rR ρ (eU P t) (un (ev ρ x)) (un (ev ρ i))).1, (rR ρ (eU P t) (un (ev ρ x)) (un (ev ρ i))).2)
 | .index t x i => ((gd (ev ρ x) ∧ gd (ev ρ i)) ∧ (atP (eU P t) (eD P t) (tk P t) (un (ev ρ x)) (un (ev ρ i))).1, (atP (eU P t) (eD P t) (tk P t) (un (ev ρ x)) (un (ev ρ i))).2)
 | .slice t x lo hi none => ((gd (ev ρ x) ∧ (∀ y ∈ lo, gd (ev ρ y)) ∧ ∀ y ∈ hi, gd (ev ρ y)) ∧ (uK ρ (eU P t) (tk P t) (un (ev ρ x)) (lo.map fun y => un (ev ρ y)) (hi.map fun y => un (ev ρ y))).1,
   (uK ρ (eU P t) (tk P t) (un (ev ρ x)) (lo.map fun y => un (ev ρ y)) (hi.map fun y => un (ev ρ y))).2)
 | .extract x i => (gd (ev ρ x) ∧ (aDg (un (ev ρ x)) i).1, (aDg (un (ev ρ x)) i).2)
 | .makeFunc fn first captured => fnP ρ fn first.toList captured.toList
 | .call c => aRs P ρ c
 | _ => (False, .any)
end Go.Sg
namespace Go.Sg
open Go.RowKit
section
variable {P : Program} {nt : Nat} {w : World} {I : Nat → Prop} {A : cO} {ρ : aS} {a : Act}
theorem aQe.ungd {d : DV} {x : Value} (h : aQe w I A d x) (hg : gd d) : bH w I A (un d) x := by
 cases d <;> first | exact h | exact h.1 hg
theorem b9.opd (hs : b9 nt w I A ρ a) (o : Operand) (ho : nL nt o = true) (hg : gd (ev ρ o)) : bH w I A (un (ev ρ o)) (a.eval o) :=
 (hs.evRel o ho).ungd hg
theorem aCu {B : cO} {cs : List DV} {us : Nat → Value} (hone : ∀ j, j < cs.length → (us j).oneCell' = true) (hr : ∀ (j : Nat) (d : DV), cs[j]? = some d → bH w I B d (us j)) :
  bH w I B (.agg cs) (.agg ((List.range cs.length).map us).toArray) := by
 refine .agg B cs _ (by simp) (fun u hu => ?_) fun j d u hd hu => ?_
 ·simp at hu
  obtain ⟨j, hj, rfl⟩ := hu
  exact hone j hj
 simp only [List.getElem?_toArray, List.getElem?_map, Option.map_eq_some_iff] at hu
 obtain ⟨k, hk, rfl⟩ := hu
 have hj : j < cs.length := by
  rcases Nat.lt_or_ge j cs.length with h | h
  ·exact h
  rw [List.getElem?_eq_none (by simpa using h)] at hk; cases hk
 rw [List.getElem?_range hj] at hk
 cases hk
 exact hr j d hd
theorem oR {B : cO} {t : TypeId} {ld : Option Nat} (h : eD P t = some ld) {b o : Nat} {cs : List DV} {us : Nat → Value} {off : Nat}
  (hcell : ∀ j, j < cs.length → w.cell? ⟨b, o + j, none⟩ = some (us j)) (hone : ∀ j, j < cs.length → (us j).oneCell' = true) (hr : ∀ (j : Nat) (d : DV), cs[j]? = some d → bH w I B d (us j))
  (hc : (cut ld off cs).1) : ∃ x, (Instr.loadAt t (.pointer (some ⟨b, o + off, none⟩))).run P w = .ok x w ∧ bH w I B (cut ld off cs).2 x := by
 unfold eD at h
 cases ld with
 | none =>
  simp only [cut] at hc ⊢
  refine ⟨us off, ?_, hr _ _ (by rw [List.getD_eq_getElem?_getD, List.getElem?_eq_getElem hc]; rfl)⟩
  have h2 := hcell off hc
  split at h <;> simp at h
  rename_i i d n1 n2 hi hu
  cases d <;> first
   | exact absurd rfl (n1 _)
   | exact absurd rfl (n2 _ _)
   | simp [Instr.loadAt, Instr.sureAddr, loadVar, isAgg, run_underlying hu, h2]
 | some n =>
  simp only [cut] at hc ⊢
  have key : ∀ i, P.info? t = some i → i.size = n → (loadCells ⟨b, o + off, none⟩ n).run P w = .ok ((List.range n).map fun j => us (off + j)).toArray w := fun i _ _ =>
   run_loadCells w _ n (fun j => us (off + j)) fun j hj => by
    rw [Addr.add_lit]
    have := hcell (off + j) (by omega)
    rwa [← Nat.add_assoc] at this
  have hlen : ((cs.drop off).take n).length = n := by simp; omega
  refine ⟨.agg ((List.range n).map fun j => us (off + j)).toArray, ?_, ?_⟩
  ·split at h <;> simp at h
   ·rename_i i fs hi hu
    have := key i hi h
    simp [Instr.loadAt, Instr.sureAddr, loadVar, isAgg, run_underlying hu, run_sizeOf w hi, Program.cellsOf, hi, h, this]
   rename_i i m e hi hu
   have := key i hi h
   simp [Instr.loadAt, Instr.sureAddr, loadVar, isAgg, run_underlying hu, run_sizeOf w hi, Program.cellsOf, hi, h, this]
  have := aCu (w := w) (I := I) (B := B) (cs := (cs.drop off).take n) (us := fun j => us (off + j)) (fun j hj => hone _ (by rw [hlen] at hj; omega)) (fun j d hd => by
   refine hr (off + j) d ?_
   rw [List.getElem?_take] at hd
   split at hd
   ·rwa [List.getElem?_drop] at hd
   cases hd)
  rwa [hlen] at this
theorem aHv (hs : b9 nt w I A ρ a) {t : TypeId} {d : DV} {x : Value} (hx : bH w I A d x) (h : (lN ρ (eD P t) d).1) :
  ∃ y, (Instr.loadAt t x).run P w = .ok y w ∧ bH w I A (lN ρ (eD P t) d).2 y := by
 cases hld : eD P t with
 | none => rw [hld] at h; exact h.elim
 | some ld =>
  rw [hld] at h
  cases hx with
  | dp _ cs b o us hI hcell hone hrel =>
   obtain ⟨y, h1, h2⟩ := oR hld (off := 0) hcell hone hrel h
   exact ⟨y, h1, h2.ofNoOwn⟩
  | bp _ s off g c hA =>
   simp only [lN] at h ⊢
   have ho := hs.osim.own s
   cases hc : ρ s <;> rw [hc] at h ho <;> simp only [aBz] at h ⊢ <;> try exact h.elim
   obtain ⟨g', c', us, et, h1, h2, h3, h4, h5⟩ := ho
   rw [hA] at h1
   simp only [Option.some.injEq, Prod.mk.injEq] at h1
   obtain ⟨rfl, rfl⟩ := h1
   rename_i cs
   have hus : ∀ j, j < cs.length → us[j]? = some (us.getD j undef) := fun j hj => by simp [Array.getElem?_eq_getElem (show j < us.size by omega)]
   have := oR (P := P) (w := w) (I := I) (B := A) hld (b := g) (o := 0) (cs := cs) (us := fun j => us.getD j undef) (off := off)
    (fun j hj => by unfold World.cell?; simp only [Nat.zero_add, h2]; simp [Array.getElem?_eq_getElem (show j < us.size by omega)])
    (fun j hj => h4 _ (by have := hus j hj; exact Array.mem_toList_iff.2 (Array.mem_of_getElem? this)))
    (fun j d hd => h5 j d _ hd (hus j (by rcases Nat.lt_or_ge j cs.length with h' | h'; exact h'; rw [List.getElem?_eq_none h'] at hd; cases hd))) h
   simpa using this
  | rp _ s z i off g c hA =>
   simp only [lN] at h ⊢
   have ho := hs.osim.own s
   cases hc : ρ s <;> rw [hc] at h ho <;> simp only [aNc] at h ⊢ <;> try exact h.elim
   obtain ⟨B, c', h1, h2⟩ := ho
   rw [hA] at h1
   simp only [Option.some.injEq, Prod.mk.injEq] at h1
   obtain ⟨rfl, rfl⟩ := h1
   rename_i e' z' xs
   obtain ⟨us, h2, h3, _, h4, h6⟩ := h2
   obtain ⟨rfl, hi, hcut⟩ := h
   have hxi : xs[i]? = some (xs.getD i []) := by rw [List.getD_eq_getElem?_getD, List.getElem?_eq_getElem hi]; rfl
   obtain ⟨hl, hd⟩ := h6 i _ hxi
   generalize xs.getD i [] = cs at *
   have hbound : ∀ j, j < cs.length → i * z + j < us.size := fun j hj => by
    have : (i + 1) * z ≤ c * z := Nat.mul_le_mul_right z (by omega)
    rw [Nat.succ_mul] at this
    omega
   have hus : ∀ j, j < cs.length → us[i * z + j]? = some (us.getD (i * z + j) undef) := fun j hj => by simp [Array.getElem?_eq_getElem (hbound j hj)]
   obtain ⟨y, h1, h2⟩ := oR (P := P) (w := w) (I := I) (B := cU) hld (b := g) (o := i * z) (cs := cs) (us := fun j => us.getD (i * z + j) undef) (off := off)
    (fun j hj => by unfold World.cell?; simp only [h2]; simp [Array.getElem?_eq_getElem (hbound j hj)])
    (fun j hj => (hd j _ _ (List.getElem?_eq_getElem hj) (hus j hj)).1)
    (fun j d hd' => (hd j d _ hd' (hus j (by rcases Nat.lt_or_ge j cs.length with h' | h'; exact h'; rw [List.getElem?_eq_none h'] at hd'; cases hd'))).2) hcut
   exact ⟨y, h1, h2.ofNoOwn⟩
  | _ => exact h.elim
theorem aHh {s : TypeId} {f : Nat} {d : DV} {x : Value} (hx : bH w I A d x) (h : (aEw (b7 P s f) d).1) :
  ∃ y, (Instr.fieldAt s x f).run P w = .ok y w ∧ bH w I A (aEw (b7 P s f) d).2 y := by
 unfold b7 at h ⊢
 split at h <;> try exact h.elim
 rename_i fs hu
 split at h <;> try exact h.elim
 rename_i fd hf
 split at h <;> try exact h.elim
 rename_i i hi
 split at h <;> try exact h.elim
 rename_i hz
 simp only [hu, hf, hi, hz, if_false] at h ⊢
 have key : ∀ b o, (Instr.fieldAt s (.pointer (some ⟨b, o, none⟩)) f).run P w = .ok (.pointer (some ⟨b, o + fd.offset, none⟩)) w := fun b o => by
  simp [Instr.fieldAt, run_underlying hu, hf, Instr.sureAddr, fieldPlace, run_sizeOf w hi, Program.cellsOf, hi, hz, Addr.add_lit]
 cases hx with
 | dp _ cs b o us hI hcell hone hrel =>
  refine ⟨_, key b o, ?_⟩
  refine .dp A _ b (o + fd.offset) (fun j => us (fd.offset + j)) hI (fun j hj => ?_) (fun j hj => hone _ (by simp at hj; omega)) (fun j d hd => hrel _ _ (by rwa [List.getElem?_drop] at hd))
  have := hcell (fd.offset + j) (by simp at hj; omega)
  rwa [← Nat.add_assoc] at this
 | bp _ s off g c hA => exact ⟨_, key g off, .bp A s (off + fd.offset) g c hA⟩
 | rp _ s z i off g c hA => exact ⟨_, key g _, by rw [Nat.add_assoc]; exact .rp A s z i (off + fd.offset) g c hA⟩
 | _ => exact h.elim
theorem aIg (hs : b9 nt w I A ρ a) {t : TypeId} {d e : DV} {x y : Value} (hx : bH w I A d x) (hy : bH w I A e y) (h : (rR ρ (eU P t) d e).1) :
  ∃ r, (Instr.indexAt t x y).run P w = .ok r w ∧ bH w I A (rR ρ (eU P t) d e).2 r := by
 cases hel : eU P t with
 | none => rw [hel] at h; exact h.elim
 | some el =>
  rw [hel] at h
  obtain ⟨on, z⟩ := el
  unfold eU at hel
  have he : ∃ kk k, e = .v (.int kk k) := by
   cases on <;> cases e <;> simp only [rR] at h <;> try exact h.elim
   all_goals (rename_i q; cases q <;> simp only [rR] at h <;> first | exact h.elim | exact ⟨_, _, rfl⟩)
  obtain ⟨kk, k, rfl⟩ := he
  cases hy
  cases on with
  | none =>
   split at hel <;> simp at hel
   rename_i e' hu
   obtain ⟨i, hi, hz⟩ := hel
   have key : ∀ (b o n c : Nat), 0 ≤ k → k < (n : Int) → (Instr.indexAt t (.slice (some ⟨b, o, none⟩) n c) (.int kk k)).run P w = .ok (.pointer (some ⟨b, o + k.toNat * z, none⟩)) w := fun b o n c h1 h2 => by
    simp [Instr.indexAt, asIntOf, run_underlying hu, h1, h2, run_sizeOf w hi, Program.cellsOf, hi, hz, Addr.add_lit]
   cases hx with
   | sl0 _ z' f b c => simp only [rR] at h; omega
   | sl _ z' n f b o c us hn hc hm hI hzz hcell hone hrel =>
    obtain ⟨rfl, h1, h2⟩ := h
    refine ⟨_, key b o n c h1 h2, ?_⟩
    have hk : k.toNat < n := by omega
    refine .dp A _ b _ (us k.toNat) hI (fun j hj => ?_) (fun j hj => hone _ _ hk (by rwa [hzz _ hk] at hj)) (fun j d hd => hrel _ _ _ hk hd)
    rw [Nat.add_assoc]
    exact hcell _ _ hk (by rwa [hzz _ hk] at hj)
   | own _ s n B c b hA hb =>
    obtain ⟨h1, h2, e', xs, hxs, hle⟩ := h
    have ho := hs.osim.own s
    rw [hxs] at ho
    obtain ⟨B', c', hA', hrow⟩ := ho
    rw [hA] at hA'
    simp only [Option.some.injEq, Prod.mk.injEq] at hA'
    obtain ⟨rfl, rfl⟩ := hA'
    cases B with
    | none =>
     obtain ⟨rfl, _⟩ := hrow
     simp at hle
     omega
    | some g =>
     obtain rfl := fL hb
     refine ⟨_, key g 0 n c h1 h2, ?_⟩
     have := bH.rp (w := w) (I := I) A s z k.toNat 0 g c hA
     simp only [Nat.zero_add, Nat.add_zero] at this ⊢
     exact this
   | _ => exact h.elim
  | some n =>
   split at hel <;> simp at hel
   rename_i m e' hu
   obtain ⟨i, hi, rfl, hz⟩ := hel
   have key : ∀ b o, 0 ≤ k → k < (m : Int) → (Instr.indexAt t (.pointer (some ⟨b, o, none⟩)) (.int kk k)).run P w = .ok (.pointer (some ⟨b, o + k.toNat * z, none⟩)) w := fun b o h1 h2 => by
    simp [Instr.indexAt, Instr.sureAddr, asIntOf, run_underlying hu, h1, h2, run_sizeOf w hi, Program.cellsOf, hi, hz, Addr.add_lit]
   cases hx with
   | dp _ cs b o us hI hcell hone hrel =>
    refine ⟨_, key b o h.1 h.2, ?_⟩
    refine .dp A _ b _ (fun j => us (k.toNat * z + j)) hI (fun j hj => ?_) (fun j hj => hone _ (by simp at hj; omega)) (fun j d hd => hrel _ _ (by rwa [List.getElem?_drop] at hd))
    have := hcell (k.toNat * z + j) (by simp at hj; omega)
    rwa [← Nat.add_assoc] at this
   | bp _ s off g c hA => exact ⟨_, key g off h.1 h.2, .bp A s _ g c hA⟩
   | rp _ s z' i' off g c hA => exact ⟨_, key g _ h.1 h.2, by rw [Nat.add_assoc]; exact .rp A s z' i' _ g c hA⟩
   | _ => exact h.elim
theorem aTg (op : BinOp) (t : TypeId) (x y : Operand) (k k' : IntKind) (p q : Int) (h : (aSt op k p k' q).1) :
  ∃ r, (eqGuard op t x y (.int k p) (.int k' q) >>= fun _ => binOp op t (.int k p) (.int k' q)).run P w = .ok r w ∧ bH w I A (aSt op k p k' q).2 r := by
 rw [eqGuard_at_int]
 cases op <;> simp only [aSt] at h ⊢
 case add => subst h; exact ⟨_, by simp [binOp, Op.intArith], .v A _⟩
 case sub => subst h; exact ⟨_, by simp [binOp, Op.intArith], .v A _⟩
 case mul => subst h; exact ⟨_, by simp [binOp, Op.intArith], .v A _⟩
 case quo => obtain ⟨rfl, h⟩ := h; exact ⟨_, by simp [binOp, Op.intDiv, h], .v A _⟩
 case rem => obtain ⟨rfl, h⟩ := h; exact ⟨_, by simp [binOp, Op.intDiv, h], .v A _⟩
 case and => subst h; exact ⟨_, by simp [binOp, Op.intBits], .v A _⟩
 case or => subst h; exact ⟨_, by simp [binOp, Op.intBits], .v A _⟩
 case xor => subst h; exact ⟨_, by simp [binOp, Op.intBits], .v A _⟩
 case andNot => subst h; exact ⟨_, by simp [binOp, Op.intBits], .v A _⟩
 case shl => exact ⟨_, by simp [binOp, Op.shift, Int.not_lt.2 h], .v A _⟩
 case shr => exact ⟨_, by simp [binOp, Op.shift, Int.not_lt.2 h], .v A _⟩
 case eql => subst h; exact ⟨_, by simp [binOp, Op.intCmp], .v A _⟩
 case neq => subst h; exact ⟨_, by simp [binOp, Op.intCmp], .v A _⟩
 case lss => subst h; exact ⟨_, by simp [binOp, Op.intCmp], .v A _⟩
 case leq => subst h; exact ⟨_, by simp [binOp, Op.intCmp], .v A _⟩
 case gtr => subst h; exact ⟨_, by simp [binOp, Op.intCmp], .v A _⟩
 case geq => subst h; exact ⟨_, by simp [binOp, Op.intCmp], .v A _⟩
theorem aSu (op : BinOp) (t : TypeId) (x y : Operand) (p q : ByteArray) (h : (aWt op p q).1) :
  ∃ r, (eqGuard op t x y (.string p) (.string q) >>= fun _ => binOp op t (.string p) (.string q)).run P w = .ok r w ∧ bH w I A (aWt op p q).2 r := by
 rw [eqGuard_at_string]
 cases op <;> simp only [aWt] at h ⊢ <;> try exact h.elim
 case add =>
  have h' : ((p.size : Int) + (q.size : Int)) ≤ 9223372036854775807 := by unfold maxLen at h; omega
  exact ⟨_, by simp [binOp, Op.stringOp, h'], .v A _⟩
 case eql => exact ⟨_, by simp [binOp, Op.stringOp], .v A _⟩
 case neq => exact ⟨_, by simp [binOp, Op.stringOp], .v A _⟩
 case lss => exact ⟨_, by simp [binOp, Op.stringOp], .v A _⟩
 case leq => exact ⟨_, by simp [binOp, Op.stringOp], .v A _⟩
 case gtr => exact ⟨_, by simp [binOp, Op.stringOp], .v A _⟩
 case geq => exact ⟨_, by simp [binOp, Op.stringOp], .v A _⟩
theorem aLs {t : TypeId} (h : tk P t = 3) : P.underlying t = some .bool := by
 unfold tk at h
 split at h <;> simp_all
theorem pN {t : TypeId} (h : tk P t = 2) : ∃ e, P.underlying t = some (.slice e) := by
 unfold tk at h
 split at h <;> simp_all
theorem uY {t : TypeId} (h : tk P t = 1) : P.underlying t = some .string := by
 unfold tk at h
 split at h <;> simp_all
theorem pZ {t : TypeId} (h : P.underlying t = some .bool) (p q : Bool) : (Op.equal t (.bool p) (.bool q)).run P w = .ok (p == q) w := by
 have : ∀ d, (Op.equalIn (d + 1) t (.bool p) (.bool q)).run P w = .ok (p == q) w := fun d => by simp [Op.equalIn, run_underlying h]
 exact this 9999
theorem aSq (op : BinOp) (t : TypeId) (x y : Operand) (p q : Bool) (h : (aRh (tk P t) op p q).1) :
  ∃ r, (eqGuard op t x y (.bool p) (.bool q) >>= fun _ => binOp op t (.bool p) (.bool q)).run P w = .ok r w ∧ bH w I A (aRh (tk P t) op p q).2 r := by
 rw [eqGuard_at_bool]
 cases op <;> simp only [aRh] at h ⊢ <;> try exact h.elim
 case eql => exact ⟨_, by simp only [binOp]; simp [pZ (aLs h)], .v A _⟩
 case neq => exact ⟨_, by simp only [binOp]; simp [pZ (aLs h)], .v A _⟩
def uW : List Nat → List Value → List Value → Prop
 | [], [], [] => True
 | 1 :: ks, .int k _ :: xs, .int k' _ :: ys => k = k' ∧ uW ks xs ys
 | 2 :: ks, .bool _ :: xs, .bool _ :: ys => uW ks xs ys
 | 3 :: ks, .string _ :: xs, .string _ :: ys => uW ks xs ys
 | _, _, _ => False
def sM : List Value → List Value → Bool
 | [], [] => true
 | .int _ a :: xs, .int _ b :: ys => (a == b) && sM xs ys
 | .bool a :: xs, .bool b :: ys => (a == b) && sM xs ys
 | .string a :: xs, .string b :: ys => (a == b) && sM xs ys
 | _, _ => false
def vOf (P : Program) (t : TypeId) (cs : List Value) : Value :=
 match P.underlying t with
 | some (.struct _) => .agg cs.toArray
 | _ => cs.headD undef
theorem pP {k : Nat} {ks : List Nat} {xs ys : List Value} (h : uW (k :: ks) xs ys) : ∃ x y xs' ys', xs = x :: xs' ∧ ys = y :: ys' ∧ uW [k] [x] [y] ∧ uW ks xs' ys' ∧ sM xs ys = (sM [x] [y] && sM xs' ys') := by
 unfold uW at h
 split at h <;> try exact h.elim
 ·cases ‹_ :: _ = []›
 ·rename_i he; cases he; exact ⟨_, _, _, _, rfl, rfl, ⟨h.1, trivial⟩, h.2, by simp [sM]⟩
 ·rename_i he; cases he; exact ⟨_, _, _, _, rfl, rfl, trivial, h, by simp [sM]⟩
 rename_i he; cases he; exact ⟨_, _, _, _, rfl, rfl, trivial, h, by simp [sM]⟩
theorem mT : ∀ {ks : List Nat} {xs ys : List Value}, uW ks xs ys → xs.length = ks.length ∧ ys.length = ks.length
 | [], xs, ys, h => by
  cases xs <;> cases ys <;> simp [uW] at h ⊢
 | k :: ks, xs, ys, h => by
  obtain ⟨x, y, xs', ys', rfl, rfl, _, h2, _⟩ := pP h
  obtain ⟨h3, h4⟩ := mT h2
  exact ⟨by simp [h3], by simp [h4]⟩
theorem aDr : ∀ {a b : List Nat} {xs ys : List Value}, uW (a ++ b) xs ys → uW a (xs.take a.length) (ys.take a.length) ∧ uW b (xs.drop a.length) (ys.drop a.length) ∧
   sM xs ys = (sM (xs.take a.length) (ys.take a.length) && sM (xs.drop a.length) (ys.drop a.length))
 | [], b, xs, ys, h => ⟨by simp [uW], by simpa using h, by simp [sM]⟩
 | k :: a, b, xs, ys, h => by
  rw [List.cons_append] at h
  obtain ⟨x, y, xs', ys', rfl, rfl, h1, h2, h3⟩ := pP h
  obtain ⟨i1, i2, i3⟩ := aDr h2
  refine ⟨?_, by simpa using i2, ?_⟩
  ·simp only [List.length_cons, List.take_succ_cons]
   unfold uW at h1 ⊢
   split at h1 <;> first | exact h1.elim | skip
   all_goals simp_all
  rw [h3, i3]
  simp only [List.length_cons, List.take_succ_cons, List.drop_succ_cons]
  rw [← Bool.and_assoc]
  congr 1
  unfold uW at h1
  split at h1 <;> first | exact h1.elim | skip
  all_goals simp_all [sM]
theorem pB {w : World} {t : TypeId} {X : Array Value} {off d : Nat} {a : List Nat} {i : TypeInfo} (hk : aAx P d t = some a) (hi : P.info? t = some i) (hs : i.size = a.length) (hl : off + a.length ≤ X.size) :
  (part t X off).run P w = .ok (vOf P t ((X.toList.drop off).take a.length)) w := by
 cases d with
 | zero => cases hk
 | succ d =>
  unfold aAx at hk
  have hsz : (sizeOf t).run P w = .ok i.size w := by rw [run_sizeOf w hi]; simp [Program.cellsOf, hi]
  have one : a.length = 1 → (isAgg t).run P w = .ok false w → (∀ cs : List Value, vOf P t cs = cs.headD undef) → (part t X off).run P w = .ok (vOf P t ((X.toList.drop off).take a.length)) w := fun h1 h2 h3 => by
   have hlt : off < X.size := by omega
   have hx : X[off]? = some X[off] := Array.getElem?_eq_getElem hlt
   rw [h3, h1]
   have e : ((X.toList.drop off).take 1).headD undef = X[off] := by
    rw [List.drop_eq_getElem_cons (by simpa using hlt)]; simp
   rw [e]
   unfold part
   simp [h2, hx]
  split at hk
  ·rename_i hu; cases hk; exact one rfl (by simp [isAgg, run_underlying hu]) fun cs => by simp [vOf, hu]
  ·rename_i hu; cases hk; exact one rfl (by simp [isAgg, run_underlying hu]) fun cs => by simp [vOf, hu]
  ·rename_i hu; cases hk; exact one rfl (by simp [isAgg, run_underlying hu]) fun cs => by simp [vOf, hu]
  ·rename_i fs hu
   have h2 : (isAgg t).run P w = .ok true w := by simp [isAgg, run_underlying hu]
   unfold part
   simp only [Sem.run_bind, h2, Result.andThen_ok, if_true, hsz, Sem.run_pure, vOf, hu]
   congr 2
   apply Array.ext'
   simp [hs, List.extract_eq_take_drop]
  cases hk
theorem oV {w : World} : ∀ (d : Nat) (t : TypeId) (ks : List Nat) (xs ys : List Value), aAx P d t = some ks → uW ks xs ys → ∀ m, (Op.equalIn (d + m) t (vOf P t xs) (vOf P t ys)).run P w = .ok (sM xs ys) w
 | 0, t, ks, xs, ys, hk, _, m => by cases hk
 | d + 1, t, ks, xs, ys, hk, ho, m => by
  rw [show d + 1 + m = (d + m) + 1 by omega]
  unfold aAx at hk
  split at hk
  ·rename_i hu; cases hk
   obtain ⟨x, y, xs', ys', rfl, rfl, h1, h2, _⟩ := pP ho
   unfold uW at h1
   split at h1 <;> simp_all [uW]
   obtain ⟨h3, h4⟩ := mT h2
   obtain rfl := List.eq_nil_of_length_eq_zero h3
   obtain rfl := List.eq_nil_of_length_eq_zero h4
   unfold Op.equalIn
   simp [run_underlying hu, vOf, hu, sM]
  ·rename_i hu; cases hk
   obtain ⟨x, y, xs', ys', rfl, rfl, h1, h2, _⟩ := pP ho
   unfold uW at h1
   split at h1 <;> simp_all [uW]
   obtain ⟨h3, h4⟩ := mT h2
   obtain rfl := List.eq_nil_of_length_eq_zero h3
   obtain rfl := List.eq_nil_of_length_eq_zero h4
   unfold Op.equalIn
   simp [run_underlying hu, vOf, hu, sM]
  ·rename_i hu; cases hk
   obtain ⟨x, y, xs', ys', rfl, rfl, h1, h2, _⟩ := pP ho
   unfold uW at h1
   split at h1 <;> simp_all [uW]
   obtain ⟨h3, h4⟩ := mT h2
   obtain rfl := List.eq_nil_of_length_eq_zero h3
   obtain rfl := List.eq_nil_of_length_eq_zero h4
   unfold Op.equalIn
   simp [run_underlying hu, vOf, hu, sM]
  ·rename_i fs hu
   split at hk
   ·cases hk
   rename_i hst
   have hst : P.stoodInHeld t = false := by simpa using hst
   have loop : ∀ (l : List Field) (off : Nat) (k : List Nat), aZo P (aAx P d) l off = some k → uW k (xs.drop off) (ys.drop off) → off + k.length ≤ xs.length → off + k.length ≤ ys.length →
     (Sem.run P (forIn l ((none : Option Bool), ()) fun f (_ : Option Bool × Unit) => (if f.name = "_" then pure (ForInStep.yield (none, ())) else do
       let a ← part f.type xs.toArray f.offset
       let b ← part f.type ys.toArray f.offset
       let c ← Op.equalIn (d + m) f.type a b
       if c = false then pure (ForInStep.done (some false, ())) else pure (ForInStep.yield (none, ())) : Sem (ForInStep (Option Bool × Unit)))) w) = .ok (if sM (xs.drop off) (ys.drop off) then (none, ()) else (some false, ())) w := by
    intro l
    induction l with
    | nil =>
     intro off k hk ho h1 h2
     cases hk
     have := mT ho
     rw [List.eq_nil_of_length_eq_zero this.1, List.eq_nil_of_length_eq_zero this.2]
     rfl
    | cons f l ih =>
     intro off k hk ho h1 h2
     unfold aZo at hk
     split at hk
     ·cases hk
     rename_i hn
     rw [not_or, Decidable.not_not] at hn
     obtain ⟨hn1, hn2⟩ := hn
     split at hk <;> try cases hk
     rename_i i a hi ha
     split at hk <;> try cases hk
     rename_i hs
     obtain ⟨k', hk', rfl⟩ := Option.map_eq_some_iff.1 hk
     obtain ⟨o1, o2, o3⟩ := aDr ho
     rw [List.length_append] at h1 h2
     have p1 := pB (P := P) (w := w) (X := xs.toArray) (off := off) ha hi hs (by simp; omega)
     have p2 := pB (P := P) (w := w) (X := ys.toArray) (off := off) ha hi hs (by simp; omega)
     have p3 := oV (w := w) d f.type a _ _ ha o1 m
     rw [List.drop_drop, List.drop_drop] at o2 o3
     have p4 := ih (off + a.length) k' hk' o2 (by omega) (by omega)
     rw [List.forIn_cons]
     simp only [hn1, if_false, hn2, Sem.run_bind, p1, p2, p3, Result.andThen_ok, List.toList_toArray] at *
     cases hc : sM (List.take a.length (List.drop off xs)) (List.take a.length (List.drop off ys)) with
     | false => simp [o3, hc]
     | true => simp [o3, hc]; simpa using p4
   have hl := mT ho
   have := loop fs.toList 0 ks hk (by simpa using ho) (by omega) (by omega)
   unfold Op.equalIn
   simp only [vOf, hu]
   simp [run_underlying hu, hst]
   rw [← Array.forIn_toList, this, List.drop_zero, List.drop_zero]
   cases sM xs ys <;> rfl
  cases hk
theorem aPi {w : World} {t e : TypeId} {n k : Nat} {i : TypeInfo} (hu : P.underlying t = some (.array n e)) (hi : P.info? e = some i) (hk : aAx P 1 e = some [k]) (h1 : i.size = 1) {xs ys : List Value} (ho : uW (List.replicate n k) xs ys) :
  (Op.equal t (.agg xs.toArray) (.agg ys.toArray)).run P w = .ok (sM xs ys) w := by
 have hl := mT ho
 rw [List.length_replicate] at hl
 have loop : ∀ (m s : Nat), s + m = n → uW (List.replicate m k) (xs.drop s) (ys.drop s) →
   (Sem.run P (forIn (List.range' s m) ((none : Option Bool), ()) fun j (_ : Option Bool × Unit) => (do
     let a ← part e xs.toArray (j * 1)
     let b ← part e ys.toArray (j * 1)
     let c ← Op.equalIn 9999 e a b
     if c = false then pure (ForInStep.done (some false, ())) else pure (ForInStep.yield (none, ())) : Sem (ForInStep (Option Bool × Unit)))) w) = .ok (if sM (xs.drop s) (ys.drop s) then (none, ()) else (some false, ())) w := by
  intro m
  induction m with
  | zero =>
   intro s hs ho
   have := mT ho
   rw [List.eq_nil_of_length_eq_zero this.1, List.eq_nil_of_length_eq_zero this.2]
   rfl
  | succ m ih =>
   intro s hs ho
   rw [List.replicate_succ] at ho
   have ho' : uW ([k] ++ List.replicate m k) (xs.drop s) (ys.drop s) := ho
   obtain ⟨o1, o2, o3⟩ := aDr ho'
   have p1 := pB (P := P) (w := w) (X := xs.toArray) (off := s) hk hi h1 (by simp; omega)
   have p2 := pB (P := P) (w := w) (X := ys.toArray) (off := s) hk hi h1 (by simp; omega)
   have p3 := oV (w := w) 1 e [k] _ _ hk o1 9998
   rw [List.drop_drop, List.drop_drop] at o2 o3
   have p4 := ih (s + 1) (by omega) o2
   have p3 : (Op.equalIn 9999 e (vOf P e (List.take [k].length (List.drop s xs))) (vOf P e (List.take [k].length (List.drop s ys)))).run P w = .ok (sM (List.take [k].length (List.drop s xs)) (List.take [k].length (List.drop s ys))) w := p3
   simp only [List.toList_toArray] at p1 p2
   rw [List.range'_succ, List.forIn_cons]
   simp only [Nat.mul_one, Sem.run_bind, p1, p2, p3, Result.andThen_ok]
   cases hc : sM (List.take [k].length (List.drop s xs)) (List.take [k].length (List.drop s ys)) with
   | false => rw [hc, Bool.false_and] at o3; rw [o3]; simp
   | true =>
    rw [hc, Bool.true_and] at o3
    rw [o3]
    simpa using p4
 have := loop n 0 (by omega) (by simpa using ho)
 have e0 : Op.equal t (.agg xs.toArray) (.agg ys.toArray) = Op.equalIn (9999 + 1) t (.agg xs.toArray) (.agg ys.toArray) := rfl
 have hsz : (sizeOf e).run P w = .ok 1 w := by rw [run_sizeOf w hi]; simp [Program.cellsOf, hi, h1]
 rw [e0]
 unfold Op.equalIn
 simp only [Sem.run_bind, run_underlying hu, Result.andThen_ok, hsz]
 simp [Std.Legacy.Range.forIn_eq_forIn_range', Std.Legacy.Range.size]
 simp at this
 rw [this]
 cases sM xs ys <;> rfl
theorem aWf {w : World} {I : Nat → Prop} {A : cO} : ∀ (ks : List Nat) (cs ds : List DV) (xs ys : List Value), cs.length = xs.length → ds.length = ys.length →
  (∀ (j : Nat) (d : DV) (u : Value), cs[j]? = some d → xs[j]? = some u → bH w I A d u) → (∀ (j : Nat) (d : DV) (u : Value), ds[j]? = some d → ys[j]? = some u → bH w I A d u) →
  (eqL ks cs ds).1 → uW ks xs ys ∧ (eqL ks cs ds).2 = sM xs ys := by
 intro ks
 induction ks with
 | nil =>
  intro cs ds xs ys h1 h2 h3 h4 h
  cases cs <;> cases ds <;> simp [eqL] at h
  cases xs <;> simp at h1
  cases ys <;> simp at h2
  exact ⟨trivial, rfl⟩
 | cons k ks ih =>
  intro cs ds xs ys h1 h2 h3 h4 h
  unfold eqL at h ⊢
  split at h
  ·contradiction
  ·rename_i he; cases he
   rcases xs with _ | ⟨x, xs⟩
   ·simp at h1
   rcases ys with _ | ⟨y, ys⟩
   ·simp at h2
   have r1 := h3 0 _ x rfl rfl
   have r2 := h4 0 _ y rfl rfl
   cases r1; cases r2
   obtain ⟨i1, i2⟩ := ih _ _ xs ys (by simpa using h1) (by simpa using h2) (fun j d u hd hu => h3 (j + 1) d u (by simpa using hd) (by simpa using hu)) (fun j d u hd hu => h4 (j + 1) d u (by simpa using hd) (by simpa using hu)) h.2
   exact ⟨⟨h.1, i1⟩, by simp [sM, i2]⟩
  ·rename_i he; cases he
   rcases xs with _ | ⟨x, xs⟩
   ·simp at h1
   rcases ys with _ | ⟨y, ys⟩
   ·simp at h2
   have r1 := h3 0 _ x rfl rfl
   have r2 := h4 0 _ y rfl rfl
   cases r1; cases r2
   obtain ⟨i1, i2⟩ := ih _ _ xs ys (by simpa using h1) (by simpa using h2) (fun j d u hd hu => h3 (j + 1) d u (by simpa using hd) (by simpa using hu)) (fun j d u hd hu => h4 (j + 1) d u (by simpa using hd) (by simpa using hu)) h
   exact ⟨i1, by simp [sM, i2]⟩
  ·rename_i he; cases he
   rcases xs with _ | ⟨x, xs⟩
   ·simp at h1
   rcases ys with _ | ⟨y, ys⟩
   ·simp at h2
   have r1 := h3 0 _ x rfl rfl
   have r2 := h4 0 _ y rfl rfl
   cases r1; cases r2
   obtain ⟨i1, i2⟩ := ih _ _ xs ys (by simpa using h1) (by simpa using h2) (fun j d u hd hu => h3 (j + 1) d u (by simpa using hd) (by simpa using hu)) (fun j d u hd hu => h4 (j + 1) d u (by simpa using hd) (by simpa using hu)) h
   exact ⟨i1, by simp [sM, i2]⟩
  exact h.elim
theorem aWe (op : BinOp) (t : TypeId) (x y : Operand) {d e : DV} {u v : Value} (hu : bH w I A d u) (hv : bH w I A e v) (h : (aAn (qZ P t) (tk P t) op d e).1) :
  ∃ r, (eqGuard op t x y u v >>= fun _ => binOp op t u v).run P w = .ok r w ∧ bH w I A (aAn (qZ P t) (tk P t) op d e).2 r := by
 cases d with
 | v _ =>
  cases hu
  cases e with
  | v _ =>
   cases hv
   cases u <;> cases v <;> simp only [aAn] at h ⊢ <;> first
    | exact aTg op t x y _ _ _ _ h
    | exact aSu op t x y _ _ h
    | exact aSq op t x y _ _ h
    | exact h.elim
  | _ => cases u <;> exact h.elim
 | agg cs =>
  cases e with
  | agg ds =>
   cases hu with
   | agg _ _ xs hxl hxo hxr =>
    cases hv with
    | agg _ _ ys hyl hyo hyr =>
     have h : (aWo (qZ P t) op cs ds).1 := h
     show ∃ r, _ ∧ bH w I A (aWo (qZ P t) op cs ds).2 r
     unfold aWo at h ⊢
     cases hes : qZ P t with
     | none => rw [hes] at h; cases op <;> exact h.elim
     | some ks =>
      rw [hes] at h
      have hgd : P.eqGuardType P.depth t = false := by
       cases hg : P.eqGuardType P.depth t with
       | false => rfl
       | true =>
        exfalso
        unfold qZ at hes
        split at hes <;> simp [hg] at hes
      have hguard : ∀ op, (eqGuard op t x y (.agg xs) (.agg ys)).run P w = .ok () w := fun op => by
       unfold eqGuard
       cases op <;> simp [hgd]
      have key : (eqL ks cs ds).1 → (Op.equal t (.agg xs) (.agg ys)).run P w = .ok (eqL ks cs ds).2 w := fun hk => by
       obtain ⟨k1, k2⟩ := aWf ks cs ds xs.toList ys.toList (by simpa using hxl) (by simpa using hyl) (fun j d u hd hu' => hxr j d u hd (by simpa using hu')) (fun j d u hd hu' => hyr j d u hd (by simpa using hu')) hk
       rw [k2]
       unfold qZ at hes
       split at hes <;> try cases hes
       ·rename_i fs hu
        split at hes <;> try cases hes
        have := oV (P := P) (w := w) 40 t ks xs.toList ys.toList hes k1 9960
        simpa [vOf, hu, Op.equal, Op.maxDepth] using this
       rename_i n e hu
       split at hes <;> try cases hes
       split at hes <;> try cases hes
       rename_i i k hi hk1
       split at hes <;> cases hes
       rename_i h1
       simpa using aPi (P := P) (w := w) hu hi hk1 h1 k1
      cases op <;> simp only at h ⊢ <;> try exact h.elim
      case eql => exact ⟨_, by simp only [binOp]; simp [hguard, key h], .v A _⟩
      case neq => exact ⟨_, by simp only [binOp]; simp [hguard, key h], .v A _⟩
  | _ => exact h.elim
 | _ => exact h.elim
theorem bCg (op : UnOp) {d : DV} {u : Value} (hu : bH w I A d u) (h : (unP op d).1) : ∃ r, (Op.unary op u).run P w = .ok r w ∧ bH w I A (unP op d).2 r := by
 cases d with
 | v _ =>
  cases hu
  cases op <;> cases u <;> simp only [unP] at h ⊢ <;> first
   | exact h.elim
   | exact ⟨_, by simp [Op.unary, Op.intArith], .v A _⟩
 | _ => cases op <;> exact h.elim
theorem aRb {t ty : TypeId} {d : DV} {u : Value} (hu : bH w I A d u) (h : (aGt (tk P t) d).1) :
  ∃ r, (Builtin.len_ #[t] ty #[u]).run P w = .ok r w ∧ bH w I A (aGt (tk P t) d).2 r := by
 cases hu with
 | sl0 _ z f b c => obtain ⟨e, he⟩ := pN h; exact ⟨_, by simp [Builtin.len_, run_underlying he]; rfl, .v A _⟩
 | sl _ z n f b o c us hn hc hm hI hz hcell hone hrel => obtain ⟨e, he⟩ := pN h; exact ⟨_, by simp [Builtin.len_, run_underlying he]; rfl, .v A _⟩
 | own _ s n B c b hA hb => obtain ⟨e, he⟩ := pN h; exact ⟨_, by simp [Builtin.len_, run_underlying he]; rfl, .v A _⟩
 | ez _ b => obtain ⟨e, he⟩ := pN h; exact ⟨_, by simp [Builtin.len_, run_underlying he]; rfl, .v A _⟩
 | v _ _ =>
  cases u <;> simp only [aGt] at h ⊢ <;> try exact h.elim
  case string s => exact ⟨_, by simp [Builtin.len_, run_underlying (uY h)]; rfl, .v A _⟩
  case slice b n c => obtain ⟨e, he⟩ := pN h; exact ⟨_, by simp [Builtin.len_, run_underlying he]; rfl, .v A _⟩
 | _ => exact h.elim
theorem aPo {s t : TypeId} {d : DV} {u : Value} (hs : (P.underlying s).isSome = true) (hu : bH w I A d u) (h : (rH (aAw P t) d).1) :
  ∃ r, (convert s t u).run P w = .ok r w ∧ bH w I A (rH (aAw P t) d).2 r := by
 cases hk : aAw P t with
 | none => rw [hk] at h; exact h.elim
 | some k =>
  rw [hk] at h
  have ht : P.underlying t = some (.int k) := by
   unfold aAw at hk
   split at hk <;> simp_all
  obtain ⟨sd, hsd⟩ := Option.isSome_iff_exists.mp hs
  cases d with
  | v _ =>
   cases hu
   cases u <;> simp only [rH] at h ⊢ <;> try exact h.elim
   exact ⟨_, by simp [convert, run_underlying hsd, run_underlying ht, Conv.intToInt], .v A _⟩
  | _ => exact h.elim
theorem aTy {d : DV} {u : Value} {i : Nat} (hu : bH w I A d u) (h : (aDg d i).1) : ∃ r, (Instr.extract u i).run P w = .ok r w ∧ bH w I A (aDg d i).2 r := by
 cases hu with
 | tup _ cs vs hl hrel =>
  have hi : i < cs.length := h
  have hv : vs[i]? = some (vs[i]'(by omega)) := Array.getElem?_eq_getElem (by omega)
  exact ⟨vs[i]'(by omega), by simp [Instr.extract, hv], hrel i _ _ (by show cs[i]? = some (cs.getD i .any); rw [List.getD_eq_getElem?_getD, List.getElem?_eq_getElem hi]; rfl) hv⟩
 | _ => exact h.elim
theorem aZq {t : TypeId} {el : Option (Option Nat × Nat)} {ld : Option (Option Nat)} {d e : DV} {u v : Value} (hu : bH w I A d u) (hv : bH w I A e v) (h : (atP el ld (tk P t) d e).1) :
  ∃ r, (Instr.index t u v).run P w = .ok r w ∧ bH w I A (atP el ld (tk P t) d e).2 r := by
 cases d with
 | v _ =>
  cases hu
  cases e with
  | v _ =>
   cases hv
   cases u <;> cases v <;> simp only [atP] at h ⊢ <;> try exact h.elim
   rename_i s k n
   obtain ⟨h1, h2, h3⟩ := h
   have hn : n.toNat < s.data.size := by
    have : s.size = s.data.size := rfl
    omega
   have hb : s[n.toNat]? = some (s.data.getD n.toNat 0) := by
    show s.data[n.toNat]? = _
    simp [Array.getElem?_eq_getElem hn, Array.getD_eq_getD_getElem?]
   refine ⟨_, ?_, .v A _⟩
   simp [Instr.index, asIntOf, run_underlying (uY h1), h2, hb]
  | _ => cases u <;> exact h.elim
 | _ => exact h.elim
theorem qM {x : Value} {k : IntKind} {i : Int} {y : Nat} {c : BoundsCode} (hx : x = .int k i) (h0 : 0 ≤ i) (h1 : i ≤ y) : (Instr.sliceBound x y c).run P w = .ok i.toNat w := by
 subst hx
 simp [Instr.sliceBound, asIntOf, h0, h1]
def bnd (lv : Option Value) (l d : Nat) : Prop := (lv = none ∧ l = d) ∨ ∃ k i, lv = some (.int k i) ∧ 0 ≤ i ∧ i.toNat = l
theorem mE {sl : Bool} {lv hv : Option Value} {l h n c : Nat} (hl : bnd lv l 0) (hh : bnd hv h n) (h1 : l ≤ h) (h2 : h ≤ c) :
  (Instr.sliceBounds sl n c lv hv none).run P w = .ok (l, h, c) w := by
 rcases hl with ⟨rfl, rfl⟩ | ⟨k, i, rfl, hi, rfl⟩
 ·rcases hh with ⟨rfl, rfl⟩ | ⟨k', i', rfl, hi', rfl⟩
  ·simp [Instr.sliceBounds]
  have := qM (P := P) (w := w) (x := .int k' i') (c := if sl then .sliceAcap else .sliceAlen) rfl hi' (show i' ≤ (c : Int) by omega)
  simp [Instr.sliceBounds, this]
 rcases hh with ⟨rfl, rfl⟩ | ⟨k', i', rfl, hi', rfl⟩
 ·have := qM (P := P) (w := w) (x := .int k i) (c := .sliceB) rfl hi (show i ≤ (h : Int) by omega)
  simp [Instr.sliceBounds, this]
 have h3 := qM (P := P) (w := w) (x := .int k' i') (c := if sl then .sliceAcap else .sliceAlen) rfl hi' (show i' ≤ (c : Int) by omega)
 have h4 := qM (P := P) (w := w) (x := .int k i) (c := .sliceB) rfl hi (show i ≤ ((i'.toNat : Nat) : Int) by omega)
 simp [Instr.sliceBounds, h3, h4]
theorem oH {t : TypeId} {z : Nat} (hel : eU P t = some (none, z)) {n : Nat} {f : Nat → List DV} {u : Value} (hu : bH w I A (.sl z n f) u)
  {lv hv : Option Value} {l h : Nat} (hl : bnd lv l 0) (hh : bnd hv h n) (h1 : l ≤ h) (h2 : h ≤ n) :
  ∃ r, (Instr.sliceAt t u lv hv none).run P w = .ok r w ∧ bH w I A (.sl z (h - l) fun i => f (l + i)) r := by
 unfold eU at hel
 split at hel <;> simp at hel
 rename_i e hu'
 obtain ⟨i, hi, hz⟩ := hel
 have key : ∀ (b : Option Addr) (c : Nat), n ≤ c → (Instr.sliceAt t (.slice b n c) lv hv none).run P w = .ok (.slice (if c = l then b else b.map (·.add (l * z))) (h - l) (c - l)) w := fun b c hc => by
  simp [Instr.sliceAt, Instr.slice, run_underlying hu', mE (P := P) (w := w) (sl := true) hl hh h1 (Nat.le_trans h2 hc), run_sizeOf w hi, Program.cellsOf, hi, hz]
 cases hu with
 | sl0 _ z f b c =>
  refine ⟨_, key b c (Nat.zero_le _), ?_⟩
  obtain rfl : h = 0 := by omega
  simp only [Nat.zero_sub]
  exact .sl0 A z _ _ _
 | sl _ z n f b o c us hn hc hm hI hzz hcell hone hrel =>
  refine ⟨_, key _ c hc, ?_⟩
  by_cases h0 : h - l = 0
  ·rw [h0]; exact .sl0 A z _ _ _
  rw [if_neg (by omega)]
  simp only [Option.map_some, Addr.add_lit]
  refine .sl A z _ _ b (o + l * z) (c - l) (fun i j => us (l + i) j) (by omega) (by omega) (by omega) hI (fun i hi => hzz _ (by omega)) (fun i j hi hj => ?_) (fun i j hi hj => hone _ _ (by omega) hj)
   (fun i j d hi hd => hrel _ _ _ (by omega) hd)
  have := hcell (l + i) j (by omega) hj
  rw [Nat.add_mul] at this
  rw [← this]
  congr 2
  omega
theorem pW {t : TypeId} (hk : tk P t = 1) {s : ByteArray} {lv hv : Option Value} {l h : Nat} (hl : bnd lv l 0) (hh : bnd hv h s.size) (h1 : l ≤ h) (h2 : h ≤ s.size) :
  (Instr.sliceAt t (.string s) lv hv none).run P w = .ok (.string (s.extract l h)) w := by
 simp [Instr.sliceAt, Instr.slice, run_underlying (uY hk), mE (P := P) (w := w) (sl := false) hl hh h1 h2]
theorem aFr {t : TypeId} {z : Nat} (hel : eU P t = some (none, z)) {s n : Nat} {u : Value} (hu : bH w I A (.own s n) u) (hs : b9 nt w I A ρ a)
  {hv : Option Value} {h : Nat} (hh : bnd hv h n) (h2 : h ≤ n) (hr : ∃ e z xs, ρ s = .row e z xs ∧ n ≤ xs.length) :
  ∃ r, (Instr.sliceAt t u none hv none).run P w = .ok r w ∧ bH w I A (.own s h) r := by
 obtain ⟨e', z', xs, hxs, hle⟩ := hr
 have ho := hs.osim.own s
 rw [hxs] at ho
 obtain ⟨B', c', hA', hrow⟩ := ho
 unfold eU at hel
 split at hel <;> simp at hel
 rename_i e hu'
 obtain ⟨i, hi, hz⟩ := hel
 cases hu with
 | own _ s n B c bb hA hbb =>
  rw [hA] at hA'
  simp only [Option.some.injEq, Prod.mk.injEq] at hA'
  obtain ⟨rfl, rfl⟩ := hA'
  have hnc : n ≤ c := by
   cases B with
   | none => obtain ⟨rfl, _⟩ := hrow; simp at hle; omega
   | some g => obtain ⟨us, _, _, _, h4, _⟩ := hrow; omega
  refine ⟨.slice (bb.map (·.add (0 * i.size))) h c, ?_, .own A s h B c _ hA fun g hg => by subst hg; obtain rfl := fL hbb; simp [Addr.add]⟩
  have hb := mE (P := P) (w := w) (sl := true) (lv := none) (l := 0) (.inl ⟨rfl, rfl⟩) hh (Nat.zero_le _) (Nat.le_trans h2 hnc)
  simp only [Instr.sliceAt, Instr.slice, run_underlying hu', Sem.run_bind, Result.andThen_ok, hb, run_sizeOf w hi, Sem.run_pure]
  cases bb <;> simp [Addr.add, Program.cellsOf, hi]
theorem aJd {t : TypeId} {z n : Nat} (hel : eU P t = some (some n, z)) {cs : List DV} {u : Value} (hu : bH w I A (.dp cs) u)
  {hv : Option Value} {h : Nat} (hh : bnd hv h n) (h2 : h ≤ n) (hr : n * z ≤ cs.length) (hn : n ≤ 1048576) :
  ∃ r, (Instr.sliceAt t u none hv none).run P w = .ok r w ∧ bH w I A (.sl z h fun i => (cs.drop (i * z)).take z) r := by
 unfold eU at hel
 split at hel <;> simp at hel
 rename_i n' e hu'
 obtain ⟨i, hi, rfl, hz⟩ := hel
 cases hu with
 | dp _ cs b o us hI hcell hone hrel =>
  refine ⟨.slice (some ⟨b, o, none⟩) h n', ?_, ?_⟩
  ·have hb := mE (P := P) (w := w) (sl := false) (lv := none) (l := 0) (.inl ⟨rfl, rfl⟩) hh (Nat.zero_le _) h2
   simp only [Instr.sliceAt, run_underlying hu', Sem.run_bind, Result.andThen_ok, hb, run_sizeOf w hi, Sem.run_pure, Instr.sureAddr]
   simp [Addr.add]
  by_cases h0 : h = 0
  ·subst h0; exact .sl0 A z _ _ _
  have hlt : ∀ q j, q < h → j < z → q * z + j < cs.length := fun q j hq hj => by
   have : (q + 1) * z ≤ n' * z := Nat.mul_le_mul_right _ (by omega)
   rw [Nat.succ_mul] at this
   omega
  refine .sl A z h _ b o n' (fun q j => us (q * z + j)) (by omega) h2 (by unfold maxLen; omega) hI (fun q hq => ?_) (fun q j hq hj => hcell _ (hlt q j hq hj)) (fun q j hq hj => hone _ (hlt q j hq hj)) fun q j d hq hd => ?_
  ·rw [List.length_take, List.length_drop]
   have : (q + 1) * z ≤ n' * z := Nat.mul_le_mul_right _ (by omega)
   rw [Nat.succ_mul] at this
   omega
  rw [List.getElem?_take] at hd
  split at hd
  ·rw [List.getElem?_drop] at hd
   exact hrel _ d hd
  cases hd
theorem aQw (hs : b9 nt w I A ρ a) {t : TypeId} {d : DV} {u : Value} {lo hi : Option DV} {lv hv : Option Value} (hu : bH w I A d u)
  (hlo : ∀ e, lo = some e → ∃ v, lv = some v ∧ bH w I A e v) (hlo' : lo = none → lv = none)
  (hhi : ∀ e, hi = some e → ∃ v, hv = some v ∧ bH w I A e v) (hhi' : hi = none → hv = none)
  (h : (uK ρ (eU P t) (tk P t) d lo hi).1) :
  ∃ r, (Instr.sliceAt t u lv hv none).run P w = .ok r w ∧ bH w I A (uK ρ (eU P t) (tk P t) d lo hi).2 r := by
 have hint : ∀ (o : Option DV) (ov : Option Value), (∀ e, o = some e → ∃ v, ov = some v ∧ bH w I A e v) → ∀ k i, o = some (.v (.int k i)) → ov = some (.int k i) := fun o ov hh k i ho => by
  obtain ⟨v, h1, h2⟩ := hh _ ho
  cases h2
  exact h1
 unfold uK at h ⊢
 split at h
 ·obtain rfl := hlo' rfl
  obtain rfl := hhi' rfl
  split at h
  ·rename_i z n f
   obtain ⟨h1, h2⟩ := h
   obtain ⟨r, r1, r2⟩ := oH h2 hu (lv := none) (hv := none) (l := 0) (h := n) (.inl ⟨rfl, rfl⟩) (.inl ⟨rfl, rfl⟩) (Nat.zero_le _) (Nat.le_refl _)
   exact ⟨r, r1, by simpa using r2⟩
  exact h.elim
 ·rename_i k i
  obtain rfl := hint _ _ hlo k i rfl
  obtain rfl := hhi' rfl
  split at h
  ·rename_i z n f z' hz
   obtain ⟨rfl, h1, h2⟩ := h
   obtain ⟨r, r1, r2⟩ := oH hz hu (lv := some (.int k i)) (hv := none) (l := i.toNat) (h := n) (.inr ⟨k, i, rfl, h1, rfl⟩) (.inl ⟨rfl, rfl⟩) (by omega) (Nat.le_refl _)
   exact ⟨r, r1, by simpa only [hz] using r2⟩
  ·rename_i s _
   obtain ⟨h1, h2, h3⟩ := h
   cases hu
   exact ⟨_, pW h1 (.inr ⟨k, i, rfl, h2, rfl⟩) (.inl ⟨rfl, rfl⟩) (by omega) (Nat.le_refl _), .v A _⟩
  exact h.elim
 ·rename_i k i
  obtain rfl := hlo' rfl
  obtain rfl := hint _ _ hhi k i rfl
  split at h
  ·rename_i z n f z' hz
   obtain ⟨rfl, h1, h2⟩ := h
   obtain ⟨r, r1, r2⟩ := oH hz hu (lv := none) (hv := some (.int k i)) (l := 0) (h := i.toNat) (.inl ⟨rfl, rfl⟩) (.inr ⟨k, i, rfl, h1, rfl⟩) (Nat.zero_le _) (by omega)
   exact ⟨r, r1, by simpa only [hz, Nat.zero_add, Nat.sub_zero] using r2⟩
  ·rename_i s _
   obtain ⟨h1, h2, h3⟩ := h
   cases hu
   exact ⟨_, pW h1 (.inl ⟨rfl, rfl⟩) (.inr ⟨k, i, rfl, h2, rfl⟩) (Nat.zero_le _) (by omega), .v A _⟩
  ·rename_i s n z' hz
   obtain ⟨h1, h2, h3⟩ := h
   obtain ⟨r, r1, r2⟩ := aFr hz hu hs (hv := some (.int k i)) (h := i.toNat) (.inr ⟨k, i, rfl, h1, rfl⟩) (by omega) h3
   exact ⟨r, r1, by simpa only [hz] using r2⟩
  ·rename_i cs n z hz
   obtain ⟨h1, h2, h3, h4⟩ := h
   obtain ⟨r, r1, r2⟩ := aJd hz hu (hv := some (.int k i)) (h := i.toNat) (.inr ⟨k, i, rfl, h1, rfl⟩) (by omega) h3 h4
   exact ⟨r, r1, by simpa only [hz] using r2⟩
  exact h.elim
 ·rename_i k i k' i'
  obtain rfl := hint _ _ hlo k i rfl
  obtain rfl := hint _ _ hhi k' i' rfl
  split at h
  ·rename_i z n f z' hz
   obtain ⟨rfl, h1, h2, h3⟩ := h
   obtain ⟨r, r1, r2⟩ := oH hz hu (lv := some (.int k i)) (hv := some (.int k' i')) (l := i.toNat) (h := i'.toNat) (.inr ⟨k, i, rfl, h1, rfl⟩) (.inr ⟨k', i', rfl, by omega, rfl⟩) (by omega) (by omega)
   exact ⟨r, r1, by simpa only [hz] using r2⟩
  ·rename_i s _
   obtain ⟨h1, h2, h3, h4⟩ := h
   cases hu
   exact ⟨_, pW h1 (.inr ⟨k, i, rfl, h2, rfl⟩) (.inr ⟨k', i', rfl, by omega, rfl⟩) (by omega) (by omega), .v A _⟩
  exact h.elim
 exact h.elim
theorem aTf (o : Oper) {x : Operand} (ho : o.op = .nilCheck x) {d : DV} (hu : bH w I A d (a.eval x)) (h : (aFo d).1) :
  ∃ r, (execOp a.eval o).run P w = .ok (.value r) w ∧ bH w I A (aFo d).2 r := by
 unfold execOp
 simp only [ho]
 generalize a.eval x = u at *
 cases hu with
 | dp _ cs b o us hI hcell hone hrel => exact ⟨_, by simp, .dp A cs b o us hI hcell hone hrel⟩
 | bp _ s off g c hA => exact ⟨_, by simp, .bp A s off g c hA⟩
 | rp _ s z i off g c hA => exact ⟨_, by simp, .rp A s z i off g c hA⟩
 | fn _ f fs cs us vs hf hc hfr hcr => exact ⟨_, by simp, .fn A f fs cs us vs hf hc hfr hcr⟩
 | _ => exact h.elim
theorem aUl {ts : Array TypeId} {t : TypeId} {d e : DV} {u v : Value} (hu : bH w I A d u) (hv : bH w I A e v) (h : (aKv [d, e]).1) :
  ∃ r, (Builtin.max_ ts t #[u, v]).run P w = .ok r w ∧ bH w I A (aKv [d, e]).2 r := by
 cases d with
 | v _ =>
  cases hu
  cases e with
  | v _ =>
   cases hv
   cases u <;> cases v <;> first
    | exact h.elim
    | exact ⟨_, by simp [Builtin.max_, Builtin.max2], .v A _⟩
  | _ => cases u <;> exact h.elim
 | _ => exact h.elim
theorem aWv {ts : Array TypeId} {t : TypeId} {d e : DV} {u v : Value} (hu : bH w I A d u) (hv : bH w I A e v) (h : (aJk [d, e]).1) :
  ∃ r, (Builtin.min_ ts t #[u, v]).run P w = .ok r w ∧ bH w I A (aJk [d, e]).2 r := by
 cases d with
 | v _ =>
  cases hu
  cases e with
  | v _ =>
   cases hv
   cases u <;> cases v <;> first
    | exact h.elim
    | exact ⟨_, by simp [Builtin.min_, Builtin.min2], .v A _⟩
  | _ => cases u <;> exact h.elim
 | _ => exact h.elim
theorem bCt {c x y : DV} {u v q : Value} (hc : aQe w I A c u) (hx : aQe w I A x v) (hy : aQe w I A y q) (h : (vQ c x y).1) :
  ∃ r, (do pure (Next.value (if ← asBool u then v else q)) : Sem Next).run P w = .ok (.value r) w ∧ bH w I A (vQ c x y).2 r := by
 unfold vQ at h ⊢
 split at h
 ·rename_i b p r hb hp hr
  obtain ⟨h1, h2, h3⟩ := h
  have hc' := hc.ungd h1
  rw [hb] at hc'
  cases hc'
  cases b with
  | true =>
   have := hx.ungd (h2 rfl)
   rw [hp] at this
   cases this
   exact ⟨_, by simp [asBool], .v A _⟩
  | false =>
   have := hy.ungd (h3 rfl)
   rw [hr] at this
   cases this
   exact ⟨_, by simp [asBool], .v A _⟩
 unfold aRj at h ⊢
 split at h
 ·rename_i b hb
  split at h
  ·split at h
   ·rename_i p hp
    have hc' := hc.ungd h.1
    rw [hb] at hc'
    cases hc'
    have := hx.ungd h.2
    rw [hp] at this
    cases this
    simp only [hb, hp]
    exact ⟨_, by simp [asBool], .v A _⟩
   exact h.elim
  split at h
  ·rename_i p hp
   have hc' := hc.ungd h.1
   rw [hb] at hc'
   cases hc'
   have := hy.ungd h.2
   rw [hp] at this
   cases this
   simp only [hb, hp]
   exact ⟨_, by simp [asBool], .v A _⟩
  exact h.elim
 exact h.elim
def dA (nt : Nat) (o : Oper) : Bool := o.op.operands.all (nL nt)
theorem bF {o : Oper} (h : dA nt o = true) {x : Operand} (hx : x ∈ o.op.operands) : nL nt x = true := by
 unfold dA at h
 rw [Array.all_eq_true] at h
 obtain ⟨i, hi, rfl⟩ := Array.mem_iff_getElem.1 hx
 exact h i hi
theorem aOl (hs : b9 nt w I A ρ a) (o : Oper) (hok : dA nt o = true) (h : (w4 P ρ o.op).1) :
  ∃ r, (execOp a.eval o).run P w = .ok (.value r) w ∧ bH w I A (w4 P ρ o.op).2 r := by
 have hop := fun x hx hg => hs.opd x (bF hok (x := x) hx) hg
 have hev := fun x hx => hs.evRel x (bF hok (x := x) hx)
 cases ho : o.op with
 | move x =>
  rw [ho] at h hop
  exact ⟨a.eval x, by simp [execOp, ho], hop x (by simp [Op.operands]) h⟩
 | assign x =>
  rw [ho] at h hop
  exact ⟨a.eval x, by simp [execOp, ho], hop x (by simp [Op.operands]) h⟩
 | pick c x y =>
  rw [ho] at h hev
  obtain ⟨r, h1, h2⟩ := bCt (P := P) (hev c (by simp [Op.operands])) (hev x (by simp [Op.operands])) (hev y (by simp [Op.operands])) h
  exact ⟨r, by simpa [execOp, ho] using h1, h2⟩
 | load t x =>
  rw [ho] at h hop
  obtain ⟨r, h1, h2⟩ := aHv hs (hop x (by simp [Op.operands]) h.1) h.2
  exact ⟨r, by simp [execOp, ho, h1], h2⟩
 | nilCheck x =>
  rw [ho] at h hop
  exact aTf o ho (hop x (by simp [Op.operands]) h.1) h.2
 | binOp op t x y t' =>
  rw [ho] at h hop
  obtain ⟨r, h1, h2⟩ := aWe op t x y (hop x (by simp [Op.operands]) h.1.1) (hop y (by simp [Op.operands]) h.1.2) h.2
  exact ⟨r, by simp only [execOp, ho, Sem.run_bind] at h1 ⊢; rw [h1]; rfl, h2⟩
 | unOp op t x =>
  rw [ho] at h hop
  obtain ⟨r, h1, h2⟩ := bCg (P := P) op (hop x (by simp [Op.operands]) h.1) h.2
  exact ⟨r, by simp [execOp, ho, h1], h2⟩
 | convert s t x =>
  rw [ho] at h hop
  obtain ⟨r, h1, h2⟩ := aPo h.1.2 (hop x (by simp [Op.operands]) h.1.1) h.2
  exact ⟨r, by simp [execOp, ho, h1], h2⟩
 | fieldAddr s x f =>
  rw [ho] at h hop
  obtain ⟨r, h1, h2⟩ := aHh (hop x (by simp [Op.operands]) h.1) h.2
  exact ⟨r, by simp [execOp, ho, h1], h2⟩
 | indexAddr t x i =>
  rw [ho] at h hop
  obtain ⟨r, h1, h2⟩ := aIg hs (hop x (by simp [Op.operands]) h.1.1) (hop i (by simp [Op.operands]) h.1.2) h.2
  exact ⟨r, by simp [execOp, ho, h1], h2⟩
 | index t x i =>
  rw [ho] at h hop
  obtain ⟨r, h1, h2⟩ := aZq (hop x (by simp [Op.operands]) h.1.1) (hop i (by simp [Op.operands]) h.1.2) h.2
  exact ⟨r, by simp [execOp, ho, h1], h2⟩
 | slice t x lo hi mx =>
  rw [ho] at h hop
  cases mx with
  | some m => exact h.elim
  | none =>
   obtain ⟨r, h1, h2⟩ := aQw (P := P) hs (t := t) (lo := lo.map fun y => un (ev ρ y)) (hi := hi.map fun y => un (ev ρ y)) (lv := lo.map a.eval) (hv := hi.map a.eval) (hop x (by simp [Op.operands]) h.1.1)
    (fun e he => by
     obtain ⟨y, hy, rfl⟩ := Option.map_eq_some_iff.1 he
     exact ⟨_, by rw [hy]; rfl, hop y (by simp [Op.operands, hy]) (h.1.2.1 y (by simp [hy]))⟩)
    (fun he => by simpa using he)
    (fun e he => by
     obtain ⟨y, hy, rfl⟩ := Option.map_eq_some_iff.1 he
     exact ⟨_, by rw [hy]; rfl, hop y (by simp [Op.operands, hy]) (h.1.2.2 y (by simp [hy]))⟩)
    (fun he => by simpa using he) h.2
   exact ⟨r, by simp [execOp, ho, h1], h2⟩
 | extract x i =>
  rw [ho] at h hop
  obtain ⟨r, h1, h2⟩ := aTy (P := P) (hop x (by simp [Op.operands]) h.1) h.2
  exact ⟨r, by simp [execOp, ho, h1], h2⟩
 | makeFunc fn first captured =>
  rw [ho] at h hop
  cases fn with
  | func f =>
   obtain ⟨g1, g2⟩ := h
   refine ⟨.func (.func f) (first.map a.eval) (captured.map a.eval), by simp [execOp, ho, Instr.makeFunc], ?_⟩
   refine .fn A f _ _ _ _ (by simp) (by simp) (fun j d u hd hu => ?_) fun j d u hd hu => ?_
   ·simp only [List.getElem?_map, Option.map_eq_some_iff, Array.getElem?_toList, Array.getElem?_map] at hd hu
    obtain ⟨x, hx, rfl⟩ := hd
    rw [hx] at hu
    simp at hu
    subst hu
    exact hop x (by simp [Op.operands]; exact .inl (Array.mem_of_getElem? hx)) (g1 x (by simpa using Array.mem_of_getElem? hx))
   simp only [List.getElem?_map, Option.map_eq_some_iff, Array.getElem?_toList, Array.getElem?_map] at hd hu
   obtain ⟨x, hx, rfl⟩ := hd
   rw [hx] at hu
   simp at hu
   subst hu
   exact hop x (by simp [Op.operands]; exact .inr (Array.mem_of_getElem? hx)) (g2 x (by simpa using Array.mem_of_getElem? hx))
  | _ => exact h.elim
 | call c =>
  rw [ho] at h hop
  obtain ⟨callee, args, ts⟩ := c
  cases callee with
  | builtin b =>
   simp only [w4, aRs] at h ⊢
   unfold tS at h ⊢
   split at h
   ·rename_i x t hargs hts
    obtain rfl : args = #[x] := by apply Array.ext'; simpa using hargs
    obtain rfl : ts = #[t] := by apply Array.ext'; simpa using hts
    obtain ⟨r, h1, h2⟩ := aRb (P := P) (t := t) (ty := o.type) (hop x (by simp [Op.operands, Call.operands]) h.1) h.2
    exact ⟨r, by simp [execOp, ho, resolve, invoke, builtin, h1], h2⟩
   ·rename_i x y hargs
    obtain rfl : args = #[x, y] := by apply Array.ext'; simpa using hargs
    obtain ⟨r, h1, h2⟩ := aUl (P := P) (ts := ts) (t := o.type) (hop x (by simp [Op.operands, Call.operands]) h.1.1) (hop y (by simp [Op.operands, Call.operands]) h.1.2) h.2
    exact ⟨r, by simp [execOp, ho, resolve, invoke, builtin, h1], h2⟩
   ·rename_i x y hargs
    obtain rfl : args = #[x, y] := by apply Array.ext'; simpa using hargs
    obtain ⟨r, h1, h2⟩ := aWv (P := P) (ts := ts) (t := o.type) (hop x (by simp [Op.operands, Call.operands]) h.1.1) (hop y (by simp [Op.operands, Call.operands]) h.1.2) h.2
    exact ⟨r, by simp [execOp, ho, resolve, invoke, builtin, h1], h2⟩
   exact h.elim
  | _ => exact h.elim
 | _ => rw [ho] at h; exact h.elim
end
end Go.Sg
namespace Go.Sg
open Go.RowKit
theorem aCm {p q : Nat → Bool} (h : ∀ s, p s = true → q s = true) : ∀ d, d7 p d = true → d7 q d = true := by
 intro d
 refine DV.rec (motive_1 := fun d => d7 p d = true → d7 q d = true) (motive_2 := fun l => dF p l = true → dF q l = true) (motive_3 := fun _ => True)
  ?_ ?_ ?_ ?_ ?_ ?_ ?_ ?_ ?_ ?_ ?_ ?_ ?_ ?_ ?_ ?_ ?_ ?_ ?_ ?_ ?_ d
 all_goals (intros; simp_all [d7, dF])
def eF (k : Nat) (d : DV) : DV := if d7 (fun s => s != k) d = true then d else .any
def pK (k : Nat) (d : DV) : DV := if d7 (fun s => s != k) d = true then d else match d with
 | .bx cs => .bx (cs.map (eF k))
 | _ => .any
theorem wC (p : Nat → Bool) (k : Nat) : ∀ cs : List DV, dF p cs = true → dF p (cs.map (eF k)) = true
 | [], _ => rfl
 | c :: cs, h => by
  simp only [dF, Bool.and_eq_true, List.map_cons] at h ⊢
  refine ⟨?_, wC p k cs h.2⟩
  unfold eF; split
  ·exact h.1
  rfl
def cI (k : Nat) (ρ : aS) : aS := fun i => if i < 100000 then pK k (ρ i) else ρ i
theorem x1 (k : Nat) (ρ : aS) (i : Nat) : cI k ρ i = if i < 100000 then pK k (ρ i) else ρ i := rfl
def gE (A : cO) (k : Nat) (v : Option (Option Nat × Nat)) : cO := fun s => if s = k then v else A s
theorem cC (A : cO) (k : Nat) (v : Option (Option Nat × Nat)) : gE A k v k = v := if_pos rfl
theorem d5 (A : cO) {k s : Nat} (v : Option (Option Nat × Nat)) (h : s ≠ k) : gE A k v s = A s := if_neg h
section
variable {P : Program} {nt : Nat} {w w' : World} {I I' : Nat → Prop} {A A' : cO} {ρ : aS} {a : Act}
theorem cX.reown {s k : Nat} {d : DV} {x : Value} (h : cX w I A s d x) (hs : s ≠ k) (hA : ∀ t, t ≠ k → A' t = A t) : cX w I A' s (pK k d) x := by
 unfold pK
 split
 ·rename_i hk
  have hc : ∀ t, (fun s => s != k) t = true → A' t = A t := fun t ht => hA t (by simpa using ht)
  cases d with
  | bx cs => obtain ⟨g, c, h1, h2⟩ := h; exact ⟨g, c, (hA s hs).trans h1, h2⟩
  | row e z xs => obtain ⟨B, c, h1, h2⟩ := h; exact ⟨B, c, (hA s hs).trans h1, h2⟩
  | cond g y => exact ⟨fun hg => (h.1 hg).congrA _ (by simpa [d7] using hk) hc, h.2⟩
  | any => exact .any A' x
  | v y => exact bH.congrA h _ hk hc
  | sl z n f => exact bH.congrA h _ hk hc
  | agg cs => exact bH.congrA h _ hk hc
  | tup cs => exact bH.congrA h _ hk hc
  | dp cs => exact bH.congrA h _ hk hc
  | bp t o => exact bH.congrA h _ hk hc
  | own t n => exact bH.congrA h _ hk hc
  | rp t z i o => exact bH.congrA h _ hk hc
  | fn f b c => exact bH.congrA h _ hk hc
  | iface t y => exact bH.congrA h _ hk hc
  | mr t => exact bH.congrA h _ hk hc
  | ez => exact bH.congrA h _ hk hc
  | mo es => obtain ⟨g, c, h1, h2⟩ := h; exact ⟨g, c, (hA s hs).trans h1, h2⟩
 split
 ·obtain ⟨g, c, h1, h2⟩ := h; exact ⟨g, c, (hA s hs).trans h1, h2⟩
 exact .any A' x
theorem dY.reown {s k : Nat} {d : DV} (h : dY w I A s d) (hs : s ≠ k) (hA : ∀ t, t ≠ k → A' t = A t) : dY w I A' s (pK k d) := by
 unfold pK
 split
 ·rename_i hk
  cases d with
  | bx cs =>
   obtain ⟨g, c, us, et, h1, h2, h3, h4, h5⟩ := h
   exact ⟨g, c, us, et, (hA s hs).trans h1, h2, h3, h4, fun j d u hd hu => (h5 j d u hd hu).congrA _ (fC (by simpa [d7] using hk) hd) fun t ht => hA t (by simpa using ht)⟩
  | row e z xs => obtain ⟨B, c, h1, h2⟩ := h; exact ⟨B, c, (hA s hs).trans h1, h2⟩
  | mo es => obtain ⟨g, c, vs, cl, h1, h2, h3⟩ := h; exact ⟨g, c, vs, cl, (hA s hs).trans h1, h2, h3⟩
  | _ => trivial
 split
 ·obtain ⟨g, c, us, et, h1, h2, h3, h4, h5⟩ := h
  refine ⟨g, c, us, et, (hA s hs).trans h1, h2, by simpa using h3, h4, fun j d u hd hu => ?_⟩
  rw [List.getElem?_map, Option.map_eq_some_iff] at hd
  obtain ⟨d', hd', rfl⟩ := hd
  unfold eF
  split
  ·rename_i hk'
   exact (h5 j d' u hd' hu).congrA _ hk' fun t ht => hA t (by simpa using ht)
  exact .any A' u
 trivial
theorem jG {k : Nat} {d : DV} (h : cM d) : cM (pK k d) := by
 unfold pK; split
 ·exact h
 split
 ·exact wC _ k _ h
 rfl
theorem aQo {k : Nat} {d : DV} (h : cM d) (hk : k < 100000) : d7 (fun s => s != k) d = true :=
 aCm (fun s hs => by simp at hs ⊢; omega) d h
theorem d9 {k : Nat} {ρ : aS} (hk : k < 100000) {i : Nat} (ho : 100000 ≤ i → cM (ρ i)) : cI k ρ i = pK k (ρ i) := by
 unfold cI
 split
 ·rfl
 unfold pK
 rw [if_pos (aQo (ho (by omega)) hk)]
theorem aFt (a : Act) (d i : Nat) (x : Value) (hd : d < a.tmps.size) : (a.put (some d) x).tmps.getD i undef = if i = d then x else a.tmps.getD i undef := by
 simp only [Act.put, Array.getD_eq_getD_getElem?, Array.getElem?_setIfInBounds]
 by_cases h : d = i
 ·subst h; simp [hd]
 have h' : ¬ i = d := fun e => h e.symm
 simp [h, h']
theorem b9.put (hs : b9 nt w I A ρ a) {d : Nat} {v : DV} {x : Value} (hd : d < nt) (hr : cX w I A d v x) (ho : dY w I A d v) : b9 nt w I A (set ρ d v) (a.put (some d) x) where
 osim := ⟨fun s => by
   unfold set; split
   ·rename_i h; rw [h]; exact ho
   exact hs.osim.own s, hs.osim.inj, hs.osim.sep, hs.osim.imm⟩
 size := by simp [Act.put, hs.size]
 bound := hs.bound
 slot := fun i hi => by
  rw [aFt a d i x (by rw [hs.size]; exact hd)]
  unfold set
  split
  ·rename_i h; rw [h]; exact hr
  exact hs.slot i hi
 out := fun s h => by
  unfold set
  rw [if_neg (by have := hs.bound; omega)]
  exact hs.out s h
theorem b9.own (hs : b9 nt w I A ρ a) {d : Nat} (hd : d < nt) {B : Option Nat} {c : Nat} {v : DV} {x : Value}
  (hB : ∀ g, B = some g → g < w.heap.size ∧ ¬ I g ∧ ∀ s c', s ≠ d → A s ≠ some (some g, c'))
  (hr : cX w I (gE A d (some (B, c))) d v x) (ho : dY w I (gE A d (some (B, c))) d v) :
  b9 nt w I (gE A d (some (B, c))) (set (cI d ρ) d v) (a.put (some d) x) where
 osim := by
  have hA : ∀ t, t ≠ d → gE A d (some (B, c)) t = A t := fun t h => d5 A _ h
  refine ⟨fun s => ?_, fun s t g c1 c2 h1 h2 => ?_, fun s g c1 h1 => ?_, hs.osim.imm⟩
  ·unfold set; split
   ·rename_i h; rw [h]; exact ho
   rename_i h; rw [d9 (by have := hs.bound; omega) (hs.out s)]; exact (hs.osim.own s).reown h hA
  ·unfold gE at h1 h2
   split at h1 <;> split at h2
   ·simp_all
   ·rename_i e1 e2
    simp only [Option.some.injEq, Prod.mk.injEq] at h1
    exact absurd h2 ((hB g h1.1).2.2 t c2 e2)
   ·rename_i e1 e2
    simp only [Option.some.injEq, Prod.mk.injEq] at h2
    exact absurd h1 ((hB g h2.1).2.2 s c1 e1)
   exact hs.osim.inj s t g c1 c2 h1 h2
  unfold gE at h1
  split at h1
  ·simp only [Option.some.injEq, Prod.mk.injEq] at h1
   exact ⟨(hB g h1.1).1, (hB g h1.1).2.1⟩
  exact hs.osim.sep s g c1 h1
 size := by simp [Act.put, hs.size]
 bound := hs.bound
 slot := fun i hi => by
  rw [aFt a d i x (by rw [hs.size]; exact hd)]
  unfold set
  split
  ·rename_i h; rw [h]; exact hr
  rename_i h; rw [d9 (by have := hs.bound; omega) (hs.out i)]; exact (hs.slot i hi).reown h fun t ht => d5 A _ ht
 out := fun s h => by
  unfold set
  rw [if_neg (by have := hs.bound; omega), d9 (by have := hs.bound; omega) (hs.out s)]
  exact jG (hs.out s h)
theorem b9.disown (hs : b9 nt w I A ρ a) {d : Nat} (hd : d < 100000) : b9 nt w I (gE A d none) (set (cI d ρ) d .any) a where
 osim := by
  have hA : ∀ t, t ≠ d → gE A d none t = A t := fun t h => d5 A _ h
  refine ⟨fun s => ?_, fun s t g c1 c2 h1 h2 => ?_, fun s g c1 h1 => ?_, hs.osim.imm⟩
  ·unfold set; split
   ·trivial
   rename_i h; rw [d9 hd (hs.out s)]; exact (hs.osim.own s).reown h hA
  ·unfold gE at h1 h2
   split at h1 <;> split at h2 <;> first | cases h1 | cases h2 | skip
   exact hs.osim.inj s t g c1 c2 h1 h2
  unfold gE at h1
  split at h1
  ·cases h1
  exact hs.osim.sep s g c1 h1
 size := hs.size
 bound := hs.bound
 slot := fun i hi => by
  unfold set
  split
  ·exact .any _ _
  rename_i h; rw [d9 hd (hs.out i)]; exact (hs.slot i hi).reown h fun t ht => d5 A _ ht
 out := fun s h => by
  unfold set
  rw [if_neg (by omega), d9 hd (hs.out s)]
  exact jG (hs.out s h)
structure l1 (w : World) (I : Nat → Prop) (w' : World) (I' : Nat → Prop) : Prop where
 os : w'.os = w.os
 tape : w'.tape = w.tape ∧ w.drawn ≤ w'.drawn
 output : w'.output = w.output
 size : w.heap.size ≤ w'.heap.size
 heap : ∀ g, g < w.heap.size → w'.heap[g]? = w.heap[g]?
 imm : ∀ g, I g → I' g
 new : ∀ g, I' g → I g ∨ (w.heap.size ≤ g ∧ g < w'.heap.size)
theorem l1.ext (h : l1 w I w' I') (hs : gK w I A ρ) : eA w I A w' I' A where
 os := h.os
 tape := h.tape
 output := h.output
 size := h.size
 imm := h.imm
 old := fun g hg hA => ⟨h.heap g hg, fun hi => (h.new g hi).resolve_right fun ⟨h1, _⟩ => by omega, hA⟩
 loc := fun s g c hA _ hs => ⟨s, c, hs, hA⟩
 outA := fun _ _ => rfl
theorem l1.rel (h : l1 w I w' I') (hs : gK w I A ρ) {B : cO} {d : DV} {x : Value} (hr : bH w I B d x) : bH w' I' B d x :=
 hr.mono fun g hg => ⟨h.imm g hg, fun o => cY (h.heap g (hs.imm g hg)) o⟩
theorem l1.slot (h : l1 w I w' I') (hs : gK w I A ρ) {s : Nat} {d : DV} {x : Value} (hr : cX w I A s d x) : cX w' I' A s d x := by
 cases d with
 | bx cs => exact hr
 | row e z xs => exact hr
 | cond g y => exact ⟨fun hg => h.rel hs (hr.1 hg), hr.2⟩
 | any => exact .any A x
 | v y => exact h.rel hs hr
 | sl z n f => exact h.rel hs hr
 | agg cs => exact h.rel hs hr
 | tup cs => exact h.rel hs hr
 | dp cs => exact h.rel hs hr
 | bp t o => exact h.rel hs hr
 | own t n => exact h.rel hs hr
 | rp t z i o => exact h.rel hs hr
 | fn f b c => exact h.rel hs hr
 | iface t y => exact h.rel hs hr
 | mr t => exact h.rel hs hr
 | ez => exact h.rel hs hr
 | mo es => exact hr
theorem iY.keep {e : TypeId} {z : Nat} {xs : List (List DV)} {B : Option Nat} {c : Nat} (h : iY w I e z xs B c) (hb : ∀ g, B = some g → w'.heap[g]? = w.heap[g]?)
  (hr : ∀ d x, bH w I cU d x → bH w' I' cU d x) : iY w' I' e z xs B c := by
 cases B with
 | none => exact h
 | some g =>
  obtain ⟨us, h1, h2, h3, h4, h5⟩ := h
  exact ⟨us, (hb g rfl).trans h1, h2, h3, h4, fun i x hx => ⟨(h5 i x hx).1, fun j d u hd hu => ⟨((h5 i x hx).2 j d u hd hu).1, hr _ _ ((h5 i x hx).2 j d u hd hu).2⟩⟩⟩
theorem dY.keep {s : Nat} {d : DV} (h : dY w I A s d) (hb : ∀ g c, A s = some (some g, c) → w'.heap[g]? = w.heap[g]?)
  (hr : ∀ B d x, bH w I B d x → bH w' I' B d x) : dY w' I' A s d := by
 cases d with
 | bx cs =>
  obtain ⟨g, c, us, et, h1, h2, h3, h4, h5⟩ := h
  exact ⟨g, c, us, et, h1, (hb g c h1).trans h2, h3, h4, fun j d u hd hu => hr _ _ _ (h5 j d u hd hu)⟩
 | row e z xs =>
  obtain ⟨B, c, h1, h2⟩ := h
  exact ⟨B, c, h1, h2.keep (fun g hg => hb g c (by rw [h1, hg])) fun d x => hr _ d x⟩
 | mo es =>
  obtain ⟨g, c, vs, cl, h1, h2, h3⟩ := h
  exact ⟨g, c, vs, cl, h1, (hb g c h1).trans h2, h3⟩
 | _ => trivial
theorem l1.osim (h : l1 w I w' I') (hs : gK w I A ρ) : gK w' I' A ρ where
 own := fun s => (hs.own s).keep (fun g c hg => h.heap g (hs.sep s g c hg).1) fun B d x hr => h.rel hs hr
 inj := hs.inj
 sep := fun s g c hA => by
  obtain ⟨h1, h2⟩ := hs.sep s g c hA
  exact ⟨Nat.lt_of_lt_of_le h1 h.size, fun hi => (h.new g hi).elim h2 fun ⟨h3, _⟩ => by omega⟩
 imm := hs.imm.step (fun g hg => (h.new g hg).elim (fun h1 => Nat.lt_of_lt_of_le (hs.imm g h1) h.size) fun h1 => h1.2) fun g hg => ⟨h.imm g hg, h.heap g (hs.imm g hg)⟩
theorem b9.grow (hs : b9 nt w I A ρ a) (h : l1 w I w' I') : b9 nt w' I' A ρ a where
 osim := h.osim hs.osim
 size := hs.size
 bound := hs.bound
 slot := fun i hi => h.slot hs.osim (hs.slot i hi)
 out := hs.out
theorem l1.alloc (hs : gK w I A ρ) (o : Obj) : l1 w I (w.alloc o) I :=
 ⟨rfl, ⟨rfl, Nat.le_refl _⟩, rfl, by simp, fun g hg => Below.heap_alloc w o g hg, fun _ h => h, fun _ h => .inl h⟩
theorem b9.turn (hs : b9 nt w I A ρ a) {s g c : Nat} (hA : A s = some (some g, c)) {us : Array Value} {et : TypeId} {old : Array Value} (hg : w.heap[g]? = some (.cells old et (0, 0))) {v : DV}
  (hsl : ∀ x, cX w I A s (ρ s) x → cX w I A s v x) (ho : dY (w.setRow g us) I A s v) (hout : 100000 ≤ s → cM v) :
  b9 nt (w.setRow g us) I A (set ρ s v) a := by
 have hI := (hs.osim.sep s g c hA).2
 have hrel : ∀ B d x, bH w I B d x → bH (w.setRow g us) I B d x := fun B d x hr => hr.mono fun g' hg' => ⟨hg', fun o => cY (setRow_other w g g' us (fun e => hI (e ▸ hg'))) o⟩
 have hslot : ∀ t d x, cX w I A t d x → cX (w.setRow g us) I A t d x := fun t d x hr => by
  cases d with
  | bx cs => exact hr
  | row e z xs => exact hr
  | cond g y => exact ⟨fun hg => hrel _ _ _ (hr.1 hg), hr.2⟩
  | any => exact .any A x
  | v y => exact hrel _ _ _ hr
  | sl z n f => exact hrel _ _ _ hr
  | agg cs => exact hrel _ _ _ hr
  | tup cs => exact hrel _ _ _ hr
  | dp cs => exact hrel _ _ _ hr
  | bp t o => exact hrel _ _ _ hr
  | own t n => exact hrel _ _ _ hr
  | rp t z i o => exact hrel _ _ _ hr
  | fn f b c => exact hrel _ _ _ hr
  | iface t y => exact hrel _ _ _ hr
  | mr t => exact hrel _ _ _ hr
  | ez => exact hrel _ _ _ hr
  | mo es => exact hr
 refine ⟨⟨fun t => ?_, hs.osim.inj, fun t g' c' h' => ?_, hs.osim.imm.step (fun g' h' => by rw [size_setRow]; exact hs.osim.imm g' h') fun g' h' => ⟨h', setRow_other w g g' us fun e => hI (e ▸ h')⟩⟩, hs.size, hs.bound, fun i hi => ?_, fun t ht => ?_⟩
 ·unfold set; split
  ·rename_i e; rw [e]; exact ho
  rename_i e
  exact (hs.osim.own t).keep (fun g' c' h' => setRow_other w g g' us fun e' => e (hs.osim.inj t s g c' c (e' ▸ h') hA)) hrel
 ·rw [size_setRow]; exact hs.osim.sep t g' c' h'
 ·unfold set; split
  ·rename_i e; rw [e] at hi ⊢; exact hslot s v _ (hsl _ (hs.slot s hi))
  exact hslot i _ _ (hs.slot i hi)
 unfold set; split
 ·rename_i e; exact hout (e ▸ ht)
 exact hs.out t ht
theorem eA.turn {s g c : Nat} (hA : A s = some (some g, c)) (us : Array Value) : eA w I A (w.setRow g us) I A where
 os := rfl
 tape := ⟨rfl, Nat.le_refl _⟩
 output := rfl
 size := by rw [size_setRow]; exact Nat.le_refl _
 imm := fun _ h => h
 old := fun g' _ h' => ⟨setRow_other w g g' us fun e => h' s c (e ▸ hA), fun h => h, h'⟩
 loc := fun s g c hA _ hs => ⟨s, c, hs, hA⟩
 outA := fun _ _ => rfl
end
end Go.Sg
namespace Go.Sg
open Go.RowKit
open Go.Rv (FR)
abbrev sh : DV → DV := qL (· + 100000)
def bP : DV → Bool
 | .bx _ => true
 | .row _ _ _ => true
 | .mo _ => true
 | _ => false
def dW (d d' : DV) : Prop :=
 match d, d' with
 | .bx cs, .bx cs' => cs.length = cs'.length
 | .row e z xs, .row e' z' xs' => e = e' ∧ z = z' ∧ xs.length = xs'.length
 | d, d' => d' = d
theorem dW.refl (d : DV) : dW d d := by cases d <;> simp [dW]
def lD (w w' : World) (I' : Nat → Prop) (A : cO) (r : DV) (x : Value) : Prop :=
 match r with
 | .bx cs => ∃ g us et, x = .pointer (some ⟨g, 0, none⟩) ∧ w'.heap[g]? = some (.cells us et (0, 0)) ∧ us.size = cs.length ∧ (∀ u ∈ us.toList, u.oneCell' = true) ∧
   (∀ (j : Nat) (d : DV) (u : Value), cs[j]? = some d → us[j]? = some u → bH w' I' A d u) ∧ w.heap.size ≤ g ∧ g < w'.heap.size ∧ ¬ I' g
 | .row e z xs => ∃ B c, (∃ b, jI B b ∧ x = .slice b xs.length c) ∧ iY w' I' e z xs B c ∧ ∀ g, B = some g → w.heap.size ≤ g ∧ g < w'.heap.size ∧ ¬ I' g
 | r => bH w' I' A r x
def iC (P : Program) (O : aS) (f : FuncId) (args : List DV) (R : aS → DV → Prop) : Prop :=
 ∀ (w : World) (I : Nat → Prop) (A : cO) (vals : Array Value), gK w I A O → vals.size = args.length → (∀ (j : Nat) (d : DV) (u : Value), args[j]? = some d → vals[j]? = some u → bH w I A d u) →
  Calls P f vals w fun e w' => ∃ v I' O' r, e = .returned v ∧ gK w' I' A O' ∧ (∀ s, dW (O s) (O' s)) ∧ (∀ s, cM (O s) → cM (O' s)) ∧ eA w I A w' I' A ∧ lD w w' I' A r v ∧ R O' r
def aY (P : Program) (O : aS) (f : FuncId) (args : List DV) (r : DV) : Prop := iC P O f args fun O' r' => O' = O ∧ r' = r
theorem iC.mono {P : Program} {O : aS} {f : FuncId} {args : List DV} {R R' : aS → DV → Prop} (h : iC P O f args R) (hr : ∀ O' r, R O' r → R' O' r) : iC P O f args R' :=
 fun w I A vals h1 h2 h3 => (h w I A vals h1 h2 h3).mono fun _ _ ⟨v, I', O', r, k1, k2, k3, k4, k5, k6, k7⟩ => ⟨v, I', O', r, k1, k2, k3, k4, k5, k6, hr _ _ k7⟩
def oB (k : Nat) : List DV → aS → aS
 | [], ρ => ρ
 | d :: l, ρ => oB (k + 1) l (set ρ k (sh d))
def lA (O : aS) (args : List DV) : aS := oB 0 args (bT O)
theorem wD (k : Nat) (ρ : aS) : oB k [] ρ = ρ := rfl
theorem tF (k : Nat) (d : DV) (l : List DV) (ρ : aS) : oB k (d :: l) ρ = oB (k + 1) l (set ρ k (sh d)) := rfl
theorem aAu (l : List DV) : ∀ (k : Nat) (ρ : aS) (i : Nat), oB k l ρ i = if k ≤ i ∧ i < k + l.length then sh (l.getD (i - k) .any) else ρ i := by
 induction l with
 | nil => intro k ρ i; rw [wD, if_neg (by simp)]
 | cons d l ih =>
  intro k ρ i
  rw [tF, ih, aO]
  by_cases h1 : i = k
  ·subst h1
   rw [if_neg (by omega), if_pos rfl, if_pos (by simp)]
   simp
  by_cases h2 : k + 1 ≤ i ∧ i < k + 1 + l.length
  ·rw [if_pos h2, if_pos (by simp; omega)]
   obtain ⟨m, rfl⟩ : ∃ m, i = k + 1 + m := ⟨i - (k + 1), by omega⟩
   rw [show k + 1 + m - (k + 1) = m from by omega, show k + 1 + m - k = m + 1 from by omega]
   simp
  rw [if_neg h2, if_neg h1, if_neg (by simp; omega)]
theorem pJ (O : aS) (l : List DV) (i : Nat) : lA O l i = if i < l.length then sh (l.getD i .any) else bT O i := by
 unfold lA
 rw [aAu]
 simp
def b6 (A : cO) : cO := fun s => if s < 100000 then none else A (s - 100000)
theorem gL (A : cO) (s : Nat) : b6 A (s + 100000) = A s := by
 unfold b6; rw [if_neg (by omega), Nat.add_sub_cancel]
section
variable {P : Program} {w : World} {I : Nat → Prop} {A : cO}
theorem dY.into {s t : Nat} {d : DV} (h : dY w I A s d) (ht : t = s + 100000) : dY w I (b6 A) t (sh d) := by
 subst ht
 cases d with
 | bx cs =>
  obtain ⟨g, c, us, et, h1, h2, h3, h4, h5⟩ := h
  refine ⟨g, c, us, et, (gL A s).trans h1, h2, by rw [jE, List.length_map]; exact h3, h4, fun j d u hd hu => ?_⟩
  obtain ⟨d', hd', rfl⟩ := i8 hd
  exact (h5 j d' u hd' hu).rename (gL A)
 | row e z xs => obtain ⟨B, c, h1, h2⟩ := h; exact ⟨B, c, (gL A s).trans h1, h2⟩
 | mo es => obtain ⟨g, c, vs, cl, h1, h2, h3⟩ := h; exact ⟨g, c, vs, cl, (gL A s).trans h1, h2, h3⟩
 | _ => trivial
theorem dY.outof {s t : Nat} {d : DV} {A' : cO} (h : dY w I A' t (sh d)) (ht : t = s + 100000) : dY w I (fun s => A' (s + 100000)) s d := by
 subst ht
 cases d with
 | bx cs =>
  obtain ⟨g, c, us, et, h1, h2, h3, h4, h5⟩ := h
  refine ⟨g, c, us, et, h1, h2, by rw [jE, List.length_map] at h3; exact h3, h4, fun j d u hd hu => ?_⟩
  exact (h5 j _ u (gO hd) hu).unname d rfl
 | row e z xs => obtain ⟨B, c, h1, h2⟩ := h; exact ⟨B, c, h1, h2⟩
 | mo es => obtain ⟨g, c, vs, cl, h1, h2, h3⟩ := h; exact ⟨g, c, vs, cl, h1, h2, h3⟩
 | _ => trivial
theorem aHe : ∀ d, cM (sh d) := by
 intro d
 refine DV.rec (motive_1 := fun d => cM (sh d)) (motive_2 := fun l => dF (fun t => decide (100000 ≤ t)) (gT (· + 100000) l) = true) (motive_3 := fun _ => True)
  ?_ ?_ ?_ ?_ ?_ ?_ ?_ ?_ ?_ ?_ ?_ ?_ ?_ ?_ ?_ ?_ ?_ ?_ ?_ ?_ ?_ d
 all_goals (intros; simp_all [cM, sh, qL, gT, d7, dF])
theorem aBg (O : aS) (s : Nat) (hs : 100000 ≤ s) : cM (bT O s) := by
 obtain ⟨t, rfl⟩ : ∃ t, s = t + 100000 := ⟨s - 100000, by omega⟩
 rw [bW]
 exact aHe _
theorem cX.ofRel {s : Nat} {d : DV} {x : Value} (h : bH w I A d x) : cX w I A s d x := by
 cases h with
 | any => exact .any A x
 | v => exact .v A x
 | sl0 _ z f b c => exact .sl0 A z f b c
 | sl _ z n f b o c us hn hc hm hI hz hcell hone hrel => exact bH.sl A z n f b o c us hn hc hm hI hz hcell hone hrel
 | agg _ cs vs hl hone hrel => exact bH.agg A cs vs hl hone hrel
 | tup _ cs vs hl hrel => exact bH.tup A cs vs hl hrel
 | dp _ cs b o us hI hcell hone hrel => exact bH.dp A cs b o us hI hcell hone hrel
 | bp _ s off g c h => exact bH.bp A s off g c h
 | own _ s n B c b h hb => exact bH.own A s n B c b h hb
 | rp _ s z i off g c h => exact bH.rp A s z i off g c h
 | fn _ f fs cs us vs hf hc hfr hcr => exact bH.fn A f fs cs us vs hf hc hfr hcr
 | iface _ t d x h => exact bH.iface A t d x h
 | mr _ s g c h => exact bH.mr A s g c h
 | ez _ b => exact bH.ez A b
theorem dY.ofPure {s : Nat} {d : DV} (h : bP d = false) : dY w I A s d := by
 cases d <;> first | trivial | (cases h)
theorem s4 {d : DV} {x : Value} (h : bH w I A d x) : bP d = false := by cases h <;> rfl
theorem b9.enter {O : aS} {args : List DV} {vals : Array Value} {nt : Nat} (hO : gK w I A O) (hl : vals.size = args.length) (hn : args.length ≤ nt) (hb : nt ≤ 100000)
  (hv : ∀ (j : Nat) (d : DV) (u : Value), args[j]? = some d → vals[j]? = some u → bH w I A d u) :
  b9 nt w I (b6 A) (lA O args) { tmps := vals ++ Array.replicate (nt - vals.size) undef, defers := [] } := by
 have hrel : ∀ i, i < args.length → bH w I (b6 A) (sh (args.getD i .any)) (vals.getD i undef) := fun i hi => by
  have h1 : args[i]? = some (args.getD i .any) := by rw [List.getD_eq_getElem?_getD, List.getElem?_eq_getElem hi]; rfl
  have h2 : vals[i]? = some (vals.getD i undef) := by simp [Array.getElem?_eq_getElem (show i < vals.size by omega)]
  exact (hv i _ _ h1 h2).rename (gL A)
 refine ⟨⟨fun s => ?_, fun s t g c c' h1 h2 => ?_, fun s g c h => ?_, hO.imm⟩, by simp; omega, hb, fun i hi => ?_, fun s hs => ?_⟩
 ·rw [pJ]
  split
  ·rename_i h; exact dY.ofPure (s4 (hrel s h))
  by_cases hs : s < 100000
  ·rw [mF O hs]; trivial
  obtain ⟨t, rfl⟩ : ∃ t, s = t + 100000 := ⟨s - 100000, by omega⟩
  rw [bW]
  exact (hO.own t).into rfl
 ·unfold b6 at h1 h2
  split at h1 <;> split at h2 <;> first | cases h1 | cases h2 | skip
  have := hO.inj _ _ g c c' h1 h2
  omega
 ·unfold b6 at h
  split at h
  ·cases h
  exact hO.sep _ g c h
 ·have hget : (vals ++ Array.replicate (nt - vals.size) undef).getD i undef = vals.getD i undef := by
   simp only [Array.getD_eq_getD_getElem?, Array.getElem?_append]
   split
   ·rfl
   rename_i h
   rw [Array.getElem?_eq_none (Nat.le_of_not_lt h)]
   cases hr : (Array.replicate (nt - vals.size) undef)[i - vals.size]? with
   | none => rfl
   | some y => rw [Array.getElem?_replicate] at hr; split at hr <;> simp_all
  rw [hget, pJ]
  split
  ·rename_i h; exact .ofRel (hrel i h)
  rw [mF O (by omega)]; exact .any _ _
 rw [pJ, if_neg (by omega)]
 exact aBg O s hs
def dI (d r : DV) : Prop := ∀ w I A x, bH w I A d x → bH w I A r x
theorem dI.refl (d : DV) : dI d d := fun _ _ _ _ h => h
theorem dI.nil (z c : Nat) (b : Option Addr) (f : Nat → List DV) : dI (.v (.slice b 0 c)) (.sl z 0 f) := fun _ _ A x h => by cases h; exact .sl0 A z f b c
theorem dI.sl (z n : Nat) {f g : Nat → List DV} (h : ∀ i, i < n → f i = g i) : dI (.sl z n f) (.sl z n g) := fun w I A x hr => (Wk.sl z n f g h w I A 0 x).1 hr
def gC : DV → Bool
 | .bx _ => false
 | .row _ _ _ => false
 | .cond _ _ => false
 | .mo _ => false
 | _ => true
theorem cX.rel {s : Nat} {d : DV} {x : Value} (h : cX w I A s d x) (hp : gC d = true) : bH w I A d x := by
 cases d <;> first | exact h | (cases hp)
inductive dE (ρ : aS) (t : Nat) : DV → Prop
 | pure (r : DV) (hp : gC (ρ t) = true) (hw : dI (ρ t) (sh r)) (hr : bP r = false) : dE ρ t r
 | row (e z : Nat) (xs : List (List DV)) (h : ρ t = .row e z xs) : dE ρ t (.row e z xs)
 | own (s e z n : Nat) (xs : List (List DV)) (h : ρ t = .own s n) (hs : s < 100000) (hr : ρ s = .row e z xs) (hn : n ≤ xs.length) : dE ρ t (.row e z (xs.take n))
 | box (cs : List DV) (h : ρ t = .bx (gT (· + 100000) cs)) : dE ρ t (.bx cs)
 | nilrow (e z : Nat) (h : ρ t = .v (.slice none 0 0)) : dE ρ t (.row e z [])
 | ptr (s : Nat) (cs : List DV) (h : ρ t = .bp s 0) (hs : s < 100000) (hr : ρ s = .bx (gT (· + 100000) cs)) : dE ρ t (.bx cs)
def aDh (tmps : Array Value) : ResultVar → Sem Value
 | .tmp t => pure (tmps.getD t undef)
 | .cell a t => do loadVar t (← asAddr (tmps.getD a undef))
theorem oS (fn : Func) (tmps : Array Value) : results fn tmps = (do let vs ← fn.results.mapM (aDh tmps); pure (if h : vs.size = 1 then vs[0] else .tuple vs)) := by
 unfold results
 congr 2
def aAq (P : Program) (ρ : aS) : ResultVar → DV → Prop
 | .tmp t, r => gC (ρ t) = true ∧ dI (ρ t) (sh r)
 | .cell a t, r => ∃ cs, ρ a = .bx cs ∧ ((eD P t = some (some cs.length) ∧ dI (.agg cs) (sh r)) ∨ (eD P t = some none ∧ ∃ c, cs = [c] ∧ dI c (sh r)))
def lO (P : Program) (ρ : aS) (rs : List ResultVar) (r : DV) : Prop :=
 match rs with
 | [.tmp t] => dE ρ t r
 | [.cell a t] => bP r = false ∧ aAq P ρ (.cell a t) r
 | rs => ∃ rl : List DV, r = .tup rl ∧ rl.length = rs.length ∧ ∀ (j : Nat) (v : ResultVar) (d : DV), rs[j]? = some v → rl[j]? = some d → aAq P ρ v d
theorem bH.back {A' : cO} {r : DV} {x : Value} (h : bH w I A' (sh r) x) (hA : ∀ s, 100000 ≤ s → A' s = b6 A s) : bH w I A r x := by
 have := h.unname r rfl
 have e : (fun s => A' (s + 100000)) = A := funext fun s => by rw [hA _ (by omega), gL]
 rwa [e] at this
theorem xU {nt : Nat} {ρ : aS} {a : Act} {A' : cO} (hs : b9 nt w I A' ρ a) (hA : ∀ s, 100000 ≤ s → A' s = b6 A s) {v : ResultVar} {r : DV}
  (hv : match v with | .tmp t => t < nt | .cell t _ => t < nt) (h : aAq P ρ v r) :
  ∃ x, (aDh a.tmps v).run P w = .ok x w ∧ bH w I A r x := by
 cases v with
 | tmp t =>
  obtain ⟨h1, h2⟩ := h
  exact ⟨a.tmps.getD t undef, rfl, (h2 w I A' _ ((hs.slot t hv).rel h1)).back hA⟩
 | cell b t =>
  obtain ⟨cs, h1, h2⟩ := h
  have hsl := hs.slot b hv
  have ho := hs.osim.own b
  rw [h1] at hsl ho
  obtain ⟨g, c, hA1, hx⟩ := hsl
  simp only [aDh, hx]
  have key : ∀ ld r', eD P t = some ld → (cut ld 0 cs).1 → dI (cut ld 0 cs).2 (sh r') → ∃ x, (do loadVar t (← asAddr (.pointer (some ⟨g, 0, none⟩))) : Sem Value).run P w = .ok x w ∧ bH w I A r' x := by
   intro ld r' hld hc hw
   have := aHv (P := P) hs (t := t) (d := .bp b 0) (.bp A' b 0 g c hA1) (by rw [hld]; simp only [lN, h1, aBz]; exact hc)
   obtain ⟨x, k1, k2⟩ := this
   rw [hld] at k2
   simp only [lN, h1, aBz] at k2
   exact ⟨x, by simpa [Instr.loadAt, Instr.sureAddr, asAddr] using k1, (hw w I A' x k2).back hA⟩
  rcases h2 with ⟨h3, h4⟩ | ⟨h3, c', rfl, h4⟩
  ·exact key _ r h3 (by simp [cut]) (by simpa [cut] using h4)
  exact key _ r h3 (by simp [cut]) (by simpa [cut] using h4)
theorem pS {α : Type} (f : α → Sem Value) : ∀ (l : List α) (vs : List Value), l.length = vs.length → (∀ (j : Nat) (x : α) (v : Value), l[j]? = some x → vs[j]? = some v → (f x).run P w = .ok v w) →
  (l.mapM f).run P w = .ok vs w
 | [], [], _, _ => rfl
 | x :: l, v :: vs, hl, h => by
  have h0 := h 0 x v (by simp) (by simp)
  have ih := pS f l vs (by simpa using hl) fun j y u hy hu => h (j + 1) y u (by simpa using hy) (by simpa using hu)
  simp [List.mapM_cons, h0, ih]
 | [], _ :: _, hl, _ => by simp at hl
 | _ :: _, [], hl, _ => by simp at hl
theorem aDq {w0 : World} {I0 : Nat → Prop} {nt : Nat} {ρ : aS} {a : Act} {A' : cO} {fn : Func} {r : DV} (hs : b9 nt w I A' ρ a) (hx : eA w0 I0 (b6 A) w I A')
  (hn : fn.results.toList.all (fun v => match v with | .tmp t => decide (t < nt) | .cell t _ => decide (t < nt)) = true) (h : lO P ρ fn.results.toList r) :
  ∃ v, (results fn a.tmps).run P w = .ok v w ∧ lD w0 w I A r v := by
 have hA := hx.outA
 have hback : ∀ {d : DV} {x : Value}, bH w I A' (sh d) x → bH w I A d x := fun h => h.back hA
 have hfresh : ∀ s g c, s < 100000 → A' s = some (some g, c) → w0.heap.size ≤ g ∧ g < w.heap.size ∧ ¬ I g := fun s g c hs' hA1 => by
  refine ⟨?_, (hs.osim.sep s g c hA1).1, (hs.osim.sep s g c hA1).2⟩
  rcases Nat.lt_or_ge g w0.heap.size with hlt | hge
  ·obtain ⟨t, c', ht, hAt⟩ := hx.loc s g c hA1 hlt hs'
   unfold b6 at hAt
   rw [if_pos ht] at hAt
   cases hAt
  exact hge
 have hlt : ∀ v ∈ fn.results.toList, (match v with | .tmp t => t < nt | .cell t _ => t < nt) := fun v hv => by
  have := List.all_eq_true.1 hn v hv
  cases v <;> simpa using this
 generalize hl : fn.results.toList = rs at *
 have hres : fn.results = rs.toArray := by apply Array.ext'; rw [hl]
 have hrow : ∀ s e z xs x b, s < 100000 → A' s = some x → jI x.1 b → iY w I e z xs x.1 x.2 →
   lD w0 w I A (.row e z xs) (.slice b xs.length x.2) := fun s e z xs x b hs' hA1 hb hr => by
  refine ⟨x.1, x.2, ⟨b, hb, rfl⟩, hr, fun g hg => ?_⟩
  exact hfresh s g x.2 hs' (by rw [hA1, ← hg])
 have hbox : ∀ s cs x, s < 100000 → cX w I A' s (.bx (gT (· + 100000) cs)) x → dY w I A' s (.bx (gT (· + 100000) cs)) → lD w0 w I A (.bx cs) x := fun s cs x hs' h1 h2 => by
  obtain ⟨g, c, hA1, rfl⟩ := h1
  obtain ⟨g', c', us, et, hA2, k1, k2, k3, k4⟩ := h2
  rw [hA1] at hA2
  simp only [Option.some.injEq, Prod.mk.injEq] at hA2
  obtain ⟨rfl, rfl⟩ := hA2
  exact ⟨g, us, et, rfl, k1, by rw [jE, List.length_map] at k2; exact k2, k3, fun j d u hd hu => hback (k4 j _ u (gO hd) hu), hfresh s g c hs' hA1⟩
 unfold lO at h
 split at h
 ·rename_i t
  have ht : t < nt := hlt (.tmp t) (by simp)
  have hsl := hs.slot t ht
  have hsz : t < 100000 := Nat.lt_of_lt_of_le ht hs.bound
  refine ⟨_, results_tmp hres _ P w, ?_⟩
  cases h with
  | pure r hp hw hr =>
   have := hback (hw w I A' _ (hsl.rel hp))
   cases r <;> first | exact this | (cases hr)
  | row e z xs hρ =>
   have ho := hs.osim.own t
   rw [hρ] at hsl ho
   obtain ⟨B, c, hA1, b, hb, hx'⟩ := hsl
   obtain ⟨B', c', hA2, hr⟩ := ho
   rw [hA1] at hA2
   simp only [Option.some.injEq, Prod.mk.injEq] at hA2
   obtain ⟨rfl, rfl⟩ := hA2
   rw [hx']
   exact hrow t e z xs (B, c) b hsz hA1 hb hr
  | own s e z n xs hρ hs' hr hn' =>
   have ho := hs.osim.own s
   rw [hρ] at hsl
   rw [hr] at ho
   obtain ⟨B', c', hA2, hr'⟩ := ho
   generalize a.tmps.getD t undef = x at hsl ⊢
   have hsl : bH w I A' (.own s n) x := hsl
   cases hsl with
   | own _ _ _ B c b hA1 hb =>
    rw [hA1] at hA2
    simp only [Option.some.injEq, Prod.mk.injEq] at hA2
    obtain ⟨rfl, rfl⟩ := hA2
    have hlen : (xs.take n).length = n := by rw [List.length_take]; omega
    refine ⟨B, c, ⟨b, hb, by rw [hlen]⟩, ?_, fun g hg => hfresh s g c hs' (by rw [hA1, hg])⟩
    unfold iY at hr' ⊢
    cases B with
    | none => obtain ⟨rfl, rfl⟩ := hr'; exact ⟨by simp, rfl⟩
    | some g =>
     obtain ⟨us, q1, q2, q3, q4, q5⟩ := hr'
     refine ⟨us, q1, q2, q3, by rw [hlen]; omega, fun i x hx => ?_⟩
     rw [List.getElem?_take] at hx
     split at hx
     ·exact q5 i x hx
     cases hx
  | box cs hρ =>
   have ho := hs.osim.own t
   rw [hρ] at hsl ho
   exact hbox t cs _ hsz hsl ho
  | nilrow e z hρ =>
   rw [hρ] at hsl
   generalize a.tmps.getD t undef = x at hsl ⊢
   have hsl : bH w I A' (.v (.slice none 0 0)) x := hsl
   cases hsl
   exact ⟨none, 0, ⟨none, jO _, rfl⟩, ⟨rfl, rfl⟩, fun g hg => by cases hg⟩
  | ptr s cs hρ hs' hr =>
   have ho := hs.osim.own s
   rw [hρ] at hsl
   rw [hr] at ho
   have ho2 := ho
   obtain ⟨g, c, us, et, hA2, _⟩ := ho2
   generalize a.tmps.getD t undef = x at hsl ⊢
   have hsl : bH w I A' (.bp s 0) x := hsl
   cases hsl with
   | bp _ _ _ g' c' hA1 => exact hbox s cs _ hs' ⟨g', c', hA1, rfl⟩ ho
 ·rename_i b t
  obtain ⟨h1, h2⟩ := h
  obtain ⟨x, k1, k2⟩ := xU hs hA (v := .cell b t) (hlt (.cell b t) (by simp)) h2
  refine ⟨x, ?_, by cases r <;> first | exact k2 | (cases h1)⟩
  have := pS (P := P) (w := w) (aDh a.tmps) [.cell b t] [x] rfl
   (fun j y u hy hu => by
    cases j with
    | zero => simp at hy hu; subst hy; subst hu; exact k1
    | succ j => simp at hy)
  rw [oS, hres, List.mapM_toArray, Sem.run_bind, Sem.run_map, this]
  rfl
 rename_i h1 h2
 obtain ⟨rl, rfl, hlen, hall⟩ := h
 have : ∃ vs : List Value, vs.length = rs.length ∧ (∀ (j : Nat) (y : ResultVar) (u : Value), rs[j]? = some y → vs[j]? = some u →
   (aDh a.tmps y).run P w = .ok u w) ∧ ∀ (j : Nat) (d : DV) (u : Value), rl[j]? = some d → vs[j]? = some u → bH w I A d u := by
  clear hres hl hn h1 h2
  induction rs generalizing rl with
  | nil =>
   obtain rfl : rl = [] := List.eq_nil_of_length_eq_zero hlen
   exact ⟨[], rfl, by simp, by simp⟩
  | cons y rs ih =>
   cases rl with
   | nil => simp at hlen
   | cons d rl =>
    obtain ⟨x, k1, k2⟩ := xU hs hA (v := y) (hlt y (by simp)) (hall 0 y d (by simp) (by simp))
    obtain ⟨vs, j1, j2, j3⟩ := ih (fun v hv => hlt v (by simp [hv])) rl (by simpa using hlen) fun j v d' hv hd => hall (j + 1) v d' (by simpa using hv) (by simpa using hd)
    refine ⟨x :: vs, by simp [j1], fun j y' u hy hu => ?_, fun j d' u hd hu => ?_⟩
    ·cases j with
     | zero => simp at hy hu; subst hy; subst hu; exact k1
     | succ j => exact j2 j y' u (by simpa using hy) (by simpa using hu)
    cases j with
    | zero => simp at hd hu; subst hd; subst hu; exact k2
    | succ j => exact j3 j d' u (by simpa using hd) (by simpa using hu)
 obtain ⟨vs, j1, j2, j3⟩ := this
 have hrun := pS (P := P) (w := w) (aDh a.tmps) rs vs j1.symm j2
 have hne : vs.length ≠ 1 := fun e => by
  rw [j1] at e
  match rs, e with
  | [.tmp t], _ => exact h1 t rfl
  | [.cell b t], _ => exact h2 b t rfl
 refine ⟨.tuple vs.toArray, ?_, ?_⟩
 ·rw [oS, hres, List.mapM_toArray, Sem.run_bind, Sem.run_map, hrun]
  simp [hne]
 exact bH.tup A rl _ (by simp [hlen, j1]) fun j d u hd hu => j3 j d u hd (by simpa using hu)
def wH (P : Program) (fn : Func) (O : aS) (R : aS → DV → Prop) : Exit → aS → Prop
 | .ret, ρ | .normal, ρ => ∃ O' r, (∀ s, ρ (s + 100000) = sh (O' s)) ∧ (∀ s, dW (O s) (O' s)) ∧ (∀ s, cM (O s) → cM (O' s)) ∧ lO P ρ fn.results.toList r ∧ R O' r
 | _, _ => False
theorem aFv {f : FuncId} {fn : Func} {c : Code} {O : aS} {args : List DV} {R : aS → DV → Prop} (hf : P.funcs[f]? = some fn) (hb : fn.body = some c)
  (hn : (decide (args.length ≤ fn.ntmps) && decide (fn.ntmps ≤ 100000) && fn.results.toList.all (fun v => match v with | .tmp t => decide (t < fn.ntmps) | .cell t _ => decide (t < fn.ntmps))) = true)
  (h : AW P fn.ntmps c (wH P fn O R) (lA O args)) : iC P O f args R := by
 intro w I A vals hO hl hv
 simp only [Bool.and_eq_true, decide_eq_true_eq] at hn
 obtain ⟨⟨hn1, hn2⟩, hn3⟩ := hn
 refine calls_of_wp hf hb (wp_mono (wpIn_wide.1 (Go.Rv.qH ▸ h none [] I (b6 A) _ w (b9.enter hO hl hn1 hn2 hv) rfl)) ?_)
 intro e a' w' ⟨I', A', ρ', k1, k2, k3, k4⟩
 have fin : (∃ O' r, (∀ s, ρ' (s + 100000) = sh (O' s)) ∧ (∀ s, dW (O s) (O' s)) ∧ (∀ s, cM (O s) → cM (O' s)) ∧ lO P ρ' fn.results.toList r ∧ R O' r) →
   ∃ v, (results fn a'.tmps).run P w' = .ok v w' ∧ ∃ v' I' O' r, Ending.returned v = .returned v' ∧ gK w' I' A O' ∧ (∀ s, dW (O s) (O' s)) ∧ (∀ s, cM (O s) → cM (O' s)) ∧ eA w I A w' I' A ∧ lD w w' I' A r v' ∧ R O' r := by
  rintro ⟨O', r, q1, q2, q3, q4, q5⟩
  obtain ⟨v, r1, r2⟩ := aDq k1 k3 hn3 q4
  have hA' : ∀ s, A' (s + 100000) = A s := fun s => by rw [k3.outA _ (by omega), gL]
  have hfun : (fun s => A' (s + 100000)) = A := funext hA'
  refine ⟨v, r1, v, I', O', r, rfl, ⟨fun s => ?_, hO.inj, fun s g c hA => ?_, k1.osim.imm⟩, q2, q3, ⟨k3.os, k3.tape, k3.output, k3.size, k3.imm, fun g hg hA => ?_, fun s g c hA _ hs => ⟨s, c, hs, hA⟩, fun _ _ => rfl⟩, r2, q5⟩
  ·have := k1.osim.own (s + 100000)
   rw [q1] at this
   have := this.outof (s := s) rfl
   rwa [hfun] at this
  ·exact k1.osim.sep (s + 100000) g c ((hA' s).trans hA)
  obtain ⟨e1, e2, e3⟩ := k3.old g hg fun s c hs => by
   unfold b6 at hs
   split at hs
   ·cases hs
   exact hA _ _ hs
  exact ⟨e1, e2, hA⟩
 cases e with
 | normal => exact ⟨k2, fin k4⟩
 | ret => exact ⟨k2, fin k4⟩
 | _ => exact k4.elim
end
end Go.Sg
namespace Go.Sg
open Go.RowKit
open Go.Rv (FR)
theorem zO {P : Program} {ro : Option Nat} {o : Oper} {ev : Operand → Value} {w w' : World} {r : Next} (h : (execOp ev o).run P w = .ok r w') (hr : ∀ d, r ≠ .defer d) : o.semAt ro ev = execOp ev o := by
 cases ro with
 | none => exact Oper.semAt_none ev o
 | some l =>
  refine Oper.semAt_some l ev o fun c hc => ?_
  unfold execOp at h
  rw [hc] at h
  simp only [Sem.run_bind, Sem.run_map, Functor.map] at h
  cases hx : (resolve ev c o.type).run P w with
  | ok d w1 =>
   rw [hx] at h
   simp [Result.andThen] at h
   exact hr d h.1.symm
  | halt d w1 =>
   rw [hx] at h
   simp [Result.andThen] at h
theorem nK {P : Program} {ro : Option Nat} {o : Oper} {a : Act} {w w' : World} {x : Value} {next : Act → World → Prop} {Q' : Exit → Act → World → Prop} (h1 : (execOp a.eval o).run P w = .ok (.value x) w') (h : next (a.put o.dst x) w') : o.wpIn (FR ro) 0 P a w next Q' := by
 refine ⟨fun _ _ => trivial, ?_⟩
 rw [zO h1 (by simp), h1]
 exact h
theorem aTb {P : Program} {ro : Option Nat} {o : Oper} {a : Act} {w w' : World} {next : Act → World → Prop} {Q' : Exit → Act → World → Prop} (h1 : (execOp a.eval o).run P w = .ok .skip w') (h : next (a.put o.dst undef) w') : o.wpIn (FR ro) 0 P a w next Q' := by
 refine ⟨fun _ _ => trivial, ?_⟩
 rw [zO h1 (by simp), h1]
 exact h
theorem nI {P : Program} {ro : Option Nat} {o : Oper} {a : Act} {w w' : World} {f : FuncId} {vals : Array Value} {next : Act → World → Prop} {Q' : Exit → Act → World → Prop} (h1 : (execOp a.eval o).run P w = .ok (.enter f vals) w')
  (h : Calls P f vals w' fun e w'' => match e with | .returned v => next (a.put o.dst v) w'' | .panicked ch => Q' (.panic ch) a w'' | .outgrown => LetsOut Q') : o.wpIn (FR ro) 0 P a w next Q' := by
 refine ⟨fun _ _ => trivial, ?_⟩
 rw [zO h1 (by simp), h1, Oper.uponIn_enter]
 refine ⟨Go.Rv.aVa _, Go.Rv.aKx (Calls.mono h fun e w'' q => ?_)⟩
 cases e <;> exact q
def OW (P : Program) (nt : Nat) (ops : Array Oper) (o : Oper) (K : aS → Prop) (ρ : aS) : Prop :=
 ∀ (ro : Option Nat) (ds : List Deferred) I A a w, b9 nt w I A ρ a → a.defers = ds → ∀ (next : Act → World → Prop) (Q' : Exit → Act → World → Prop),
  (∀ I' A' a' w' ρ', b9 nt w' I' A' ρ' a' → a'.defers = ds → eA w I A w' I' A' → K ρ' → next a' w') →
  if Region.wanted o (yielded ops a.tmps) = true then o.wpIn (FR ro) 0 P a w next Q' else (∀ f, o.about P w a.eval = some f → (FR ro).fn f) ∧ next (a.put o.dst undef) w
def RW (P : Program) (nt : Nat) (ops : Array Oper) (k : aS → Prop) : List Oper → aS → Prop
 | [], ρ => k ρ
 | o :: os, ρ => OW P nt ops o (RW P nt ops k os) ρ
structure Tg.{u} {α : Sort u} (k : α) : Type where
section
variable {P : Program} {nt : Nat} {ρ : aS} {ops : Array Oper}
theorem OW.mono {o : Oper} {K K' : aS → Prop} (h : OW P nt ops o K ρ) (hk : ∀ ρ, K ρ → K' ρ) : OW P nt ops o K' ρ :=
 fun ro ds I A a w hs hd next Q' hn => h ro ds I A a w hs hd next Q' fun I' A' a' w' ρ' h1 h2 h3 h4 => hn I' A' a' w' ρ' h1 h2 h3 (hk _ h4)
theorem aIa {ro : Option Nat} {ds : List Deferred} {k : aS → Prop} {Q' : Exit → Act → World → Prop} : ∀ (l : List Oper) (ρ : aS) (I : Nat → Prop) (A : cO) (a : Act) (w : World), RW P nt ops k l ρ → b9 nt w I A ρ a → a.defers = ds →
  (∀ I' A' a' w' ρ', b9 nt w' I' A' ρ' a' → a'.defers = ds → eA w I A w' I' A' → k ρ' → Q' .normal a' w') → wpListIn (FR ro) 0 P ops Q' l a w
 | [], ρ, I, A, a, w, h, hs, hd, hk => hk I A a w ρ hs hd (eA.refl _ _ _) h
 | o :: l, ρ, I, A, a, w, h, hs, hd, hk => by
  refine wpListIn_step fun K hK => h ro ds I A a w hs hd K Q' fun I' A' a' w' ρ' h1 h2 h3 h4 => hK _ _ ?_
  exact aIa l ρ' I' A' a' w' h4 h1 h2 fun I2 A2 a2 w2 ρ2 k1 k2 k3 k4 => hk I2 A2 a2 w2 ρ2 k1 k2 (h3.trans k3) k4
theorem gR {id : Nat} {l : List Oper} {Q : Exit → aS → Prop} (h : RW P nt l.toArray (Q .normal) l ρ) : AW P nt (.region id l.toArray false) Q ρ := by
 intro ro ds I A a w hs hd
 exact wpIn_region_lit (aIa l ρ I A a w h hs hd fun I' A' a' w' ρ' h1 h2 h3 h4 => ⟨I', A', ρ', h1, h2, h3, h4⟩)
theorem d4 (a : Act) (d : Option Nat) (x : Value) : (a.put d x).defers = a.defers := by cases d <;> rfl
theorem eZ {o : Oper} {K : aS → Prop} (hg : o.guard = none)
  (h : ∀ I A a w, b9 nt w I A ρ a → ∃ x w' I' A' ρ', (execOp a.eval o).run P w = .ok (.value x) w' ∧ b9 nt w' I' A' ρ' (a.put o.dst x) ∧ eA w I A w' I' A' ∧ K ρ') : OW P nt ops o K ρ := by
 intro ro ds I A a w hs hd next Q' hn
 obtain ⟨x, w', I', A', ρ', h1, h2, h3, h4⟩ := h I A a w hs
 rw [if_pos (by simp [Region.wanted, hg])]
 exact nK h1 (hn I' A' _ w' ρ' h2 (by rw [d4]; exact hd) h3 h4)
theorem xN {o : Oper} {K : aS → Prop} (hg : o.guard = none)
  (h : ∀ I A a w, b9 nt w I A ρ a → ∃ w' I' A' ρ', (execOp a.eval o).run P w = .ok .skip w' ∧ b9 nt w' I' A' ρ' (a.put o.dst undef) ∧ eA w I A w' I' A' ∧ K ρ') : OW P nt ops o K ρ := by
 intro ro ds I A a w hs hd next Q' hn
 obtain ⟨w', I', A', ρ', h1, h2, h3, h4⟩ := h I A a w hs
 rw [if_pos (by simp [Region.wanted, hg])]
 exact aTb h1 (hn I' A' _ w' ρ' h2 (by rw [d4]; exact hd) h3 h4)
def eO (nt : Nat) (o : Oper) : Bool := match o.dst with | some d => decide (d < nt) | none => true
theorem b9.putV {w : World} {I : Nat → Prop} {A : cO} {a : Act} (hs : b9 nt w I A ρ a) {o : Oper} (hd : eO nt o = true) {v : DV} {x : Value} (hr : bH w I A v x) :
  b9 nt w I A (bZ ρ o.dst v) (a.put o.dst x) := by
 unfold eO at hd
 cases h : o.dst with
 | none => exact hs
 | some d =>
  rw [h] at hd
  exact hs.put (by simpa using hd) (.ofRel hr) (.ofPure (s4 hr))
theorem uJ {o : Oper} {K : aS → Prop} (hg : o.guard = none) (ho : dA nt o = true) (hd : eO nt o = true) (h : (w4 P ρ o.op).1) (hK : K (bZ ρ o.dst (w4 P ρ o.op).2)) : OW P nt ops o K ρ :=
 eZ hg fun I A a w hs => by
  obtain ⟨x, h1, h2⟩ := aOl hs o ho h
  exact ⟨x, w, I, A, _, h1, hs.putV hd h2, eA.refl _ _ _, hK⟩
def gW (want : Bool) : DV → Option Bool
 | .v (.bool b) => some (b == want)
 | .cond g (.v (.bool b)) => some (g && (b == want))
 | _ => none
def gAt (ops : List Oper) (ρ : aS) (j : Nat) (want : Bool) : Option Bool :=
 match ops[j]? with
 | some o => match o.dst with
  | some d => gW want (ρ d)
  | none => none
 | none => none
theorem aQd {l : List Oper} {w : World} {I : Nat → Prop} {A : cO} {a : Act} (hs : b9 nt w I A ρ a) {o : Oper} {j : Nat} {want g : Bool} (hg : o.guard = some (j, want))
  (hall : l.all (eO nt) = true) (h : gAt l ρ j want = some g) : Region.wanted o (yielded l.toArray a.tmps) = g := by
 unfold gAt at h
 split at h <;> try cases h
 rename_i oj hj
 split at h <;> try cases h
 rename_i d hd
 have hdn : d < nt := by
  have := List.all_eq_true.1 hall oj (List.mem_of_getElem? hj)
  unfold eO at this
  rw [hd] at this
  simpa using this
 have hsl := hs.slot d hdn
 have hy : yielded l.toArray a.tmps j = match a.tmps.getD d undef with | .bool b => some b | _ => none := by
  have hlt : d < a.tmps.size := by rw [hs.size]; exact hdn
  unfold yielded
  simp only [List.getElem?_toArray, hj, Option.bind_some, hd, Array.getElem?_eq_getElem hlt, Array.getD_eq_getD_getElem?, Option.getD_some]
  cases a.tmps[d] <;> rfl
 unfold Region.wanted
 rw [hg]
 simp only [hy]
 generalize a.tmps.getD d undef = x at *
 unfold gW at h
 split at h
 ·rename_i b hρ
  rw [hρ] at hsl
  have hsl : bH w I A (.v (.bool b)) x := hsl
  cases hsl
  cases h
  cases b <;> cases want <;> rfl
 ·rename_i g' b hρ
  rw [hρ] at hsl
  cases h
  cases g' with
  | true =>
   have := hsl.1 rfl
   cases this
   cases b <;> cases want <;> rfl
  | false =>
   rw [hsl.2 rfl]
   rfl
 cases h
def aQu (ρ : aS) (d : Nat) (r : DV) : aS := if bP r = true then set (cI d ρ) d r else set ρ d r
theorem b9.called {w w' : World} {I I' : Nat → Prop} {A : cO} {a : Act} {O' : aS} (hs : b9 nt w I A ρ a) (h1 : gK w' I' A O') (h2 : ∀ s, dW (ρ s) (O' s)) (h3 : ∀ s, cM (ρ s) → cM (O' s)) (h4 : eA w I A w' I' A) :
  b9 nt w' I' A O' a where
 osim := h1
 size := hs.size
 bound := hs.bound
 slot := fun i hi => by
  have hsl := hs.slot i hi
  have hf := h2 i
  have hrel : ∀ d x, bH w I A d x → bH w' I' A d x := fun d x hr => h4.rel hs.osim hr
  generalize a.tmps.getD i undef = x at *
  generalize ρ i = d at *
  generalize O' i = d' at *
  cases d with
  | bx cs =>
   cases d' <;> simp only [dW] at hf <;> first | cases hf | skip
   exact hsl
  | row e z xs =>
   cases d' with
   | row e' z' xs' =>
    obtain ⟨rfl, rfl, hl⟩ := hf
    obtain ⟨B, c, k1, k2⟩ := hsl
    exact ⟨B, c, k1, by rw [← hl]; exact k2⟩
   | _ => cases hf
  | cond g y => simp only [dW] at hf; subst hf; exact ⟨fun hg => hrel _ _ (hsl.1 hg), hsl.2⟩
  | any => simp only [dW] at hf; subst hf; exact .any A x
  | v y => simp only [dW] at hf; subst hf; exact hrel _ _ hsl
  | sl z n f => simp only [dW] at hf; subst hf; exact hrel _ _ hsl
  | agg cs => simp only [dW] at hf; subst hf; exact hrel _ _ hsl
  | tup cs => simp only [dW] at hf; subst hf; exact hrel _ _ hsl
  | dp cs => simp only [dW] at hf; subst hf; exact hrel _ _ hsl
  | bp t o => simp only [dW] at hf; subst hf; exact hrel _ _ hsl
  | own t n => simp only [dW] at hf; subst hf; exact hrel _ _ hsl
  | rp t z i o => simp only [dW] at hf; subst hf; exact hrel _ _ hsl
  | fn f b c => simp only [dW] at hf; subst hf; exact hrel _ _ hsl
  | iface t y => simp only [dW] at hf; subst hf; exact hrel _ _ hsl
  | mr t => simp only [dW] at hf; subst hf; exact hrel _ _ hsl
  | ez => simp only [dW] at hf; subst hf; exact hrel _ _ hsl
  | mo es => simp only [dW] at hf; subst hf; exact hsl
 out := fun s hs' => h3 s (hs.out s hs')
theorem b9.res {w w0 : World} {I I0 : Nat → Prop} {A : cO} {a : Act} (hs : b9 nt w I A ρ a) {d : Nat} (hd : d < nt) {r : DV} {x : Value} (h : lD w0 w I A r x) (hm : bP r = true → eF d r = r)
  (hA : ∀ s g c, A s = some (some g, c) → g < w0.heap.size) (h0 : eA w0 I0 A w I A) :
  ∃ A', b9 nt w I A' (aQu ρ d r) (a.put (some d) x) ∧ eA w0 I0 A w I A' := by
 have hb := hs.bound
 cases r with
 | bx cs =>
  obtain ⟨g, us, et, rfl, h1, h2, h3, h4, h5, h6, h7⟩ := h
  refine ⟨gE A d (some (some g, 0)), ?_, ⟨h0.os, h0.tape, h0.output, h0.size, h0.imm, fun g' hg' hA' => ?_, fun s g' c' hs' hg' hl => ?_, fun s hs' => d5 A _ (by omega)⟩⟩
  ·show b9 nt w I _ (set (cI d ρ) d _) _
   refine hs.own hd (fun g' hg' => ?_) ⟨g, 0, cC _ _ _, rfl⟩ ⟨g, 0, us, et, cC _ _ _, h1, h2, h3, fun j e u he hu => ?_⟩
   ·cases hg'
    exact ⟨h6, h7, fun s c' _ hc => by have := hA s g c' hc; omega⟩
   refine (h4 j e u he hu).congrA (fun s => s != d) ?_ fun t ht => d5 A _ (by simpa using ht)
   have hm := hm rfl
   unfold eF at hm
   split at hm
   ·rename_i hk; exact fC (by simpa [d7] using hk) he
   cases hm
  ·obtain ⟨e1, e2, _⟩ := h0.old g' hg' hA'
   refine ⟨e1, e2, fun s c' hc => ?_⟩
   unfold gE at hc
   split at hc
   ·simp only [Option.some.injEq, Prod.mk.injEq] at hc; omega
   exact hA' s c' hc
  unfold gE at hs'
  split at hs'
  ·simp only [Option.some.injEq, Prod.mk.injEq] at hs'; omega
  exact ⟨s, c', hl, hs'⟩
 | row e z xs =>
  obtain ⟨B, c, ⟨b, hb', rfl⟩, h1, h2⟩ := h
  refine ⟨gE A d (some (B, c)), ?_, ⟨h0.os, h0.tape, h0.output, h0.size, h0.imm, fun g' hg' hA' => ?_, fun s g' c' hs' hg' hl => ?_, fun s hs' => d5 A _ (by omega)⟩⟩
  ·show b9 nt w I _ (set (cI d ρ) d _) _
   refine hs.own hd (fun g' hg' => ?_) ⟨B, c, cC _ _ _, b, hb', rfl⟩ ⟨B, c, cC _ _ _, h1⟩
   obtain ⟨k1, k2, k3⟩ := h2 g' hg'
   exact ⟨k2, k3, fun s c' _ hc => by have := hA s g' c' hc; omega⟩
  ·obtain ⟨e1, e2, _⟩ := h0.old g' hg' hA'
   refine ⟨e1, e2, fun s c' hc => ?_⟩
   unfold gE at hc
   split at hc
   ·simp only [Option.some.injEq, Prod.mk.injEq] at hc
    have := (h2 g' hc.1).1
    omega
   exact hA' s c' hc
  unfold gE at hs'
  split at hs'
  ·simp only [Option.some.injEq, Prod.mk.injEq] at hs'
   have := (h2 g' hs'.1).1
   omega
  exact ⟨s, c', hl, hs'⟩
 | cond g y => exact absurd h (by intro h; cases h)
 | mo es => exact absurd h (by intro h; cases h)
 | _ =>
  refine ⟨A, ?_, h0⟩
  show b9 nt w I A (set ρ d _) _
  exact hs.put hd (.ofRel h) trivial
def callee (d : DV) (args : List DV) : Option (FuncId × List DV) :=
 match d with
 | .fn f first captured => some (f, first ++ args ++ captured)
 | _ => none
def aQ (P : Program) (f : FuncId) : Bool :=
 match P.funcs[f]? with
 | some fn => fn.body.isSome && !(fn.name == "runtime.NumGoroutine")
 | none => false
def aCa (P : Program) (ρ : aS) (f : FuncId) (args : List DV) (k : aS → DV → Prop) (_ : Tg k) : Prop :=
 ∃ R : aS → DV → Prop, iC P ρ f args R ∧ ∀ O' r, R O' r → k O' r
theorem jN {w : World} {I : Nat → Prop} {A : cO} {a : Act} (hs : b9 nt w I A ρ a) {o : Oper} {fv : Operand} {args : Array Operand} {ts : Array TypeId} (hop : o.op = .call ⟨.value fv, args, ts⟩)
  (ho : dA nt o = true) (hgf : gd (ev ρ fv)) (hga : ∀ x ∈ args.toList, gd (ev ρ x)) {f : FuncId} {l : List DV} (hc : callee (un (ev ρ fv)) (args.toList.map fun x => un (ev ρ x)) = some (f, l)) (hb : aQ P f = true) :
  ∃ vals : Array Value, (execOp a.eval o).run P w = .ok (.enter f vals) w ∧ vals.size = l.length ∧ ∀ (j : Nat) (d : DV) (u : Value), l[j]? = some d → vals[j]? = some u → bH w I A d u := by
 have hop' := fun x hx hg => hs.opd x (bF ho (x := x) hx) hg
 rw [hop] at hop'
 have hf := hop' fv (by simp [Op.operands, Call.operands]) hgf
 have hargs : ∀ x ∈ args.toList, bH w I A (un (ev ρ x)) (a.eval x) := fun x hx => hop' x (by simp [Op.operands, Call.operands]; exact .inr (by simpa using hx)) (hga x hx)
 generalize un (ev ρ fv) = d at *
 unfold callee at hc
 cases d <;> try cases hc
 rename_i first captured
 generalize hv : a.eval fv = v at *
 cases hf with
 | fn _ _ _ _ us vs hf1 hc1 hfr hcr =>
  have hcf : ∀ vals : Array Value, (callFunc f vals).run P w = .ok (.enter f vals) w := fun vals => by
   unfold aQ at hb
   cases hP : P.funcs[f]? with
   | none => rw [hP] at hb; cases hb
   | some fn =>
    rw [hP] at hb
    simp only [Bool.and_eq_true, Bool.not_eq_true'] at hb
    have hn : fn.body.isNone = false := by cases h : fn.body <;> simp_all
    simp only [callFunc, Sem.run_bind, run_program, Result.andThen_ok, hP, hb.2, hn, Bool.false_eq_true, if_false, Sem.run_pure]
  refine ⟨us ++ args.map a.eval ++ vs, ?_, by simp [hf1, hc1], ?_⟩
  ·simp [execOp, hop, resolve, hv, Deferred.ofValue, invoke, hcf]
  intro j d u hd hu
  rw [List.getElem?_append, List.getElem?_append] at hd
  rw [Array.getElem?_append, Array.getElem?_append] at hu
  simp only [List.length_append, List.length_map, Array.length_toList, Array.size_append, Array.size_map] at hd hu
  rw [hf1] at hd
  split at hd
  ·rename_i h1
   rw [if_pos h1] at hu
   split at hd
   ·rename_i h2
    rw [if_pos h2] at hu
    exact hfr j d u hd hu
   rename_i h2
   rw [if_neg h2] at hu
   simp only [List.getElem?_map, Option.map_eq_some_iff, Array.getElem?_toList, Array.getElem?_map] at hd hu
   obtain ⟨x, hx, rfl⟩ := hd
   obtain ⟨y, hy, rfl⟩ := hu
   rw [hx] at hy
   cases hy
   exact hargs x (by simpa using Array.mem_of_getElem? hx)
  rename_i h1
  rw [if_neg h1] at hu
  exact hcr _ d u hd hu
theorem aNo {o : Oper} {K : aS → Prop} {fv : Operand} {args : Array Operand} {ts : Array TypeId} {d : Nat} (hop : o.op = .call ⟨.value fv, args, ts⟩) (hg : o.guard = none) (hdst : o.dst = some d) (hd : d < nt)
  (ho : dA nt o = true) (hgf : gd (ev ρ fv)) (hga : ∀ x ∈ args.toList, gd (ev ρ x)) {f : FuncId} {l : List DV} (hc : callee (un (ev ρ fv)) (args.toList.map fun x => un (ev ρ x)) = some (f, l)) (hb : aQ P f = true)
  {t : Tg _} (h : aCa P ρ f l (fun O' r => (bP r = true → eF d r = r) ∧ K (aQu O' d r)) t) : OW P nt ops o K ρ := by
 intro ro ds I A a w hs hdf next Q' hn
 obtain ⟨vals, h1, h2, h3⟩ := jN hs hop ho hgf hga hc hb
 obtain ⟨R, hR, hk⟩ := h
 rw [if_pos (by simp [Region.wanted, hg])]
 refine nI h1 ?_
 refine (hR w I A vals hs.osim h2 h3).mono ?_
 rintro e w' ⟨v, I', O', r, rfl, k1, k2, k3, k4, k5, k6⟩
 obtain ⟨j1, j2⟩ := hk O' r k6
 obtain ⟨A', q1, q2⟩ := (hs.called k1 k2 k3 k4).res hd k5 j1 (fun s g c hA => (hs.osim.sep s g c hA).1) k4
 rw [hdst]
 exact hn I' A' _ w' _ q1 (by rw [d4]; exact hdf) q2 j2
end
end Go.Sg
namespace Go.Sg
open Go.RowKit
section
variable {P : Program} {nt : Nat} {ρ : aS} {ops : Array Oper}
theorem nW {o : Oper} {K : aS → Prop} {x : Operand} (hop : o.op = .assign x) (hg : o.guard = none) (ho : dA nt o = true) (hd : eO nt o = true) (h : gd (ev ρ x)) (hK : K (bZ ρ o.dst (un (ev ρ x)))) : OW P nt ops o K ρ :=
 eZ hg fun I A a w hs => by
  have := hs.opd x (bF ho (by simp [hop, Op.operands])) h
  exact ⟨a.eval x, w, I, A, _, by simp [execOp, hop], hs.putV hd this, eA.refl _ _ _, hK⟩
theorem cA {A : cO} {k s : Nat} {v : Option (Option Nat × Nat)} {y : Option Nat × Nat} (h : gE A k v s = some y) : (s = k ∧ v = some y) ∨ (s ≠ k ∧ A s = some y) := by
 unfold gE at h
 split at h
 ·rename_i e; exact .inl ⟨e, h⟩
 rename_i e; exact .inr ⟨e, h⟩
theorem b9.moveOwn' {w : World} {I : Nat → Prop} {A : cO} {a : Act} (hs : b9 nt w I A ρ a) {t d : Nat} (hd : d < nt) (ht : t < nt) (hne : t ≠ d) (hown : bP (ρ t) = true) {x : Value} (hsl : cX w I A t (ρ t) x) :
  ∃ A', b9 nt w I A' (set (cI d (set (cI t ρ) t .any)) d (eF d (eF t (ρ t)))) (a.put (some d) x) ∧ eA w I A w I A' := by
 have hb := hs.bound
 have ho := hs.osim.own t
 have hAt : ∃ B c, A t = some (B, c) := by
  cases hρ : ρ t <;> rw [hρ] at hsl hown <;> first
   | (cases hown; done)
   | (obtain ⟨g, c, h1, _⟩ := hsl; exact ⟨_, c, h1⟩)
   | (obtain ⟨B, c, h1, _⟩ := hsl; exact ⟨B, c, h1⟩)
 obtain ⟨B, c, hA⟩ := hAt
 have hs1 := hs.disown (d := t) (by omega)
 have hc1 : ∀ s, (fun s => s != t) s = true → gE A t none s = A s := fun s h => d5 A _ (by simpa using h)
 have hc2 : ∀ s, (fun s => s != d) s = true → gE (gE A t none) d (some (B, c)) s = gE A t none s := fun s h => d5 _ _ (by simpa using h)
 have hs2 := hs1.own (d := d) hd (B := B) (c := c) (v := eF d (eF t (ρ t))) (x := x) (fun g hg => by
   subst hg
   refine ⟨(hs.osim.sep t g c hA).1, (hs.osim.sep t g c hA).2, fun s c' _ hc => ?_⟩
   rcases cA hc with ⟨_, h⟩ | ⟨h1, h2⟩
   ·cases h
   exact h1 (hs.osim.inj s t g c' c h2 hA))
  (by
   cases hρ : ρ t <;> rw [hρ] at hsl hown <;> try (cases hown; done)
   ·obtain ⟨g, c', h1, h2⟩ := hsl
    rw [hA] at h1
    simp only [Option.some.injEq, Prod.mk.injEq] at h1
    obtain ⟨rfl, rfl⟩ := h1
    unfold eF
    split <;> split <;> first
     | exact .any _ _
     | exact ⟨g, c, cC _ _ _, h2⟩
     | skip
   ·obtain ⟨B', c', h1, h2⟩ := hsl
    rw [hA] at h1
    simp only [Option.some.injEq, Prod.mk.injEq] at h1
    obtain ⟨rfl, rfl⟩ := h1
    exact ⟨B, c, cC _ _ _, h2⟩
   obtain ⟨g, c', h1, h2⟩ := hsl
   rw [hA] at h1
   simp only [Option.some.injEq, Prod.mk.injEq] at h1
   obtain ⟨rfl, rfl⟩ := h1
   exact ⟨g, c, cC _ _ _, h2⟩)
  (by
   cases hρ : ρ t <;> rw [hρ] at ho hown <;> try (cases hown; done)
   ·obtain ⟨g, c', us, et, h1, h2, h3, h4, h5⟩ := ho
    rw [hA] at h1
    simp only [Option.some.injEq, Prod.mk.injEq] at h1
    obtain ⟨rfl, rfl⟩ := h1
    unfold eF
    split
    ·rename_i hk1
     split
     ·rename_i hk2
      exact ⟨g, c, us, et, cC _ _ _, h2, h3, h4, fun j e u he hu => ((h5 j e u he hu).congrA _ (fC (by simpa [d7] using hk1) he) hc1).congrA _ (fC (by simpa [d7] using hk2) he) hc2⟩
     trivial
    trivial
   ·obtain ⟨B', c', h1, h2⟩ := ho
    rw [hA] at h1
    simp only [Option.some.injEq, Prod.mk.injEq] at h1
    obtain ⟨rfl, rfl⟩ := h1
    exact ⟨B, c, cC _ _ _, h2⟩
   obtain ⟨g, c', vs, cl, h1, h2, h3⟩ := ho
   rw [hA] at h1
   simp only [Option.some.injEq, Prod.mk.injEq] at h1
   obtain ⟨rfl, rfl⟩ := h1
   exact ⟨g, c, vs, cl, cC _ _ _, h2, h3⟩)
 refine ⟨_, hs2, ⟨rfl, ⟨rfl, Nat.le_refl _⟩, rfl, Nat.le_refl _, fun _ h => h, fun g hg hAg => ⟨rfl, fun h => h, fun s c' hc => ?_⟩, fun s g c' hc hg hl => ?_, fun s hs' => ?_⟩⟩
 ·rcases cA hc with ⟨_, h⟩ | ⟨_, h⟩
  ·simp only [Option.some.injEq, Prod.mk.injEq] at h
   obtain ⟨rfl, rfl⟩ := h
   exact hAg t c hA
  rcases cA h with ⟨_, h⟩ | ⟨_, h⟩
  ·cases h
  exact hAg s c' h
 ·rcases cA hc with ⟨_, h⟩ | ⟨_, h⟩
  ·simp only [Option.some.injEq, Prod.mk.injEq] at h
   obtain ⟨rfl, rfl⟩ := h
   exact ⟨t, c, by omega, hA⟩
  rcases cA h with ⟨_, h⟩ | ⟨_, h⟩
  ·cases h
  exact ⟨s, c', hl, h⟩
 rw [d5 _ _ (by omega), d5 _ _ (by omega)]
theorem b9.moveOwn {w : World} {I : Nat → Prop} {A : cO} {a : Act} (hs : b9 nt w I A ρ a) {t d : Nat} (hd : d < nt) (ht : t < nt) (hne : t ≠ d) (hown : bP (ρ t) = true) :
  ∃ A', b9 nt w I A' (set (cI d (set (cI t ρ) t .any)) d (eF d (eF t (ρ t)))) (a.put (some d) (a.eval (.tmp t))) ∧ eA w I A w I A' := hs.moveOwn' hd ht hne hown (hs.slot t ht)
theorem aHo {o : Oper} {K : aS → Prop} {t d : Nat} (hop : o.op = .assign (.tmp t)) (hg : o.guard = none) (hdst : o.dst = some d) (hd : d < nt) (ht : t < nt) (hne : t ≠ d) (hown : bP (ρ t) = true)
  (hK : K (set (cI d (set (cI t ρ) t .any)) d (eF d (eF t (ρ t))))) : OW P nt ops o K ρ := by
 refine eZ hg fun I A a w hs => ?_
 obtain ⟨A', h1, h2⟩ := hs.moveOwn hd ht hne hown
 exact ⟨a.eval (.tmp t), w, I, A', _, by simp [execOp, hop], by rw [hdst]; exact h1, h2, hK⟩
theorem aGx {a : Act} {d : Nat} {x : Value} (hd : d < a.tmps.size) (h : a.tmps.getD d undef = x) : a.put (some d) x = a := by
 have : a.tmps.setIfInBounds d x = a.tmps := by
  apply Array.ext (by simp)
  intro i h1 h2
  rw [Array.getElem_setIfInBounds]
  split
  ·rename_i e1
   subst e1
   rw [← h, Array.getD_eq_getD_getElem?, Array.getElem?_eq_getElem hd]; rfl
  rfl
 unfold Act.put
 simp [this]
theorem b9.claim {w : World} {I : Nat → Prop} {A : cO} {a : Act} (hs : b9 nt w I A ρ a) {t d : Nat} (hd : d < nt) (ht : t < nt) (hne : t ≠ d)
  (h : (∃ e z xs, ρ d = .own t xs.length ∧ ρ t = .row e z xs) ∨ (∃ cs, ρ d = .bp t 0 ∧ ρ t = .bx cs)) :
  ∃ A', b9 nt w I A' (set (cI d (set (cI t ρ) t .any)) d (eF d (eF t (ρ t)))) a ∧ eA w I A w I A' := by
 have hown : bP (ρ t) = true := by rcases h with ⟨e, z, xs, _, h⟩ | ⟨cs, _, h⟩ <;> rw [h] <;> rfl
 have hsd := hs.slot d hd
 have hx : cX w I A t (ρ t) (a.tmps.getD d undef) := by
  generalize a.tmps.getD d undef = x at hsd ⊢
  rcases h with ⟨e, z, xs, k1, k2⟩ | ⟨cs, k1, k2⟩
  ·rw [k1] at hsd; rw [k2]
   have hsd : bH w I A (.own t xs.length) x := hsd
   cases hsd with
   | own _ _ _ B' c' b q3 hb => exact ⟨B', c', q3, b, hb, rfl⟩
  rw [k1] at hsd; rw [k2]
  have hsd : bH w I A (.bp t 0) x := hsd
  cases hsd with
  | bp _ _ _ g' c' q3 => exact ⟨g', c', q3, rfl⟩
 obtain ⟨A', h1, h2⟩ := hs.moveOwn' hd ht hne hown hx
 rw [aGx (by rw [hs.size]; exact hd) rfl] at h1
 exact ⟨A', h1, h2⟩
def cD : DV → List DV
 | .agg cs => cs
 | .v (.agg _) => []
 | .v (.tuple _) => []
 | .v x => [.v x]
 | .sl z n f => [.sl z n f]
 | .dp cs => [.dp cs]
 | .bp s o => [.bp s o]
 | .own s n => [.own s n]
 | .rp s z i o => [.rp s z i o]
 | .fn f a b => [.fn f a b]
 | .iface t x => [.iface t x]
 | .ez => [.ez]
 | _ => []
theorem nO {w : World} {I : Nat → Prop} {A : cO} {d : DV} {x : Value} (h : bH w I A d x) (hl : 0 < (cD d).length ∨ ∃ cs, d = .agg cs) :
  (cD d).length = x.cells.size ∧ (∀ u ∈ x.cells.toList, u.oneCell' = true) ∧ ∀ (j : Nat) (e : DV) (u : Value), (cD d)[j]? = some e → x.cells[j]? = some u → bH w I A e u := by
 have one : ∀ (e : DV) (y : Value), bH w I A e y → y.cells = #[y] → y.oneCell' = true → [e].length = y.cells.size ∧ (∀ u ∈ y.cells.toList, u.oneCell' = true) ∧
   ∀ (j : Nat) (e' : DV) (u : Value), [e][j]? = some e' → y.cells[j]? = some u → bH w I A e' u := fun e y he hy hone => by
  rw [hy]
  refine ⟨rfl, by simpa using hone, fun j e' u h1 h2 => ?_⟩
  cases j with
  | zero => simp at h1 h2; subst h1; subst h2; exact he
  | succ j => simp at h1
 cases h with
 | any => rcases hl with h | ⟨cs, h⟩ <;> simp [cD] at h
 | v _ x =>
  cases x <;> first
   | exact one _ _ (.v A _) rfl rfl
   | (rcases hl with h | ⟨cs, h⟩ <;> simp [cD] at h)
 | agg _ cs vs hl' hone hrel => exact ⟨hl', hone, hrel⟩
 | tup _ cs vs hl' hrel => rcases hl with h | ⟨cs, h⟩ <;> simp [cD] at h
 | sl0 _ z f b c => exact one _ _ (.sl0 A z f b c) rfl rfl
 | sl _ z n f b o c us hn hc hm hI hz hcell hone hrel => exact one _ _ (.sl A z n f b o c us hn hc hm hI hz hcell hone hrel) rfl rfl
 | dp _ cs b o us hI hcell hone hrel => exact one _ _ (.dp A cs b o us hI hcell hone hrel) rfl rfl
 | bp _ s off g c h => exact one _ _ (.bp A s off g c h) rfl rfl
 | own _ s n B c b h hb => exact one _ _ (.own A s n B c b h hb) rfl rfl
 | rp _ s z i off g c h => exact one _ _ (.rp A s z i off g c h) rfl rfl
 | fn _ f fs cs us vs hf hc hfr hcr => exact one _ _ (.fn A f fs cs us vs hf hc hfr hcr) rfl rfl
 | iface _ t d x h => exact one _ _ (.iface A t d x h) rfl rfl
 | mr _ s g c h => rcases hl with h | ⟨cs, h⟩ <;> simp [cD] at h
 | ez _ b => exact one _ _ (.ez A b) rfl rfl
theorem b9.newBox {w : World} {I : Nat → Prop} {A : cO} {a : Act} (hs : b9 nt w I A ρ a) {d : Nat} (hd : d < nt) {cs : List DV} {us : Array Value} (t : TypeId) (hl : cs.length = us.size)
  (hone : ∀ u ∈ us.toList, u.oneCell' = true) (hr : ∀ (j : Nat) (e : DV) (u : Value), cs[j]? = some e → us[j]? = some u → bH w I A e u) :
  ∃ A', b9 nt (w.alloc (.cells us t)) I A' (set (cI d ρ) d (eF d (.bx cs))) (a.put (some d) (.pointer (some ⟨w.heap.size, 0, none⟩))) ∧ eA w I A (w.alloc (.cells us t)) I A' := by
 have hb := hs.bound
 have hgr := l1.alloc hs.osim (.cells us t)
 have hs1 := hs.grow hgr
 refine ⟨gE A d (some (some w.heap.size, 0)), ?_, ?_⟩
 ·refine hs1.own hd (fun g hg => ?_) ?_ ?_
  ·cases hg
   refine ⟨by simp, fun hi => ?_, fun s c' _ hc => ?_⟩
   ·have := hs.osim.imm _ hi; omega
   have := (hs.osim.sep s _ c' hc).1; omega
  ·unfold eF
   split
   ·exact ⟨_, 0, cC _ _ _, rfl⟩
   exact .any _ _
  unfold eF
  split
  ·rename_i hk
   refine ⟨w.heap.size, 0, us, t, cC _ _ _, heap_alloc_new w _, hl.symm, hone, fun j e u he hu => ?_⟩
   exact (hgr.rel hs.osim (hr j e u he hu)).congrA _ (fC (by simpa [d7] using hk) he) fun s h => d5 A _ (by simpa using h)
  trivial
 have he := hgr.ext hs.osim
 refine ⟨rfl, ⟨rfl, Nat.le_refl _⟩, rfl, by simp, fun _ h => h, fun g hg hA => ⟨hgr.heap g hg, fun h => h, fun s c hc => ?_⟩, fun s g c hc hg hl' => ?_, fun s h => d5 A _ (by omega)⟩
 ·rcases cA hc with ⟨_, h⟩ | ⟨_, h⟩
  ·simp only [Option.some.injEq, Prod.mk.injEq] at h; omega
  exact hA s c h
 rcases cA hc with ⟨_, h⟩ | ⟨_, h⟩
 ·simp only [Option.some.injEq, Prod.mk.injEq] at h; omega
 exact ⟨s, c, hl', h⟩
theorem bHc {o : Oper} {K : aS → Prop} {t : TypeId} {x : Operand} {d : Nat} (hop : o.op = .box t x) (hg : o.guard = none) (hdst : o.dst = some d) (hd : d < nt) (ho : dA nt o = true) (h : gd (ev ρ x))
  (hl : 0 < (cD (un (ev ρ x))).length ∨ ∃ cs, un (ev ρ x) = .agg cs) (hK : K (set (cI d ρ) d (eF d (.bx (cD (un (ev ρ x))))))) : OW P nt ops o K ρ := by
 refine eZ hg fun I A a w hs => ?_
 have hx := hs.opd x (bF ho (by simp [hop, Op.operands])) h
 obtain ⟨h1, h2, h3⟩ := nO hx hl
 obtain ⟨A', k1, k2⟩ := hs.newBox hd t h1 h2 h3
 exact ⟨.pointer (some ⟨w.heap.size, 0, none⟩), _, I, A', _, by simp [execOp, hop, Instr.box, newVar, newRow], by rw [hdst]; exact k1, k2, hK⟩
def eM (P : Program) (t : TypeId) : Option (List Value) :=
 match P.info? t with
 | some i => match i.zero with
  | some z => if z.cells.toList.all (·.oneCell') then some z.cells.toList else none
  | none => none
 | none => none
theorem iI {t : TypeId} {zs : List Value} (h : eM P t = some zs) : ∃ i z, P.info? t = some i ∧ i.zero = some z ∧ z.cells.toList = zs ∧ ∀ u ∈ zs, u.oneCell' = true := by
 unfold eM at h
 split at h <;> try cases h
 rename_i i hi
 split at h <;> try cases h
 rename_i z hz
 split at h <;> cases h
 rename_i hall
 exact ⟨i, z, hi, hz, rfl, List.all_eq_true.1 hall⟩
theorem aUh {o : Oper} {K : aS → Prop} {t : TypeId} {zs : List Value} {d : Nat} (hop : o.op = .alloc t) (hg : o.guard = none) (hdst : o.dst = some d) (hd : d < nt) (hz : eM P t = some zs)
  (hK : K (set (cI d ρ) d (.bx (zs.map .v)))) : OW P nt ops o K ρ := by
 refine eZ hg fun I A a w hs => ?_
 obtain ⟨i, z, h1, h2, h3, h4⟩ := iI hz
 have hkill : eF d (.bx (zs.map .v)) = .bx (zs.map .v) := by
  unfold eF
  rw [if_pos]
  simp only [d7]
  rw [nB]
  intro e he
  simp at he
  obtain ⟨v, _, rfl⟩ := he
  rfl
 obtain ⟨A', k1, k2⟩ := hs.newBox hd (cs := zs.map .v) (us := z.cells) t (by simp [← h3]) (by rw [h3]; exact h4) (fun j e u he hu => by
  simp only [List.getElem?_map, Option.map_eq_some_iff, ← h3, Array.getElem?_toList] at he
  obtain ⟨y, hy, rfl⟩ := he
  rw [hu] at hy
  cases hy
  exact .v A _)
 rw [hkill] at k1
 refine ⟨.pointer (some ⟨w.heap.size, 0, none⟩), _, I, A', _, ?_, by rw [hdst]; exact k1, k2, hK⟩
 simp [execOp, hop, Instr.alloc, zeroValue, typeInfo, h1, h2, newVar, newRow]
def spl (off : Nat) (cs old : List DV) : List DV :=
 if cs.length = 1 then old.set off (cs.headD .any) else if cs.length = old.length then cs else old.take off ++ cs ++ old.drop (off + cs.length)
theorem zL {off : Nat} {cs old : List DV} (h : off + cs.length ≤ old.length) : spl off cs old = old.take off ++ cs ++ old.drop (off + cs.length) := by
 unfold spl
 split
 ·rename_i h1
  match cs, h1 with
  | [c], _ =>
   simp only [List.headD_cons, List.length_singleton]
   rw [List.set_eq_take_append_cons_drop, if_pos (by simp at h; omega)]
   simp
 split
 ·rename_i h1
  obtain rfl : off = 0 := by omega
  simp [h1]
 rfl
def jH (P : Program) (t : TypeId) : Option Nat := (P.info? t).map (·.size)
theorem vS {w : World} {t : TypeId} {n : Nat} (hz : jH P t = some n) {x : Value} (hn : x.cells.size = n) {g o : Nat} {us : Array Value} {et : TypeId} (hg : w.heap[g]? = some (.cells us et (0, 0)))
  (hl : o + n ≤ us.size) (hone : ∀ u ∈ x.cells.toList, u.oneCell' = true) :
  (Instr.storeAt t (.pointer (some ⟨g, o, none⟩)) x).run P w = .ok () (w.setRow g (us.toList.take o ++ x.cells.toList ++ us.toList.drop (o + n)).toArray) := by
 unfold jH at hz
 cases hi : P.info? t with
 | none => rw [hi] at hz; cases hz
 | some i =>
  rw [hi] at hz
  simp at hz
  have := run_storeCells_at (P := P) g o et x.cells.toList 0 us w hg (by simp [hn]; omega) hone
  simp only [Nat.add_zero, Array.length_toList, hn] at this
  simp [Instr.storeAt, Instr.sureAddr, storeVar, run_sizeOf w hi, Program.cellsOf, hi, hz, hn, this]
theorem bAc {w : World} {I : Nat → Prop} {A : cO} {cs old : List DV} {us vs : Array Value} {off : Nat} (hl : old.length = us.size) (hc : cs.length = vs.size) (h : off + cs.length ≤ old.length)
  (hold : ∀ (j : Nat) (e : DV) (u : Value), old[j]? = some e → us[j]? = some u → bH w I A e u) (hnew : ∀ (j : Nat) (e : DV) (u : Value), cs[j]? = some e → vs[j]? = some u → bH w I A e u) :
  ∀ (j : Nat) (e : DV) (u : Value), (old.take off ++ cs ++ old.drop (off + cs.length))[j]? = some e → (us.toList.take off ++ vs.toList ++ us.toList.drop (off + cs.length))[j]? = some u → bH w I A e u := by
 intro j e u he hu
 rw [List.getElem?_append, List.getElem?_append] at he hu
 simp only [List.length_append, List.length_take, Array.length_toList, ← hl, ← hc, Nat.min_eq_left (show off ≤ old.length by omega)] at he hu
 split at he
 ·rename_i h1
  rw [if_pos h1] at hu
  split at he
  ·rename_i h2
   rw [if_pos h2] at hu
   rw [List.getElem?_take, if_pos h2] at he hu
   rw [Array.getElem?_toList] at hu
   exact hold j e u he hu
  rename_i h2
  rw [if_neg h2] at hu
  rw [Array.getElem?_toList] at hu
  exact hnew _ e u he hu
 rename_i h1
 rw [if_neg h1] at hu
 rw [List.getElem?_drop] at he hu
 rw [Array.getElem?_toList] at hu
 exact hold _ e u he hu
def stB (ρ : aS) (s off n : Nat) (cs : List DV) (c : DV) (K : aS → Prop) : Prop :=
 match c with
 | .bx old => cs.length = n ∧ off + n ≤ old.length ∧ (s < 100000 ∨ dF (fun t => decide (100000 ≤ t)) cs = true) ∧ K (set ρ s (.bx (spl off cs old)))
 | _ => False
theorem bAg {p : Nat → Bool} {off : Nat} {cs old : List DV} (h : off + cs.length ≤ old.length) (h1 : dF p cs = true) (h2 : dF p old = true) : dF p (spl off cs old) = true := by
 rw [zL h, nB]
 rw [nB] at h1 h2
 intro e he
 simp only [List.append_assoc, List.mem_append] at he
 rcases he with he | he | he
 ·exact h2 e (List.mem_of_mem_take he)
 ·exact h1 e he
 exact h2 e (List.mem_of_mem_drop he)
theorem aSd {o : Oper} {K : aS → Prop} {t : TypeId} {ad x : Operand} {n s off : Nat} (hop : o.op = .store t ad x) (hg : o.guard = none) (hdst : o.dst = none) (ho : dA nt o = true)
  (ha : ev ρ ad = .bp s off) (hx : gd (ev ρ x)) (hz : jH P t = some n) (hl : 0 < n) (h : stB ρ s off n (cD (un (ev ρ x))) (ρ s) K) : OW P nt ops o K ρ := by
 refine xN hg fun I A a w hs => ?_
 have hxr := hs.opd x (bF ho (by simp [hop, Op.operands])) hx
 have hadr := hs.opd ad (bF ho (by simp [hop, Op.operands])) (by rw [ha]; trivial)
 rw [ha] at hadr
 have hadr : bH w I A (.bp s off) (a.eval ad) := hadr
 generalize hav : a.eval ad = av at *
 cases hadr with
 | bp _ _ _ g c hA =>
  have hown := hs.osim.own s
  cases hρ : ρ s <;> rw [hρ] at h hown <;> simp only [stB] at h <;> try exact h.elim
  rename_i old
  obtain ⟨h1, h2, h3, hK⟩ := h
  obtain ⟨g', c', us, et, q1, q2, q3, q4, q5⟩ := hown
  rw [hA] at q1
  simp only [Option.some.injEq, Prod.mk.injEq] at q1
  obtain ⟨rfl, rfl⟩ := q1
  obtain ⟨k1, k2, k3⟩ := nO hxr (.inl (by omega))
  have hrun := vS (P := P) (w := w) hz (x := a.eval x) (by omega) q2 (o := off) (by omega) k2
  rw [← h1] at hrun
  generalize hnew : (us.toList.take off ++ (a.eval x).cells.toList ++ us.toList.drop (off + (cD (un (ev ρ x))).length)).toArray = new at hrun
  have hI : ∀ {B : cO} {d : DV} {v : Value}, bH w I B d v → bH (w.setRow g new) I B d v := fun hr =>
   hr.mono fun g' hg' => ⟨hg', fun o => cY (setRow_other w g g' _ (fun e => (hs.osim.sep s g c hA).2 (e ▸ hg'))) o⟩
  refine ⟨w.setRow g new, I, A, _, ?_, ?_, eA.turn hA new, hK⟩
  ·simp only [execOp, hop, Sem.run_bind, hav, hrun, Result.andThen_ok, Sem.run_pure]
  rw [hdst]
  refine hs.turn hA q2 (fun v hv => ?_) ?_ fun hs' => ?_
  ·rw [hρ] at hv; exact hv
  ·rw [zL (by omega)]
   subst hnew
   refine ⟨g, c, _, et, hA, setRow_heap w g us _ et _ q2, by simp; omega, fun u hu => ?_, fun j e u he hu => hI (bAc q3.symm k1 (by omega) q5 k3 j e u he (by simpa using hu))⟩
   simp only [List.append_assoc, List.mem_append] at hu
   rcases hu with hu | hu | hu
   ·exact q4 u (List.mem_of_mem_take hu)
   ·exact k2 u hu
   exact q4 u (List.mem_of_mem_drop hu)
  have := hs.out s hs'
  rw [hρ] at this
  refine show d7 _ (.bx _) = true from ?_
  simp only [d7]
  exact bAg (by omega) (h3.resolve_left (by omega)) (by simpa [cM, d7] using this)
end
end Go.Sg
namespace Go.Sg
open Go.RowKit
def kH (P : Program) (t : TypeId) : Option (TypeId × Nat × Nat) :=
 match P.underlying t with
 | some (.slice e) => (P.info? e).map fun i => (e, i.size, i.bytes)
 | _ => none
section
variable {P : Program} {nt : Nat} {ρ : aS} {ops : Array Oper}
theorem h9 {t : TypeId} {e : TypeId} {z b : Nat} (h : kH P t = some (e, z, b)) : P.underlying t = some (.slice e) ∧ ∃ i, P.info? e = some i ∧ i.size = z ∧ i.bytes = b := by
 unfold kH at h
 split at h <;> try cases h
 rename_i e' hu
 cases hi : P.info? e' with
 | none => rw [hi] at h; cases h
 | some i =>
  rw [hi] at h
  simp at h
  obtain ⟨rfl, rfl, rfl⟩ := h
  exact ⟨hu, i, hi, rfl, rfl⟩
theorem b9.newRow {w : World} {I : Nat → Prop} {A : cO} {a : Act} (hs : b9 nt w I A ρ a) {d : Nat} (hd : d < nt) {e : TypeId} {z c : Nat} {xs : List (List DV)} {us : Array Value} (hu : us.size = c * z) (hc : c ≤ maxLen) (hx : xs.length ≤ c)
  (hr : ∀ (i : Nat) (x : List DV), xs[i]? = some x → x.length = z ∧ ∀ (j : Nat) (d : DV) (u : Value), x[j]? = some d → us[i * z + j]? = some u → u.oneCell' = true ∧ bH w I cU d u) :
  ∃ A', b9 nt (w.alloc (.cells us e)) I A' (set (cI d ρ) d (.row e z xs)) (a.put (some d) (.slice (some ⟨w.heap.size, 0, none⟩) xs.length c)) ∧ eA w I A (w.alloc (.cells us e)) I A' := by
 have hb := hs.bound
 have hgr := l1.alloc hs.osim (.cells us e)
 have hs1 := hs.grow hgr
 refine ⟨gE A d (some (some w.heap.size, c)), ?_, ?_⟩
 ·refine hs1.own hd (fun g hg => ?_) ⟨_, c, cC _ _ _, _, qJ _, rfl⟩ ⟨_, c, cC _ _ _, us, heap_alloc_new w _, hu, hc, hx, fun i x hx => ⟨(hr i x hx).1, fun j d' u h1 h2 => ⟨((hr i x hx).2 j d' u h1 h2).1, hgr.rel hs.osim ((hr i x hx).2 j d' u h1 h2).2⟩⟩⟩
  cases hg
  refine ⟨by simp, fun hi => ?_, fun s c' _ hc => ?_⟩
  ·have := hs.osim.imm _ hi; omega
  have := (hs.osim.sep s _ c' hc).1; omega
 refine ⟨rfl, ⟨rfl, Nat.le_refl _⟩, rfl, by simp, fun _ h => h, fun g hg hA => ⟨hgr.heap g hg, fun h => h, fun s c hc => ?_⟩, fun s g c hc hg hl' => ?_, fun s h => d5 A _ (by omega)⟩
 ·rcases cA hc with ⟨_, h⟩ | ⟨_, h⟩
  ·simp only [Option.some.injEq, Prod.mk.injEq] at h; omega
  exact hA s c h
 rcases cA hc with ⟨_, h⟩ | ⟨_, h⟩
 ·simp only [Option.some.injEq, Prod.mk.injEq] at h; omega
 exact ⟨s, c, hl', h⟩
theorem b9.newData {w : World} {I : Nat → Prop} {A : cO} {a : Act} (hs : b9 nt w I A ρ a) (e : TypeId) (us : Array Value) :
  l1 w I (w.alloc (.cells us e)) (fun g => I g ∨ g = w.heap.size) :=
 ⟨rfl, ⟨rfl, Nat.le_refl _⟩, rfl, by simp, fun g hg => Below.heap_alloc w _ g hg, fun _ h => .inl h, fun g h => h.imp id fun e => ⟨by omega, by simp [e]⟩⟩
theorem aEb {o : Oper} {K : aS → Prop} {t : TypeId} {x y : Operand} {d : Nat} {e : TypeId} {z by_ : Nat} {zs : List Value} {k k' : IntKind} {n c : Int} (hop : o.op = .makeSlice t x y) (hg : o.guard = none) (hdst : o.dst = some d) (hd : d < nt)
  (ho : dA nt o = true) (hx : ev ρ x = .v (.int k n)) (hy : ev ρ y = .v (.int k' c)) (hs : kH P t = some (e, z, by_)) (hz : eM P e = some zs) (hzl : zs.length = z) (h0 : 0 ≤ n) (h1 : n ≤ c) (h2 : c ≤ 9223372036854775807)
  (h3 : c * by_ ≤ 140737488355328) (hK : K (set (cI d ρ) d (.row e z (List.replicate n.toNat (zs.map .v))))) : OW P nt ops o K ρ := by
 obtain ⟨hu, i, hi, rfl, rfl⟩ := h9 hs
 obtain ⟨i', zv, hi', hzv, rfl, hone⟩ := iI hz
 rw [hi] at hi'
 cases hi'
 refine eZ hg fun I A a w hsim => ?_
 have hxr := hsim.opd x (bF ho (by simp [hop, Op.operands])) (by rw [hx]; trivial)
 have hyr := hsim.opd y (bF ho (by simp [hop, Op.operands])) (by rw [hy]; trivial)
 rw [hx] at hxr
 rw [hy] at hyr
 have hxe : a.eval x = .int k n := by
  have hxr : bH w I A (.v (.int k n)) (a.eval x) := hxr
  generalize a.eval x = q at hxr ⊢
  cases hxr; rfl
 have hye : a.eval y = .int k' c := by
  have hyr : bH w I A (.v (.int k' c)) (a.eval y) := hyr
  generalize a.eval y = q at hyr ⊢
  cases hyr; rfl
 have hwn : IntKind.i64.wrap n = n := IntWalk.i64_in n ⟨by omega, by omega⟩
 have hwc : IntKind.i64.wrap c = c := IntWalk.i64_in c ⟨by omega, by omega⟩
 have hzs : zv.cells.size = i.size := by simpa using hzl
 obtain ⟨us, husd⟩ : ∃ us : Array Value, us = (Array.range (c.toNat * i.size)).map (zv.cells[· % zv.cells.size]!) := ⟨_, rfl⟩
 have hus : us.size = c.toNat * i.size := by simp [husd]
 have hget : ∀ m r, m < c.toNat → r < i.size → us[m * i.size + r]? = zv.cells[r]? := fun m r hm hr => by
  have hlt : m * i.size + r < c.toNat * i.size := by
   have : (m + 1) * i.size ≤ c.toNat * i.size := Nat.mul_le_mul_right _ (by omega)
   rw [Nat.succ_mul] at this
   omega
  have e1 : (m * i.size + r) % zv.cells.size = r := by rw [hzs, Nat.mul_comm, Nat.mul_add_mod, Nat.mod_eq_of_lt hr]
  simp only [husd, Array.getElem?_map, Array.getElem?_range, hlt, if_true, Option.map_some, e1]
  rw [Array.getElem?_eq_getElem (by omega), getElem!_pos _ _ (by omega)]
 have hrun : (execOp a.eval o).run P w = .ok (.value (.slice (some ⟨w.heap.size, 0, none⟩) n.toNat c.toNat)) (w.alloc (.cells us e)) := by
  simp only [execOp, hop, hxe, hye, Instr.makeSlice, asInt, asIntOf, Sem.run_bind, run_underlying hu, Result.andThen_ok, Sem.run_pure, run_typeInfo w hi, hwn, hwc, run_askRoom, run_sizeOf w hi, Program.cellsOf, hi, Option.map_some, Option.getD_some]
  have hcond : (decide (c < 0) || decide ((i.bytes : Int) * c > 2 ^ 48) || decide (n < 0) || decide (n > c)) = false := by
   have hc48 : (i.bytes : Int) * c ≤ 140737488355328 := by rw [Int.mul_comm]; exact h3
   have e48 : (2 : Int) ^ 48 = 281474976710656 := by decide
   simp only [Bool.or_eq_false_iff, decide_eq_false_iff_not, e48]
   omega
  rw [hcond, if_neg (by simp)]
  simp only [Sem.run_bind, run_askRoom, Result.andThen_ok, run_sizeOf w hi, Program.cellsOf, hi, Option.map_some, Option.getD_some]
  by_cases hzero : c.toNat * i.size = 0
  ·have he : us = #[] := by
    apply Array.eq_empty_of_size_eq_zero
    rw [hus, hzero]
   rw [if_pos hzero, he]
   simp [newRow, hzero, Array.range_zero']
  rw [if_neg hzero]
  simp [zeroValue, run_typeInfo w hi, hzv, newRow, husd]
 obtain ⟨A', k1, k2⟩ := hsim.newRow hd (e := e) (z := i.size) (c := c.toNat) (xs := List.replicate n.toNat (zv.cells.toList.map .v)) (us := us) hus (by unfold maxLen; omega) (by simp; omega) (fun m x hx => by
  rw [List.getElem?_replicate] at hx
  split at hx <;> cases hx
  rename_i hm
  refine ⟨by simp [hzs], fun r dv u hd hu => ?_⟩
  simp only [List.getElem?_map, Option.map_eq_some_iff, Array.getElem?_toList] at hd
  obtain ⟨q, hq, rfl⟩ := hd
  have hr : r < i.size := by
   rw [← hzs]
   rcases Nat.lt_or_ge r zv.cells.size with h | h
   ·exact h
   rw [Array.getElem?_eq_none h] at hq; cases hq
  rw [hget m r (by omega) hr, hq] at hu
  cases hu
  exact ⟨hone _ (by simpa using Array.mem_of_getElem? hq), .v _ _⟩)
 refine ⟨_, _, I, A', _, hrun, ?_, k2, hK⟩
 rw [hdst]
 simpa using k1
def bsL (ρ : aS) (parts : List (Nat × Operand)) : List (List DV) := parts.map fun p => cD (un (ev ρ p.2))
def zP (ρ : aS) (z : Nat) : Nat → List (Nat × Operand) → Prop
 | _, [] => True
 | k, p :: l => p.1 = k ∧ gd (ev ρ p.2) ∧ (cD (un (ev ρ p.2))).length = z ∧ dF (fun _ => false) (cD (un (ev ρ p.2))) = true ∧ zP ρ z (k + 1) l
theorem l3 {z : Nat} : ∀ {parts : List (Nat × Operand)} {k : Nat}, zP ρ z k parts → ∀ (j : Nat) (p : Nat × Operand), parts[j]? = some p →
  p.1 = k + j ∧ gd (ev ρ p.2) ∧ (cD (un (ev ρ p.2))).length = z ∧ dF (fun _ => false) (cD (un (ev ρ p.2))) = true
 | [], _, _, j, p, hp => by simp at hp
 | q :: l, k, h, j, p, hp => by
  obtain ⟨h1, h2, h3, h4, h5⟩ := h
  cases j with
  | zero => simp at hp; subst hp; exact ⟨by omega, h2, h3, h4⟩
  | succ j =>
   have := l3 h5 j p (by simpa using hp)
   exact ⟨by omega, this.2⟩
theorem aCr (off : Nat) (xs : List Value) : ∀ (cs : Array Value) (k : Nat), off + k + xs.length ≤ cs.size →
  ((xs.zipIdx k).foldl (fun cs (p : Value × Nat) => cs.setIfInBounds (off + p.2) p.1) cs).size = cs.size ∧
  ∀ q, ((xs.zipIdx k).foldl (fun cs (p : Value × Nat) => cs.setIfInBounds (off + p.2) p.1) cs)[q]? = if off + k ≤ q ∧ q < off + k + xs.length then xs[q - (off + k)]? else cs[q]? := by
 induction xs with
 | nil => intro cs k h; exact ⟨rfl, fun q => by rw [if_neg (by simp)]; rfl⟩
 | cons x xs ih =>
  intro cs k h
  simp only [List.length_cons] at h
  obtain ⟨h1, h2⟩ := ih (cs.setIfInBounds (off + k) x) (k + 1) (by simp; omega)
  rw [List.zipIdx_cons, List.foldl_cons]
  refine ⟨by rw [h1]; simp, fun q => ?_⟩
  rw [h2 q, List.length_cons, Array.getElem?_setIfInBounds]
  by_cases hq : q = off + k
  ·subst hq
   rw [if_neg (by omega), if_pos rfl, if_pos (by omega), if_pos (by omega)]
   simp
  by_cases h3 : off + (k + 1) ≤ q ∧ q < off + (k + 1) + xs.length
  ·rw [if_pos h3, if_pos (by omega)]
   obtain ⟨m, rfl⟩ : ∃ m, q = off + k + 1 + m := ⟨q - (off + k + 1), by omega⟩
   rw [show off + k + 1 + m - (off + k) = m + 1 from by omega, show off + k + 1 + m - (off + (k + 1)) = m from by omega]
   simp
  rw [if_neg h3, if_neg (fun e => hq e.symm), if_neg (by omega)]
theorem vJ (place : Nat → Option (Nat × Nat)) : ∀ (parts : List (Nat × Value)) (cells : Array Value),
  (∀ (j i : Nat) (v : Value), parts[j]? = some (i, v) → ∃ off, place i = some (off, v.cells.size) ∧ off + v.cells.size ≤ cells.size) →
  ∃ out, Instr.fill place cells parts = some out ∧ out.size = cells.size ∧
   ∀ q, (∃ (j i : Nat) (v : Value) (off : Nat), parts[j]? = some (i, v) ∧ place i = some (off, v.cells.size) ∧ off ≤ q ∧ q < off + v.cells.size ∧ out[q]? = v.cells[q - off]?) ∨
    ((∀ (j i : Nat) (v : Value) (off : Nat), parts[j]? = some (i, v) → place i = some (off, v.cells.size) → ¬ (off ≤ q ∧ q < off + v.cells.size)) ∧ out[q]? = cells[q]?)
 | [], cells, _ => ⟨cells, rfl, rfl, fun q => .inr ⟨by simp, rfl⟩⟩
 | (i, v) :: rest, cells, h => by
  obtain ⟨off, hp, hl⟩ := h 0 i v (by simp)
  obtain ⟨f1, f2⟩ := aCr off v.cells.toList cells 0 (by simp; omega)
  simp only [Nat.add_zero, Array.length_toList] at f1 f2
  have hzip : (v.cells.zipIdx.foldl (fun cs (p : Value × Nat) => cs.setIfInBounds (off + p.2) p.1) cells) = (v.cells.toList.zipIdx 0).foldl (fun cs (p : Value × Nat) => cs.setIfInBounds (off + p.2) p.1) cells := by
   rw [← Array.foldl_toList, Array.toList_zipIdx]
  obtain ⟨out, o1, o2, o3⟩ := vJ place rest ((v.cells.toList.zipIdx 0).foldl (fun cs (p : Value × Nat) => cs.setIfInBounds (off + p.2) p.1) cells) (fun j i' v' hj => by
   obtain ⟨off', k1, k2⟩ := h (j + 1) i' v' (by simpa using hj)
   exact ⟨off', k1, by rw [f1]; exact k2⟩)
  refine ⟨out, ?_, o2.trans f1, fun q => ?_⟩
  ·unfold Instr.fill
   simp only [hp]
   rw [if_neg (by simp; omega)]
   rw [← hzip] at o1
   exact o1
  rcases o3 q with ⟨j, i', v', off', k1, k2, k3, k4, k5⟩ | ⟨k1, k2⟩
  ·exact .inl ⟨j + 1, i', v', off', by simpa using k1, k2, k3, k4, k5⟩
  rw [k2, f2 q]
  by_cases hq : off ≤ q ∧ q < off + v.cells.size
  ·rw [if_pos hq]
   exact .inl ⟨0, i, v, off, by simp, hp, hq.1, hq.2, by simp⟩
  rw [if_neg hq]
  refine .inr ⟨fun j i' v' off' hj hp' => ?_, rfl⟩
  cases j with
  | zero =>
   simp at hj
   obtain ⟨rfl, rfl⟩ := hj
   rw [hp] at hp'
   simp at hp'
   subst hp'
   exact hq
  | succ j => exact k1 j i' v' off' (by simpa using hj) hp'
theorem kL {z i q : Nat} (hz : 0 < z) (h1 : i * z ≤ q) (h2 : q < i * z + z) : q / z = i := by
 obtain ⟨r, rfl⟩ : ∃ r, q = i * z + r := ⟨q - i * z, by omega⟩
 rw [Nat.add_comm, Nat.add_mul_div_right _ _ hz, Nat.div_eq_of_lt (by omega)]
 omega
theorem aXq {o : Oper} {K : aS → Prop} {t : TypeId} {n : Nat} {parts : Array (Nat × Operand)} {d : Nat} {e : TypeId} {z by_ : Nat} {zs : List Value} (hop : o.op = .buildSlice t n parts) (hg : o.guard = none) (hdst : o.dst = some d) (hd : d < nt)
  (ho : dA nt o = true) (hs : kH P t = some (e, z, by_)) (hz : eM P e = some zs) (hz0 : 0 < z) (hn0 : 0 < n) (hn : n * z ≤ 16777216) (hl : parts.toList.length = n) (hp : zP ρ z 0 parts.toList)
  (hK : K (set ρ d (.sl z n fun i => (bsL ρ parts.toList).getD i []))) : OW P nt ops o K ρ := by
 obtain ⟨hu, i, hi, rfl, rfl⟩ := h9 hs
 obtain ⟨i', zv, hi', hzv, rfl, _⟩ := iI hz
 rw [hi] at hi'
 cases hi'
 refine eZ hg fun I A a w hsim => ?_
 have hpart : ∀ (j : Nat) (p : Nat × Operand), parts.toList[j]? = some p → p.1 = j ∧ (a.eval p.2).cells.size = i.size ∧ (∀ u ∈ (a.eval p.2).cells.toList, u.oneCell' = true) ∧
   ∀ (r : Nat) (x : DV) (u : Value), (cD (un (ev ρ p.2)))[r]? = some x → (a.eval p.2).cells[r]? = some u → bH w I cU x u := fun j p hj => by
  obtain ⟨h1, h2, h3, h4⟩ := l3 hp j p hj
  have hx := hsim.opd p.2 (bF ho (by
   simp only [hop, Op.operands]
   simp
   exact ⟨p.1, by have := List.mem_of_getElem? hj; simpa using this⟩)) h2
  obtain ⟨k1, k2, k3⟩ := nO hx (.inl (by omega))
  exact ⟨by omega, by omega, k2, fun r x u hx hu => (k3 r x u hx hu).pure (fC h4 hx)⟩
 let vparts : List (Nat × Value) := parts.toList.map fun p => (p.1, a.eval p.2)
 have hv : ∀ (j k : Nat) (v : Value), vparts[j]? = some (k, v) → ∃ p, parts.toList[j]? = some p ∧ p.1 = k ∧ a.eval p.2 = v := fun j k v h => by
  simp only [vparts, List.getElem?_map, Option.map_eq_some_iff] at h
  obtain ⟨p, hp, he⟩ := h
  simp at he
  exact ⟨p, hp, he.1, he.2⟩
 obtain ⟨zero, hzero⟩ : ∃ zero : Array Value, zero = (Array.range (n * i.size)).map (zv.cells[· % zv.cells.size]!) := ⟨_, rfl⟩
 have hzsz : zero.size = n * i.size := by simp [hzero]
 obtain ⟨out, o1, o2, o3⟩ := vJ (fun k => some (k * i.size, i.size)) vparts zero (fun j k v h => by
  obtain ⟨p, hpj, rfl, rfl⟩ := hv j k v h
  obtain ⟨h1, h2, _⟩ := hpart j p hpj
  have hjn : j < n := by
   rw [← hl]
   rcases Nat.lt_or_ge j parts.toList.length with h | h
   ·exact h
   rw [List.getElem?_eq_none h] at hpj; cases hpj
  refine ⟨p.1 * i.size, by rw [h2], ?_⟩
  rw [hzsz, h2, h1]
  have : (j + 1) * i.size ≤ n * i.size := Nat.mul_le_mul_right _ hjn
  rw [Nat.succ_mul] at this
  exact this)
 rw [hzsz] at o2
 have hout : ∀ (j : Nat) (p : Nat × Operand) (r : Nat), parts.toList[j]? = some p → r < i.size → out[j * i.size + r]? = (a.eval p.2).cells[r]? := fun j p r hj hr => by
  obtain ⟨h1, h2, _⟩ := hpart j p hj
  have hvj : vparts[j]? = some (p.1, a.eval p.2) := by simp only [vparts, List.getElem?_map, hj]; rfl
  rcases o3 (j * i.size + r) with ⟨j', k, v, off, k1, k2, k3, k4, k5⟩ | ⟨k1, _⟩
  ·obtain ⟨p', hp', rfl, rfl⟩ := hv j' k v k1
   obtain ⟨h1', h2', _⟩ := hpart j' p' hp'
   simp only [Option.some.injEq, Prod.mk.injEq] at k2
   obtain ⟨rfl, _⟩ := k2
   have e1 := kL (z := i.size) (i := p'.1) hz0 k3 (by omega)
   have e2 := kL (z := i.size) (i := j) (q := j * i.size + r) hz0 (by omega) (by omega)
   have : j' = j := by omega
   subst this
   rw [hj] at hp'
   cases hp'
   rw [k5, h1]
   congr 1
   omega
  exact absurd ⟨by rw [h1]; omega, by rw [h1, h2]; omega⟩ (k1 j p.1 _ (p.1 * i.size) hvj (by rw [h2]))
 have hgr := hsim.newData e out
 refine ⟨.slice (some ⟨w.heap.size, 0, none⟩) n n, _, _, A, _, ?_, ?_, hgr.ext hsim.osim, hK⟩
 ·have hne : n * i.size ≠ 0 := by
   have := Nat.mul_pos hn0 hz0
   omega
  have hmap : (parts.map fun p => (p.1, a.eval p.2)).toList = vparts := by simp [vparts]
  have h24 : ¬ (n * i.size > 2 ^ 24) := by
   have : (2 : Nat) ^ 24 = 16777216 := by decide
   omega
  simp only [execOp, hop, Instr.buildSlice, Sem.run_bind, run_underlying hu, Result.andThen_ok, run_sizeOf w hi, Program.cellsOf, hi, Option.map_some, Option.getD_some, h24, if_false, hne, zeroValue, run_typeInfo w hi, hzv, Sem.run_pure, Sem.run_ite]
  simp only [hmap]
  rw [← hzero, o1]
  simp [newRow]
 rw [hdst]
 refine (hsim.grow hgr).put hd (.ofRel ?_) (.ofPure rfl)
 have hgetp : ∀ m, m < n → ∃ p, parts.toList[m]? = some p ∧ (bsL ρ parts.toList).getD m [] = cD (un (ev ρ p.2)) := fun m hm => by
  have h1 : parts.toList[m]? = some (parts.toList[m]'(by omega)) := List.getElem?_eq_getElem (by omega)
  exact ⟨_, h1, by simp only [bsL, List.getD_eq_getElem?_getD, List.getElem?_map, h1]; rfl⟩
 refine .sl A i.size n _ w.heap.size 0 n (fun m r => out.getD (m * i.size + r) undef) hn0 (Nat.le_refl _) ?_ (.inr rfl) (fun m hm => ?_) (fun m r hm hr => ?_) (fun m r hm hr => ?_) fun m r x hm hx => ?_
 ·unfold maxLen
  have : n * 1 ≤ n * i.size := Nat.mul_le_mul_left _ hz0
  omega
 ·obtain ⟨p, hp1, hp2⟩ := hgetp m hm
  rw [hp2]
  exact (l3 hp m p hp1).2.2.1
 ·obtain ⟨p, hp1, hp2⟩ := hgetp m hm
  have hlt : m * i.size + r < out.size := by
   rw [o2]
   have : (m + 1) * i.size ≤ n * i.size := Nat.mul_le_mul_right _ hm
   rw [Nat.succ_mul] at this
   omega
  rw [Nat.zero_add, World.cell?_alloc_new]
  simp [Array.getElem?_eq_getElem hlt]
 ·obtain ⟨p, hp1, hp2⟩ := hgetp m hm
  obtain ⟨_, h2, h3, _⟩ := hpart m p hp1
  have := hout m p r hp1 hr
  rw [Array.getElem?_eq_getElem (show r < (a.eval p.2).cells.size by omega)] at this
  simp only [Array.getD_eq_getD_getElem?, this, Option.getD_some]
  exact h3 _ (by simp)
 obtain ⟨p, hp1, hp2⟩ := hgetp m hm
 rw [hp2] at hx
 obtain ⟨_, h2, _, h4⟩ := hpart m p hp1
 have hr : r < i.size := by
  rw [← (l3 hp m p hp1).2.2.1]
  rcases Nat.lt_or_ge r (cD (un (ev ρ p.2))).length with h | h
  ·exact h
  rw [List.getElem?_eq_none h] at hx; cases hx
 have := hout m p r hp1 hr
 rw [Array.getElem?_eq_getElem (show r < (a.eval p.2).cells.size by omega)] at this
 simp only [Array.getD_eq_getD_getElem?, this, Option.getD_some]
 exact hgr.rel hsim.osim (h4 r x _ hx (by simp [Array.getElem?_eq_getElem (show r < (a.eval p.2).cells.size by omega)]))
theorem bFx {o : Oper} {K : aS → Prop} {t : TypeId} {x y : Operand} {d : Nat} {e : TypeId} {z by_ : Nat} {zs : List Value} {k k' : IntKind} {n c : Int} (hop : o.op = .makeSlice t x y) (hg : o.guard = none) (hdst : o.dst = some d) (hd : d < nt)
  (ho : dA nt o = true) (hx : ev ρ x = .v (.int k n)) (hy : ev ρ y = .v (.int k' c)) (hs : kH P t = some (e, z, by_)) (hz : eM P e = some zs) (hzl : zs.length = z) (h0 : 0 ≤ n) (h1 : n ≤ c) (h2 : c ≤ 9223372036854775807)
  (h3 : c * by_ ≤ 140737488355328) (hK : K (set ρ d (.sl z n.toNat fun _ => zs.map .v))) : OW P nt ops o K ρ := by
 obtain ⟨hu, i, hi, rfl, rfl⟩ := h9 hs
 obtain ⟨i', zv, hi', hzv, rfl, hone⟩ := iI hz
 rw [hi] at hi'
 cases hi'
 refine eZ hg fun I A a w hsim => ?_
 have hxr := hsim.opd x (bF ho (by simp [hop, Op.operands])) (by rw [hx]; trivial)
 have hyr := hsim.opd y (bF ho (by simp [hop, Op.operands])) (by rw [hy]; trivial)
 rw [hx] at hxr
 rw [hy] at hyr
 have hxe : a.eval x = .int k n := by
  have hxr : bH w I A (.v (.int k n)) (a.eval x) := hxr
  generalize a.eval x = q at hxr ⊢
  cases hxr; rfl
 have hye : a.eval y = .int k' c := by
  have hyr : bH w I A (.v (.int k' c)) (a.eval y) := hyr
  generalize a.eval y = q at hyr ⊢
  cases hyr; rfl
 have hwn : IntKind.i64.wrap n = n := IntWalk.i64_in n ⟨by omega, by omega⟩
 have hwc : IntKind.i64.wrap c = c := IntWalk.i64_in c ⟨by omega, by omega⟩
 have hzs : zv.cells.size = i.size := by simpa using hzl
 obtain ⟨us, husd⟩ : ∃ us : Array Value, us = (Array.range (c.toNat * i.size)).map (zv.cells[· % zv.cells.size]!) := ⟨_, rfl⟩
 have hus : us.size = c.toNat * i.size := by simp [husd]
 have hget : ∀ m r, m < c.toNat → r < i.size → us[m * i.size + r]? = zv.cells[r]? := fun m r hm hr => by
  have hlt : m * i.size + r < c.toNat * i.size := by
   have : (m + 1) * i.size ≤ c.toNat * i.size := Nat.mul_le_mul_right _ (by omega)
   rw [Nat.succ_mul] at this
   omega
  have e1 : (m * i.size + r) % zv.cells.size = r := by rw [hzs, Nat.mul_comm, Nat.mul_add_mod, Nat.mod_eq_of_lt hr]
  simp only [husd, Array.getElem?_map, Array.getElem?_range, hlt, if_true, Option.map_some, e1]
  rw [Array.getElem?_eq_getElem (by omega), getElem!_pos _ _ (by omega)]
 have hrun : (execOp a.eval o).run P w = .ok (.value (.slice (some ⟨w.heap.size, 0, none⟩) n.toNat c.toNat)) (w.alloc (.cells us e)) := by
  simp only [execOp, hop, hxe, hye, Instr.makeSlice, asInt, asIntOf, Sem.run_bind, run_underlying hu, Result.andThen_ok, Sem.run_pure, run_typeInfo w hi, hwn, hwc, run_askRoom, run_sizeOf w hi, Program.cellsOf, hi, Option.map_some, Option.getD_some]
  have hcond : (decide (c < 0) || decide ((i.bytes : Int) * c > 2 ^ 48) || decide (n < 0) || decide (n > c)) = false := by
   have hc48 : (i.bytes : Int) * c ≤ 140737488355328 := by rw [Int.mul_comm]; exact h3
   have e48 : (2 : Int) ^ 48 = 281474976710656 := by decide
   simp only [Bool.or_eq_false_iff, decide_eq_false_iff_not, e48]
   omega
  rw [hcond, if_neg (by simp)]
  simp only [Sem.run_bind, run_askRoom, Result.andThen_ok, run_sizeOf w hi, Program.cellsOf, hi, Option.map_some, Option.getD_some]
  by_cases hzero : c.toNat * i.size = 0
  ·have he : us = #[] := by
    apply Array.eq_empty_of_size_eq_zero
    rw [hus, hzero]
   rw [if_pos hzero, he]
   simp [newRow, hzero, Array.range_zero']
  rw [if_neg hzero]
  simp [zeroValue, run_typeInfo w hi, hzv, newRow, husd]
 have hgr := hsim.newData e us
 refine ⟨_, _, _, A, _, hrun, ?_, hgr.ext hsim.osim, hK⟩
 rw [hdst]
 refine (hsim.grow hgr).put hd (.ofRel ?_) (.ofPure rfl)
 rcases Nat.eq_zero_or_pos n.toNat with h00 | h00
 ·rw [h00]; exact .sl0 A _ _ _ _
 refine .sl A i.size n.toNat _ w.heap.size 0 c.toNat (fun m r => us.getD (m * i.size + r) undef) h00 (by omega) (by unfold maxLen; omega) (.inr rfl) (fun m hm => by simp [hzs]) (fun m r hm hr => ?_) (fun m r hm hr => ?_) fun m r x hm hx => ?_
 ·have hlt : m * i.size + r < us.size := by
   rw [hus]
   have : (m + 1) * i.size ≤ c.toNat * i.size := Nat.mul_le_mul_right _ (by omega)
   rw [Nat.succ_mul] at this
   omega
  rw [Nat.zero_add, World.cell?_alloc_new]
  simp [Array.getElem?_eq_getElem hlt]
 ·have := hget m r (by omega) hr
  simp only [Array.getD_eq_getD_getElem?, this]
  rw [Array.getElem?_eq_getElem (by omega)]
  exact hone _ (by simp)
 have hr : r < i.size := by
  have := (List.getElem?_eq_some_iff.1 hx).1
  simpa [hzs] using this
 have := hget m r (by omega) hr
 simp only [Array.getD_eq_getD_getElem?, this]
 simp only [List.getElem?_map, Option.map_eq_some_iff, Array.getElem?_toList] at hx
 obtain ⟨q, hq, rfl⟩ := hx
 rw [hq]
 exact .v _ _
theorem aZt {o : Oper} {K : aS → Prop} {t : TypeId} {d : Nat} {e : TypeId} {z by_ : Nat} (hop : o.op = .buildSlice t 0 #[]) (hg : o.guard = none) (hdst : o.dst = some d) (hd : eO nt o = true)
  (hs : kH P t = some (e, z, by_)) (hK : K (set ρ d .ez)) : OW P nt ops o K ρ := by
 obtain ⟨hu, i, hi, rfl, rfl⟩ := h9 hs
 refine eZ hg fun I A a w hsim => ?_
 have hgr := l1.alloc hsim.osim (.cells #[] e)
 have hs1 := hsim.grow hgr
 refine ⟨.slice (some ⟨w.heap.size, 0, none⟩) 0 0, w.alloc (.cells #[] e), I, A, _, ?_, hs1.putV hd (.ez A _), hgr.ext hsim.osim, by rw [hdst]; exact hK⟩
 simp [execOp, hop, Instr.buildSlice, run_underlying hu, run_sizeOf w hi, Program.cellsOf, hi, Instr.fill, newRow, Array.range_zero']
theorem bAn {o : Oper} {K : aS → Prop} {t : TypeId} {d : Nat} {e : TypeId} {z by_ : Nat} (hop : o.op = .buildSlice t 0 #[]) (hg : o.guard = none) (hdst : o.dst = some d) (hd : d < nt)
  (hs : kH P t = some (e, z, by_)) (hK : K (set (cI d ρ) d (.row e z []))) : OW P nt ops o K ρ := by
 obtain ⟨hu, i, hi, rfl, rfl⟩ := h9 hs
 refine eZ hg fun I A a w hsim => ?_
 obtain ⟨A', k1, k2⟩ := hsim.newRow hd (e := e) (z := i.size) (c := 0) (xs := []) (us := #[]) (by simp) (by unfold maxLen; omega) (by simp) (fun m x hx => by simp at hx)
 refine ⟨.slice (some ⟨w.heap.size, 0, none⟩) 0 0, _, I, A', _, ?_, by rw [hdst]; exact k1, k2, hK⟩
 simp [execOp, hop, Instr.buildSlice, run_underlying hu, run_sizeOf w hi, Instr.fill, newRow, Array.range_zero']
end
end Go.Sg
