/- Several texts as one. -/
import Derived.Test.YtnpokifaejcbeaaGreatDoorF0
import Derived.ChangeArms
import Derived.Lib.LaidTab
import Derived.Lib.SliceRun
import Derived.MapKept
import Derived.SizedLaws
import Derived.Still
import Derived.WideShapes
set_option linter.unusedSectionVars false
set_option linter.unusedVariables false
set_option linter.unusedSimpArgs false
namespace Go.Sg
open Go.RowKit
def fZ (P : Program) (t : TypeId) (i : Nat) : Option (Nat × Nat) :=
 match P.underlying t with
 | some (.struct fs) => match fs[i]? with
  | some f => match P.info? f.type with
   | some x => some (f.offset, x.size)
   | none => none
  | none => none
 | some (.array _ e) => match P.info? e with
  | some x => some (i * x.size, x.size)
  | none => none
 | _ => none
def nQ (P : Program) (t : TypeId) : Bool :=
 match P.underlying t with
 | some (.struct fs) => fs.toList.all fun f => (P.info? f.type).isSome
 | some (.array _ e) => (P.info? e).isSome
 | _ => false
def kC (P : Program) (ρ : aS) (t : TypeId) : List (Nat × Operand) → List DV → Prop × List DV
 | [], cs => (True, cs)
 | p :: l, cs => match fZ P t p.1 with
  | some (off, s) => (gd (ev ρ p.2) ∧ (cD (un (ev ρ p.2))).length = s ∧ 0 < s ∧ off + s ≤ cs.length ∧ (kC P ρ t l (spl off (cD (un (ev ρ p.2))) cs)).1, (kC P ρ t l (spl off (cD (un (ev ρ p.2))) cs)).2)
  | none => (False, cs)
theorem aQf (P : Program) (ρ : aS) (t : TypeId) (cs : List DV) : kC P ρ t [] cs = (True, cs) := rfl
theorem aJo (P : Program) (ρ : aS) (t : TypeId) (i : Nat) (x : Operand) (l : List (Nat × Operand)) (cs : List DV) {off s : Nat} (h : fZ P t i = some (off, s)) : kC P ρ t ((i, x) :: l) cs =
  (gd (ev ρ x) ∧ (cD (un (ev ρ x))).length = s ∧ 0 < s ∧ off + s ≤ cs.length ∧ (kC P ρ t l (spl off (cD (un (ev ρ x))) cs)).1, (kC P ρ t l (spl off (cD (un (ev ρ x))) cs)).2) := by
 conv => lhs; unfold kC
 simp only [h]
def nN (P : Program) (ρ : aS) (t : TypeId) (parts : List (Nat × Operand)) : Prop × DV :=
 match eM P t with
 | some zs => (nQ P t = true ∧ (kC P ρ t parts (zs.map .v)).1, .agg (kC P ρ t parts (zs.map .v)).2)
 | none => (False, .any)
section
variable {P : Program} {nt : Nat} {ρ : aS} {ops : Array Oper}
def CR (w : World) (I : Nat → Prop) (A : cO) (cs : List DV) (us : Array Value) : Prop :=
 cs.length = us.size ∧ (∀ u ∈ us.toList, u.oneCell' = true) ∧ ∀ (j : Nat) (d : DV) (u : Value), cs[j]? = some d → us[j]? = some u → bH w I A d u
theorem zR {w : World} {I : Nat → Prop} {A : cO} {a : Act} (hs : b9 nt w I A ρ a) {t : TypeId} (place : Nat → Option (Nat × Nat)) (hp : ∀ i p, fZ P t i = some p → place i = some p) : ∀ (parts : List (Nat × Operand)) (cs : List DV) (us : Array Value),
  (∀ p ∈ parts, nL nt p.2 = true) → CR w I A cs us → (kC P ρ t parts cs).1 → ∃ out, Instr.fill place us (parts.map fun p => (p.1, a.eval p.2)) = some out ∧ CR w I A (kC P ρ t parts cs).2 out
 | [], cs, us, _, hc, _ => ⟨us, rfl, hc⟩
 | (i, x) :: l, cs, us, ho, hc, h => by
  cases hpl : fZ P t i with
  | none => unfold kC at h; simp only [hpl] at h
  | some q =>
   obtain ⟨off, s⟩ := q
   rw [aJo P ρ t i x l cs hpl] at h ⊢
   obtain ⟨h1, h2, h3, h4, h5⟩ := h
   have hx := hs.opd x (ho (i, x) (by simp)) h1
   obtain ⟨k1, k2, k3⟩ := nO hx (.inl (by omega))
   have hsz : (a.eval x).cells.size = s := by omega
   obtain ⟨c1, c2, c3⟩ := hc
   obtain ⟨f1, f2⟩ := aCr off (a.eval x).cells.toList us 0 (by simp; omega)
   simp only [Nat.add_zero, Array.length_toList] at f1 f2
   have hzip : ((a.eval x).cells.zipIdx.foldl (fun cs (p : Value × Nat) => cs.setIfInBounds (off + p.2) p.1) us) = ((a.eval x).cells.toList.zipIdx 0).foldl (fun cs (p : Value × Nat) => cs.setIfInBounds (off + p.2) p.1) us := by
    rw [← Array.foldl_toList, Array.toList_zipIdx]
   generalize hnew : ((a.eval x).cells.toList.zipIdx 0).foldl (fun cs (p : Value × Nat) => cs.setIfInBounds (off + p.2) p.1) us = us' at *
   have hc' : CR w I A (spl off (cD (un (ev ρ x))) cs) us' := by
    have hle : off + (cD (un (ev ρ x))).length ≤ cs.length := by omega
    rw [zL hle]
    refine ⟨by simp only [List.length_append, List.length_take, List.length_drop]; omega, fun u hu => ?_, fun j d u hd hu => ?_⟩
    ·obtain ⟨q, hq⟩ := List.getElem?_of_mem hu
     rw [Array.getElem?_toList, f2] at hq
     split at hq
     ·exact k2 u (List.mem_of_getElem? hq)
     exact c2 u (by simpa using Array.mem_of_getElem? hq)
    rw [f2] at hu
    rw [List.getElem?_append, List.getElem?_append] at hd
    simp only [List.length_append, List.length_take, Nat.min_eq_left (show off ≤ cs.length by omega)] at hd
    by_cases e1 : j < off
    ·rw [if_pos (by omega), if_pos e1, List.getElem?_take, if_pos e1] at hd
     rw [if_neg (by omega)] at hu
     exact c3 j d u hd hu
    by_cases e2 : j < off + s
    ·rw [if_pos (by omega), if_neg e1] at hd
     rw [if_pos (by omega)] at hu
     exact k3 _ d u hd (by simpa using hu)
    rw [if_neg (by omega), List.getElem?_drop] at hd
    rw [if_neg (by omega)] at hu
    rw [show off + (cD (un (ev ρ x))).length + (j - (off + (cD (un (ev ρ x))).length)) = j by omega] at hd
    exact c3 j d u hd hu
   obtain ⟨out, o1, o2⟩ := zR hs place hp l _ us' (fun p hp' => ho p (by simp [hp'])) hc' h5
   refine ⟨out, ?_, o2⟩
   rw [List.map_cons]
   unfold Instr.fill
   rw [hp i _ hpl]
   simp only
   rw [if_neg (by simp [hsz]; omega), hzip]
   exact o1
theorem yL {α β : Type} {w : World} (f : α → Sem β) : ∀ (l : List α) (vs : List β), l.length = vs.length → (∀ (j : Nat) (x : α) (v : β), l[j]? = some x → vs[j]? = some v → (f x).run P w = .ok v w) →
  (l.mapM f).run P w = .ok vs w
 | [], [], _, _ => rfl
 | x :: l, v :: vs, hl, h => by
  have h0 := h 0 x v (by simp) (by simp)
  have ih := yL f l vs (by simpa using hl) fun j y u hy hu => h (j + 1) y u (by simpa using hy) (by simpa using hu)
  simp [List.mapM_cons, h0, ih]
 | [], _ :: _, hl, _ => by simp at hl
 | _ :: _, [], hl, _ => by simp at hl
theorem aOp {w : World} {I : Nat → Prop} {A : cO} {a : Act} (hs : b9 nt w I A ρ a) {t : TypeId} {parts : Array (Nat × Operand)} (ho : ∀ p ∈ parts.toList, nL nt p.2 = true) (h : (nN P ρ t parts.toList).1) :
  ∃ x, (Instr.build t (parts.map fun (i, x) => (i, a.eval x))).run P w = .ok x w ∧ bH w I A (nN P ρ t parts.toList).2 x := by
 unfold nN at h ⊢
 cases hz : eM P t with
 | none => rw [hz] at h; exact h.elim
 | some zs =>
  rw [hz] at h
  obtain ⟨h1, h2⟩ := h
  simp only
  obtain ⟨i, zv, hi, hzv, hzc, hone⟩ := iI hz
  have h1' := h1
  unfold nQ at h1'
  split at h1'
  ·rename_i fs hu
   rw [List.all_eq_true] at h1'
   let places : Array (Nat × Nat) := fs.map fun f => (f.offset, P.cellsOf f.type)
   have hpl : ∀ k p, fZ P t k = some p → places[k]? = some p := fun k p hk => by
    unfold fZ at hk
    rw [hu] at hk
    simp only at hk
    split at hk <;> try cases hk
    rename_i f hf
    split at hk <;> try cases hk
    rename_i x hx
    simp only [places, Array.getElem?_map, hf, Option.map_some, Program.cellsOf, hx, Option.getD_some]
   have hrunp : (fs.mapM fun f => (do pure (f.offset, ← sizeOf f.type) : Sem (Nat × Nat))).run P w = .ok places w := by
    have := yL (P := P) (w := w) (fun f : Field => (do pure (f.offset, ← sizeOf f.type) : Sem (Nat × Nat))) fs.toList places.toList (by simp [places]) (fun j f v hf hv => by
     have hf' : f ∈ fs.toList := List.mem_of_getElem? hf
     obtain ⟨x, hx⟩ := Option.isSome_iff_exists.1 (h1' f hf')
     have : v = (f.offset, P.cellsOf f.type) := by
      simp only [places, Array.toList_map, List.getElem?_map, hf, Option.map_some, Option.some.injEq] at hv
      exact hv.symm
     subst this
     simp [run_sizeOf w hx, Program.cellsOf, hx])
    have e : fs = fs.toList.toArray := by simp
    rw [e, List.mapM_toArray, Sem.run_map, this]
    show Result.ok places.toList.toArray w = Result.ok places w
    rw [Array.toArray_toList]
   have hc0 : CR w I A (zs.map .v) zv.cells := ⟨by rw [List.length_map, ← hzc]; simp, by rw [hzc]; exact hone, fun j d u hd hu => by
    rw [List.getElem?_map, Option.map_eq_some_iff] at hd
    obtain ⟨y, hy, rfl⟩ := hd
    rw [← hzc, Array.getElem?_toList, hu] at hy
    cases hy; exact .v A _⟩
   obtain ⟨out, o1, o2⟩ := zR (P := P) hs (fun k => places[k]?) hpl parts.toList _ _ ho hc0 h2
   refine ⟨.agg out, ?_, ?_⟩
   ·have hm : (parts.map fun (i, x) => (i, a.eval x)).toList = parts.toList.map fun p => (p.1, a.eval p.2) := by simp
    have e2 : (fun f : Field => (do pure (f.offset, ← sizeOf f.type) : Sem (Nat × Nat))) = fun f => Prod.mk f.offset <$> sizeOf f.type := by funext f; simp
    rw [e2] at hrunp
    unfold Instr.build
    simp [zeroValue, run_typeInfo w hi, hzv, run_underlying hu, hrunp, hm, o1]
   exact .agg A _ out o2.1 o2.2.1 o2.2.2
  ·rename_i n e hu
   obtain ⟨x, hx⟩ := Option.isSome_iff_exists.1 h1'
   have hpl : ∀ k p, fZ P t k = some p → (fun k => some (k * x.size, x.size)) k = some p := fun k p hk => by
    unfold fZ at hk
    rw [hu] at hk
    simp only [hx] at hk
    exact hk
   have hc0 : CR w I A (zs.map .v) zv.cells := ⟨by rw [List.length_map, ← hzc]; simp, by rw [hzc]; exact hone, fun j d u hd hu => by
    rw [List.getElem?_map, Option.map_eq_some_iff] at hd
    obtain ⟨y, hy, rfl⟩ := hd
    rw [← hzc, Array.getElem?_toList, hu] at hy
    cases hy; exact .v A _⟩
   obtain ⟨out, o1, o2⟩ := zR (P := P) hs (fun k => some (k * x.size, x.size)) hpl parts.toList _ _ ho hc0 h2
   refine ⟨.agg out, ?_, ?_⟩
   ·have hm : (parts.map fun (i, x) => (i, a.eval x)).toList = parts.toList.map fun p => (p.1, a.eval p.2) := by simp
    unfold Instr.build
    simp [zeroValue, run_typeInfo w hi, hzv, run_underlying hu, run_sizeOf w hx, Program.cellsOf, hx, hm, o1]
   exact .agg A _ out o2.1 o2.2.1 o2.2.2
  cases h1'
theorem aHt {o : Oper} {K : aS → Prop} {t : TypeId} {parts : Array (Nat × Operand)} (hop : o.op = .build t parts) (hg : o.guard = none) (ho : dA nt o = true) (hd : eO nt o = true) (h : (nN P ρ t parts.toList).1)
  (hK : K (bZ ρ o.dst (nN P ρ t parts.toList).2)) : OW P nt ops o K ρ :=
 eZ hg fun I A a w hs => by
  obtain ⟨x, h1, h2⟩ := aOp (P := P) hs (fun p hp => bF ho (x := p.2) (by
   simp only [hop, Op.operands]
   simp
   exact ⟨p.1, by simpa using hp⟩)) h
  exact ⟨x, w, I, A, _, by simp [execOp, hop, h1], hs.putV hd h2, eA.refl _ _ _, hK⟩
end
end Go.Sg
namespace Go.Sg
open Go.RowKit
section
variable {P : Program} {nt : Nat} {ρ : aS} {ops : Array Oper}
def kA (ρ : aS) : DV → List (List DV)
 | .sl _ m f => (List.range m).map f
 | .own s m => match ρ s with
  | .row _ _ xs => xs.take m
  | _ => []
 | _ => []
def tE (ρ : aS) (z : Nat) : DV → Prop
 | .sl z' _ _ => z' = z
 | .own s m => ∃ e xs, ρ s = .row e z xs ∧ m ≤ xs.length
 | .v (.slice none 0 _) => True
 | .ez => True
 | _ => False
theorem aFa {w : World} {I : Nat → Prop} {A : cO} {a : Act} (hs : b9 nt w I A ρ a) {z : Nat} {d : DV} {u : Value} (h : bH w I A d u) (ho : tE ρ z d) :
  ∃ b m c, u = .slice b m c ∧ (kA ρ d).length = m ∧ ((b = none ∧ m = 0) ∨ ∃ (ad : Addr) (news : List Value), b = some ad ∧ news.length = m * z ∧ (∀ j v, news[j]? = some v → w.cell? (ad.add j) = some v) ∧ (∀ v ∈ news, v.oneCell' = true) ∧
   ∀ (i : Nat) (x : List DV), (kA ρ d)[i]? = some x → x.length = z ∧ ∀ (j : Nat) (e : DV) (v : Value), x[j]? = some e → news[i * z + j]? = some v → bH w I cU e v) := by
 have mk : ∀ (bk o m : Nat) (us : Nat → Nat → Value) (src : List (List DV)), src.length = m →
   (∀ i j, i < m → j < z → w.cell? ⟨bk, o + (i * z + j), none⟩ = some (us i j)) → (∀ i j, i < m → j < z → (us i j).oneCell' = true) →
   (∀ (i : Nat) (x : List DV), src[i]? = some x → x.length = z ∧ ∀ (j : Nat) (e : DV), x[j]? = some e → bH w I cU e (us i j)) →
   ∃ (news : List Value), news.length = m * z ∧ (∀ j v, news[j]? = some v → w.cell? ((⟨bk, o, none⟩ : Addr).add j) = some v) ∧ (∀ v ∈ news, v.oneCell' = true) ∧
    ∀ (i : Nat) (x : List DV), src[i]? = some x → x.length = z ∧ ∀ (j : Nat) (e : DV) (v : Value), x[j]? = some e → news[i * z + j]? = some v → bH w I cU e v := by
  intro bk o m us src hl hcell hone hrel
  have hdm : ∀ j, j < m * z → j / z < m ∧ j % z < z := fun j hj => by
   have hz : 0 < z := by
    rcases Nat.eq_zero_or_pos z with h | h
    ·subst h; simp at hj
    exact h
   exact ⟨Nat.div_lt_of_lt_mul (by rwa [Nat.mul_comm] at hj), Nat.mod_lt _ hz⟩
  refine ⟨(List.range (m * z)).map fun j => us (j / z) (j % z), by simp, fun j v hj => ?_, fun v hv => ?_, fun i x hx => ⟨(hrel i x hx).1, fun j e v he hv => ?_⟩⟩
  ·simp only [List.getElem?_map, Option.map_eq_some_iff] at hj
   obtain ⟨q, hq, rfl⟩ := hj
   have hlt : j < m * z := by
    rcases Nat.lt_or_ge j (m * z) with h | h
    ·exact h
    rw [List.getElem?_eq_none (by simpa using h)] at hq; cases hq
   rw [List.getElem?_range hlt] at hq
   cases hq
   obtain ⟨h1, h2⟩ := hdm j hlt
   rw [Addr.add_lit, ← hcell _ _ h1 h2]
   congr 3
   rw [Nat.mul_comm]
   exact (Nat.div_add_mod j z).symm
  ·simp only [List.mem_map, List.mem_range] at hv
   obtain ⟨j, hj, rfl⟩ := hv
   exact hone _ _ (hdm j hj).1 (hdm j hj).2
  simp only [List.getElem?_map, Option.map_eq_some_iff] at hv
  obtain ⟨q, hq, rfl⟩ := hv
  have hi : i < m := by
   rw [← hl]
   rcases Nat.lt_or_ge i src.length with h | h
   ·exact h
   rw [List.getElem?_eq_none h] at hx; cases hx
  have hj : j < z := by
   rw [← (hrel i x hx).1]
   rcases Nat.lt_or_ge j x.length with h | h
   ·exact h
   rw [List.getElem?_eq_none h] at he; cases he
  have hlt : i * z + j < m * z := by
   have : (i + 1) * z ≤ m * z := Nat.mul_le_mul_right _ hi
   rw [Nat.succ_mul] at this
   omega
  rw [List.getElem?_range hlt] at hq
  cases hq
  have e1 := kL (z := z) (i := i) (q := i * z + j) (by omega) (by omega) (by omega)
  have e2 : (i * z + j) % z = j := by rw [Nat.mul_comm, Nat.mul_add_mod, Nat.mod_eq_of_lt hj]
  rw [e1, e2]
  exact (hrel i x hx).2 j e he
 cases h with
 | sl0 _ z' f b c =>
  refine ⟨b, 0, c, rfl, rfl, ?_⟩
  cases b with
  | none => exact .inl ⟨rfl, rfl⟩
  | some ad => exact .inr ⟨ad, [], rfl, by simp, by simp, by simp, fun i x hx => by simp [kA] at hx⟩
 | sl _ z' n f b o c us hn hc hm hI hzz hcell hone hrel =>
  obtain rfl : z' = z := ho
  refine ⟨_, n, c, rfl, by simp [kA], .inr ?_⟩
  have hget : ∀ (i : Nat) (x : List DV), ((List.range n).map f)[i]? = some x → i < n ∧ x = f i := fun i x hx => by
   simp only [List.getElem?_map, Option.map_eq_some_iff] at hx
   obtain ⟨q, hq, rfl⟩ := hx
   have hlt : i < n := by
    rcases Nat.lt_or_ge i n with h | h
    ·exact h
    rw [List.getElem?_eq_none (by simpa using h)] at hq; cases hq
   rw [List.getElem?_range hlt] at hq
   cases hq
   exact ⟨hlt, rfl⟩
  obtain ⟨news, h1, h2, h3, h4⟩ := mk b o n us ((List.range n).map f) (by simp) hcell hone fun i x hx => by
   obtain ⟨hi, rfl⟩ := hget i x hx
   exact ⟨hzz i hi, fun j e he => hrel i j e hi he⟩
  exact ⟨_, news, rfl, h1, h2, h3, h4⟩
 | ez _ b =>
  refine ⟨b, 0, 0, rfl, rfl, ?_⟩
  cases b with
  | none => exact .inl ⟨rfl, rfl⟩
  | some ad => exact .inr ⟨ad, [], rfl, by simp, by simp, by simp, by simp [kA]⟩
 | own _ s n B c b hA hb =>
  obtain ⟨e', xs, hρ, hle⟩ := ho
  have hown := hs.osim.own s
  rw [hρ] at hown
  obtain ⟨B', c', hA', hrow⟩ := hown
  rw [hA] at hA'
  simp only [Option.some.injEq, Prod.mk.injEq] at hA'
  obtain ⟨rfl, rfl⟩ := hA'
  simp only [kA, hρ]
  cases B with
  | none =>
   obtain ⟨rfl, _⟩ := hrow
   simp at hle
   subst hle
   refine ⟨b, 0, c, rfl, by simp, ?_⟩
   cases b with
   | none => exact .inl ⟨rfl, rfl⟩
   | some ad => exact .inr ⟨ad, [], rfl, by simp, by simp, by simp, by simp⟩
  | some g =>
   obtain ⟨us, q1, q2, q3, q4, q5⟩ := hrow
   have hx : ∀ i, i < n → xs[i]? = some (xs.getD i []) := fun i hi => by rw [List.getD_eq_getElem?_getD, List.getElem?_eq_getElem (by omega)]; rfl
   have hin : ∀ i j, i < n → j < z → i * z + j < us.size := fun i j hi hj => by
    rw [q2]
    have : (i + 1) * z ≤ c * z := Nat.mul_le_mul_right _ (by omega)
    rw [Nat.succ_mul] at this
    omega
   have hus : ∀ i j, i < n → j < z → us[i * z + j]? = some (us.getD (i * z + j) undef) := fun i j hi hj => by simp [Array.getElem?_eq_getElem (hin i j hi hj)]
   obtain ⟨news, h1, h2, h3, h4⟩ := mk g 0 n (fun i j => us.getD (i * z + j) undef) (xs.take n) (by simp; omega)
    (fun i j hi hj => by unfold World.cell?; simp only [q1, Nat.zero_add]; simpa using hus i j hi hj)
    (fun i j hi hj => by
     obtain ⟨k1, k2⟩ := q5 i _ (hx i hi)
     exact (k2 j _ _ (List.getElem?_eq_getElem (by omega)) (hus i j hi hj)).1)
    (fun i x hx' => by
     rw [List.getElem?_take] at hx'
     split at hx' <;> try cases hx'
     rename_i hi
     obtain ⟨k1, k2⟩ := q5 i x hx'
     refine ⟨k1, fun j e he => ?_⟩
     have hj : j < z := by
      rw [← k1]
      rcases Nat.lt_or_ge j x.length with h | h
      ·exact h
      rw [List.getElem?_eq_none h] at he; cases he
     exact (k2 j e _ he (hus i j hi hj)).2)
   exact ⟨_, n, c, rfl, by simp; omega, .inr ⟨_, news, fL hb, h1, h2, h3, h4⟩⟩
 | v _ x =>
  cases u <;> try exact ho.elim
  rename_i b n c
  cases b <;> cases n <;> try exact ho.elim
  exact ⟨none, 0, c, rfl, rfl, .inl ⟨rfl, rfl⟩⟩
 | _ => exact ho.elim
theorem b9.steady {w w' : World} {I : Nat → Prop} {A : cO} {a : Act} (hs : b9 nt w I A ρ a) (h1 : ∀ g, I g → w'.heap[g]? = w.heap[g]?) (h2 : ∀ s g c, A s = some (some g, c) → w'.heap[g]? = w.heap[g]?)
  (h3 : w.heap.size ≤ w'.heap.size) : b9 nt w' I A ρ a := by
 have hrel : ∀ B d x, bH w I B d x → bH w' I B d x := fun B d x hr => hr.mono fun g hg => ⟨hg, fun o => cY (h1 g hg) o⟩
 refine ⟨⟨fun s => (hs.osim.own s).keep (fun g c hg => h2 s g c hg) hrel, hs.osim.inj, fun s g c hA => ⟨Nat.lt_of_lt_of_le (hs.osim.sep s g c hA).1 h3, (hs.osim.sep s g c hA).2⟩, hs.osim.imm.step (fun g hg => Nat.lt_of_lt_of_le (hs.osim.imm g hg) h3) fun g hg => ⟨hg, h1 g hg⟩⟩, hs.size, hs.bound, fun i hi => ?_, hs.out⟩
 have hsl := hs.slot i hi
 generalize a.tmps.getD i undef = x at *
 cases hd : ρ i with
 | bx cs => rw [hd] at hsl; exact hsl
 | row e z xs => rw [hd] at hsl; exact hsl
 | cond g y => rw [hd] at hsl; exact ⟨fun hg => hrel _ _ _ (hsl.1 hg), hsl.2⟩
 | any => exact .any A x
 | v y => rw [hd] at hsl; exact hrel _ _ _ hsl
 | sl z n f => rw [hd] at hsl; exact hrel _ _ _ hsl
 | agg cs => rw [hd] at hsl; exact hrel _ _ _ hsl
 | tup cs => rw [hd] at hsl; exact hrel _ _ _ hsl
 | dp cs => rw [hd] at hsl; exact hrel _ _ _ hsl
 | bp t o => rw [hd] at hsl; exact hrel _ _ _ hsl
 | own t n => rw [hd] at hsl; exact hrel _ _ _ hsl
 | rp t z i o => rw [hd] at hsl; exact hrel _ _ _ hsl
 | fn f b c => rw [hd] at hsl; exact hrel _ _ _ hsl
 | iface t y => rw [hd] at hsl; exact hrel _ _ _ hsl
 | mr t => rw [hd] at hsl; exact hrel _ _ _ hsl
 | ez => rw [hd] at hsl; exact hrel _ _ _ hsl
 | mo es => rw [hd] at hsl; exact hsl
theorem rU {w : World} (base : Nat) (t ty e : TypeId) (i : TypeInfo) (size : Nat) (ht : P.underlying t = some (.slice e)) (hi : P.info? e = some i)
  (v : Value) (n : Nat) (xs : List Value) (hown : w.ownsRow base e size v n xs) (c : Nat) : (Builtin.append_ #[t, t] ty #[v, .slice none 0 c]).run P w = .ok v w := by
 rcases hown.2 with ⟨rfl, rfl⟩ | ⟨g, cap, cur, rfl, _, _, hnc, _⟩
 ·simp [Builtin.append_, run_underlying ht, sizeOf, typeInfo, hi, Builtin.lenOf, Builtin.firstCells]
 simp [Builtin.append_, run_underlying ht, sizeOf, typeInfo, hi, Builtin.lenOf, Builtin.firstCells, hnc, storeCells]
theorem pG {w : World} {I : Nat → Prop} {A A1 : cO} {a : Act} {ρ1 : aS} (hs1 : b9 nt w I A1 ρ1 a) {d : Nat} (hd : d < nt) {t ty e : TypeId} {z by_ : Nat} {zs : List Value} (hsl : kH P t = some (e, z, by_)) (hz : eM P e = some zs) (hz0 : 0 < z) (hzl : zs.length = z)
  {v : Value} {n : Nat} {xs : List (List DV)} {xsV : List Value} (hown : w.ownsRow 0 e z v n xsV) (hxl : xs.length = n)
  (hxr : ∀ (i : Nat) (x : List DV), xs[i]? = some x → x.length = z ∧ ∀ (j : Nat) (d : DV) (u : Value), x[j]? = some d → xsV[i * z + j]? = some u → u.oneCell' = true ∧ bH w I cU d u)
  {src : List (List DV)} {b : Option Addr} {m c : Nat} (hsrcl : src.length = m)
  (hsrc : (b = none ∧ m = 0) ∨ ∃ (ad : Addr) (news : List Value), b = some ad ∧ news.length = m * z ∧ (∀ j v, news[j]? = some v → w.cell? (ad.add j) = some v) ∧ (∀ v ∈ news, v.oneCell' = true) ∧
   ∀ (i : Nat) (x : List DV), src[i]? = some x → x.length = z ∧ ∀ (j : Nat) (e : DV) (v : Value), x[j]? = some e → news[i * z + j]? = some v → bH w I cU e v)
  (hb1 : n + m ≤ 9223372036854775807) (hb2 : (n + m) * by_ ≤ 140737488355328)
  (hfree : ∀ g, v.ownBlock = some g → g < w.heap.size ∧ ¬ I g ∧ ∀ s c, A1 s ≠ some (some g, c)) (hA1 : ∀ s y, A1 s = some y → A s = some y)
  (hAv : ∀ g, v.ownBlock = some g → ∃ s c, s < 100000 ∧ A s = some (some g, c)) (hout : ∀ s, 100000 ≤ s → A1 s = A s) :
  ∃ x w' A', (Builtin.append_ #[t, t] ty #[v, .slice b m c]).run P w = .ok x w' ∧ b9 nt w' I A' (set (cI d ρ1) d (.row e z (xs ++ src))) (a.put (some d) x) ∧ eA w I A w' I A' := by
 obtain ⟨hu, i, hi, rfl, rfl⟩ := h9 hsl
 obtain ⟨i', zv, hi', hzv, rfl, _⟩ := iI hz
 rw [hi] at hi'
 cases hi'
 have hbnd := hs1.bound
 obtain ⟨x, w', news, hrun, hown', hgr, hat, hnr⟩ : ∃ x w' news, (Builtin.append_ #[t, t] ty #[v, .slice b m c]).run P w = .ok x w' ∧ w'.ownsRow 0 e i.size x (n + m) (xsV ++ news) ∧ w.grownBy w' v.ownBlock ∧
   (x.ownBlock = v.ownBlock ∨ x.ownBlock = some w.heap.size) ∧ (∀ (k : Nat) (y : List DV), src[k]? = some y → y.length = i.size ∧ ∀ (j : Nat) (e : DV) (u : Value), y[j]? = some e → news[k * i.size + j]? = some u → u.oneCell' = true ∧ bH w I cU e u) := by
  rcases hsrc with ⟨rfl, rfl⟩ | ⟨ad, news, rfl, h1, h2, h3, h4⟩
  ·obtain rfl : src = [] := List.eq_nil_of_length_eq_zero hsrcl
   exact ⟨v, w, [], rU 0 t ty e i i.size hu hi v n xsV hown c, by simpa using hown, ⟨rfl, rfl, rfl, Nat.le_refl _, fun _ _ _ => rfl⟩, .inl rfl, by simp⟩
  obtain ⟨x, w', k1, k2, k3, _, k5⟩ := run_append_own_at (P := P) w 0 t ty e i zv i.size i.bytes hu hi hzv rfl rfl (by simpa using hzl) hz0 v n xsV hown ad m c news h1 h2 h3 (by unfold maxLen; omega) hb2 (Nat.zero_le _)
  exact ⟨x, w', news, k1, k2, k3, k5, fun k y hy => ⟨(h4 k y hy).1, fun j e u he hu => ⟨h3 u (List.mem_of_getElem? hu), (h4 k y hy).2 j e u he hu⟩⟩⟩
 have hblk : ∀ g, g < w.heap.size → some g ≠ v.ownBlock → w'.heap[g]? = w.heap[g]? := hgr.block
 have hs2 : b9 nt w' I A1 ρ1 a := hs1.steady (fun g hg => hblk g (hs1.osim.imm g hg) fun e => (hfree g e.symm).2.1 hg)
  (fun s g c hA => hblk g (hs1.osim.sep s g c hA).1 fun e => (hfree g e.symm).2.2 s c hA) hgr.size
 have hrel : ∀ d y, bH w I cU d y → bH w' I cU d y := fun d y hr => hr.mono fun g hg => ⟨hg, fun o => cY (hblk g (hs1.osim.imm g hg) fun e => (hfree g e.symm).2.1 hg) o⟩
 have hlen : xsV.length = n * i.size := hown.1
 have helem : ∀ (cur : List Value), cur.take ((n + m) * i.size) = xsV ++ news → ∀ (k : Nat) (y : List DV), (xs ++ src)[k]? = some y → y.length = i.size ∧ ∀ (j : Nat) (e : DV) (u : Value), y[j]? = some e → cur[k * i.size + j]? = some u →
   u.oneCell' = true ∧ bH w' I cU e u := fun cur hcur k y hy => by
  have hk : k < n + m := by
   rw [← hxl, ← hsrcl, ← List.length_append]
   rcases Nat.lt_or_ge k (xs ++ src).length with h | h
   ·exact h
   rw [List.getElem?_eq_none h] at hy; cases hy
  have hcg : ∀ j, j < i.size → cur[k * i.size + j]? = (xsV ++ news)[k * i.size + j]? := fun j hj => by
   rw [← hcur, List.getElem?_take, if_pos]
   have : (k + 1) * i.size ≤ (n + m) * i.size := Nat.mul_le_mul_right _ hk
   rw [Nat.succ_mul] at this
   omega
  rw [List.getElem?_append, hxl] at hy
  split at hy
  ·rename_i hkn
   obtain ⟨k1, k2⟩ := hxr k y hy
   refine ⟨k1, fun j e u he hu => ?_⟩
   have hj : j < i.size := by
    rw [← k1]
    rcases Nat.lt_or_ge j y.length with h | h
    ·exact h
    rw [List.getElem?_eq_none h] at he; cases he
   rw [hcg j hj, List.getElem?_append, if_pos (by
    rw [hlen]
    have : (k + 1) * i.size ≤ n * i.size := Nat.mul_le_mul_right _ hkn
    rw [Nat.succ_mul] at this
    omega)] at hu
   exact ⟨(k2 j e u he hu).1, hrel _ _ (k2 j e u he hu).2⟩
  rename_i hkn
  obtain ⟨k1, k2⟩ := hnr (k - n) y hy
  refine ⟨k1, fun j e u he hu => ?_⟩
  have hj : j < i.size := by
   rw [← k1]
   rcases Nat.lt_or_ge j y.length with h | h
   ·exact h
   rw [List.getElem?_eq_none h] at he; cases he
  have hge : n * i.size ≤ k * i.size := Nat.mul_le_mul_right _ (by omega)
  rw [hcg j hj, List.getElem?_append, if_neg (by rw [hlen]; omega), hlen] at hu
  have e1 : k * i.size + j - n * i.size = (k - n) * i.size + j := by rw [Nat.sub_mul]; omega
  rw [e1] at hu
  exact ⟨(k2 j e u he hu).1, hrel _ _ (k2 j e u he hu).2⟩
 have hext : ∀ (B : Option Nat) (cap : Nat), B = x.ownBlock → eA w I A w' I (gE A1 d (some (B, cap))) := fun B cap hB => by
  have hin : ∀ g, B = some g → g < w.heap.size → v.ownBlock = some g := fun g hg hlt => by
   subst hg
   rcases hat with h | h
   ·rw [← h, ← hB]
   rw [← hB] at h; cases h; omega
  refine ⟨hgr.os, ⟨hgr.tape, dN _ hrun⟩, hgr.output, hgr.size, fun _ h => h, fun g hg hA => ⟨hblk g hg fun e => ?_, fun h => h, fun s c' hc => ?_⟩, fun s g c' hc hg hl => ?_, fun s hs' => ?_⟩
  ·obtain ⟨s, c', _, hAs⟩ := hAv g e.symm
   exact hA s c' hAs
  ·rcases cA hc with ⟨_, h⟩ | ⟨_, h⟩
   ·simp only [Option.some.injEq, Prod.mk.injEq] at h
    obtain ⟨s', c2, _, hAs⟩ := hAv g (hin g h.1 hg)
    exact hA s' c2 hAs
   exact hA s c' (hA1 s _ h)
  ·rcases cA hc with ⟨_, h⟩ | ⟨_, h⟩
   ·simp only [Option.some.injEq, Prod.mk.injEq] at h
    obtain ⟨s', c2, hs', hAs⟩ := hAv g (hin g h.1 hg)
    exact ⟨s', c2, hs', hAs⟩
   exact ⟨s, c', hl, hA1 s _ h⟩
  rw [d5 _ _ (by omega), hout s hs']
 have hxlen : (xs ++ src).length = n + m := by rw [List.length_append, hxl, hsrcl]
 rcases hown'.2 with ⟨rfl, h0⟩ | ⟨g, cap, cur, rfl, _, hg, hnc, hcm, hcs, htake⟩
 ·have hx0 : xs = [] := List.eq_nil_of_length_eq_zero (by omega)
  have hs0 : src = [] := List.eq_nil_of_length_eq_zero (by omega)
  refine ⟨.slice none 0 0, w', gE A1 d (some (none, 0)), hrun, ?_, hext none 0 rfl⟩
  refine hs2.own hd (fun g hg => by cases hg) ⟨none, 0, cC _ _ _, none, jO _, by simp [hx0, hs0]⟩ ⟨none, 0, cC _ _ _, ?_⟩
  exact ⟨by simp [hx0, hs0], rfl⟩
 refine ⟨.slice (some ⟨g, 0, none⟩) (n + m) cap, w', gE A1 d (some (some g, cap)), hrun, ?_, hext (some g) cap rfl⟩
 refine hs2.own hd (fun g' hg' => ?_) ⟨some g, cap, cC _ _ _, _, qJ _, by rw [hxlen]⟩ ⟨some g, cap, cC _ _ _, cur, hg, hcs, hcm, by rw [hxlen]; exact hnc, fun k y hy => ?_⟩
 ·cases hg'
  have hlt : g < w'.heap.size := by
   rcases Nat.lt_or_ge g w'.heap.size with h | h
   ·exact h
   rw [Array.getElem?_eq_none h] at hg; cases hg
  rcases hat with h | h
  ·have h : some g = v.ownBlock := h
   obtain ⟨q1, q2, q3⟩ := hfree g h.symm
   exact ⟨hlt, q2, fun s c' _ => q3 s c'⟩
  have h : some g = some w.heap.size := h
  cases h
  exact ⟨hlt, fun hI => by have := hs1.osim.imm _ hI; omega, fun s c' _ hc => by have := (hs1.osim.sep s _ c' hc).1; omega⟩
 obtain ⟨k1, k2⟩ := helem cur.toList htake k y hy
 exact ⟨k1, fun j e u he hu => k2 j e u he (by rw [Array.getElem?_toList]; exact hu)⟩
theorem oX {w : World} {t ty e : TypeId} {i : TypeInfo} (ht : P.underlying t = some (.slice e)) (hi : P.info? e = some i) (b0 b : Option Addr) (m c : Nat) (hm : 0 < m) (hb : m * i.bytes ≤ 140737488355328) (hb1 : m ≤ 9223372036854775807) :
  (Builtin.append_ #[t, t] ty #[.slice b0 0 0, .slice b m c]).run P w = (Builtin.append_ #[t, t] ty #[.slice none 0 0, .slice b m c]).run P w := by
 have h1 : ¬ m = 0 := by omega
 have h4 : ¬ (9223372036854775807 : Int) < (m : Int) := by omega
 have h2 : Builtin.nextslicecap m 0 = m := by unfold Builtin.nextslicecap; rw [if_pos (by omega)]
 have h3 : ¬ 281474976710656 < m * i.bytes := by omega
 cases b0 with
 | none => rfl
 | some a => simp [Builtin.append_, run_underlying ht, sizeOf, run_typeInfo w hi, hi, Builtin.lenOf, Builtin.firstCells, h1, h2, h3, h4, loadCells, loadCellsFrom]
theorem tU {w : World} {I : Nat → Prop} {A A1 : cO} {a : Act} {ρ1 : aS} (hs1 : b9 nt w I A1 ρ1 a) {d : Nat} (hd : d < nt) {t ty e : TypeId} {z by_ : Nat} {zs : List Value} (hsl : kH P t = some (e, z, by_)) (hz : eM P e = some zs) (hz0 : 0 < z) (hzl : zs.length = z)
  (b0 : Option Addr) {src : List (List DV)} {b : Option Addr} {m c : Nat} (hsrcl : src.length = m)
  (hsrc : (b = none ∧ m = 0) ∨ ∃ (ad : Addr) (news : List Value), b = some ad ∧ news.length = m * z ∧ (∀ j v, news[j]? = some v → w.cell? (ad.add j) = some v) ∧ (∀ v ∈ news, v.oneCell' = true) ∧
   ∀ (i : Nat) (x : List DV), src[i]? = some x → x.length = z ∧ ∀ (j : Nat) (e : DV) (v : Value), x[j]? = some e → news[i * z + j]? = some v → bH w I cU e v)
  (hb1 : m ≤ 9223372036854775807) (hb2 : m * by_ ≤ 140737488355328) (hA1 : ∀ s y, A1 s = some y → A s = some y) (hout : ∀ s, 100000 ≤ s → A1 s = A s) :
  ∃ x w' A', (Builtin.append_ #[t, t] ty #[.slice b0 0 0, .slice b m c]).run P w = .ok x w' ∧ b9 nt w' I A' (set (cI d ρ1) d (.row e z src)) (a.put (some d) x) ∧ eA w I A w' I A' := by
 obtain ⟨hu, i, hi, he1, he2⟩ := h9 hsl
 have hbnd := hs1.bound
 rcases Nat.eq_zero_or_pos m with h0 | h0
 ·subst h0
  obtain rfl : src = [] := List.eq_nil_of_length_eq_zero hsrcl
  refine ⟨.slice b0 0 0, w, gE A1 d (some (none, 0)), ?_, ?_, ?_⟩
  ·rcases hsrc with ⟨rfl, _⟩ | ⟨ad, news, rfl, _⟩ <;> cases b0 <;> simp [Builtin.append_, run_underlying hu, sizeOf, run_typeInfo w hi, hi, Builtin.lenOf, Builtin.firstCells, loadCells, loadCellsFrom, storeCells]
  ·exact hs1.own hd (fun g hg => by cases hg) ⟨none, 0, cC _ _ _, b0, jO _, rfl⟩ ⟨none, 0, cC _ _ _, ⟨rfl, rfl⟩⟩
  refine ⟨rfl, ⟨rfl, Nat.le_refl _⟩, rfl, Nat.le_refl _, fun _ h => h, fun g hg hA => ⟨rfl, fun h => h, fun s c' hc => ?_⟩, fun s g c' hc hg hl => ?_, fun s hs' => ?_⟩
  ·rcases cA hc with ⟨_, h⟩ | ⟨_, h⟩
   ·cases h
   exact hA s c' (hA1 s _ h)
  ·rcases cA hc with ⟨_, h⟩ | ⟨_, h⟩
   ·cases h
   exact ⟨s, c', hl, hA1 s _ h⟩
  rw [d5 _ _ (by omega), hout s hs']
 obtain ⟨x, w', A', k1, k2, k3⟩ := pG (P := P) (A := A) (A1 := A1) (ty := ty) hs1 hd hsl hz hz0 hzl (v := .slice none 0 0) (n := 0) (xs := []) (xsV := []) (World.ownsRow_nil w 0 e z) rfl (by simp) (c := c) hsrcl hsrc (by omega) (by simpa using hb2)
  (fun g h => by cases h) hA1 (fun g h => by cases h) hout
 refine ⟨x, w', A', ?_, by simpa using k2, k3⟩
 rw [oX hu hi b0 b m c h0 (by rw [he2]; exact hb2) hb1]
 exact k1
theorem aPg {o : Oper} {K : aS → Prop} {t : TypeId} {x y : Operand} {d s n : Nat} {e : TypeId} {z by_ : Nat} {zs : List Value} {xs : List (List DV)} (hop : o.op = .call ⟨.builtin .append, #[x, y], #[t, t]⟩) (hg : o.guard = none) (hdst : o.dst = some d) (hd : d < nt)
  (ho : dA nt o = true) (hx : ev ρ x = .own s n) (hρ : ρ s = .row e z xs) (hs : s < 100000) (hn : n ≤ xs.length) (hy : gd (ev ρ y)) (hsl : kH P t = some (e, z, by_)) (hz : eM P e = some zs) (hz0 : 0 < z) (hzl : zs.length = z)
  (hsrc : tE ρ z (un (ev ρ y))) (hb1 : n + (kA ρ (un (ev ρ y))).length ≤ 9223372036854775807) (hb2 : (n + (kA ρ (un (ev ρ y))).length) * by_ ≤ 140737488355328)
  (hK : K (set (cI d (set (cI s ρ) s .any)) d (.row e z (xs.take n ++ kA ρ (un (ev ρ y)))))) : OW P nt ops o K ρ := by
 refine eZ hg fun I A a w hsim => ?_
 have hxr := hsim.opd x (bF ho (by simp [hop, Op.operands, Call.operands])) (by rw [hx]; trivial)
 rw [hx] at hxr
 have hxr : bH w I A (.own s n) (a.eval x) := hxr
 have hyr := hsim.opd y (bF ho (by simp [hop, Op.operands, Call.operands])) hy
 obtain ⟨b, m, c, hye, hsl', hsrc'⟩ := aFa hsim hyr hsrc
 rw [hsl'] at hb1 hb2
 generalize hxe : a.eval x = v at hxr
 have hown := hsim.osim.own s
 rw [hρ] at hown
 obtain ⟨B, cc, hA, hrow⟩ := hown
 cases hxr with
 | own _ _ _ B' c' b' hA' hb' =>
  rw [hA] at hA'
  simp only [Option.some.injEq, Prod.mk.injEq] at hA'
  obtain ⟨rfl, rfl⟩ := hA'
  have hs1 := hsim.disown hs
  have huu := h9 hsl
  have hA1 : ∀ s' y', gE A s none s' = some y' → A s' = some y' := fun s' y' h => by
   rcases cA h with ⟨_, h⟩ | ⟨_, h⟩
   ·cases h
   exact h
  have fin : ∀ q w' A', (Builtin.append_ #[t, t] o.type #[.slice b' n cc, .slice b m c]).run P w = .ok q w' → b9 nt w' I A' (set (cI d (set (cI s ρ) s .any)) d (.row e z (xs.take n ++ kA ρ (un (ev ρ y))))) (a.put (some d) q) → eA w I A w' I A' →
    ∃ v w' I' A' ρ', (execOp a.eval o).run P w = .ok (.value v) w' ∧ b9 nt w' I' A' ρ' (a.put o.dst v) ∧ eA w I A w' I' A' ∧ K ρ' := fun q w' A' k1 k2 k3 => by
   refine ⟨q, w', I, A', _, ?_, by rw [hdst]; exact k2, k3, hK⟩
   simp only [execOp, hop, resolve, Sem.run_bind, Sem.run_pure, Result.andThen_ok, invoke, builtin, List.map_toArray, List.map_cons, List.map_nil, hxe, hye]
   rw [k1]
   rfl
  cases B with
  | none =>
   obtain ⟨rfl, rfl⟩ := hrow
   obtain rfl : n = 0 := by simpa using hn
   obtain ⟨q, w', A', k1, k2, k3⟩ := tU (P := P) (A := A) (ty := o.type) hs1 hd hsl hz hz0 hzl b' (c := c) hsl' hsrc' (by omega) (by simpa using hb2) hA1 (fun s' h => d5 A _ (by omega))
   exact fin q w' A' k1 (by simpa using k2) k3
  | some g =>
   obtain rfl := fL hb'
   obtain ⟨us, q1, q2, q3, q4, q5⟩ := hrow
   obtain ⟨xsV, hov, hov2⟩ : ∃ xsV, w.ownsRow 0 e z (.slice (some ⟨g, 0, none⟩) n cc) n xsV ∧
     ∀ (i : Nat) (q : List DV), (xs.take n)[i]? = some q → q.length = z ∧ ∀ (j : Nat) (d : DV) (u : Value), q[j]? = some d → xsV[i * z + j]? = some u → u.oneCell' = true ∧ bH w I cU d u := by
    refine ⟨us.toList.take (n * z), ⟨?_, .inr ⟨g, cc, us, rfl, Nat.zero_le _, q1, by omega, q3, q2, rfl⟩⟩, fun i q hq => ?_⟩
    ·rw [List.length_take, Array.length_toList, q2, Nat.min_eq_left]
     exact Nat.mul_le_mul_right _ (by omega)
    rw [List.getElem?_take] at hq
    split at hq <;> try cases hq
    rename_i hi
    obtain ⟨k1, k2⟩ := q5 i q hq
    refine ⟨k1, fun j d u hd hu => ?_⟩
    rw [List.getElem?_take] at hu
    split at hu <;> try cases hu
    rw [Array.getElem?_toList] at hu
    exact k2 j d u hd hu
   have hfree : ∀ g', (Value.slice (some ⟨g, 0, none⟩) n cc).ownBlock = some g' → g' = g := fun g' h => by
    simp [Value.ownBlock] at h; exact h.symm
   obtain ⟨q, w', A', k1, k2, k3⟩ := pG (P := P) (A := A) (ty := o.type) hs1 hd hsl hz hz0 hzl hov (by simp; omega) hov2 (c := c) hsl' hsrc' hb1 hb2
    (fun g' h => by
     obtain rfl := hfree g' h
     refine ⟨(hsim.osim.sep s _ cc hA).1, (hsim.osim.sep s _ cc hA).2, fun s' c' hc => ?_⟩
     rcases cA hc with ⟨_, h⟩ | ⟨h1, h2⟩
     ·cases h
     exact h1 (hsim.osim.inj s' s _ c' cc h2 hA))
    hA1
    (fun g' h => by obtain rfl := hfree g' h; exact ⟨s, cc, hs, hA⟩)
    (fun s' h => d5 A _ (by omega))
   exact fin q w' A' k1 k2 k3
theorem aJe {o : Oper} {K : aS → Prop} {t : TypeId} {x y : Operand} {d : Nat} {e : TypeId} {z by_ : Nat} {zs : List Value} (hop : o.op = .call ⟨.builtin .append, #[x, y], #[t, t]⟩) (hg : o.guard = none) (hdst : o.dst = some d) (hd : d < nt)
  (ho : dA nt o = true) (hx : ev ρ x = .ez) (hy : gd (ev ρ y)) (hsl : kH P t = some (e, z, by_)) (hz : eM P e = some zs) (hz0 : 0 < z) (hzl : zs.length = z)
  (hsrc : tE ρ z (un (ev ρ y))) (hb1 : (kA ρ (un (ev ρ y))).length ≤ 9223372036854775807) (hb2 : (kA ρ (un (ev ρ y))).length * by_ ≤ 140737488355328)
  (hK : K (set (cI d ρ) d (.row e z (kA ρ (un (ev ρ y)))))) : OW P nt ops o K ρ := by
 refine eZ hg fun I A a w hsim => ?_
 have hxr := hsim.opd x (bF ho (by simp [hop, Op.operands, Call.operands])) (by rw [hx]; trivial)
 rw [hx] at hxr
 have hxr : bH w I A .ez (a.eval x) := hxr
 have hyr := hsim.opd y (bF ho (by simp [hop, Op.operands, Call.operands])) hy
 obtain ⟨b, m, c, hye, hsl', hsrc'⟩ := aFa hsim hyr hsrc
 rw [hsl'] at hb1 hb2
 generalize hxe : a.eval x = v at hxr
 cases hxr with
 | ez _ b' =>
  obtain ⟨q, w', A', k1, k2, k3⟩ := tU (P := P) (A := A) (A1 := A) (ty := o.type) hsim hd hsl hz hz0 hzl b' (c := c) hsl' hsrc' hb1 hb2 (fun _ _ h => h) (fun _ _ => rfl)
  refine ⟨q, w', I, A', _, ?_, by rw [hdst]; exact k2, k3, hK⟩
  simp only [execOp, hop, resolve, Sem.run_bind, Sem.run_pure, Result.andThen_ok, invoke, builtin, List.map_toArray, List.map_cons, List.map_nil, hxe, hye]
  rw [k1]
  rfl
theorem aKo {o : Oper} {K : aS → Prop} {t : TypeId} {x y : Operand} {d : Nat} {e : TypeId} {z by_ : Nat} {zs : List Value} (hop : o.op = .call ⟨.builtin .append, #[x, y], #[t, t]⟩) (hg : o.guard = none) (hdst : o.dst = some d) (hd : d < nt)
  (ho : dA nt o = true) (hx : ev ρ x = .v (.slice none 0 0)) (hy : gd (ev ρ y)) (hsl : kH P t = some (e, z, by_)) (hz : eM P e = some zs) (hz0 : 0 < z) (hzl : zs.length = z)
  (hsrc : tE ρ z (un (ev ρ y))) (hb1 : (kA ρ (un (ev ρ y))).length ≤ 9223372036854775807) (hb2 : (kA ρ (un (ev ρ y))).length * by_ ≤ 140737488355328)
  (hK : K (set (cI d ρ) d (.row e z (kA ρ (un (ev ρ y)))))) : OW P nt ops o K ρ := by
 refine eZ hg fun I A a w hsim => ?_
 have hxr := hsim.opd x (bF ho (by simp [hop, Op.operands, Call.operands])) (by rw [hx]; trivial)
 rw [hx] at hxr
 have hxr : bH w I A (.v (.slice none 0 0)) (a.eval x) := hxr
 have hyr := hsim.opd y (bF ho (by simp [hop, Op.operands, Call.operands])) hy
 obtain ⟨b, m, c, hye, hsl', hsrc'⟩ := aFa hsim hyr hsrc
 rw [hsl'] at hb1 hb2
 generalize hxe : a.eval x = v at hxr
 cases hxr
 obtain ⟨q, w', A', k1, k2, k3⟩ := pG (P := P) (A := A) (A1 := A) (ty := o.type) hsim hd hsl hz hz0 hzl (v := .slice none 0 0) (n := 0) (xs := []) (xsV := []) (World.ownsRow_nil w 0 e z) rfl (by simp) (c := c) hsl' hsrc' (by omega) (by simpa using hb2)
  (fun g h => by cases h) (fun _ _ h => h) (fun g h => by cases h) (fun _ _ => rfl)
 refine ⟨q, w', I, A', _, ?_, by rw [hdst]; exact k2, k3, by simpa using hK⟩
 simp only [execOp, hop, resolve, Sem.run_bind, Sem.run_pure, Result.andThen_ok, invoke, builtin, List.map_toArray, List.map_cons, List.map_nil, hxe, hye]
 rw [k1]
 rfl
end
end Go.Sg
namespace Go.Sg
open Go.RowKit
def aFf : Value → Option ByteArray
 | .string s => some s
 | _ => none
theorem yW {v : Value} {s : ByteArray} : aFf v = some s ↔ v = .string s := by cases v <;> simp [aFf]
def aHy : List (Value × Value) → ByteArray → Value → Value
 | [], _, z => z
 | e :: es, s, z => if aFf e.1 = some s then e.2 else aHy es s z
def aWa (es : List (Value × Value)) : Prop := (∀ e ∈ es, (aFf e.1).isSome = true) ∧ (es.map (·.1)).Nodup
def bKz (es : List (Value × Value)) (s : ByteArray) : Prop := (∀ e ∈ es, (aFf e.1).isSome = true) ∧ ∀ e ∈ es, e.1 ≠ .string s
theorem uI : ∀ {es : List (Value × Value)}, (es.map (·.1)).Nodup → ∀ {s : ByteArray} {v z : Value}, (.string s, v) ∈ es → aHy es s z = v
 | [], _, s, v, z, h => by cases h
 | e :: es, hn, s, v, z, h => by
  rw [List.map_cons, List.nodup_cons] at hn
  unfold aHy
  rcases List.mem_cons.1 h with rfl | h
  ·rw [if_pos (yW.2 rfl)]
  rw [if_neg]
  ·exact uI hn.2 h
  intro he
  rw [yW] at he
  exact hn.1 (List.mem_map.2 ⟨_, h, he.symm⟩)
theorem uC : ∀ {es : List (Value × Value)} {s : ByteArray} {z : Value}, (∀ e ∈ es, e.1 ≠ .string s) → aHy es s z = z
 | [], _, _, _ => rfl
 | e :: es, s, z, h => by
  unfold aHy
  rw [if_neg fun he => h e (by simp) (yW.1 he)]
  exact uC fun e' he' => h e' (by simp [he'])
def aFe (P : Program) (t : TypeId) : Option Value :=
 match P.underlying t with
 | some (.map kt e) => (match P.underlying kt, P.info? e with
  | some .string, some i => i.zero
  | _, _ => none)
 | _ => none
theorem aCo {P : Program} {t : TypeId} {z : Value} (h : aFe P t = some z) : ∃ kt e i, P.underlying t = some (.map kt e) ∧ P.underlying kt = some .string ∧ P.info? e = some i ∧ i.zero = some z := by
 unfold aFe at h
 split at h <;> try cases h
 rename_i kt e hu
 split at h <;> try cases h
 rename_i hk hi
 exact ⟨kt, e, _, hu, hk, hi, h⟩
theorem aIj {P : Program} {kt : TypeId} (hu : P.underlying kt = some .string) (w : World) (s : ByteArray) (vs : List MapEntry) (h : ∀ e ∈ vs, (aFf e.key).isSome = true) :
  ((Instr.findKey kt (.string s) vs).run P w = .ok none w ∧ ∀ e ∈ vs, e.key ≠ .string s) ∨ ∃ j e, (Instr.findKey kt (.string s) vs).run P w = .ok (some (j, e.val)) w ∧ vs[j]? = some e ∧ e.key = .string s := by
 rcases MapKept.findNow_spec (d := .string) (k := .string s) (show MapKept.IsKey .string (.string s) from trivial) vs 0 (fun e he => by
   have := h e he
   cases hk : e.key <;> rw [hk] at this <;> first | trivial | (simp [aFf] at this)) with ⟨h1, h2⟩ | ⟨j, e, h1, h2, h3⟩
 ·exact .inl ⟨MapKept.run_findKey hu h1, h2⟩
 exact .inr ⟨j, e, by rw [MapKept.run_findKey hu h1, Nat.zero_add], h2, h3⟩
section
variable {P : Program} {nt : Nat} {ρ : aS} {ops : Array Oper}
theorem b9.turnO {w w' : World} {I : Nat → Prop} {A : cO} {a : Act} (hs : b9 nt w I A ρ a) {s g c : Nat} (hA : A s = some (some g, c)) (hoth : ∀ g', g' ≠ g → w'.heap[g']? = w.heap[g']?) (hsz : w'.heap.size = w.heap.size) {v : DV}
  (hsl : ∀ x, cX w I A s (ρ s) x → cX w' I A s v x) (ho : dY w' I A s v) (hout : 100000 ≤ s → cM v) : b9 nt w' I A (set ρ s v) a := by
 have hI := (hs.osim.sep s g c hA).2
 have hne : ∀ g', I g' → g' ≠ g := fun g' h e => hI (e ▸ h)
 have hrel : ∀ B d x, bH w I B d x → bH w' I B d x := fun B d x hr => hr.mono fun g' hg' => ⟨hg', fun o => cY (hoth g' (hne g' hg')) o⟩
 have hslot : ∀ t d x, cX w I A t d x → cX w' I A t d x := fun t d x hr => by
  cases d with
  | bx cs => exact hr
  | row e z xs => exact hr
  | cond g y => exact ⟨fun hg => hrel _ _ _ (hr.1 hg), hr.2⟩
  | any => exact .any A x
  | v y => exact hrel _ _ _ hr
  | sl z n f => exact hrel _ _ _ hr
  | agg cs => exact hrel _ _ _ hr
  | tup cs => exact hrel _ _ _ hr
  | dp cs => exact hrel _ _ _ hr
  | bp t o => exact hrel _ _ _ hr
  | own t n => exact hrel _ _ _ hr
  | rp t z i o => exact hrel _ _ _ hr
  | fn f b c => exact hrel _ _ _ hr
  | iface t y => exact hrel _ _ _ hr
  | mr t => exact hrel _ _ _ hr
  | ez => exact hrel _ _ _ hr
  | mo es => exact hr
 refine ⟨⟨fun t => ?_, hs.osim.inj, fun t g' c' h' => ?_, hs.osim.imm.step (fun g' h' => by rw [hsz]; exact hs.osim.imm g' h') fun g' h' => ⟨h', hoth g' (hne g' h')⟩⟩, hs.size, hs.bound, fun i hi => ?_, fun t ht => ?_⟩
 ·unfold set; split
  ·rename_i e; rw [e]; exact ho
  rename_i e
  exact (hs.osim.own t).keep (fun g' c' h' => hoth g' fun e' => e (hs.osim.inj t s g c' c (e' ▸ h') hA)) hrel
 ·rw [hsz]; exact hs.osim.sep t g' c' h'
 ·unfold set; split
  ·rename_i e; rw [e] at hi ⊢; exact hsl _ (hs.slot s hi)
  exact hslot i _ _ (hs.slot i hi)
 unfold set; split
 ·rename_i e; exact hout (e ▸ ht)
 exact hs.out t ht
theorem eA.turnO {w w' : World} {I : Nat → Prop} {A : cO} {s g c : Nat} (hA : A s = some (some g, c)) (hoth : ∀ g', g' ≠ g → w'.heap[g']? = w.heap[g']?) (hsz : w'.heap.size = w.heap.size) (h1 : w'.os = w.os) (h2 : w'.tape = w.tape ∧ w.drawn ≤ w'.drawn) (h3 : w'.output = w.output) : eA w I A w' I A where
 os := h1
 tape := h2
 output := h3
 size := by rw [hsz]; exact Nat.le_refl _
 imm := fun _ h => h
 old := fun g' _ h' => ⟨hoth g' fun e => h' s c (e ▸ hA), fun h => h, h'⟩
 loc := fun s g c hA _ hs => ⟨s, c, hs, hA⟩
 outA := fun _ _ => rfl
def lkG (ρ : aS) (dst : Option Nat) (z : Option Value) (x k : DV) (K : aS → Prop) : Prop :=
 match z, x, k with
 | some z, .mr s, .v (.string q) => (match ρ s with
  | .mo es => aWa es ∧ K (bZ ρ dst (.v (aHy es q z)))
  | _ => False)
 | _, _, _ => False
def upG (ρ : aS) (z : Option Value) (x k v : DV) (K : aS → Prop) : Prop :=
 match z, x, k, v with
 | some _, .mr s, .v (.string q), .v y => (match ρ s with
  | .mo es => bKz es q ∧ K (set ρ s (.mo (es ++ [(.string q, y)])))
  | _ => False)
 | _, _, _, _ => False
theorem aPe {o : Oper} {K : aS → Prop} {t : TypeId} {x k : Operand} (hop : o.op = .lookup t x k false) (hg : o.guard = none) (ho : dA nt o = true) (hd : eO nt o = true)
  (h : lkG ρ o.dst (aFe P t) (ev ρ x) (ev ρ k) K) : OW P nt ops o K ρ := by
 unfold lkG at h
 split at h
 ·rename_i _ _ _ z s q hz hx hk
  split at h
  ·rename_i es hes
   obtain ⟨⟨hK1, hK2⟩, hK⟩ := h
   refine eZ hg fun I A a w hs => ?_
   obtain ⟨kt, e, i, u1, u2, u3, u4⟩ := aCo hz
   have hxr := hs.opd x (bF ho (by simp [hop, Op.operands])) (by rw [hx]; trivial)
   have hkr := hs.opd k (bF ho (by simp [hop, Op.operands])) (by rw [hk]; trivial)
   rw [hx] at hxr; rw [hk] at hkr
   have hxr : bH w I A (.mr s) (a.eval x) := hxr
   have hkr : bH w I A (.v (.string q)) (a.eval k) := hkr
   generalize hav : a.eval x = av at *
   generalize hkv : a.eval k = kv at *
   cases hkr
   cases hxr with
   | mr _ _ g c hA =>
    have hown := hs.osim.own s
    rw [hes] at hown
    obtain ⟨g', c', vs, cl, q1, q2, q3⟩ := hown
    rw [hA] at q1
    simp only [Option.some.injEq, Prod.mk.injEq] at q1
    obtain ⟨rfl, rfl⟩ := q1
    have hks : ∀ e ∈ vs, (aFf e.key).isSome = true := fun m hm => hK1 (m.key, m.val) (by rw [← q3]; exact List.mem_map.2 ⟨m, hm, rfl⟩)
    have hck : ∀ em, (Instr.checkKey em 10000 kt (.string q)).run P w = .ok () w := fun em => MapKept.run_checkKey u2 (show MapKept.IsKey .string (.string q) from trivial) em 9999
    rcases aIj u2 w q vs hks with ⟨f1, f2⟩ | ⟨j, m, f1, f2, f3⟩
    ·refine ⟨z, w, I, A, _, ?_, hs.putV hd ?_, eA.refl _ _ _, hK⟩
     ·simp [execOp, hop, hav, hkv, Instr.lookup, run_underlying u1, MapKept.run_getObj_map q2, hck, f1, zeroValue, typeInfo, u3, u4]
     rw [uC fun e he => by
      rw [← q3] at he
      obtain ⟨m, hm, rfl⟩ := List.mem_map.1 he
      exact f2 m hm]
     exact .v _ _
    refine ⟨m.val, w, I, A, _, ?_, hs.putV hd ?_, eA.refl _ _ _, hK⟩
    ·simp [execOp, hop, hav, hkv, Instr.lookup, run_underlying u1, MapKept.run_getObj_map q2, hck, f1]
    rw [uI hK2 (v := m.val) (by rw [← q3, ← f3]; exact List.mem_map.2 ⟨m, List.mem_of_getElem? f2, rfl⟩)]
    exact .v _ _
  exact h.elim
 exact h.elim
theorem aFn {o : Oper} {K : aS → Prop} {t : TypeId} {x k y : Operand} (hop : o.op = .mapUpdate t x k y) (hg : o.guard = none) (hdst : o.dst = none) (ho : dA nt o = true)
  (h : upG ρ (aFe P t) (ev ρ x) (ev ρ k) (ev ρ y) K) : OW P nt ops o K ρ := by
 unfold upG at h
 split at h
 ·rename_i _ _ _ _ z s q v hz hx hk hy
  split at h
  ·rename_i es hes
   obtain ⟨⟨hK1, hK2⟩, hK⟩ := h
   refine xN hg fun I A a w hs => ?_
   obtain ⟨kt, e, i, u1, u2, u3, u4⟩ := aCo hz
   have hxr := hs.opd x (bF ho (by simp [hop, Op.operands])) (by rw [hx]; trivial)
   have hkr := hs.opd k (bF ho (by simp [hop, Op.operands])) (by rw [hk]; trivial)
   have hyr := hs.opd y (bF ho (by simp [hop, Op.operands])) (by rw [hy]; trivial)
   rw [hx] at hxr; rw [hk] at hkr; rw [hy] at hyr
   have hxr : bH w I A (.mr s) (a.eval x) := hxr
   have hkr : bH w I A (.v (.string q)) (a.eval k) := hkr
   have hyr : bH w I A (.v v) (a.eval y) := hyr
   generalize hav : a.eval x = av at *
   generalize hkv : a.eval k = kv at *
   generalize hyv : a.eval y = yv at *
   cases hkr
   cases hyr
   cases hxr with
   | mr _ _ g c hA =>
    have hown := hs.osim.own s
    rw [hes] at hown
    obtain ⟨g', c', vs, cl, q1, q2, q3⟩ := hown
    rw [hA] at q1
    simp only [Option.some.injEq, Prod.mk.injEq] at q1
    obtain ⟨rfl, rfl⟩ := q1
    have hks : ∀ e ∈ vs, (aFf e.key).isSome = true := fun m hm => hK1 (m.key, m.val) (by rw [← q3]; exact List.mem_map.2 ⟨m, hm, rfl⟩)
    have hck : ∀ em, (Instr.checkKey em 10000 kt (.string q)).run P w = .ok () w := fun em => MapKept.run_checkKey u2 (show MapKept.IsKey .string (.string q) from trivial) em 9999
    have hst : (Instr.keyThatStays (.string q) (.string q)).run P w = .ok (.string q) w := MapKept.run_keyThatStays (show MapKept.IsKey .string (.string q) from trivial)
    rcases aIj u2 w q vs hks with ⟨f1, f2⟩ | ⟨j, m, f1, f2, f3⟩
    ·have hset := MapKept.heap_set (o' := .map (vs ++ [({ key := .string q, val := v, born := cl } : MapEntry)]).toArray (cl + 1)) q2
     refine ⟨{ w with heap := w.heap.setIfInBounds g (.map (vs ++ [({ key := .string q, val := v, born := cl } : MapEntry)]).toArray (cl + 1)) }, I, A, _, ?_, ?_, eA.turnO hA hset.2 (by simp) rfl ⟨rfl, Nat.le_refl _⟩ rfl, hK⟩
     ·simp [execOp, hop, hav, hkv, hyv, Instr.mapUpdate, run_underlying u1, MapKept.run_getObj_map q2, hck, f1, MapKept.run_setObj_map _ q2]
     rw [hdst]
     refine hs.turnO hA hset.2 (by simp) (fun x' hx' => ?_) ⟨g, c, _, _, hA, hset.1, by rw [List.map_append, q3]; rfl⟩ fun _ => rfl
     rw [hes] at hx'; exact hx'
    exact absurd f3 (hK2 (m.key, m.val) (by rw [← q3]; exact List.mem_map.2 ⟨m, List.mem_of_getElem? f2, rfl⟩))
  exact h.elim
 exact h.elim
theorem aLd {o : Oper} {K : aS → Prop} {t : TypeId} {d : Nat} (hop : o.op = .makeMap t none) (hg : o.guard = none) (hdst : o.dst = some d) (hd : d < nt) (hK : K (set (cI d ρ) d (.mo []))) : OW P nt ops o K ρ := by
 refine eZ hg fun I A a w hs => ?_
 have hb := hs.bound
 have hgr := l1.alloc hs.osim (.map #[] 0)
 have hs1 := hs.grow hgr
 refine ⟨.map (some w.heap.size), w.alloc (.map #[] 0), I, gE A d (some (some w.heap.size, 0)), _, by simp [execOp, hop, Instr.makeMap, newObj, Sem.run], ?_, ?_, hK⟩
 ·rw [hdst]
  refine hs1.own hd (fun g hg => ?_) ⟨_, 0, cC _ _ _, rfl⟩ ⟨w.heap.size, 0, [], 0, cC _ _ _, (MapKept.heap_alloc w _).1, rfl⟩
  cases hg
  refine ⟨by simp, fun hi => ?_, fun s c' _ hc => ?_⟩
  ·have := hs.osim.imm _ hi; omega
  have := (hs.osim.sep s _ c' hc).1; omega
 refine ⟨rfl, ⟨rfl, Nat.le_refl _⟩, rfl, by simp, fun _ h => h, fun g hg hA => ⟨hgr.heap g hg, fun h => h, fun s c hc => ?_⟩, fun s g c hc hg hl' => ?_, fun s h => d5 A _ (by omega)⟩
 ·rcases cA hc with ⟨_, h⟩ | ⟨_, h⟩
  ·simp only [Option.some.injEq, Prod.mk.injEq] at h; omega
  exact hA s c h
 rcases cA hc with ⟨_, h⟩ | ⟨_, h⟩
 ·simp only [Option.some.injEq, Prod.mk.injEq] at h; omega
 exact ⟨s, c, hl', h⟩
end
end Go.Sg
namespace Go.Sg
open Go.RowKit
def aUg (ρ : aS) (d t : Nat) (c : DV) (K : aS → Prop) : Prop :=
 match bP c with
 | true => t ≠ d ∧ K (set (cI d (set (cI t ρ) t .any)) d (eF d (eF t c)))
 | false => gd c ∧ K (set ρ d (un c))
def bFl (ρ : aS) (d : Nat) (c : DV) (K : aS → Prop) : Prop :=
 gd c ∧ (0 < (cD (un c)).length ∨ ∃ cs, un c = .agg cs) ∧ K (set (cI d ρ) d (eF d (.bx (cD (un c)))))
def aAd (ρ : aS) (d : Nat) (zs : Option (List Value)) (K : aS → Prop) : Prop :=
 match zs with
 | some zs => K (set (cI d ρ) d (.bx (zs.map .v)))
 | none => False
def stR (ρ : aS) (s z i off n : Nat) (cs : List DV) (c : DV) (K : aS → Prop) : Prop :=
 match c with
 | .row e z' xs => z = z' ∧ cs.length = n ∧ i < xs.length ∧ off + n ≤ z ∧ dF (fun _ => false) cs = true ∧ K (set ρ s (.row e z (xs.set i (spl off cs (xs.getD i [])))))
 | _ => False
def stG (ρ : aS) (n : Option Nat) (ad : DV) (x : DV) (K : aS → Prop) : Prop :=
 match n with
 | none => False
 | some n =>
  match ad with
  | .bp s off => gd x ∧ 0 < n ∧ stB ρ s off n (cD (un x)) (ρ s) K
  | .rp s z i off => gd x ∧ 0 < n ∧ stR ρ s z i off n (cD (un x)) (ρ s) K
  | _ => False
def mkG (P : Program) (ρ : aS) (d : Nat) (sl : Option (TypeId × Nat × Nat)) (x y : DV) (K : aS → Prop) : Prop :=
 match sl, x, y with
 | some (e, z, by_), .v (.int _ n), .v (.int _ c) =>
  (match eM P e with
  | some zs => zs.length = z ∧ 0 ≤ n ∧ n ≤ c ∧ c ≤ 9223372036854775807 ∧ c * by_ ≤ 140737488355328 ∧ K (set (cI d ρ) d (.row e z (List.replicate n.toNat (zs.map .v))))
  | none => False)
 | _, _, _ => False
def aUw (P : Program) (ρ : aS) (d : Nat) (sl : Option (TypeId × Nat × Nat)) (n : Nat) (parts : List (Nat × Operand)) (K : aS → Prop) : Prop :=
 match sl with
 | some (e, z, _) =>
  (match parts with
  | [] => n = 0 ∧ K (set (cI d ρ) d (.row e z []))
  | parts => (eM P e).isSome = true ∧ 0 < z ∧ 0 < n ∧ n * z ≤ 16777216 ∧ parts.length = n ∧ zP ρ z 0 parts ∧ K (set ρ d (.sl z n fun i => (bsL ρ parts).getD i [])))
 | none => False
def bMa (ρ : aS) (d s n e z by_ : Nat) (src : DV) (c : DV) (K : aS → Prop) : Prop :=
 match c with
 | .row e' z' xs => e' = e ∧ z' = z ∧ s < 100000 ∧ n ≤ xs.length ∧ tE ρ z src ∧ n + (kA ρ src).length ≤ 9223372036854775807 ∧ (n + (kA ρ src).length) * by_ ≤ 140737488355328 ∧
   K (set (cI d (set (cI s ρ) s .any)) d (.row e z (xs.take n ++ kA ρ src)))
 | _ => False
def bDa (P : Program) (ρ : aS) (d : Nat) (sl : Option (TypeId × Nat × Nat)) (x y : DV) (K : aS → Prop) : Prop :=
 match sl with
 | some (e, z, by_) => gd y ∧ 0 < z ∧ (eM P e).map List.length = some z ∧
  (match x with
  | .own s n => bMa ρ d s n e z by_ (un y) (ρ s) K
  | .v (.slice none 0 0) => tE ρ z (un y) ∧ (kA ρ (un y)).length ≤ 9223372036854775807 ∧ (kA ρ (un y)).length * by_ ≤ 140737488355328 ∧ K (set (cI d ρ) d (.row e z (kA ρ (un y))))
  | .ez => tE ρ z (un y) ∧ (kA ρ (un y)).length ≤ 9223372036854775807 ∧ (kA ρ (un y)).length * by_ ≤ 140737488355328 ∧ K (set (cI d ρ) d (.row e z (kA ρ (un y))))
  | _ => False)
 | none => False
def gdL (ρ : aS) : List Operand → Prop
 | [] => True
 | x :: l => gd (ev ρ x) ∧ gdL ρ l
theorem aMx (ρ : aS) (l : List Operand) : gdL ρ l ↔ ∀ x ∈ l, gd (ev ρ x) := by
 induction l with
 | nil => simp [gdL]
 | cons x l ih => simp [gdL, ih]
def evL (ρ : aS) (l : List Operand) : List DV := l.map fun x => un (ev ρ x)
def bDl (P : Program) (ρ : aS) (d : Nat) (f : Option (FuncId × List DV)) (K : aS → Prop) : Prop :=
 match f with
 | some (f, l) => aCa P ρ f l (fun O' r => (bP r = true → eF d r = r) ∧ K (aQu O' d r)) ⟨⟩
 | none => False
def aDa (P : Program) (f : Option (FuncId × List DV)) : Prop :=
 match f with
 | some (f, _) => aQ P f = true
 | none => False
def cbG (P : Program) (ρ : aS) (b : Builtin) (args : List Operand) (ts : List TypeId) (d : Option Nat) (K : aS → Prop) : Prop :=
 match b, args, ts, d with
 | .append, [x, y], [t, t'], some d => t = t' ∧ bDa P ρ d (kH P t) (ev ρ x) (ev ρ y) K
 | b, args, ts, d => (tS P ρ b args ts).1 ∧ K (bZ ρ d (tS P ρ b args ts).2)
def aEx : Operand → Bool
 | .const (.slice none _ _) => true
 | _ => false
def aRo : BinOp → Bool
 | .eql => true
 | _ => false
def bOv (P : Program) (ρ : aS) (t : TypeId) (x : DV) (dst : Option Nat) (K : aS → Prop) : Prop :=
 tk P t = 2 ∧ (match x with
  | .sl _ n _ => ∀ b : Bool, (0 < n → b = false) → K (bZ ρ dst (.v (.bool b)))
  | .v (.slice a _ _) => K (bZ ρ dst (.v (.bool a.isNone)))
  | _ => False)
def aXk (P : Program) (ρ : aS) (b : BinOp) (t : TypeId) (x y : Operand) (dst : Option Nat) (K : aS → Prop) : Prop :=
 bif aRo b && aEx y then gd (ev ρ x) ∧ bOv P ρ t (un (ev ρ x)) dst K
 else ((gd (ev ρ x) ∧ gd (ev ρ y)) ∧ (aAn (qZ P t) (tk P t) b (un (ev ρ x)) (un (ev ρ y))).1) ∧ K (bZ ρ dst (aAn (qZ P t) (tk P t) b (un (ev ρ x)) (un (ev ρ y))).2)
def fJ (P : Program) (ρ : aS) (op : Op) (dst : Option Nat) (K : aS → Prop) : Prop :=
 match op, dst with
 | .assign (.tmp t), some d => aUg ρ d t (ρ t) K
 | .assign x, dst => gd (ev ρ x) ∧ K (bZ ρ dst (un (ev ρ x)))
 | .binOp b t x y _, dst => aXk P ρ b t x y dst K
 | .build t parts, dst => (nN P ρ t parts.toList).1 ∧ K (bZ ρ dst (nN P ρ t parts.toList).2)
 | .box _ x, some d => bFl ρ d (ev ρ x) K
 | .alloc t, some d => aAd ρ d (eM P t) K
 | .store t ad x, none => stG ρ (jH P t) (ev ρ ad) (ev ρ x) K
 | .makeSlice t x y, some d => mkG P ρ d (kH P t) (ev ρ x) (ev ρ y) K
 | .buildSlice t n parts, some d => aUw P ρ d (kH P t) n parts.toList K
 | .lookup t x k false, dst => lkG ρ dst (aFe P t) (ev ρ x) (ev ρ k) K
 | .mapUpdate t x k y, none => upG ρ (aFe P t) (ev ρ x) (ev ρ k) (ev ρ y) K
 | .makeMap _ none, some d => K (set (cI d ρ) d (.mo []))
 | .call c, dst =>
  (match c.callee with
  | .value f => (match dst with
   | some d => gd (ev ρ f) ∧ gdL ρ c.args.toList ∧ aDa P (callee (un (ev ρ f)) (evL ρ c.args.toList)) ∧ bDl P ρ d (callee (un (ev ρ f)) (evL ρ c.args.toList)) K
   | none => False)
  | .builtin b => cbG P ρ b c.args.toList c.argTypes.toList dst K
  | _ => False)
 | op, dst => (w4 P ρ op).1 ∧ K (bZ ρ dst (w4 P ρ op).2)
section
variable {P : Program} {nt : Nat} {ρ : aS} {ops : Array Oper}
theorem zZ {off : Nat} {cs old : List DV} (h : off + cs.length ≤ old.length) : (spl off cs old).length = old.length := by
 unfold spl
 split
 ·rw [List.length_set]
 split
 ·assumption
 simp only [List.length_append, List.length_take, List.length_drop]; omega
theorem aQa {o : Oper} {K : aS → Prop} {t : TypeId} {ad x : Operand} {n s z i off : Nat} (hop : o.op = .store t ad x) (hg : o.guard = none) (hdst : o.dst = none) (ho : dA nt o = true)
  (ha : ev ρ ad = .rp s z i off) (hx : gd (ev ρ x)) (hz : jH P t = some n) (hl : 0 < n) (h : stR ρ s z i off n (cD (un (ev ρ x))) (ρ s) K) : OW P nt ops o K ρ := by
 refine xN hg fun I A a w hs => ?_
 have hxr := hs.opd x (bF ho (by simp [hop, Op.operands])) hx
 have hadr := hs.opd ad (bF ho (by simp [hop, Op.operands])) (by rw [ha]; trivial)
 rw [ha] at hadr
 have hadr : bH w I A (.rp s z i off) (a.eval ad) := hadr
 generalize hav : a.eval ad = av at *
 cases hadr with
 | rp _ _ _ _ _ g c hA =>
  have hown := hs.osim.own s
  cases hρ : ρ s <;> rw [hρ] at h hown <;> simp only [stR] at h <;> try exact h.elim
  rename_i e z' xs
  obtain ⟨rfl, h1, h2, h3, h4, hK⟩ := h
  obtain ⟨B, c', q1, q2⟩ := hown
  rw [hA] at q1
  simp only [Option.some.injEq, Prod.mk.injEq] at q1
  obtain ⟨rfl, rfl⟩ := q1
  obtain ⟨us, q2, q3, q4, q5, q6⟩ := q2
  obtain ⟨k1, k2, k3⟩ := nO hxr (.inl (by omega))
  have hxi : xs[i]? = some (xs.getD i []) := by rw [List.getD_eq_getElem?_getD, List.getElem?_eq_getElem h2]; rfl
  have hol := (q6 i _ hxi).1
  have hbound : ∀ i' r, i' < xs.length → r < z → i' * z + r < us.size := fun i' r hi' hr => by
   rw [q3]
   have : (i' + 1) * z ≤ c * z := Nat.mul_le_mul_right _ (by omega)
   rw [Nat.succ_mul] at this
   omega
  have hcsl : (cD (un (ev ρ x))).length = n := h1
  have hfit : i * z + off + n ≤ us.size := by
   rw [q3]
   have : (i + 1) * z ≤ c * z := Nat.mul_le_mul_right _ (by omega)
   rw [Nat.succ_mul] at this
   omega
  have hrun := vS (P := P) (w := w) hz (x := a.eval x) (by omega) q2 (o := i * z + off) hfit k2
  generalize hnew : (us.toList.take (i * z + off) ++ (a.eval x).cells.toList ++ us.toList.drop (i * z + off + n)).toArray = new at hrun
  have hI : ∀ {B : cO} {d : DV} {v : Value}, bH w I B d v → bH (w.setRow g new) I B d v := fun hr =>
   hr.mono fun g' hg' => ⟨hg', fun o => cY (setRow_other w g g' _ (fun e => (hs.osim.sep s g c hA).2 (e ▸ hg'))) o⟩
  have hnsz : new.size = us.size := by subst hnew; simp; omega
  have hget : ∀ q, new[q]? = if i * z + off ≤ q ∧ q < i * z + off + n then (a.eval x).cells[q - (i * z + off)]? else us[q]? := fun q => by
   subst hnew
   simp only [List.getElem?_toArray]
   rw [List.getElem?_append, List.getElem?_append]
   simp only [List.length_append, List.length_take, Array.length_toList, ← k1, hcsl, Nat.min_eq_left (show i * z + off ≤ us.size by omega)]
   by_cases c1 : q < i * z + off
   ·rw [if_pos (by omega), if_pos c1, if_neg (by omega), List.getElem?_take, if_pos c1, Array.getElem?_toList]
   by_cases c2 : q < i * z + off + n
   ·rw [if_pos c2, if_neg c1, if_pos (by omega), Array.getElem?_toList]
   rw [if_neg c2, if_neg (by omega), List.getElem?_drop, Array.getElem?_toList]
   congr 1
   omega
  refine ⟨w.setRow g new, I, A, _, ?_, ?_, eA.turn hA new, hK⟩
  ·simp only [execOp, hop, Sem.run_bind, hav, hrun, Result.andThen_ok, Sem.run_pure]
  rw [hdst]
  refine hs.turn hA q2 (fun v hv => ?_) ?_ fun hs' => rfl
  ·rw [hρ] at hv
   obtain ⟨B, c2, r1, r2⟩ := hv
   exact ⟨B, c2, r1, by rw [List.length_set]; exact r2⟩
  refine ⟨some g, c, hA, new, setRow_heap w g us _ e _ q2, by rw [hnsz, q3], q4, by rw [List.length_set]; exact q5, fun i' y hy => ?_⟩
  rw [List.getElem?_set] at hy
  split at hy
  ·rename_i hii
   subst hii
   cases hy
   refine ⟨by rw [zZ (by omega)]; exact hol, fun j d u hd hu => ?_⟩
   have hj : j < z := by
    have : (spl off (cD (un (ev ρ x))) (xs.getD i [])).length = z := by rw [zZ (by omega)]; exact hol
    rw [← this]
    rcases Nat.lt_or_ge j (spl off (cD (un (ev ρ x))) (xs.getD i [])).length with h | h
    ·exact h
    rw [List.getElem?_eq_none h] at hd; cases hd
   rw [hget] at hu
   rw [zL (by omega), List.getElem?_append, List.getElem?_append] at hd
   simp only [List.length_append, List.length_take, Nat.min_eq_left (show off ≤ (xs.getD i []).length by omega), hcsl] at hd
   by_cases c1 : j < off
   ·rw [if_pos (by omega), if_pos c1, List.getElem?_take, if_pos c1] at hd
    rw [if_neg (by omega)] at hu
    obtain ⟨r1, r2⟩ := (q6 i _ hxi).2 j d u hd hu
    exact ⟨r1, hI r2⟩
   by_cases c2 : j < off + n
   ·rw [if_pos c2, if_neg c1] at hd
    rw [if_pos (by omega)] at hu
    have e1 : i * z + j - (i * z + off) = j - off := by omega
    rw [e1] at hu
    exact ⟨k2 u (by simpa using Array.mem_of_getElem? hu), hI ((k3 _ d u hd hu).pure (fC h4 hd))⟩
   rw [if_neg c2, List.getElem?_drop] at hd
   rw [if_neg (by omega)] at hu
   have e1 : off + n + (j - (off + n)) = j := by omega
   rw [e1] at hd
   obtain ⟨r1, r2⟩ := (q6 i _ hxi).2 j d u hd hu
   exact ⟨r1, hI r2⟩
  rename_i hii
  obtain ⟨r1, r2⟩ := q6 i' y hy
  refine ⟨r1, fun j d u hd hu => ?_⟩
  have hj : j < z := by
   rw [← r1]
   rcases Nat.lt_or_ge j y.length with h | h
   ·exact h
   rw [List.getElem?_eq_none h] at hd; cases hd
  rw [hget, if_neg (by
   intro ⟨a1, a2⟩
   have e1 := kL (z := z) (i := i') (q := i' * z + j) (by omega) (by omega) (by omega)
   have e2 := kL (z := z) (i := i) (q := i' * z + j) (by omega) (by omega) (by omega)
   omega)] at hu
  exact ⟨(r2 j d u hd hu).1, hI (r2 j d u hd hu).2⟩
theorem cS {o : Oper} {K : aS → Prop} (hg : o.guard = none) (ho : dA nt o = true) (hd : eO nt o = true) (h : fJ P ρ o.op o.dst K) : OW P nt ops o K ρ := by
 have hdn : ∀ d, o.dst = some d → d < nt := fun d e => by unfold eO at hd; rw [e] at hd; simpa using hd
 cases hop : o.op with
 | assign x =>
  rw [hop] at h
  cases hdst : o.dst with
  | none =>
   rw [hdst] at h
   have h' : gd (ev ρ x) ∧ K (bZ ρ none (un (ev ρ x))) := by cases x <;> exact h
   exact nW hop hg ho hd h'.1 (by rw [hdst]; exact h'.2)
  | some d =>
   rw [hdst] at h
   cases x with
   | tmp t =>
    have ht : t < nt := by
     have := bF ho (x := .tmp t) (by simp [hop, Op.operands])
     simpa [nL] using this
    have h : aUg ρ d t (ρ t) K := h
    unfold aUg at h
    cases hown : bP (ρ t) with
    | true =>
     rw [hown] at h
     exact aHo hop hg hdst (hdn d hdst) ht h.1 hown h.2
    | false =>
     rw [hown] at h
     have e1 : ev ρ (.tmp t) = ρ t := by
      rw [yC]
      cases hc : ρ t <;> first | rfl | (rw [hc] at hown; cases hown)
     exact nW hop hg ho hd (by rw [e1]; exact h.1) (by rw [hdst, e1]; exact h.2)
   | const v => exact nW hop hg ho hd h.1 (by rw [hdst]; exact h.2)
   | global g => exact nW hop hg ho hd h.1 (by rw [hdst]; exact h.2)
   | func f => exact nW hop hg ho hd h.1 (by rw [hdst]; exact h.2)
 | box t x =>
  rw [hop] at h
  cases hdst : o.dst with
  | none => rw [hdst] at h; exact h.1.elim
  | some d =>
   rw [hdst] at h
   obtain ⟨h1, h2, h3⟩ := h
   exact bHc hop hg hdst (hdn d hdst) ho h1 h2 h3
 | alloc t =>
  rw [hop] at h
  cases hdst : o.dst with
  | none => rw [hdst] at h; exact h.1.elim
  | some d =>
   rw [hdst] at h
   have h : aAd ρ d (eM P t) K := h
   unfold aAd at h
   split at h
   ·rename_i zs hz
    exact aUh hop hg hdst (hdn d hdst) hz h
   exact h.elim
 | lookup t x k ok =>
  rw [hop] at h
  cases ok with
  | false => exact aPe hop hg ho hd h
  | true => exact uJ hg ho hd (by rw [hop]; exact h.1) (by rw [hop]; exact h.2)
 | mapUpdate t x k y =>
  rw [hop] at h
  cases hdst : o.dst with
  | some d => rw [hdst] at h; exact h.1.elim
  | none => rw [hdst] at h; exact aFn hop hg hdst ho h
 | makeMap t hint =>
  rw [hop] at h
  cases hdst : o.dst with
  | none => rw [hdst] at h; cases hint <;> exact h.1.elim
  | some d =>
   rw [hdst] at h
   cases hint with
   | none => exact aLd hop hg hdst (hdn d hdst) h
   | some x => exact h.1.elim
 | store t ad x =>
  rw [hop] at h
  cases hdst : o.dst with
  | some d => rw [hdst] at h; exact h.1.elim
  | none =>
   rw [hdst] at h
   have h : stG ρ (jH P t) (ev ρ ad) (ev ρ x) K := h
   unfold stG at h
   split at h
   ·exact h.elim
   rename_i n hn
   split at h
   ·rename_i s off ha
    exact aSd hop hg hdst ho ha h.1 hn h.2.1 h.2.2
   ·rename_i s z i off ha
    exact aQa hop hg hdst ho ha h.1 hn h.2.1 h.2.2
   exact h.elim
 | makeSlice t x y =>
  rw [hop] at h
  cases hdst : o.dst with
  | none => rw [hdst] at h; exact h.1.elim
  | some d =>
   rw [hdst] at h
   have h : mkG P ρ d (kH P t) (ev ρ x) (ev ρ y) K := h
   unfold mkG at h
   split at h
   ·rename_i e z by_ k n k' c hs hx hy
    split at h
    ·rename_i zs hz
     obtain ⟨h1, h2, h3, h4, h5, h6⟩ := h
     exact aEb hop hg hdst (hdn d hdst) ho hx hy hs hz h1 h2 h3 h4 h5 h6
    exact h.elim
   exact h.elim
 | buildSlice t n parts =>
  rw [hop] at h
  cases hdst : o.dst with
  | none => rw [hdst] at h; exact h.1.elim
  | some d =>
   rw [hdst] at h
   have h : aUw P ρ d (kH P t) n parts.toList K := h
   unfold aUw at h
   split at h
   ·rename_i e z by_ hs
    split at h
    ·rename_i hp
     obtain ⟨rfl, hK⟩ := h
     obtain rfl : parts = #[] := by apply Array.ext'; simpa using hp
     exact bAn hop hg hdst (hdn d hdst) hs hK
    obtain ⟨h1, h2, h3, h4, h5, h6, h7⟩ := h
    obtain ⟨zs, hz⟩ := Option.isSome_iff_exists.1 h1
    exact aXq hop hg hdst (hdn d hdst) ho hs hz h2 h3 h4 h5 h6 h7
   exact h.elim
 | call c =>
  rw [hop] at h
  obtain ⟨cl, args, ts⟩ := c
  cases cl with
  | value f =>
   cases hdst : o.dst with
   | none => rw [hdst] at h; exact h.elim
   | some d =>
    rw [hdst] at h
    have h : gd (ev ρ f) ∧ gdL ρ args.toList ∧ aDa P (callee (un (ev ρ f)) (evL ρ args.toList)) ∧ bDl P ρ d (callee (un (ev ρ f)) (evL ρ args.toList)) K := h
    obtain ⟨h1, h2, h3, h4⟩ := h
    cases hc : callee (un (ev ρ f)) (evL ρ args.toList) with
    | none => rw [hc] at h3; exact h3.elim
    | some p =>
     obtain ⟨g, l⟩ := p
     rw [hc] at h3 h4
     exact aNo (t := ⟨⟩) hop hg hdst (hdn d hdst) ho h1 ((aMx ρ _).1 h2) hc h3 h4
  | builtin b =>
   have hcb : cbG P ρ b args.toList ts.toList o.dst K := h
   clear h
   unfold cbG at hcb
   split at hcb
   ·rename_i x y t t' d hargs hts hdst
    obtain rfl : args = #[x, y] := by apply Array.ext'; simpa using hargs
    obtain ⟨rfl, h⟩ := hcb
    obtain rfl : ts = #[t, t] := by apply Array.ext'; simpa using hts
    unfold bDa at h
    split at h
    ·rename_i e z by_ hs
     obtain ⟨h1, h2, h3, h4⟩ := h
     cases hz : eM P e with
     | none => rw [hz] at h3; cases h3
     | some zs =>
      rw [hz] at h3
      have hzl : zs.length = z := by simpa using h3
      split at h4
      ·rename_i s n hx
       unfold bMa at h4
       split at h4
       ·rename_i e' z' xs hρ
        obtain ⟨rfl, rfl, k1, k2, k3, k4, k5, k6⟩ := h4
        exact aPg hop hg hdst (hdn d hdst) ho hx hρ k1 k2 h1 hs hz h2 hzl k3 k4 k5 k6
       exact h4.elim
      ·rename_i hx
       obtain ⟨k1, k2, k3, k4⟩ := h4
       exact aKo hop hg hdst (hdn d hdst) ho hx h1 hs hz h2 hzl k1 k2 k3 k4
      ·rename_i hx
       obtain ⟨k1, k2, k3, k4⟩ := h4
       exact aJe hop hg hdst (hdn d hdst) ho hx h1 hs hz h2 hzl k1 k2 k3 k4
      exact h4.elim
    exact h.elim
   refine uJ hg ho hd ?_ ?_
   ·rw [hop]; exact hcb.1
   rw [hop]; exact hcb.2
  | invoke r m => exact h.elim
 | build t parts =>
  rw [hop] at h
  have h : (nN P ρ t parts.toList).1 ∧ K (bZ ρ o.dst (nN P ρ t parts.toList).2) := h
  exact aHt hop hg ho hd h.1 h.2
 | binOp b t x y t' =>
  rw [hop] at h
  have h : aXk P ρ b t x y o.dst K := h
  unfold aXk at h
  cases hc : aRo b && aEx y with
  | false =>
   rw [hc] at h
   refine uJ hg ho hd ?_ ?_
   ·rw [hop]; exact h.1
   rw [hop]; exact h.2
  | true =>
   rw [hc] at h
   obtain ⟨h1, h2, h3⟩ := h
   rw [Bool.and_eq_true] at hc
   obtain ⟨c1, c2⟩ := hc
   obtain rfl : b = .eql := by cases b <;> first | rfl | cases c1
   obtain ⟨n', c', rfl⟩ : ∃ n' c', y = .const (.slice none n' c') := by
    unfold aEx at c2; split at c2
    ·exact ⟨_, _, rfl⟩
    cases c2
   obtain ⟨e, he⟩ : ∃ e, P.underlying t = some (.slice e) := by
    unfold tk at h2; split at h2 <;> first | exact ⟨_, by assumption⟩ | omega
   refine eZ hg fun I A a w hs => ?_
   have hr := hs.opd x (bF ho (x := x) (by rw [hop]; simp [Op.operands])) h1
   have hrun : ∀ (b : Option Addr) n c, a.eval x = .slice b n c → (execOp a.eval o).run P w = .ok (.value (.bool b.isNone)) w := fun b n c hx => by
    have hb : execOp a.eval o = (do pure (.value (← (eqGuard .eql t x (.const (.slice none n' c')) (a.eval x) (.slice none n' c') >>= fun _ => binOp .eql t (a.eval x) (.slice none n' c'))))) := by unfold execOp; rw [hop]; rfl
    have hg : eqGuard .eql t x (.const (.slice none n' c')) (.slice b n c) (.slice none n' c') = (pure () : Sem Unit) := by unfold eqGuard; rfl
    rw [hb, hx, hg, Sem.run_bind]
    show Result.andThen ((binOp .eql t (.slice b n c) (.slice none n' c')).run P w) _ = _
    rw [Lib.run_eql_slice_nil w t e b n c n' c' he]
    rfl
   generalize un (ev ρ x) = d at *
   cases d with
   | sl z n f =>
    generalize hx : a.eval x = v at hr
    cases hr with
    | sl0 _ _ _ b c => exact ⟨_, w, I, A, _, hrun b 0 c hx, hs.putV hd (.v A _), eA.refl _ _ _, h3 _ (by omega)⟩
    | sl _ _ _ _ b o c us hn hc hm hI hz hcell hone hrel => exact ⟨_, w, I, A, _, hrun _ n c hx, hs.putV hd (.v A _), eA.refl _ _ _, h3 _ fun _ => rfl⟩
   | v y =>
    cases y with
    | slice b n c =>
     generalize hx : a.eval x = v at hr
     cases hr
     exact ⟨_, w, I, A, _, hrun b n c hx, hs.putV hd (.v A _), eA.refl _ _ _, h3⟩
    | _ => exact h3.elim
   | _ => exact h3.elim
 | _ =>
  rw [hop] at h
  refine uJ hg ho hd ?_ ?_
  ·rw [hop]; exact h.1
  rw [hop]; exact h.2
end
end Go.Sg
namespace Go.Sg
open Go.RowKit
open Go.Rv (FR)
def gS : Op → Bool
 | .call c => match c.callee with
  | .value _ => true
  | .builtin .len => true
  | .builtin .max => true
  | .builtin .min => true
  | _ => false
 | .assign _ | .move _ | .pick .. | .load .. | .nilCheck _ | .binOp .. | .unOp .. | .convert .. | .fieldAddr .. | .indexAddr .. | .index .. | .slice .. | .extract .. | .makeFunc .. => true
 | .buildSlice _ _ _ => true
 | .build _ _ => true
 | .makeSlice .. => true
 | _ => false
def aAe (P : Program) (ρ : aS) (sl : Option (TypeId × Nat × Nat)) (n : Nat) (parts : List (Nat × Operand)) : Prop × DV :=
 match sl with
 | some (e, z, _) => if n = 0 then (parts = [], .ez) else ((eM P e).isSome = true ∧ 0 < z ∧ 0 < n ∧ n * z ≤ 16777216 ∧ parts.length = n ∧ zP ρ z 0 parts, .sl z n fun i => (bsL ρ parts).getD i [])
 | none => (False, .any)
def mkP (P : Program) (sl : Option (TypeId × Nat × Nat)) (x y : DV) : Prop × DV :=
 match sl, x, y with
 | some (e, z, by_), .v (.int _ n), .v (.int _ c) =>
  (match eM P e with
  | some zs => (zs.length = z ∧ 0 ≤ n ∧ n ≤ c ∧ c ≤ 9223372036854775807 ∧ c * by_ ≤ 140737488355328, .sl z n.toNat fun _ => zs.map .v)
  | none => (False, .any))
 | _, _, _ => (False, .any)
def cZ (P : Program) (ρ : aS) : Op → Prop × DV
 | .buildSlice t n parts => aAe P ρ (kH P t) n parts.toList
 | .build t parts => nN P ρ t parts.toList
 | .makeSlice t x y => mkP P (kH P t) (ev ρ x) (ev ρ y)
 | op => w4 P ρ op
def prP (P : Program) (ρ : aS) (op : Op) (d : DV) : Prop :=
 match op with
 | .call ⟨.value f, args, _⟩ => gd (ev ρ f) ∧ gdL ρ args.toList ∧ ∃ g l, callee (un (ev ρ f)) (evL ρ args.toList) = some (g, l) ∧ aQ P g = true ∧ aY P ρ g l d
 | op => (cZ P ρ op).1 ∧ d = (cZ P ρ op).2
def uV (P : Program) (all : List Oper) (ρ : aS) (o : Oper) (d : DV) : Prop :=
 bP d = false ∧ (∀ k, o.dst = some k → bP (ρ k) = false) ∧
 match o.guard with
 | none => prP P ρ o.op d
 | some (j, want) => ∃ g d', gAt all ρ j want = some g ∧ d = .cond g d' ∧ gC d' = true ∧ (g = true → prP P ρ o.op d')
section
variable {P : Program} {nt : Nat} {ρ : aS}
theorem aGh {d : DV} (h : gC d = true) : bP d = false := by cases d <;> first | rfl | (cases h)
theorem aQq {ops : Array Oper} {o : Oper} {d : DV} {K : aS → Prop} (hg : o.guard = none) (ho : dA nt o = true) (hd : eO nt o = true) (hi : bP d = false) (hdst : o.dst.isSome = true) (h : prP P ρ o.op d) (hK : K (bZ ρ o.dst d)) : OW P nt ops o K ρ := by
 obtain ⟨k, hk⟩ := Option.isSome_iff_exists.1 hdst
 have hkn : k < nt := by unfold eO at hd; rw [hk] at hd; simpa using hd
 have gen : (∀ t n parts, o.op ≠ .buildSlice t n parts) → (w4 P ρ o.op).1 ∧ d = (w4 P ρ o.op).2 → OW P nt ops o K ρ := fun _ h => uJ hg ho hd h.1 (by rw [← h.2]; exact hK)
 cases hop : o.op with
 | call c =>
  obtain ⟨cl, args, ts⟩ := c
  rw [hop] at h
  cases cl with
  | value f =>
   obtain ⟨h1, h2, g, l, h3, h4, h5⟩ := h
   refine aNo (t := ⟨⟩) hop hg hk hkn ho h1 ((aMx ρ _).1 h2) h3 h4 ⟨_, h5, ?_⟩
   rintro O' r ⟨rfl, rfl⟩
   refine ⟨?_, ?_⟩
   ·intro h; rw [hi] at h; cases h
   rw [hk] at hK
   unfold aQu
   rw [if_neg (by simp [hi])]
   exact hK
  | _ => exact gen (by simp [hop]) (by rw [hop]; exact h)
 | buildSlice t n parts =>
  rw [hop] at h
  obtain ⟨h1, rfl⟩ := h
  simp only [cZ] at h1 hK
  unfold aAe at h1 hK
  split at h1
  ·rename_i e z by_ hs
   rw [hs] at hK
   split at h1
   ·rename_i hn0
    simp only [if_pos hn0] at hK
    have h1 : parts.toList = [] := h1
    obtain rfl : parts = #[] := by apply Array.ext'; simpa using h1
    subst hn0
    exact aZt hop hg hk hd hs (by rw [hk] at hK; exact hK)
   rename_i hn0
   simp only [if_neg hn0] at hK
   obtain ⟨q1, q2, q3, q4, q5, q6⟩ := h1
   obtain ⟨zs, hz⟩ := Option.isSome_iff_exists.1 q1
   rw [hk] at hK
   exact aXq hop hg hk hkn ho hs hz q2 q3 q4 q5 q6 hK
  exact h1.elim
 | build t parts =>
  rw [hop] at h
  obtain ⟨h1, rfl⟩ := h
  exact aHt hop hg ho hd h1 hK
 | makeSlice t x y =>
  rw [hop] at h
  obtain ⟨h1, rfl⟩ := h
  simp only [cZ] at h1 hK
  unfold mkP at h1 hK
  split at h1
  ·rename_i e z by_ k' n k'' c hs hx hy
   split at h1
   ·rename_i zs hz
    rw [hs, hx, hy] at hK
    simp only [hz] at hK
    obtain ⟨q1, q2, q3, q4, q5⟩ := h1
    rw [hk] at hK
    exact bFx hop hg hk hkn ho hx hy hs hz q1 q2 q3 q4 q5 hK
   exact h1.elim
  exact h1.elim
 | _ => exact gen (by simp [hop]) (by rw [hop]; rw [hop] at h; exact h)
def aJh (k : Nat) (op : Op) : Prop := ∀ x ∈ op.operands, x ≠ .tmp k
theorem fK {k : Nat} {u : DV} {x : Operand} (h : x ≠ .tmp k) : ev (set ρ k u) x = ev ρ x := by
 cases x with
 | tmp t =>
  have : t ≠ k := fun e => h (by rw [e])
  rw [yC, yC, aO, if_neg this]
 | _ => rfl
theorem aCk {ld : Option Nat} {off : Nat} {c : DV} (h : bP c = false) : aBz ld off c = (False, .any) := by cases c <;> first | rfl | (cases h)
theorem aCq {ld : Option Nat} {z i off : Nat} {c : DV} (h : bP c = false) : aNc ld z i off c = (False, .any) := by cases c <;> first | rfl | (cases h)
theorem aOi {k : Nat} {u : DV} (hu : bP u = false) (hk : bP (ρ k) = false) (ld : Option (Option Nat)) (d : DV) : lN (set ρ k u) ld d = lN ρ ld d := by
 unfold lN
 cases ld with
 | none => rfl
 | some ld =>
  cases d <;> try rfl
  ·rename_i s off
   simp only [aO]
   split
   ·rename_i e; subst e; rw [aCk hu, aCk hk]
   rfl
  rename_i s z i off
  simp only [aO]
  split
  ·rename_i e; subst e; rw [aCq hu, aCq hk]
  rfl
theorem aMq {k s : Nat} {u : DV} (hu : bP u = false) (hk : bP (ρ k) = false) (e : TypeId) (z : Nat) (xs : List (List DV)) : (set ρ k u s = .row e z xs) = (ρ s = .row e z xs) := by
 rw [aO]
 split
 ·rename_i h
  subst h
  apply propext
  constructor
  ·intro h; rw [h] at hu; cases hu
  intro h; rw [h] at hk; cases hk
 rfl
theorem aSl {k : Nat} {u : DV} (hu : bP u = false) (hk : bP (ρ k) = false) (el : Option (Option Nat × Nat)) (d i : DV) : rR (set ρ k u) el d i = rR ρ el d i := by
 unfold rR
 simp only [aMq hu hk]
theorem aTl {k : Nat} {u : DV} (hu : bP u = false) (hk : bP (ρ k) = false) (el : Option (Option Nat × Nat)) (t : Nat) (d : DV) (lo hi : Option DV) : uK (set ρ k u) el t d lo hi = uK ρ el t d lo hi := by
 unfold uK
 simp only [aMq hu hk]
theorem aNm {k : Nat} {u : DV} : ∀ {l : List Operand}, (∀ x ∈ l, x ≠ .tmp k) → gdL (set ρ k u) l = gdL ρ l
 | [], _ => rfl
 | x :: l, h => by
  have h1 := fK (ρ := ρ) (u := u) (h x (by simp))
  have h2 := aNm (k := k) (u := u) (l := l) fun y hy => h y (by simp [hy])
  simp only [gdL, h1, h2]
theorem bEd {k : Nat} {u : DV} {l : List Operand} (h : ∀ x ∈ l, x ≠ .tmp k) : evL (set ρ k u) l = evL ρ l := by
 unfold evL
 apply List.map_congr_left
 intro x hx
 rw [fK (h x hx)]
theorem aIu {k z : Nat} {u : DV} : ∀ {l : List (Nat × Operand)} {m : Nat}, (∀ p ∈ l, p.2 ≠ .tmp k) → zP (set ρ k u) z m l = zP ρ z m l
 | [], _, _ => rfl
 | p :: l, m, h => by
  have h1 := fK (ρ := ρ) (u := u) (h p (by simp))
  have h2 := aIu (z := z) (k := k) (u := u) (l := l) (m := m + 1) fun y hy => h y (by simp [hy])
  simp only [zP, h1, h2]
theorem bDu {k : Nat} {u : DV} {l : List (Nat × Operand)} (h : ∀ p ∈ l, p.2 ≠ .tmp k) : bsL (set ρ k u) l = bsL ρ l := by
 unfold bsL
 apply List.map_congr_left
 intro p hp
 rw [fK (h p hp)]
theorem aBf {k : Nat} {t : TypeId} {u : DV} : ∀ {l : List (Nat × Operand)} {cs : List DV}, (∀ p ∈ l, p.2 ≠ .tmp k) → kC P (set ρ k u) t l cs = kC P ρ t l cs
 | [], _, _ => rfl
 | p :: l, cs, h => by
  have h1 := fK (ρ := ρ) (u := u) (h p (by simp))
  have h2 := fun cs => aBf (k := k) (t := t) (u := u) (l := l) (cs := cs) fun y hy => h y (by simp [hy])
  unfold kC
  simp only [h1, h2]
theorem aTw {k : Nat} {u : DV} {b : Builtin} {l : List Operand} {ts : List TypeId} (h : ∀ x ∈ l, x ≠ .tmp k) : tS P (set ρ k u) b l ts = tS P ρ b l ts := by
 unfold tS
 split
 ·rename_i x t; rw [fK (h x (by simp))]
 ·rename_i x y; rw [fK (h x (by simp)), fK (h y (by simp))]
 ·rename_i x y; rw [fK (h x (by simp)), fK (h y (by simp))]
 rfl
theorem bCo {k : Nat} {u : DV} (hu : bP u = false) (hk : bP (ρ k) = false) {op : Op} (h : aJh k op) : cZ P (set ρ k u) op = cZ P ρ op := by
 have hx : ∀ x ∈ op.operands, ev (set ρ k u) x = ev ρ x := fun x hx => fK (h x hx)
 cases op with
 | buildSlice t n parts =>
  have hp : ∀ p ∈ parts.toList, p.2 ≠ .tmp k := fun p hp => h p.2 (by simp [Op.operands]; exact ⟨p.1, by simpa using hp⟩)
  simp only [cZ, aAe, aIu hp, bDu hp]
 | build t parts =>
  have hp : ∀ p ∈ parts.toList, p.2 ≠ .tmp k := fun p hp => h p.2 (by simp [Op.operands]; exact ⟨p.1, by simpa using hp⟩)
  simp only [cZ, nN, aBf hp]
 | makeSlice t x y => simp only [cZ, hx x (by simp [Op.operands]), hx y (by simp [Op.operands])]
 | move x => simp only [cZ, w4, hx x (by simp [Op.operands])]
 | assign x => simp only [cZ, w4, hx x (by simp [Op.operands])]
 | pick c a b => simp only [cZ, w4, hx c (by simp [Op.operands]), hx a (by simp [Op.operands]), hx b (by simp [Op.operands])]
 | load t x => simp only [cZ, w4, hx x (by simp [Op.operands]), aOi hu hk]
 | nilCheck x => simp only [cZ, w4, hx x (by simp [Op.operands])]
 | binOp op t x y t' => simp only [cZ, w4, hx x (by simp [Op.operands]), hx y (by simp [Op.operands])]
 | unOp op t x => simp only [cZ, w4, hx x (by simp [Op.operands])]
 | convert s t x => simp only [cZ, w4, hx x (by simp [Op.operands])]
 | fieldAddr s x f => simp only [cZ, w4, hx x (by simp [Op.operands])]
 | indexAddr t x i => simp only [cZ, w4, hx x (by simp [Op.operands]), hx i (by simp [Op.operands]), aSl hu hk]
 | index t x i => simp only [cZ, w4, hx x (by simp [Op.operands]), hx i (by simp [Op.operands])]
 | slice t x lo hi mx =>
  cases mx with
  | some m => rfl
  | none =>
   have hlo : lo.map (fun y => un (ev (set ρ k u) y)) = lo.map fun y => un (ev ρ y) := by
    cases lo with
    | none => rfl
    | some y => simp [hx y (by simp [Op.operands])]
   have hhi : hi.map (fun y => un (ev (set ρ k u) y)) = hi.map fun y => un (ev ρ y) := by
    cases hi with
    | none => rfl
    | some y => simp [hx y (by simp [Op.operands])]
   have glo : (∀ y ∈ lo, gd (ev (set ρ k u) y)) = ∀ y ∈ lo, gd (ev ρ y) := by
    cases lo with
    | none => simp
    | some y => simp [hx y (by simp [Op.operands])]
   have ghi : (∀ y ∈ hi, gd (ev (set ρ k u) y)) = ∀ y ∈ hi, gd (ev ρ y) := by
    cases hi with
    | none => simp
    | some y => simp [hx y (by simp [Op.operands])]
   simp only [cZ, w4, hx x (by simp [Op.operands]), hlo, hhi, glo, ghi, aTl hu hk]
 | extract x i => simp only [cZ, w4, hx x (by simp [Op.operands])]
 | makeFunc fn first captured =>
  cases fn with
  | func f =>
   have h1 : ∀ x ∈ first.toList, ev (set ρ k u) x = ev ρ x := fun x hx' => hx x (by simp [Op.operands]; exact .inl (by simpa using hx'))
   have h2 : ∀ x ∈ captured.toList, ev (set ρ k u) x = ev ρ x := fun x hx' => hx x (by simp [Op.operands]; exact .inr (by simpa using hx'))
   have e1 : (first.toList.map fun x => un (ev (set ρ k u) x)) = first.toList.map fun x => un (ev ρ x) := List.map_congr_left fun x hx' => by rw [h1 x hx']
   have e2 : (captured.toList.map fun x => un (ev (set ρ k u) x)) = captured.toList.map fun x => un (ev ρ x) := List.map_congr_left fun x hx' => by rw [h2 x hx']
   have g1 : (∀ x ∈ first.toList, gd (ev (set ρ k u) x)) = ∀ x ∈ first.toList, gd (ev ρ x) := propext ⟨fun g x hx' => by rw [← h1 x hx']; exact g x hx', fun g x hx' => by rw [h1 x hx']; exact g x hx'⟩
   have g2 : (∀ x ∈ captured.toList, gd (ev (set ρ k u) x)) = ∀ x ∈ captured.toList, gd (ev ρ x) := propext ⟨fun g x hx' => by rw [← h2 x hx']; exact g x hx', fun g x hx' => by rw [h2 x hx']; exact g x hx'⟩
   simp only [cZ, w4, fnP, e1, e2, g1, g2]
  | _ => rfl
 | call c =>
  obtain ⟨cl, args, ts⟩ := c
  cases cl with
  | builtin b =>
   have hb : ∀ x ∈ args.toList, x ≠ .tmp k := fun x hx' => h x (by simp [Op.operands, Call.operands]; simpa using hx')
   simp only [cZ, w4, aRs, aTw hb]
  | _ => rfl
 | _ => rfl
theorem aY.set {k : Nat} {u : DV} (hu : bP u = false) (hk : bP (ρ k) = false) {f : FuncId} {l : List DV} {d : DV} (h : aY P ρ f l d) : aY P (Sg.set ρ k u) f l d := by
 have key : ∀ w I A, gK w I A (Sg.set ρ k u) ↔ gK w I A ρ := fun w I A => by
  have : ∀ s, dY w I A s (Sg.set ρ k u s) ↔ dY w I A s (ρ s) := fun s => by
   rw [aO]
   split
   ·rename_i e
    subst e
    exact ⟨fun _ => .ofPure hk, fun _ => .ofPure hu⟩
   exact Iff.rfl
  exact ⟨fun h => ⟨fun s => (this s).1 (h.own s), h.inj, h.sep, h.imm⟩, fun h => ⟨fun s => (this s).2 (h.own s), h.inj, h.sep, h.imm⟩⟩
 intro w I A vals h1 h2 h3
 refine (h w I A vals ((key w I A).1 h1) h2 h3).mono ?_
 rintro e w' ⟨v, I', O', r, k1, k2, k3, k4, k5, k6, rfl, rfl⟩
 exact ⟨v, I', _, r, k1, (key w' I' A).2 k2, fun s => dW.refl _, fun s h => h, k5, k6, rfl, rfl⟩
theorem aRl {k : Nat} {u : DV} : Sg.set (Sg.set ρ k u) k (ρ k) = ρ := by
 funext i
 rw [aO, aO]
 split
 ·rename_i e; rw [e]
 rfl
theorem aNq {k : Nat} {u : DV} (hu : bP u = false) (hk : bP (ρ k) = false) {op : Op} {d : DV} (h : aJh k op) (hp : prP P ρ op d) : prP P (set ρ k u) op d := by
 have gen : (cZ P ρ op).1 ∧ d = (cZ P ρ op).2 → (cZ P (set ρ k u) op).1 ∧ d = (cZ P (set ρ k u) op).2 := by rw [bCo hu hk h]; exact id
 cases op with
 | call c =>
  obtain ⟨cl, args, ts⟩ := c
  cases cl with
  | value f =>
   obtain ⟨h1, h2, g, l, h3, h4, h5⟩ := hp
   have hf : ev (set ρ k u) f = ev ρ f := fK (h f (by simp [Op.operands, Call.operands]))
   have ha : ∀ x ∈ args.toList, x ≠ .tmp k := fun x hx => h x (by simp [Op.operands, Call.operands]; exact .inr (by simpa using hx))
   refine ⟨by rw [hf]; exact h1, by rw [aNm ha]; exact h2, g, l, by rw [hf, bEd ha]; exact h3, h4, h5.set hu hk⟩
  | _ => exact gen hp
 | _ => exact gen hp
theorem aXw {all : List Oper} {k j : Nat} {want : Bool} {u : DV} (h : ∀ o, all[j]? = some o → o.dst ≠ some k) : gAt all (set ρ k u) j want = gAt all ρ j want := by
 unfold gAt
 cases ho : all[j]? with
 | none => rfl
 | some o =>
  simp only
  cases hd : o.dst with
  | none => rfl
  | some d =>
   have : d ≠ k := fun e => h o ho (by rw [hd, e])
   simp only [aO, if_neg this]
theorem xE {l : List Oper} {o : Oper} {d : DV} {K : aS → Prop} (hall : l.all (eO nt) = true) (ho : dA nt o = true) (hd : eO nt o = true) (hdst : o.dst.isSome = true) (h : uV P l ρ o d) (hK : K (bZ ρ o.dst d)) : OW P nt l.toArray o K ρ := by
 obtain ⟨h1, h2, h3⟩ := h
 cases hg : o.guard with
 | none => rw [hg] at h3; exact aQq hg ho hd h1 hdst h3 hK
 | some jw =>
  obtain ⟨j, want⟩ := jw
  rw [hg] at h3
  obtain ⟨g, d', k1, rfl, k3, k4⟩ := h3
  obtain ⟨k, hk⟩ := Option.isSome_iff_exists.1 hdst
  have hkn : k < nt := by unfold eO at hd; rw [hk] at hd; simpa using hd
  intro ro ds I A a w hs hdf next Q' hn
  rw [aQd hs hg hall k1]
  cases g with
  | true =>
   rw [if_pos rfl]
   have := aQq (P := P) (nt := nt) (ρ := ρ) (ops := l.toArray) (o := { o with guard := none }) (d := d') (K := fun ρ' => ρ' = bZ ρ o.dst d') rfl ho hd (aGh k3) hdst (k4 rfl) rfl ro ds I A a w hs hdf next Q'
    (fun I' A' a' w' ρ' q1 q2 q3 q4 => by
     subst q4
     refine hn I' A' a' w' (bZ ρ o.dst (.cond true d')) ?_ q2 q3 hK
     rw [hk] at q1 ⊢
     refine ⟨⟨fun s => ?_, q1.osim.inj, q1.osim.sep, q1.osim.imm⟩, q1.size, q1.bound, fun i hi => ?_, fun s hs' => ?_⟩
     ·have := q1.osim.own s
      simp only [iJ, aO] at this ⊢
      split
      ·trivial
      rename_i e; rw [if_neg e] at this; exact this
     ·have := q1.slot i hi
      simp only [iJ, aO] at this ⊢
      split
      ·rename_i e
       rw [if_pos e] at this
       refine ⟨fun _ => ?_, fun h => by cases h⟩
       exact cX.rel this k3
      rename_i e; rw [if_neg e] at this; exact this
     have := q1.out s hs'
     simp only [iJ, aO] at this ⊢
     split
     ·rename_i e; exact absurd (Nat.lt_of_lt_of_le hkn q1.bound) (by rw [← e]; exact Nat.not_lt.2 hs')
     rename_i e; rw [if_neg e] at this; exact this)
   rw [if_pos (by simp [Region.wanted])] at this
   exact this
  | false =>
   rw [if_neg (by simp)]
   rw [hk]
   exact ⟨fun _ _ => trivial, hn I A _ w _ (hs.put (v := .cond false d') hkn ⟨(fun h => by cases h), fun _ => rfl⟩ trivial) (by rw [d4]; exact hdf) (eA.refl _ _ _) (by rw [hk] at hK; exact hK)⟩
theorem sW {ops : Array Oper} {o : Oper} {k : Nat} (h : k ∉ o.looksAt ops) : aJh k o.op := fun x hx e => by
 subst e
 apply h
 unfold Oper.looksAt
 simp only [List.mem_append, List.mem_filterMap]
 exact .inl ⟨.tmp k, by simpa using hx, rfl⟩
theorem aIk {l : List Oper} {o : Oper} {k j : Nat} {want : Bool} (h : k ∉ o.looksAt l.toArray) (hg : o.guard = some (j, want)) : ∀ q, l[j]? = some q → q.dst ≠ some k := fun q hq e => by
 apply h
 unfold Oper.looksAt
 simp only [hg, List.mem_append]
 refine .inr ?_
 simp [hq, e]
theorem aHm {l : List Oper} {o : Oper} {d u : DV} {k : Nat} (hu : bP u = false) (hk : bP (ρ k) = false) (hl : k ∉ o.looksAt l.toArray) (hne : o.dst ≠ some k) (h : uV P l ρ o d) : uV P l (set ρ k u) o d := by
 obtain ⟨h1, h2, h3⟩ := h
 refine ⟨h1, fun m hm => ?_, ?_⟩
 ·have : m ≠ k := fun e => hne (by rw [hm, e])
  rw [aO, if_neg this]
  exact h2 m hm
 cases hg : o.guard with
 | none => rw [hg] at h3; exact aNq hu hk (sW hl) h3
 | some jw =>
  obtain ⟨j, want⟩ := jw
  rw [hg] at h3
  obtain ⟨g, d', k1, k2, k3, k4⟩ := h3
  exact ⟨g, d', by rw [aXw (aIk hl hg)]; exact k1, k2, k3, fun hgt => aNq hu hk (sW hl) (k4 hgt)⟩
def sE (P : Program) (nt : Nat) (l : List Oper) (i : Nat) (K : aS → Prop) (ρ : aS) : Prop :=
 match l[i]? with
 | none => K ρ
 | some o => if gS o.op && o.dst.isSome then ∃ d, uV P l ρ o d ∧ K (bZ ρ o.dst d) else OW P nt l.toArray o K ρ
theorem bBd {l : List Oper} {i : Nat} {K K' : aS → Prop} (h : ∀ ρ, K ρ → K' ρ) (hh : sE P nt l i K ρ) : sE P nt l i K' ρ := by
 unfold sE at *
 split
 ·rename_i hi; rw [hi] at hh; exact h _ hh
 rename_i o hi
 rw [hi] at hh
 simp only at hh
 split
 ·rename_i hp; rw [if_pos hp] at hh; obtain ⟨d, h1, h2⟩ := hh; exact ⟨d, h1, h _ h2⟩
 rename_i hp; rw [if_neg hp] at hh; exact hh.mono h
def aLf (P : Program) (nt : Nat) (l : List Oper) (k : aS → Prop) : Nat → Array Bool → aS → Prop
 | 0, listed, ρ => Region.ready .any l.toArray listed = [] ∧ k ρ
 | fuel + 1, listed, ρ => (Region.ready .any l.toArray listed = [] → k ρ) ∧ ∀ i ∈ Region.ready .any l.toArray listed, sE P nt l i (aLf P nt l k fuel (listed.setIfInBounds i true)) ρ
def qB (nt : Nat) (l : List Oper) : Bool := l.all fun o => dA nt o && eO nt o
theorem qD {l : List Oper} (h : qB nt l = true) : l.all (eO nt) = true := by
 unfold qB at h
 rw [List.all_eq_true] at h ⊢
 exact fun o ho => by have := h o ho; simp at this; exact this.2
theorem nG {l : List Oper} (h : qB nt l = true) {i : Nat} {o : Oper} (hi : l[i]? = some o) : dA nt o = true ∧ eO nt o = true := by
 unfold qB at h
 rw [List.all_eq_true] at h
 have := h o (List.mem_of_getElem? hi)
 simpa using this
theorem aBr {ro : Option Nat} {ds : List Deferred} {l : List Oper} {k : aS → Prop} {Q' : Exit → Act → World → Prop} (hr : qB nt l = true) : ∀ (fuel : Nat) (listed : Array Bool) (ρ : aS) (I : Nat → Prop) (A : cO) (a : Act) (w : World),
  aLf P nt l k fuel listed ρ → b9 nt w I A ρ a → a.defers = ds →
  (∀ I' A' a' w' ρ', b9 nt w' I' A' ρ' a' → a'.defers = ds → eA w I A w' I' A' → k ρ' → Q' .normal a' w') → wpAnyIn (FR ro) 0 P .any l.toArray Q' fuel listed a w
 | 0, listed, ρ, I, A, a, w, h, hs, hd, hk => ⟨h.1, hk I A a w ρ hs hd (eA.refl _ _ _) h.2⟩
 | fuel + 1, listed, ρ, I, A, a, w, h, hs, hd, hk => by
  refine ⟨fun h0 => hk I A a w ρ hs hd (eA.refl _ _ _) (h.1 h0), fun i hi => ?_⟩
  have h2 := h.2 i hi
  have rec_ : ∀ I' A' a' w' ρ', b9 nt w' I' A' ρ' a' → a'.defers = ds → eA w I A w' I' A' → aLf P nt l k fuel (listed.setIfInBounds i true) ρ' → wpAnyIn (FR ro) 0 P .any l.toArray Q' fuel (listed.setIfInBounds i true) a' w' :=
   fun I' A' a' w' ρ' q1 q2 q3 q4 => aBr hr fuel _ ρ' I' A' a' w' q4 q1 q2 fun I2 A2 a2 w2 ρ2 k1 k2 k3 k4 => hk I2 A2 a2 w2 ρ2 k1 k2 (q3.trans k3) k4
  unfold wpOpIn
  unfold sE at h2
  simp only [List.getElem?_toArray]
  split
  ·rename_i ho
   rw [ho] at h2
   exact rec_ I A a w ρ hs hd (eA.refl _ _ _) h2
  rename_i o ho
  rw [ho] at h2
  have hOW : OW P nt l.toArray o (aLf P nt l k fuel (listed.setIfInBounds i true)) ρ := by
   simp only at h2
   split at h2
   ·rename_i hp
    obtain ⟨d, k1, k2⟩ := h2
    simp only [Bool.and_eq_true] at hp
    exact xE (qD hr) (nG hr ho).1 (nG hr ho).2 hp.2 k1 k2
   exact h2
  have := hOW ro ds I A a w hs hd (wpAnyIn (FR ro) 0 P .any l.toArray Q' fuel (listed.setIfInBounds i true)) Q' rec_
  split at this
  ·rename_i hw; rw [if_pos hw]; exact this
  rename_i hw; rw [if_neg hw]; exact this
theorem bIa {l : List Oper} {j : Nat} {oi oj : Oper} {d : DV} (hj : l[j]? = some oj) (hpj : (gS oj.op && oj.dst.isSome) = true) {ki : Nat} (hki : oi.dst = some ki) (hap : oi.apart l.toArray oj = true) {K : aS → Prop}
  (hy : uV P l ρ oi d) (h : sE P nt l j K (bZ ρ oi.dst d)) : sE P nt l j (fun ρ' => uV P l ρ' oi d ∧ K (bZ ρ' oi.dst d)) ρ := by
 obtain ⟨h1, h2, h3⟩ := Oper.apart_spec hap
 unfold sE at h ⊢
 rw [hj] at h ⊢
 simp only [hpj, if_true] at h ⊢
 obtain ⟨u, k1, k2⟩ := h
 simp only [Bool.and_eq_true] at hpj
 obtain ⟨kj, hkj⟩ := Option.isSome_iff_exists.1 hpj.2
 have hne : kj ≠ ki := fun e => h2 ki hki (by rw [hkj, e])
 have hdi : bP d = false := hy.1
 have hui : bP u = false := k1.1
 have hρi : bP (ρ ki) = false := hy.2.1 ki hki
 have hρj : bP (ρ kj) = false := by
  have := k1.2.1 kj hkj
  rw [hki, iJ, aO, if_neg hne] at this
  exact this
 refine ⟨u, ?_, ?_, ?_⟩
 ·have := aHm (ρ := bZ ρ oi.dst d) (k := ki) (u := ρ ki) hρi (by rw [hki, iJ, aO, if_pos rfl]; exact hdi) (h1 ki hki) (fun e => hne (by rw [hkj] at e; cases e; rfl)) k1
  rw [hki, iJ, aRl] at this
  exact this
 ·rw [hkj, iJ]
  exact aHm hui hρj (h3 kj hkj) (fun e => hne (by rw [hki] at e; cases e; rfl)) hy
 rw [hki, hkj] at k2
 rw [hki, hkj]
 have : bZ (bZ ρ (some kj) u) (some ki) d = bZ (bZ ρ (some ki) d) (some kj) u := by
  funext i
  simp only [iJ, aO]
  by_cases e1 : i = ki
  ·rw [if_pos e1, if_neg (by rw [e1]; exact fun e => hne e.symm), if_pos e1]
  simp only [if_neg e1]
 rw [this]
 exact k2
def aVk (l : List Oper) (listed : Array Bool) (i : Nat) : Bool :=
 match l[i]? with
 | none => false
 | some oi => gS oi.op && oi.dst.isSome && (List.range l.length).all fun j =>
  j == i || listed.getD j true || match l[j]? with
   | none => true
   | some oj => oj.after.any (fun e => Region.binds .any e && e.on == i) || (gS oj.op && oj.dst.isSome && oi.apart l.toArray oj)
def aGr (l : List Oper) : Nat → Nat → Array Bool → Bool
 | 0, _, listed => (Region.ready .any l.toArray listed).isEmpty
 | fuel + 1, i, listed => ((Region.ready .any l.toArray listed).contains i && aVk l listed i || Region.ready .any l.toArray listed == [i]) && aGr l fuel (i + 1) (listed.setIfInBounds i true)
theorem aJg {l : List Oper} {k : aS → Prop} {i : Nat} {oi : Oper} {d : DV} (hi : l[i]? = some oi) (hpi : (gS oi.op && oi.dst.isSome) = true) :
  ∀ (fuel : Nat) (listed : Array Bool) (ρ : aS),
   (∀ j oj, l[j]? = some oj → j ≠ i → listed.getD j true = false → (∀ e ∈ oj.after, Region.binds .any e = true → e.on ≠ i) → (gS oj.op && oj.dst.isSome) = true ∧ oi.apart l.toArray oj = true) →
   i ∈ Region.ready .any l.toArray listed → uV P l ρ oi d → aLf P nt l k fuel (listed.setIfInBounds i true) (bZ ρ oi.dst d) → aLf P nt l k (fuel + 1) listed ρ := by
 obtain ⟨ki, hki⟩ := Option.isSome_iff_exists.1 (by simp only [Bool.and_eq_true] at hpi; exact hpi.2)
 have take : ∀ {K : aS → Prop} {ρ : aS}, uV P l ρ oi d → K (bZ ρ oi.dst d) → sE P nt l i K ρ := fun h1 h2 => by
  unfold sE
  rw [hi]
  simp only [hpi, if_true]
  exact ⟨d, h1, h2⟩
 intro fuel
 induction fuel with
 | zero =>
  intro listed ρ _ hr hy H
  refine ⟨fun h => (by rw [h] at hr; cases hr), fun j hj => ?_⟩
  by_cases hji : j = i
  ·subst hji; exact take hy H
  have := ready_mono hj hji
  rw [H.1] at this
  cases this
 | succ fuel ih =>
  intro listed ρ hfree hr hy H
  refine ⟨fun h => (by rw [h] at hr; cases hr), fun j hj => ?_⟩
  by_cases hji : j = i
  ·subst hji; exact take hy H
  have h1 := H.2 j (ready_mono hj hji)
  obtain ⟨hjun, oj, hoj, hall⟩ := mem_ready.1 hj
  have hoj' : l[j]? = some oj := by simpa using hoj
  have hnot : ∀ e ∈ oj.after, Region.binds .any e = true → e.on ≠ i := fun e he hb heq => by
   have h1 := hall e he hb
   have h0 := (mem_ready.1 hr).1
   rw [heq] at h1
   rcases Nat.lt_or_ge i listed.size with h' | h'
   ·simp [h'] at h0 h1; rw [h0] at h1; cases h1
   simp [Array.getElem?_eq_none h'] at h1
  obtain ⟨hpj, hap⟩ := hfree j oj hoj' hji hjun hnot
  have h2 := bIa hoj' hpj hki hap hy h1
  have hfree' : ∀ m om, l[m]? = some om → m ≠ i → (listed.setIfInBounds j true).getD m true = false → (∀ e ∈ om.after, Region.binds .any e = true → e.on ≠ i) → (gS om.op && om.dst.isSome) = true ∧ oi.apart l.toArray om = true := fun m om hm hmi hun hno => by
   refine hfree m om hm hmi ?_ hno
   by_cases hjm : j = m
   ·subst hjm; exact hjun
   rw [getD_set_ne true hjm] at hun; exact hun
  refine bBd (fun ρ' h3 => ih (listed.setIfInBounds j true) ρ' hfree' (ready_mono hr (Ne.symm hji)) h3.1 ?_) h2
  rw [Array.setIfInBounds_comm _ _ hji]
  exact h3.2
def aHu (P : Program) (nt : Nat) (l : List Oper) (k : aS → Prop) : List Oper → aS → Prop
 | [], ρ => k ρ
 | o :: os, ρ => if gS o.op && o.dst.isSome then ∃ d, uV P l ρ o d ∧ aHu P nt l k os (bZ ρ o.dst d) else OW P nt l.toArray o (aHu P nt l k os) ρ
theorem aKh {l : List Oper} {listed : Array Bool} {i : Nat} {oi : Oper} (hi : l[i]? = some oi) (h : aVk l listed i = true) : (gS oi.op && oi.dst.isSome) = true ∧
  ∀ j oj, l[j]? = some oj → j ≠ i → listed.getD j true = false → (∀ e ∈ oj.after, Region.binds .any e = true → e.on ≠ i) → (gS oj.op && oj.dst.isSome) = true ∧ oi.apart l.toArray oj = true := by
 unfold aVk at h
 rw [hi] at h
 simp only [Bool.and_eq_true, List.all_eq_true, List.mem_range, Bool.or_eq_true, beq_iff_eq] at h
 obtain ⟨h1, h2⟩ := h
 refine ⟨by simpa using h1, fun j oj hj hne hun hno => ?_⟩
 have hlt : j < l.length := by
  rcases Nat.lt_or_ge j l.length with h | h
  ·exact h
  rw [List.getElem?_eq_none h] at hj; cases hj
 rcases h2 j hlt with (h3 | h3) | h3
 ·exact absurd h3 hne
 ·rw [hun] at h3; cases h3
 rw [hj] at h3
 simp only [Bool.or_eq_true, Array.any_eq_true', Bool.and_eq_true, beq_iff_eq] at h3
 rcases h3 with ⟨e, he, hb, hon⟩ | h3
 ·exact absurd hon (hno e he hb)
 exact ⟨by simpa using h3.1, h3.2⟩
theorem tV {l : List Oper} {k : aS → Prop} : ∀ (r : List Oper) (i : Nat) (listed : Array Bool) (ρ : aS), (∀ j, r[j]? = l[i + j]?) → aGr l r.length i listed = true → aHu P nt l k r ρ → aLf P nt l k r.length listed ρ
 | [], _, _, _, _, hB, h => ⟨by simpa [aGr] using hB, h⟩
 | o :: r, i, listed, ρ, hl, hB, h => by
  have h0 : l[i]? = some o := by simpa using (hl 0).symm
  have hl' : ∀ j, r[j]? = l[i + 1 + j]? := fun j => by have := hl (j + 1); simpa [Nat.add_assoc, Nat.add_comm 1 j] using this
  simp only [List.length_cons, aGr, Bool.and_eq_true, Bool.or_eq_true] at hB
  obtain ⟨hB1, hB2⟩ := hB
  rcases hB1 with ⟨hr, hf⟩ | hone
  ·obtain ⟨hp, hfree⟩ := aKh h0 hf
   unfold aHu at h
   rw [if_pos hp] at h
   obtain ⟨d, k1, k2⟩ := h
   exact aJg h0 hp r.length listed ρ hfree (by simpa using hr) k1 (tV r (i + 1) _ _ hl' hB2 k2)
  have hone : Region.ready .any l.toArray listed = [i] := by simpa using hone
  refine ⟨fun h => (by rw [hone] at h; cases h), fun j hj => ?_⟩
  rw [hone] at hj
  obtain rfl : j = i := by simpa using hj
  unfold sE
  rw [h0]
  unfold aHu at h
  simp only
  split
  ·rename_i hp
   rw [if_pos hp] at h
   obtain ⟨d, k1, k2⟩ := h
   exact ⟨d, k1, tV r (j + 1) _ _ hl' hB2 k2⟩
  rename_i hp
  rw [if_neg hp] at h
  exact h.mono fun ρ' h' => tV r (j + 1) _ _ hl' hB2 h'
theorem aXy {id : Nat} {l : List Oper} {Q : Exit → aS → Prop} (hm : P.follows .mixedOrders = true) (hr : qB nt l = true) (hB : aGr l l.length 0 (Array.replicate l.length false) = true)
  (h : aHu P nt l (Q .normal) l ρ) : AW P nt (.region id l.toArray true) Q ρ := by
 intro ro ds I A a w hs hd
 refine wpIn_region_any hm ?_
 have h1 := tV (P := P) (nt := nt) l 0 (Array.replicate l.length false) ρ (by simp) hB h
 have hgr : l1 w I w.drew I := ⟨rfl, ⟨rfl, Nat.le_succ _⟩, rfl, Nat.le_refl _, fun _ _ => rfl, fun _ h => h, fun _ h => .inl h⟩
 have := aBr (ro := ro) (Q' := fun e a' w' => ∃ I' A' ρ', b9 nt w' I' A' ρ' a' ∧ a'.defers = ds ∧ eA w I A w' I' A' ∧ Q e ρ') hr _ _ ρ I A a w.drew h1 (hs.grow hgr) hd
  fun I' A' a' w' ρ' q1 q2 q3 q4 => ⟨I', A', ρ', q1, q2, (hgr.ext hs.osim).trans q3, q4⟩
 simpa using this
end
end Go.Sg
namespace Go.Sg
open Go.RowKit
open Go.Rv (FR)
def hi (ρ : aS) : aS := fun i => if i < 100000 then .any else ρ i
def keepC : List Nat → aS → aS
 | [], ρ => hi ρ
 | l :: L, ρ => set (keepC L ρ) l (ρ l)
theorem aBj (ρ : aS) : keepC [] ρ = hi ρ := rfl
theorem rQ (l : Nat) (L : List Nat) (ρ : aS) : keepC (l :: L) ρ = set (keepC L ρ) l (ρ l) := rfl
theorem yV (ρ : aS) {d : Nat} (x : DV) (h : d < 100000) : hi (set ρ d x) = hi ρ := by
 funext i
 unfold hi
 split
 ·rfl
 rw [aO, if_neg (by omega)]
theorem w9 (ρ : aS) {d : Nat} (x : DV) (h : ¬ d < 100000) : hi (set ρ d x) = set (hi ρ) d x := by
 funext i
 unfold hi
 rw [aO, aO]
 by_cases e : i = d
 ·subst e; rw [if_neg h, if_pos rfl, if_pos rfl]
 rw [if_neg e, if_neg e]
theorem bDq (ρ : aS) (d : Nat) : hi (cI d ρ) = hi ρ := by
 funext i
 unfold hi
 split
 ·rfl
 rename_i h; rw [x1, if_neg h]
theorem aGs (O : aS) : hi (bT O) = bT O := by
 funext i
 unfold hi
 split
 ·rename_i h; rw [mF O h]
 rfl
theorem bPe (ρ : aS) : hi (hi ρ) = hi ρ := by
 funext i
 unfold hi
 split <;> rfl
theorem Le.hi (ρ : aS) : Le ρ (hi ρ) := fun s => by
 unfold Sg.hi; split
 ·exact Wk.any _
 exact Wk.refl _
theorem Le.keepC : ∀ (L : List Nat) (ρ : aS), Le ρ (keepC L ρ)
 | [], ρ => Le.hi ρ
 | l :: L, ρ => fun s => by
  rw [rQ, aO]
  split
  ·rename_i e; rw [e]; exact Wk.refl _
  exact Le.keepC L ρ s
theorem aOf (O : aS) {i : Nat} (h : i < 100000) : bT O i = .any := mF O h
def bY (ρ : aS) : Option Nat → Prop
 | some k => bP (ρ k) = false
 | none => True
def aGn (P : Program) (ρ : aS) (f : FuncId) (l : List DV) (k : DV → Prop) (_ : Tg k) : Prop := ∃ r, bP r = false ∧ aY P ρ f l r ∧ k r
def aFz (P : Program) (ρ : aS) (g : Bool) (pre : Prop) (f : FuncId) (l : List DV) (k : DV → Prop) (_ : Tg k) : Prop := ∃ r, gC r = true ∧ (g = true → pre ∧ aY P ρ f l r) ∧ k r
def gcG (P : Program) (ρ : aS) (d : Option Nat) (g : Bool) (f : DV) (gs : Prop) (c : Option (FuncId × List DV)) (K : aS → Prop) : Prop :=
 match c, d with
 | some (fid, l), some k => aFz P ρ g (gd f ∧ gs ∧ aQ P fid = true) fid l (fun r => K (set ρ k (.cond g r))) ⟨⟩
 | _, _ => False
def vK (P : Program) (ρ : aS) (op : Op) (d : Option Nat) (g : Option Bool) (K : aS → Prop) : Prop :=
 match g with
 | none => False
 | some g => bY ρ d ∧ (match op with
  | .call c => (match c.callee with
   | .value f => gcG P ρ d g (ev ρ f) (gdL ρ c.args.toList) (callee (un (ev ρ f)) (evL ρ c.args.toList)) K
   | _ => (g = true → (cZ P ρ op).1) ∧ gC (cZ P ρ op).2 = true ∧ K (bZ ρ d (.cond g (cZ P ρ op).2)))
  | op => (g = true → (cZ P ρ op).1) ∧ gC (cZ P ρ op).2 = true ∧ K (bZ ρ d (.cond g (cZ P ρ op).2)))
def pcG (P : Program) (ρ : aS) (d : Option Nat) (c : Option (FuncId × List DV)) (K : aS → Prop) : Prop :=
 match c, d with
 | some (fid, l), some k => aQ P fid = true ∧ aGn P ρ fid l (fun r => K (set ρ k r)) ⟨⟩
 | _, _ => False
def xV (P : Program) (ρ : aS) (op : Op) (d : Option Nat) (K : aS → Prop) : Prop :=
 bY ρ d ∧ (match op with
  | .call c => (match c.callee with
   | .value f => gd (ev ρ f) ∧ gdL ρ c.args.toList ∧ pcG P ρ d (callee (un (ev ρ f)) (evL ρ c.args.toList)) K
   | _ => (cZ P ρ op).1 ∧ bP (cZ P ρ op).2 = false ∧ K (bZ ρ d (cZ P ρ op).2))
  | op => (cZ P ρ op).1 ∧ bP (cZ P ρ op).2 = false ∧ K (bZ ρ d (cZ P ρ op).2))
def pwX (P : Program) (all : List Oper) (k : aS → Prop) : List Oper → aS → Prop
 | [], ρ => k ρ
 | o :: os, ρ => match o.guard with
  | none => fJ P ρ o.op o.dst (pwX P all k os)
  | some (j, want) => vK P ρ o.op o.dst (gAt all ρ j want) (pwX P all k os)
def pw (P : Program) (all : List Oper) (k : aS → Prop) (l : List Oper) (_ : Tg (all, k, l)) (ρ : aS) : Prop := pwX P all k l ρ
def aPt (P : Program) (all : List Oper) (k : aS → Prop) : List Oper → aS → Prop
 | [], ρ => k ρ
 | o :: os, ρ => match o.guard with
  | none => (match gS o.op && o.dst.isSome with
   | true => xV P ρ o.op o.dst (aPt P all k os)
   | false => fJ P ρ o.op o.dst (aPt P all k os))
  | some (j, want) => vK P ρ o.op o.dst (gAt all ρ j want) (aPt P all k os)
def pwD (P : Program) (all : List Oper) (k : aS → Prop) (l : List Oper) (_ : Tg (all, k, l)) (ρ : aS) : Prop := aPt P all k l ρ
section
variable {P : Program} {nt : Nat} {ρ : aS}
def gOk (o : Oper) : Bool := o.guard.isNone || (gS o.op && o.dst.isSome)
theorem aDd {all : List Oper} {o : Oper} {K : aS → Prop} {j : Nat} {want : Bool} (hg : o.guard = some (j, want)) (hp : (gS o.op && o.dst.isSome) = true) (h : vK P ρ o.op o.dst (gAt all ρ j want) K) : ∃ d, uV P all ρ o d ∧ K (bZ ρ o.dst d) := by
 unfold vK at h
 split at h
 ·exact h.elim
 rename_i g hgj
 obtain ⟨h1, h2⟩ := h
 have hfree : ∀ k, o.dst = some k → bP (ρ k) = false := fun k hk => by rw [hk] at h1; exact h1
 have gen : (g = true → (cZ P ρ o.op).1) ∧ gC (cZ P ρ o.op).2 = true ∧ K (bZ ρ o.dst (.cond g (cZ P ρ o.op).2)) → (∀ f args ts, o.op ≠ .call ⟨.value f, args, ts⟩) → ∃ d, uV P all ρ o d ∧ K (bZ ρ o.dst d) := by
  rintro ⟨k1, k2, k3⟩ hn
  refine ⟨_, ⟨rfl, hfree, ?_⟩, k3⟩
  rw [hg]
  refine ⟨g, _, hgj, rfl, k2, fun hgt => ?_⟩
  have := k1 hgt
  cases hop : o.op with
  | call c =>
   obtain ⟨cl, args, ts⟩ := c
   cases cl with
   | value f => exact absurd hop (hn f args ts)
   | _ => rw [hop] at this; exact ⟨this, rfl⟩
  | _ => rw [hop] at this; exact ⟨this, rfl⟩
 cases hop : o.op with
 | call c =>
  obtain ⟨cl, args, ts⟩ := c
  rw [hop] at h2
  cases cl with
  | value f =>
   have h2 : gcG P ρ o.dst g (ev ρ f) (gdL ρ args.toList) (callee (un (ev ρ f)) (evL ρ args.toList)) K := h2
   unfold gcG at h2
   split at h2
   ·rename_i fid l k hc hk
    obtain ⟨r, r1, r2, r3⟩ := h2
    refine ⟨.cond g r, ⟨rfl, hfree, ?_⟩, by rw [hk]; exact r3⟩
    rw [hg]
    refine ⟨g, r, hgj, rfl, r1, fun hgt => ?_⟩
    rw [hop]
    obtain ⟨⟨q1, q2, q3⟩, q4⟩ := r2 hgt
    exact ⟨q1, q2, fid, l, hc, q3, q4⟩
   exact h2.elim
  | _ => exact gen (by rw [hop]; exact h2) (by simp [hop])
 | _ => exact gen (by rw [hop]; rw [hop] at h2; exact h2) (by simp [hop])
theorem aMz {all : List Oper} {o : Oper} {K : aS → Prop} (hg : o.guard = none) (h : xV P ρ o.op o.dst K) : ∃ d, uV P all ρ o d ∧ K (bZ ρ o.dst d) := by
 obtain ⟨h1, h2⟩ := h
 have hfree : ∀ k, o.dst = some k → bP (ρ k) = false := fun k hk => by rw [hk] at h1; exact h1
 have gen : (cZ P ρ o.op).1 ∧ bP (cZ P ρ o.op).2 = false ∧ K (bZ ρ o.dst (cZ P ρ o.op).2) → (∀ f args ts, o.op ≠ .call ⟨.value f, args, ts⟩) → ∃ d, uV P all ρ o d ∧ K (bZ ρ o.dst d) := by
  rintro ⟨k1, k2, k3⟩ hn
  refine ⟨_, ⟨k2, hfree, ?_⟩, k3⟩
  rw [hg]
  cases hop : o.op with
  | call c =>
   obtain ⟨cl, args, ts⟩ := c
   cases cl with
   | value f => exact absurd hop (hn f args ts)
   | _ => rw [hop] at k1; exact ⟨k1, rfl⟩
  | _ => rw [hop] at k1; exact ⟨k1, rfl⟩
 cases hop : o.op with
 | call c =>
  obtain ⟨cl, args, ts⟩ := c
  rw [hop] at h2
  cases cl with
  | value f =>
   obtain ⟨q1, q2, q3⟩ := h2
   unfold pcG at q3
   split at q3
   ·rename_i fid l k hc hk
    obtain ⟨q3, r, r1, r2, r3⟩ := q3
    refine ⟨r, ⟨r1, hfree, ?_⟩, by rw [hk]; exact r3⟩
    rw [hg, hop]
    exact ⟨q1, q2, fid, l, hc, q3, r2⟩
   exact q3.elim
  | _ => exact gen (by rw [hop]; exact h2) (by simp [hop])
 | _ => exact gen (by rw [hop]; rw [hop] at h2; exact h2) (by simp [hop])
theorem bFg {all : List Oper} {k : aS → Prop} (hr : qB nt all = true) (hgo : all.all gOk = true) : ∀ (l : List Oper) (ρ : aS), (∀ o ∈ l, o ∈ all) → pwX P all k l ρ → RW P nt all.toArray k l ρ
 | [], ρ, _, h => h
 | o :: l, ρ, hm, h => by
  have hrec := fun ρ' => bFg (k := k) hr hgo l ρ' fun o' ho => hm o' (by simp [ho])
  obtain ⟨i, hi⟩ := List.getElem?_of_mem (hm o (by simp))
  obtain ⟨h1, h2⟩ := nG hr hi
  unfold pwX at h
  unfold RW
  split at h
  ·rename_i hg
   exact (cS hg h1 h2 h).mono hrec
  rename_i j want hg
  have hgk := List.all_eq_true.1 hgo o (hm o (by simp))
  unfold gOk at hgk
  rw [hg] at hgk
  simp only [Option.isNone_some, Bool.false_or] at hgk
  obtain ⟨d, k1, k2⟩ := aDd hg hgk h
  simp only [Bool.and_eq_true] at hgk
  exact xE (qD hr) h1 h2 hgk.2 k1 (hrec _ k2)
theorem aLn {all : List Oper} {k : aS → Prop} (hr : qB nt all = true) (hgo : all.all gOk = true) : ∀ (l : List Oper) (ρ : aS), (∀ o ∈ l, o ∈ all) → aPt P all k l ρ → aHu P nt all k l ρ
 | [], ρ, _, h => h
 | o :: l, ρ, hm, h => by
  have hrec := fun ρ' => aLn (k := k) hr hgo l ρ' fun o' ho => hm o' (by simp [ho])
  obtain ⟨i, hi⟩ := List.getElem?_of_mem (hm o (by simp))
  obtain ⟨h1, h2⟩ := nG hr hi
  unfold aPt at h
  unfold aHu
  split at h
  ·rename_i hg
   split at h
   ·rename_i hp
    rw [if_pos hp]
    obtain ⟨d, k1, k2⟩ := aMz (all := all) hg h
    exact ⟨d, k1, hrec _ k2⟩
   rename_i hp
   rw [if_neg (by rw [hp]; simp)]
   exact (cS hg h1 h2 h).mono hrec
  rename_i j want hg
  have hgk := List.all_eq_true.1 hgo o (hm o (by simp))
  unfold gOk at hgk
  rw [hg] at hgk
  simp only [Option.isNone_some, Bool.false_or] at hgk
  obtain ⟨d, k1, k2⟩ := aDd hg hgk h
  rw [if_pos hgk]
  exact ⟨d, k1, hrec _ k2⟩
def iZ (nt : Nat) (l : List Oper) : Bool := qB nt l && l.all gOk
theorem aX (L : List Nat) {id : Nat} {l : List Oper} {Q : Exit → aS → Prop} (hr : iZ nt l = true) (h : pw P l (Q .normal) l ⟨⟩ (keepC L ρ)) : AW P nt (.region id l.toArray false) Q ρ := by
 simp only [iZ, Bool.and_eq_true] at hr
 exact cH (Le.keepC L ρ) (gR (bFg hr.1 hr.2 l _ (fun _ h => h) h))
theorem aZc (L : List Nat) {id : Nat} {l : List Oper} {Q : Exit → aS → Prop} (hm : P.follows .mixedOrders = true) (hr : (iZ nt l && aGr l l.length 0 (Array.replicate l.length false)) = true) (h : pwD P l (Q .normal) l ⟨⟩ (keepC L ρ)) : AW P nt (.region id l.toArray true) Q ρ := by
 simp only [iZ, Bool.and_eq_true] at hr
 exact cH (Le.keepC L ρ) (aXy hm hr.1.1 hr.2 (aLn hr.1.1 hr.1.2 l _ (fun _ h => h) h))
def clG : List (Nat × Nat) → (aS → Prop) → aS → Prop
 | [], K, ρ => K ρ
 | (d, t) :: l, K, ρ => match ρ d, ρ t with
  | .own s n, .row e z xs => s = t ∧ n = xs.length ∧ clG l K (set (cI d (set (cI t ρ) t .any)) d (eF d (eF t (.row e z xs))))
  | .bp s off, .bx cs => s = t ∧ off = 0 ∧ clG l K (set (cI d (set (cI t ρ) t .any)) d (eF d (eF t (.bx cs))))
  | _, _ => clG l K ρ
theorem b9.claims : ∀ (cl : List (Nat × Nat)) {K : aS → Prop} {ρ : aS} {w : World} {I : Nat → Prop} {A : cO} {a : Act}, b9 nt w I A ρ a → (cl.all fun p => decide (p.1 < nt) && decide (p.2 < nt) && p.1 != p.2) = true → clG cl K ρ →
  ∃ A' ρ', b9 nt w I A' ρ' a ∧ eA w I A w I A' ∧ K ρ'
 | [], K, ρ, w, I, A, a, hs, _, h => ⟨A, ρ, hs, eA.refl _ _ _, h⟩
 | (d, t) :: l, K, ρ, w, I, A, a, hs, hc, h => by
  simp only [List.all_cons, Bool.and_eq_true, decide_eq_true_eq, bne_iff_ne] at hc
  obtain ⟨⟨⟨h1, h2⟩, h3⟩, h4⟩ := hc
  unfold clG at h
  split at h
  ·rename_i s n e z xs k1 k2
   obtain ⟨rfl, rfl, hk⟩ := h
   obtain ⟨A1, q1, q2⟩ := hs.claim h1 h2 (Ne.symm h3) (.inl ⟨e, z, xs, k1, k2⟩)
   rw [k2] at q1
   obtain ⟨A2, ρ2, r1, r2, r3⟩ := b9.claims l q1 h4 hk
   exact ⟨A2, ρ2, r1, q2.trans r2, r3⟩
  ·rename_i s off cs k1 k2
   obtain ⟨rfl, rfl, hk⟩ := h
   obtain ⟨A1, q1, q2⟩ := hs.claim h1 h2 (Ne.symm h3) (.inr ⟨cs, k1, k2⟩)
   rw [k2] at q1
   obtain ⟨A2, ρ2, r1, r2, r3⟩ := b9.claims l q1 h4 hk
   exact ⟨A2, ρ2, r1, q2.trans r2, r3⟩
  exact b9.claims l hs h4 h
theorem eV (L : List Nat) (cl : List (Nat × Nat)) {id : Nat} {l : List Oper} {Q : Exit → aS → Prop} (hm : P.follows .mixedOrders = true)
  (hr : (iZ nt l && aGr l l.length 0 (Array.replicate l.length false) && cl.all fun p => decide (p.1 < nt) && decide (p.2 < nt) && p.1 != p.2) = true) (h : pwD P l (clG cl (Q .normal)) l ⟨⟩ (keepC L ρ)) : AW P nt (.region id l.toArray true) Q ρ := by
 rw [Bool.and_eq_true] at hr
 have h1 := aZc (Q := fun e ρ => match e with | .normal => clG cl (Q .normal) ρ | e => Q e ρ) (id := id) L hm hr.1 h
 intro ro ds I A a w hs hd
 refine wpIn_mono (h1 ro ds I A a w hs hd) ?_
 intro e a1 w1 ⟨I1, A1, ρ1, k1, k2, k3, k4⟩
 cases e with
 | normal =>
  obtain ⟨A2, ρ2, r1, r2, r3⟩ := b9.claims cl k1 hr.2 k4
  exact ⟨I1, A2, ρ2, r1, k2, k3.trans r2, r3⟩
 | exit i => exact ⟨I1, A1, ρ1, k1, k2, k3, k4⟩
 | goto l => exact ⟨I1, A1, ρ1, k1, k2, k3, k4⟩
 | ret => exact ⟨I1, A1, ρ1, k1, k2, k3, k4⟩
 | panic ch => exact ⟨I1, A1, ρ1, k1, k2, k3, k4⟩
 | outgrown => exact ⟨I1, A1, ρ1, k1, k2, k3, k4⟩
theorem aZ (L : List Nat) {c : Code} {Q : Exit → aS → Prop} (J : Nat → aS → Prop) (n₀ : Nat) (h₀ : J n₀ (keepC L ρ))
  (round : ∀ n ρ, J n ρ → ∀ K : aS → Prop, (∀ m ρ', m < n → J m (keepC L ρ') → K ρ') → AW P nt c (oZ K Q) ρ) : AW P nt (.loop c) Q ρ := by
 refine cH (Le.keepC L ρ) (bDf (fun n ρ => ∃ ρ', J n ρ' ∧ Le ρ ρ') n₀ ⟨_, h₀, Le.refl _⟩ ?_)
 rintro n ρ1 ⟨ρ2, hJ, hle⟩ K hK
 exact cH hle (round n ρ2 hJ K fun m ρ' hm hj => hK m ρ' hm ⟨_, hj, Le.keepC L ρ'⟩)
theorem aGv {f : FuncId} {fn : Func} {c : Code} {O : aS} {args : List DV} {r : DV} (hf : P.funcs[f]? = some fn) (hb : fn.body = some c)
  (hn : (decide (args.length ≤ fn.ntmps) && decide (fn.ntmps ≤ 100000) && fn.results.toList.all (fun v => match v with | .tmp t => decide (t < fn.ntmps) | .cell t _ => decide (t < fn.ntmps))) = true)
  (h : AW P fn.ntmps c (wH P fn O fun O' r' => O' = O ∧ r' = r) (lA O args)) : aY P O f args r := aFv hf hb hn h
theorem jJ {ρ O : aS} (h : hi ρ = bT O) (s : Nat) : ρ (s + 100000) = sh (O s) := by
 have := congrFun h (s + 100000)
 rw [bW] at this
 unfold hi at this
 rw [if_neg (by omega)] at this
 exact this
theorem y9 {fn : Func} {O : aS} {r : DV} (h1 : hi ρ = bT O) (h2 : lO P ρ fn.results.toList r) : wH P fn O (fun O' r' => O' = O ∧ r' = r) .ret ρ :=
 ⟨O, r, jJ h1, fun _ => dW.refl _, fun _ h => h, h2, rfl, rfl⟩
theorem fP {f : FuncId} {l : List DV} {k : aS → DV → Prop} {t : Tg k} (r : DV) (h : aY P ρ f l r) (hk : k ρ r) : aCa P ρ f l k t := ⟨_, h, by rintro O' r' ⟨rfl, rfl⟩; exact hk⟩
@[congr] theorem AW_congr {c : Code} {Q : Exit → aS → Prop} {ρ ρ' : aS} (h : ρ = ρ') : AW P nt c Q ρ = AW P nt c Q ρ' := by rw [h]
@[congr] theorem CallD_congr {f : FuncId} {l l' : List DV} {k : DV → Prop} {t : Tg k} (h : l = l') : aGn P ρ f l k t = aGn P ρ f l' k t := by rw [h]
@[congr] theorem CallG_congr {f : FuncId} {l l' : List DV} {k : aS → DV → Prop} {t : Tg k} (h : l = l') : aCa P ρ f l k t = aCa P ρ f l' k t := by rw [h]
@[congr] theorem CallC_congr {g g' : Bool} {p p' : Prop} {f : FuncId} {l l' : List DV} {k : DV → Prop} {t : Tg k} (h : l = l') (hp : p = p') (hg : g = g') : aFz P ρ g p f l k t = aFz P ρ g' p' f l' k t := by rw [h, hp, hg]
@[congr] theorem pw_congr {all l : List Oper} {k : aS → Prop} {t : Tg (all, k, l)} {ρ ρ' : aS} (h : ρ = ρ') : pw P all k l t ρ = pw P all k l t ρ' := by rw [h]
@[congr] theorem pwD_congr {all l : List Oper} {k : aS → Prop} {t : Tg (all, k, l)} {ρ ρ' : aS} (h : ρ = ρ') : pwD P all k l t ρ = pwD P all k l t ρ' := by rw [h]
section rules
variable (all os : List Oper) (k K : aS → Prop) (d : Option Tmp) (op : Op) (ty : TypeId) (pos : String) (af : Array Edge) (j : Nat) (want : Bool)
theorem bFk : pw P all k [] ⟨⟩ ρ = k ρ := rfl
theorem aSg : pw P all k (⟨d, op, ty, pos, af, none⟩ :: os) ⟨⟩ ρ = fJ P ρ op d (pw P all k os ⟨⟩) := rfl
theorem aSp : pw P all k (⟨d, op, ty, pos, af, some (j, want)⟩ :: os) ⟨⟩ ρ = vK P ρ op d (gAt all ρ j want) (pw P all k os ⟨⟩) := rfl
theorem aYw : pwD P all k [] ⟨⟩ ρ = k ρ := rfl
theorem aOm : pwD P all k (⟨d, op, ty, pos, af, none⟩ :: os) ⟨⟩ ρ = (match gS op && d.isSome with
   | true => xV P ρ op d (pwD P all k os ⟨⟩)
   | false => fJ P ρ op d (pwD P all k os ⟨⟩)) := rfl
theorem aPr : pwD P all k (⟨d, op, ty, pos, af, some (j, want)⟩ :: os) ⟨⟩ ρ = vK P ρ op d (gAt all ρ j want) (pwD P all k os ⟨⟩) := rfl
end rules
section rules
variable (K : aS → Prop) (d : Nat) (dd : Option Nat) (x y : Operand) (t t' t'' : TypeId) (b : BinOp) (u : UnOp) (f i n : Nat) (a b' c : Operand)
theorem aXp : fJ P ρ (.move x) dd K = (gd (ev ρ x) ∧ K (bZ ρ dd (un (ev ρ x)))) := rfl
theorem aYe : fJ P ρ (.assign (.tmp n)) (some d) K = aUg ρ d n (ρ n) K := rfl
theorem aXi (v : Value) : fJ P ρ (.assign (.const v)) dd K = (gd (ev ρ (.const v)) ∧ K (bZ ρ dd (un (ev ρ (.const v))))) := rfl
theorem aTo : fJ P ρ (.assign (.func f)) dd K = (gd (ev ρ (.func f)) ∧ K (bZ ρ dd (un (ev ρ (.func f))))) := rfl
theorem aRw : fJ P ρ (.pick c a b') dd K = ((vQ (ev ρ c) (ev ρ a) (ev ρ b')).1 ∧ K (bZ ρ dd (vQ (ev ρ c) (ev ρ a) (ev ρ b')).2)) := rfl
theorem aVf : fJ P ρ (.load t x) dd K = ((gd (ev ρ x) ∧ (lN ρ (eD P t) (un (ev ρ x))).1) ∧ K (bZ ρ dd (lN ρ (eD P t) (un (ev ρ x))).2)) := rfl
theorem bCd : fJ P ρ (.nilCheck x) dd K = ((gd (ev ρ x) ∧ (aFo (un (ev ρ x))).1) ∧ K (bZ ρ dd (aFo (un (ev ρ x))).2)) := rfl
theorem bDj : fJ P ρ (.binOp b t x y t') dd K = aXk P ρ b t x y dd K := rfl
theorem bKy : fJ P ρ (.unOp u t x) dd K = ((gd (ev ρ x) ∧ (unP u (un (ev ρ x))).1) ∧ K (bZ ρ dd (unP u (un (ev ρ x))).2)) := rfl
theorem aVr : fJ P ρ (.convert t t' x) dd K = (((gd (ev ρ x) ∧ (P.underlying t).isSome = true) ∧ (rH (aAw P t') (un (ev ρ x))).1) ∧ K (bZ ρ dd (rH (aAw P t') (un (ev ρ x))).2)) := rfl
theorem bDv : fJ P ρ (.fieldAddr t x f) dd K = ((gd (ev ρ x) ∧ (aEw (b7 P t f) (un (ev ρ x))).1) ∧ K (bZ ρ dd (aEw (b7 P t f) (un (ev ρ x))).2)) := rfl
theorem bBn : fJ P ρ (.indexAddr t x y) dd K = (((gd (ev ρ x) ∧ gd (ev ρ y)) ∧ (rR ρ (eU P t) (un (ev ρ x)) (un (ev ρ y))).1) ∧ K (bZ ρ dd (rR ρ (eU P t) (un (ev ρ x)) (un (ev ρ y))).2)) := rfl
theorem bFp : fJ P ρ (.index t x y) dd K = (((gd (ev ρ x) ∧ gd (ev ρ y)) ∧ (atP (eU P t) (eD P t) (tk P t) (un (ev ρ x)) (un (ev ρ y))).1) ∧ K (bZ ρ dd (atP (eU P t) (eD P t) (tk P t) (un (ev ρ x)) (un (ev ρ y))).2)) := rfl
theorem aYx (lo h' : Option Operand) : fJ P ρ (.slice t x lo h' none) dd K = (((gd (ev ρ x) ∧ (∀ y ∈ lo, gd (ev ρ y)) ∧ ∀ y ∈ h', gd (ev ρ y)) ∧ (uK ρ (eU P t) (tk P t) (un (ev ρ x)) (lo.map fun y => un (ev ρ y)) (h'.map fun y => un (ev ρ y))).1) ∧
   K (bZ ρ dd (uK ρ (eU P t) (tk P t) (un (ev ρ x)) (lo.map fun y => un (ev ρ y)) (h'.map fun y => un (ev ρ y))).2)) := rfl
theorem bCc : fJ P ρ (.extract x i) dd K = ((gd (ev ρ x) ∧ (aDg (un (ev ρ x)) i).1) ∧ K (bZ ρ dd (aDg (un (ev ρ x)) i).2)) := rfl
theorem bIo (fn : Fn) (l m : Array Operand) : fJ P ρ (.makeFunc fn l m) dd K = ((fnP ρ fn l.toList m.toList).1 ∧ K (bZ ρ dd (fnP ρ fn l.toList m.toList).2)) := rfl
theorem aZe : fJ P ρ (.box t x) (some d) K = bFl ρ d (ev ρ x) K := rfl
theorem aPz : fJ P ρ (.alloc t) (some d) K = aAd ρ d (eM P t) K := rfl
theorem aNt : fJ P ρ (.store t x y) none K = stG ρ (jH P t) (ev ρ x) (ev ρ y) K := rfl
theorem bHg : fJ P ρ (.makeSlice t x y) (some d) K = mkG P ρ d (kH P t) (ev ρ x) (ev ρ y) K := rfl
theorem bAf (parts : Array (Nat × Operand)) : fJ P ρ (.buildSlice t n parts) (some d) K = aUw P ρ d (kH P t) n parts.toList K := rfl
theorem bMd : fJ P ρ (.lookup t x y false) dd K = lkG ρ dd (aFe P t) (ev ρ x) (ev ρ y) K := rfl
theorem bMq : fJ P ρ (.mapUpdate t x y c) none K = upG ρ (aFe P t) (ev ρ x) (ev ρ y) (ev ρ c) K := rfl
theorem bCj : fJ P ρ (.makeMap t none) (some d) K = K (set (cI d ρ) d (.mo [])) := rfl
theorem bAq : fJ P ρ (.call ⟨.builtin .len, #[x], #[t]⟩) dd K = ((gd (ev ρ x) ∧ (aGt (tk P t) (un (ev ρ x))).1) ∧ K (bZ ρ dd (aGt (tk P t) (un (ev ρ x))).2)) := rfl
theorem bBt : fJ P ρ (.call ⟨.builtin .max, #[x, y], #[t, t']⟩) dd K = (((gd (ev ρ x) ∧ gd (ev ρ y)) ∧ (aKv [un (ev ρ x), un (ev ρ y)]).1) ∧ K (bZ ρ dd (aKv [un (ev ρ x), un (ev ρ y)]).2)) := rfl
theorem bAd : fJ P ρ (.call ⟨.builtin .min, #[x, y], #[t, t']⟩) dd K = (((gd (ev ρ x) ∧ gd (ev ρ y)) ∧ (aJk [un (ev ρ x), un (ev ρ y)]).1) ∧ K (bZ ρ dd (aJk [un (ev ρ x), un (ev ρ y)]).2)) := rfl
theorem bDb : fJ P ρ (.call ⟨.builtin .append, #[x, y], #[t, t']⟩) (some d) K = (t = t' ∧ bDa P ρ d (kH P t) (ev ρ x) (ev ρ y) K) := rfl
theorem aXb (args : Array Operand) (ts : Array TypeId) : fJ P ρ (.call ⟨.value x, args, ts⟩) (some d) K =
  (gd (ev ρ x) ∧ gdL ρ args.toList ∧ aDa P (callee (un (ev ρ x)) (evL ρ args.toList)) ∧ bDl P ρ d (callee (un (ev ρ x)) (evL ρ args.toList)) K) := rfl
theorem bAa (args : Array Operand) (ts : Array TypeId) : xV P ρ (.call ⟨.value x, args, ts⟩) dd K = (bY ρ dd ∧ gd (ev ρ x) ∧ gdL ρ args.toList ∧ pcG P ρ dd (callee (un (ev ρ x)) (evL ρ args.toList)) K) := rfl
theorem bKo (parts : Array (Nat × Operand)) : xV P ρ (.buildSlice t n parts) dd K = (bY ρ dd ∧ (aAe P ρ (kH P t) n parts.toList).1 ∧ bP (aAe P ρ (kH P t) n parts.toList).2 = false ∧ K (bZ ρ dd (aAe P ρ (kH P t) n parts.toList).2)) := rfl
theorem bAj (g : Bool) (args : Array Operand) (ts : Array TypeId) : vK P ρ (.call ⟨.value x, args, ts⟩) dd (some g) K = (bY ρ dd ∧ gcG P ρ dd g (ev ρ x) (gdL ρ args.toList) (callee (un (ev ρ x)) (evL ρ args.toList)) K) := rfl
end rules
theorem bMj {b : Builtin} {args : Array Operand} {ts : Array TypeId} {dd : Option Nat} {K : aS → Prop} : xV P ρ (.call ⟨.builtin b, args, ts⟩) dd K = (bY ρ dd ∧ (tS P ρ b args.toList ts.toList).1 ∧ bP (tS P ρ b args.toList ts.toList).2 = false ∧ K (bZ ρ dd (tS P ρ b args.toList ts.toList).2)) := rfl
theorem bHy {b : Builtin} {args : Array Operand} {ts : Array TypeId} {dd : Option Nat} {g : Bool} {K : aS → Prop} : vK P ρ (.call ⟨.builtin b, args, ts⟩) dd (some g) K =
  (bY ρ dd ∧ (g = true → (tS P ρ b args.toList ts.toList).1) ∧ gC (tS P ρ b args.toList ts.toList).2 = true ∧ K (bZ ρ dd (.cond g (tS P ρ b args.toList ts.toList).2))) := rfl
section rules
variable (x y a b' c : Operand) (t t' : TypeId) (b : BinOp) (u : UnOp) (f i : Nat)
theorem aVs : cZ P ρ (.move x) = (gd (ev ρ x), un (ev ρ x)) := rfl
theorem bBw : cZ P ρ (.assign x) = (gd (ev ρ x), un (ev ρ x)) := rfl
theorem aTh : cZ P ρ (.pick c a b') = vQ (ev ρ c) (ev ρ a) (ev ρ b') := rfl
theorem aVb : cZ P ρ (.load t x) = (gd (ev ρ x) ∧ (lN ρ (eD P t) (un (ev ρ x))).1, (lN ρ (eD P t) (un (ev ρ x))).2) := rfl
theorem aZj : cZ P ρ (.nilCheck x) = (gd (ev ρ x) ∧ (aFo (un (ev ρ x))).1, (aFo (un (ev ρ x))).2) := rfl
theorem bDo : cZ P ρ (.binOp b t x y t') = ((gd (ev ρ x) ∧ gd (ev ρ y)) ∧ (aAn (qZ P t) (tk P t) b (un (ev ρ x)) (un (ev ρ y))).1, (aAn (qZ P t) (tk P t) b (un (ev ρ x)) (un (ev ρ y))).2) := rfl
theorem bJf : cZ P ρ (.unOp u t x) = (gd (ev ρ x) ∧ (unP u (un (ev ρ x))).1, (unP u (un (ev ρ x))).2) := rfl
theorem aRn : cZ P ρ (.convert t t' x) = ((gd (ev ρ x) ∧ (P.underlying t).isSome = true) ∧ (rH (aAw P t') (un (ev ρ x))).1, (rH (aAw P t') (un (ev ρ x))).2) := rfl
theorem aYf : cZ P ρ (.fieldAddr t x f) = (gd (ev ρ x) ∧ (aEw (b7 P t f) (un (ev ρ x))).1, (aEw (b7 P t f) (un (ev ρ x))).2) := rfl
theorem bBl : cZ P ρ (.indexAddr t x y) = ((gd (ev ρ x) ∧ gd (ev ρ y)) ∧ (rR ρ (eU P t) (un (ev ρ x)) (un (ev ρ y))).1, (rR ρ (eU P t) (un (ev ρ x)) (un (ev ρ y))).2) := rfl
theorem bKh : cZ P ρ (.index t x y) = ((gd (ev ρ x) ∧ gd (ev ρ y)) ∧ (atP (eU P t) (eD P t) (tk P t) (un (ev ρ x)) (un (ev ρ y))).1, (atP (eU P t) (eD P t) (tk P t) (un (ev ρ x)) (un (ev ρ y))).2) := rfl
theorem bBf (lo h' : Option Operand) : cZ P ρ (.slice t x lo h' none) = ((gd (ev ρ x) ∧ (∀ y ∈ lo, gd (ev ρ y)) ∧ ∀ y ∈ h', gd (ev ρ y)) ∧ (uK ρ (eU P t) (tk P t) (un (ev ρ x)) (lo.map fun y => un (ev ρ y)) (h'.map fun y => un (ev ρ y))).1,
   (uK ρ (eU P t) (tk P t) (un (ev ρ x)) (lo.map fun y => un (ev ρ y)) (h'.map fun y => un (ev ρ y))).2) := rfl
theorem bEa : cZ P ρ (.extract x i) = (gd (ev ρ x) ∧ (aDg (un (ev ρ x)) i).1, (aDg (un (ev ρ x)) i).2) := rfl
theorem bKm (fn : Fn) (l m : Array Operand) : cZ P ρ (.makeFunc fn l m) = fnP ρ fn l.toList m.toList := rfl
end rules
section rules
variable (x y a b' c : Operand) (t t' : TypeId) (b : BinOp) (u : UnOp) (f i : Nat) (lo h' : Option Operand) (fn : Fn) (l m : Array Operand) (dd : Option Nat) (g : Bool) (K : aS → Prop)
theorem bAk : xV P ρ (.move x) dd K = (bY ρ dd ∧ (cZ P ρ (.move x)).1 ∧ bP (cZ P ρ (.move x)).2 = false ∧ K (bZ ρ dd (cZ P ρ (.move x)).2)) := rfl
theorem bCv : vK P ρ (.move x) dd (some g) K = (bY ρ dd ∧ (g = true → (cZ P ρ (.move x)).1) ∧ gC (cZ P ρ (.move x)).2 = true ∧ K (bZ ρ dd (.cond g (cZ P ρ (.move x)).2))) := rfl
theorem bLa : xV P ρ (.assign x) dd K = (bY ρ dd ∧ (cZ P ρ (.assign x)).1 ∧ bP (cZ P ρ (.assign x)).2 = false ∧ K (bZ ρ dd (cZ P ρ (.assign x)).2)) := rfl
theorem bKr : vK P ρ (.assign x) dd (some g) K = (bY ρ dd ∧ (g = true → (cZ P ρ (.assign x)).1) ∧ gC (cZ P ρ (.assign x)).2 = true ∧ K (bZ ρ dd (.cond g (cZ P ρ (.assign x)).2))) := rfl
theorem aYg : xV P ρ (.pick c a b') dd K = (bY ρ dd ∧ (cZ P ρ (.pick c a b')).1 ∧ bP (cZ P ρ (.pick c a b')).2 = false ∧ K (bZ ρ dd (cZ P ρ (.pick c a b')).2)) := rfl
theorem bAe : vK P ρ (.pick c a b') dd (some g) K = (bY ρ dd ∧ (g = true → (cZ P ρ (.pick c a b')).1) ∧ gC (cZ P ρ (.pick c a b')).2 = true ∧ K (bZ ρ dd (.cond g (cZ P ρ (.pick c a b')).2))) := rfl
theorem bCk : xV P ρ (.load t x) dd K = (bY ρ dd ∧ (cZ P ρ (.load t x)).1 ∧ bP (cZ P ρ (.load t x)).2 = false ∧ K (bZ ρ dd (cZ P ρ (.load t x)).2)) := rfl
theorem aZf : vK P ρ (.load t x) dd (some g) K = (bY ρ dd ∧ (g = true → (cZ P ρ (.load t x)).1) ∧ gC (cZ P ρ (.load t x)).2 = true ∧ K (bZ ρ dd (.cond g (cZ P ρ (.load t x)).2))) := rfl
theorem bGx : xV P ρ (.nilCheck x) dd K = (bY ρ dd ∧ (cZ P ρ (.nilCheck x)).1 ∧ bP (cZ P ρ (.nilCheck x)).2 = false ∧ K (bZ ρ dd (cZ P ρ (.nilCheck x)).2)) := rfl
theorem bLv : vK P ρ (.nilCheck x) dd (some g) K = (bY ρ dd ∧ (g = true → (cZ P ρ (.nilCheck x)).1) ∧ gC (cZ P ρ (.nilCheck x)).2 = true ∧ K (bZ ρ dd (.cond g (cZ P ρ (.nilCheck x)).2))) := rfl
theorem bGk : xV P ρ (.binOp b t x y t') dd K = (bY ρ dd ∧ (cZ P ρ (.binOp b t x y t')).1 ∧ bP (cZ P ρ (.binOp b t x y t')).2 = false ∧ K (bZ ρ dd (cZ P ρ (.binOp b t x y t')).2)) := rfl
theorem bLn : vK P ρ (.binOp b t x y t') dd (some g) K = (bY ρ dd ∧ (g = true → (cZ P ρ (.binOp b t x y t')).1) ∧ gC (cZ P ρ (.binOp b t x y t')).2 = true ∧ K (bZ ρ dd (.cond g (cZ P ρ (.binOp b t x y t')).2))) := rfl
theorem bSu : xV P ρ (.unOp u t x) dd K = (bY ρ dd ∧ (cZ P ρ (.unOp u t x)).1 ∧ bP (cZ P ρ (.unOp u t x)).2 = false ∧ K (bZ ρ dd (cZ P ρ (.unOp u t x)).2)) := rfl
theorem bTl : vK P ρ (.unOp u t x) dd (some g) K = (bY ρ dd ∧ (g = true → (cZ P ρ (.unOp u t x)).1) ∧ gC (cZ P ρ (.unOp u t x)).2 = true ∧ K (bZ ρ dd (.cond g (cZ P ρ (.unOp u t x)).2))) := rfl
theorem aYo : xV P ρ (.convert t t' x) dd K = (bY ρ dd ∧ (cZ P ρ (.convert t t' x)).1 ∧ bP (cZ P ρ (.convert t t' x)).2 = false ∧ K (bZ ρ dd (cZ P ρ (.convert t t' x)).2)) := rfl
theorem aYm : vK P ρ (.convert t t' x) dd (some g) K = (bY ρ dd ∧ (g = true → (cZ P ρ (.convert t t' x)).1) ∧ gC (cZ P ρ (.convert t t' x)).2 = true ∧ K (bZ ρ dd (.cond g (cZ P ρ (.convert t t' x)).2))) := rfl
theorem bMy : xV P ρ (.fieldAddr t x f) dd K = (bY ρ dd ∧ (cZ P ρ (.fieldAddr t x f)).1 ∧ bP (cZ P ρ (.fieldAddr t x f)).2 = false ∧ K (bZ ρ dd (cZ P ρ (.fieldAddr t x f)).2)) := rfl
theorem bIh : vK P ρ (.fieldAddr t x f) dd (some g) K = (bY ρ dd ∧ (g = true → (cZ P ρ (.fieldAddr t x f)).1) ∧ gC (cZ P ρ (.fieldAddr t x f)).2 = true ∧ K (bZ ρ dd (.cond g (cZ P ρ (.fieldAddr t x f)).2))) := rfl
theorem bLm : xV P ρ (.indexAddr t x y) dd K = (bY ρ dd ∧ (cZ P ρ (.indexAddr t x y)).1 ∧ bP (cZ P ρ (.indexAddr t x y)).2 = false ∧ K (bZ ρ dd (cZ P ρ (.indexAddr t x y)).2)) := rfl
theorem bGe : vK P ρ (.indexAddr t x y) dd (some g) K = (bY ρ dd ∧ (g = true → (cZ P ρ (.indexAddr t x y)).1) ∧ gC (cZ P ρ (.indexAddr t x y)).2 = true ∧ K (bZ ρ dd (.cond g (cZ P ρ (.indexAddr t x y)).2))) := rfl
theorem bSx : xV P ρ (.index t x y) dd K = (bY ρ dd ∧ (cZ P ρ (.index t x y)).1 ∧ bP (cZ P ρ (.index t x y)).2 = false ∧ K (bZ ρ dd (cZ P ρ (.index t x y)).2)) := rfl
theorem bPn : vK P ρ (.index t x y) dd (some g) K = (bY ρ dd ∧ (g = true → (cZ P ρ (.index t x y)).1) ∧ gC (cZ P ρ (.index t x y)).2 = true ∧ K (bZ ρ dd (.cond g (cZ P ρ (.index t x y)).2))) := rfl
theorem bMr : xV P ρ (.slice t x lo h' none) dd K = (bY ρ dd ∧ (cZ P ρ (.slice t x lo h' none)).1 ∧ bP (cZ P ρ (.slice t x lo h' none)).2 = false ∧ K (bZ ρ dd (cZ P ρ (.slice t x lo h' none)).2)) := rfl
theorem bGn : vK P ρ (.slice t x lo h' none) dd (some g) K = (bY ρ dd ∧ (g = true → (cZ P ρ (.slice t x lo h' none)).1) ∧ gC (cZ P ρ (.slice t x lo h' none)).2 = true ∧ K (bZ ρ dd (.cond g (cZ P ρ (.slice t x lo h' none)).2))) := rfl
theorem bMw : xV P ρ (.extract x i) dd K = (bY ρ dd ∧ (cZ P ρ (.extract x i)).1 ∧ bP (cZ P ρ (.extract x i)).2 = false ∧ K (bZ ρ dd (cZ P ρ (.extract x i)).2)) := rfl
theorem bIf : vK P ρ (.extract x i) dd (some g) K = (bY ρ dd ∧ (g = true → (cZ P ρ (.extract x i)).1) ∧ gC (cZ P ρ (.extract x i)).2 = true ∧ K (bZ ρ dd (.cond g (cZ P ρ (.extract x i)).2))) := rfl
theorem bRw : xV P ρ (.makeFunc fn l m) dd K = (bY ρ dd ∧ (cZ P ρ (.makeFunc fn l m)).1 ∧ bP (cZ P ρ (.makeFunc fn l m)).2 = false ∧ K (bZ ρ dd (cZ P ρ (.makeFunc fn l m)).2)) := rfl
theorem bRq : vK P ρ (.makeFunc fn l m) dd (some g) K = (bY ρ dd ∧ (g = true → (cZ P ρ (.makeFunc fn l m)).1) ∧ gC (cZ P ρ (.makeFunc fn l m)).2 = true ∧ K (bZ ρ dd (.cond g (cZ P ρ (.makeFunc fn l m)).2))) := rfl
theorem aSn (parts : Array (Nat × Operand)) : xV P ρ (.build t parts) dd K = (bY ρ dd ∧ (nN P ρ t parts.toList).1 ∧ bP (nN P ρ t parts.toList).2 = false ∧ K (bZ ρ dd (nN P ρ t parts.toList).2)) := rfl
theorem aVp (parts : Array (Nat × Operand)) : vK P ρ (.build t parts) dd (some g) K = (bY ρ dd ∧ (g = true → (nN P ρ t parts.toList).1) ∧ gC (nN P ρ t parts.toList).2 = true ∧ K (bZ ρ dd (.cond g (nN P ρ t parts.toList).2))) := rfl
theorem aQc (parts : Array (Nat × Operand)) : fJ P ρ (.build t parts) dd K = ((nN P ρ t parts.toList).1 ∧ K (bZ ρ dd (nN P ρ t parts.toList).2)) := rfl
theorem aWk (i : Nat) (x : Operand) (l : List (Nat × Operand)) (cs : List DV) : kC P ρ t ((i, x) :: l) cs = (match fZ P t i with
  | some (off, s) => (gd (ev ρ x) ∧ (cD (un (ev ρ x))).length = s ∧ 0 < s ∧ off + s ≤ cs.length ∧ (kC P ρ t l (spl off (cD (un (ev ρ x))) cs)).1, (kC P ρ t l (spl off (cD (un (ev ρ x))) cs)).2)
  | none => (False, cs)) := rfl
theorem bSq : xV P ρ (.makeSlice t x y) dd K = (bY ρ dd ∧ (mkP P (kH P t) (ev ρ x) (ev ρ y)).1 ∧ bP (mkP P (kH P t) (ev ρ x) (ev ρ y)).2 = false ∧ K (bZ ρ dd (mkP P (kH P t) (ev ρ x) (ev ρ y)).2)) := rfl
theorem bSy : vK P ρ (.makeSlice t x y) dd (some g) K = (bY ρ dd ∧ (g = true → (mkP P (kH P t) (ev ρ x) (ev ρ y)).1) ∧ gC (mkP P (kH P t) (ev ρ x) (ev ρ y)).2 = true ∧ K (bZ ρ dd (.cond g (mkP P (kH P t) (ev ρ x) (ev ρ y)).2))) := rfl
theorem bLx (n : Nat) (parts : Array (Nat × Operand)) : vK P ρ (.buildSlice t n parts) dd (some g) K = (bY ρ dd ∧ (g = true → (aAe P ρ (kH P t) n parts.toList).1) ∧ gC (aAe P ρ (kH P t) n parts.toList).2 = true ∧ K (bZ ρ dd (.cond g (aAe P ρ (kH P t) n parts.toList).2))) := rfl
end rules
theorem aXg (O : aS) (l : List DV) : lA O l = oB 0 l (bT O) := rfl
theorem aEf (K : aS → Prop) (Q : Exit → aS → Prop) (ρ : aS) : oZ K Q .normal ρ = K ρ := rfl
theorem aOc (K : aS → Prop) (Q : Exit → aS → Prop) (ρ : aS) : oZ K Q .ret ρ = Q .ret ρ := rfl
theorem aJz (K : aS → Prop) (Q : Exit → aS → Prop) (i : Nat) (ρ : aS) : oZ K Q (.exit i) ρ = Q (.exit i) ρ := rfl
theorem aBe (i : Nat) (Q : Exit → aS → Prop) (ρ : aS) : m8 i Q .normal ρ = Q .normal ρ := rfl
theorem aKu (i : Nat) (Q : Exit → aS → Prop) (ρ : aS) : m8 i Q .ret ρ = Q .ret ρ := rfl
theorem aGw (i j : Nat) (Q : Exit → aS → Prop) (ρ : aS) : m8 i Q (.exit j) ρ = if j = i then Q .normal ρ else Q (.exit j) ρ := rfl
end
attribute [go_sem] bMd bMq bCj lkG upG bFk aSg aSp aYw aOm aPr aXp aYe aXi aTo aRw aVf bCd bDj bKy aVr bDv bBn bFp aYx bCc bIo aZe aPz aNt bHg bAf bAq bBt bAd bDb aXb bAa bKo bAj bAk bCv bLa bKr aYg bAe bCk aZf bGx bLv bGk bLn bSu bTl aYo aYm bMy bIh bLm bGe bSx bPn bMr bGn bMw bIf bRw bRq bLx bSq bSy mkP aSn aVp aQc aQf aWk nN bMj bHy aVs bBw aTh aVb aZj bDo bJf aRn aYf bBl bKh bBf bEa bKm gS yC aRf aZk aBq cv rd un gd aO iJ aOn x1 pK eF d7 dF bP gC bY clG aUg bFl aAd stG stB stR mkG aUw bDa bMa tE kA zP bsL cD spl gAt gW aXk bOv aEx aRo aAn aWo eqL aSt aWt aRh unP aGt vQ aRj cut aBz aNc lN aEw rR atP uK rH aDg aFo aKv aJk tS fnP gdL evL callee aDa bDl pcG gcG aAe aQu aBj rQ yV bDq aGs bPe aOf aXg wD tF qL gT aEf aOc aJz aBe aKu aGw true_and and_true imp_self implies_true forall_const List.getElem?_cons_succ List.getElem?_cons_zero List.getElem?_nil List.getD_cons_zero List.getD_cons_succ List.map_cons List.map_nil List.length_cons List.length_nil List.drop_zero List.drop_succ_cons List.take_zero List.take_succ_cons List.set_cons_zero List.set_cons_succ List.append_nil List.nil_append List.cons_append List.headD_cons Option.map_some Option.map_none Option.isSome_some Option.isSome_none Bool.and_true Bool.true_and Bool.and_false Bool.false_and beq_self_eq_true Bool.cond_true Bool.cond_false Nat.add_zero Nat.zero_add Option.mem_def Option.some.injEq forall_eq' List.not_mem_nil aAe List.mem_cons false_implies
end Go.Sg
namespace Go.Sg
open Go.RowKit
open Go.Rv (FR)
def dU (O : aS) : List (Nat × DV) → aS
 | [] => bT O
 | p :: l => set (dU O l) p.1 p.2
theorem xL (O : aS) : dU O [] = bT O := rfl
theorem sT (O : aS) (i : Nat) (d : DV) (l : List (Nat × DV)) : dU O ((i, d) :: l) = set (dU O l) i d := rfl
inductive Has : DV → Nat → Prop
 | sl (z n : Nat) (f : Nat → List DV) : Has (.sl z n f) n
 | el {z m n : Nat} {f : Nat → List DV} (i : Nat) {d : DV} (hi : i < m) (hd : d ∈ f i) (h : Has d n) : Has (.sl z m f) n
 | agg {cs : List DV} {n : Nat} {d : DV} (hd : d ∈ cs) (h : Has d n) : Has (.agg cs) n
 | tup {cs : List DV} {n : Nat} {d : DV} (hd : d ∈ cs) (h : Has d n) : Has (.tup cs) n
 | dp {cs : List DV} {n : Nat} {d : DV} (hd : d ∈ cs) (h : Has d n) : Has (.dp cs) n
theorem bH.has {w : World} {I : Nat → Prop} {d : DV} {n : Nat} (hh : Has d n) : ∀ {A : cO} {x : Value}, bH w I A d x → n ≤ 9223372036854775807 := by
 induction hh with
 | sl z n f =>
  intro A x h
  cases h with
  | sl0 => omega
  | sl _ _ _ _ b o c us hn hc hm hI hz hcell hone hrel => exact Nat.le_trans hc hm
 | el i hi hd h ih =>
  intro A x hr
  cases hr with
  | sl0 => omega
  | sl _ _ _ _ b o c us hn hc hm hI hz hcell hone hrel =>
   obtain ⟨j, hj⟩ := List.getElem?_of_mem hd
   exact ih (hrel i j _ hi hj)
 | agg hd h ih =>
  intro A x hr
  cases hr with
  | agg _ _ vs hl hone hrel =>
   obtain ⟨j, hj⟩ := List.getElem?_of_mem hd
   have hlt : j < vs.size := by
    rw [← hl]
    rcases Nat.lt_or_ge j _ with h1 | h1
    ·exact h1
    rw [List.getElem?_eq_none h1] at hj; cases hj
   exact ih (hrel j _ _ hj (Array.getElem?_eq_getElem hlt))
 | tup hd h ih =>
  intro A x hr
  cases hr with
  | tup _ _ vs hl hrel =>
   obtain ⟨j, hj⟩ := List.getElem?_of_mem hd
   have hlt : j < vs.size := by
    rw [← hl]
    rcases Nat.lt_or_ge j _ with h1 | h1
    ·exact h1
    rw [List.getElem?_eq_none h1] at hj; cases hj
   exact ih (hrel j _ _ hj (Array.getElem?_eq_getElem hlt))
 | dp hd h ih =>
  intro A x hr
  cases hr with
  | dp _ _ b o us hI hcell hone hrel =>
   obtain ⟨j, hj⟩ := List.getElem?_of_mem hd
   exact ih (hrel j _ hj)
section
variable {P : Program} {nt : Nat} {ρ O : aS} {Q : Exit → aS → Prop} {c : Code}
theorem aPd {f : FuncId} {args : List DV} {R : aS → DV → Prop} (j : Nat) {d : DV} {n : Nat} (hj : args[j]? = some d) (hh : Has d n) (k : n ≤ 9223372036854775807 → iC P O f args R) : iC P O f args R :=
 fun w I A vals hO hl hv => by
  have hlt : j < vals.size := by
   rw [hl]
   rcases Nat.lt_or_ge j args.length with h1 | h1
   ·exact h1
   rw [List.getElem?_eq_none h1] at hj; cases hj
  exact k ((hv j d _ hj (Array.getElem?_eq_getElem hlt)).has hh) w I A vals hO hl hv
theorem aU {f : FuncId} {args : List DV} {r : DV} (j : Nat) {d : DV} {n : Nat} (hj : args[j]? = some d) (hh : Has d n) (k : n ≤ 9223372036854775807 → aY P O f args r) : aY P O f args r := aPd j hj hh k
theorem cK {fn : Func} {O : aS} {r : DV} (t : Nat) (hf : fn.results = #[.tmp t]) (h1 : hi ρ = bT O) (h2 : dE ρ t r) : wH P fn O (fun O' r' => O' = O ∧ r' = r) .ret ρ :=
 y9 h1 (by rw [hf]; exact h2)
theorem dE.is {t : Nat} {r : DV} (h : ρ t = r) (hr : gC r = true) (hs : sh r = r) : dE ρ t r := .pure r (h.symm ▸ hr) (by rw [h, hs]; exact dI.refl _) (by cases r <;> first | rfl | cases hr)
theorem zI {x : Int} (h : -9223372036854775808 ≤ x) (h' : x ≤ 9223372036854775807) : IntKind.i64.wrap x = x := by
 rw [IntKind.wrap_i64]; omega
theorem bJx (i n : Nat) : ((i : Int) < (n : Int)) = (i < n) := by apply propext; omega
theorem bNj (i n : Nat) : ((i : Int) ≤ (n : Int)) = (i ≤ n) := by apply propext; omega
theorem bGt (i : Nat) : ((0 : Int) ≤ (i : Int)) = True := by apply propext; simp
theorem bV {α : Type} {l : List α} {i : Nat} (d : α) (h : i < l.length) : l.drop i = l.getD i d :: l.drop (i + 1) := by
 rw [List.drop_eq_getElem_cons h, List.getD_eq_getElem?_getD, List.getElem?_eq_getElem h]; rfl
theorem eN {α : Type} {l : List α} {i : Nat} (h : l.length ≤ i) : l.drop i = [] := List.drop_eq_nil_of_le h
end
attribute [go_sem] xL sT Int.toNat_natCast bJx bNj bGt
end Go.Sg
namespace Go.Sg
open Go.RowKit
open Go.Rv (FR)
def frz (z : Nat) (xs : List (List DV)) : DV := .sl z xs.length fun i => xs.getD i []
section
variable {P : Program} {nt : Nat} {w w' : World} {I I' : Nat → Prop} {A : cO} {ρ O : aS} {Q : Exit → aS → Prop} {c : Code}
theorem cX.keep {s : Nat} {d : DV} {x : Value} (hr : cX w I A s d x) (h : ∀ B d x, bH w I B d x → bH w' I' B d x) : cX w' I' A s d x := by
 cases d with
 | bx cs => exact hr
 | row e z xs => exact hr
 | cond g y => exact ⟨fun hg => h _ _ _ (hr.1 hg), hr.2⟩
 | any => exact .any A x
 | v y => exact h _ _ _ hr
 | sl z n f => exact h _ _ _ hr
 | agg cs => exact h _ _ _ hr
 | tup cs => exact h _ _ _ hr
 | dp cs => exact h _ _ _ hr
 | bp t o => exact h _ _ _ hr
 | own t n => exact h _ _ _ hr
 | rp t z i o => exact h _ _ _ hr
 | fn f b c => exact h _ _ _ hr
 | iface t y => exact h _ _ _ hr
 | mr t => exact h _ _ _ hr
 | ez => exact h _ _ _ hr
 | mo es => exact hr
theorem iY.frz {e : TypeId} {z : Nat} {xs : List (List DV)} {B : Option Nat} {c : Nat} (h : iY w I e z xs B c) (hI : ∀ g, B = some g → I' g) (hm : ∀ g, I g → I' g) {A : cO} :
  ∀ {b : Option Addr}, jI B b → bH w I' A (frz z xs) (.slice b xs.length c) := by
 intro b hb
 unfold Sg.frz
 cases B with
 | none => obtain ⟨rfl, rfl⟩ := h; exact .sl0 A _ _ _ _
 | some g =>
  obtain rfl := fL hb
  obtain ⟨us, h1, h2, h3, h4, h5⟩ := h
  rcases Nat.eq_zero_or_pos xs.length with h0 | h0
  ·rw [h0]; exact .sl0 A _ _ _ _
  have hget : ∀ i, i < xs.length → xs[i]? = some (xs.getD i []) := fun i hi => by rw [List.getD_eq_getElem?_getD, List.getElem?_eq_getElem hi]; rfl
  have hb : ∀ i j, i < xs.length → j < z → i * z + j < us.size := fun i j hi hj => by
   rw [h2]
   have : (i + 1) * z ≤ c * z := Nat.mul_le_mul_right _ (by omega)
   rw [Nat.succ_mul] at this
   omega
  refine .sl A z _ _ g 0 c (fun i j => us.getD (i * z + j) undef) h0 h4 h3 (hI g rfl) (fun i hi => (h5 i _ (hget i hi)).1) (fun i j hi hj => ?_) (fun i j hi hj => ?_) fun i j d hi hd => ?_
  ·unfold World.cell?
   rw [h1]
   simp only [Option.isSome_none, Nat.zero_add]
   rw [Array.getElem?_eq_getElem (hb i j hi hj), Array.getD_eq_getD_getElem?, Array.getElem?_eq_getElem (hb i j hi hj)]
   rfl
  ·have hl := (h5 i _ (hget i hi)).1
   have hj' : j < (xs.getD i []).length := by omega
   have e2 : us[i * z + j]? = some (us.getD (i * z + j) undef) := by rw [Array.getD_eq_getD_getElem?, Array.getElem?_eq_getElem (hb i j hi hj)]; rfl
   exact ((h5 i _ (hget i hi)).2 j _ _ (List.getElem?_eq_getElem hj') e2).1
  have hl := (h5 i _ (hget i hi)).1
  have hj : j < z := by
   rw [← hl]
   rcases Nat.lt_or_ge j (xs.getD i []).length with h | h
   ·exact h
   rw [List.getElem?_eq_none h] at hd; cases hd
  have e2 : us[i * z + j]? = some (us.getD (i * z + j) undef) := by rw [Array.getD_eq_getD_getElem?, Array.getElem?_eq_getElem (hb i j hi hj)]; rfl
  exact ((h5 i _ (hget i hi)).2 j d _ hd e2).2.mono fun g' hg' => ⟨hm g' hg', fun _ => rfl⟩
theorem aOj {f : FuncId} {args : List DV} {e : TypeId} {z : Nat} {xs : List (List DV)} (h : aY P O f args (.row e z xs)) : aY P O f args (frz z xs) :=
 fun w I A vals h1 h2 h3 => (h w I A vals h1 h2 h3).mono fun _ w' ⟨v, I', O', r, k1, k2, k3, k4, k5, k6, k7, k8⟩ => by
  subst k8
  obtain ⟨B, c, ⟨b, hb, rfl⟩, q2, q3⟩ := k6
  have hm : ∀ g, I' g → (I' g ∨ B = some g) := fun g hg => .inl hg
  have hmono : ∀ (B' : cO) d x, bH w' I' B' d x → bH w' (fun g => I' g ∨ B = some g) B' d x := fun B' d x hr => hr.mono fun g hg => ⟨hm g hg, fun _ => rfl⟩
  refine ⟨_, fun g => I' g ∨ B = some g, _, frz z xs, k1, ⟨fun s => (k2.own s).keep (fun _ _ _ => rfl) hmono, k2.inj, fun s g c' hA => ⟨(k2.sep s g c' hA).1, fun hi => hi.elim (k2.sep s g c' hA).2 fun hB => ?_⟩, k2.imm.step (fun g hg => hg.elim (k2.imm g) fun hB => (q3 g hB).2.1) fun g hg => ⟨.inl hg, rfl⟩⟩, k3, k4,
   ⟨k5.os, k5.tape, k5.output, k5.size, fun g hg => .inl (k5.imm g hg), fun g hg hA => ?_, k5.loc, k5.outA⟩, q2.frz (fun g hg => .inr hg) hm hb, k7, rfl⟩
  ·have := (h1.sep s g c' hA).1
   have := (q3 g hB).1
   omega
  obtain ⟨e1, e2, e3⟩ := k5.old g hg hA
  refine ⟨e1, fun hi => hi.elim e2 fun hB => ?_, e3⟩
  have := (q3 g hB).1
  omega
theorem b9.frz {a : Act} (hs : b9 nt w I A ρ a) {s : Nat} (hlt : s < 100000) {e : TypeId} {z : Nat} {xs : List (List DV)} (h : ρ s = .row e z xs) :
  ∃ I' A', b9 nt w I' A' (set (cI s ρ) s (Sg.frz z xs)) a ∧ eA w I A w I' A' := by
 have ho := hs.osim.own s
 have hsl := hs.slot s
 rw [h] at ho hsl
 obtain ⟨B, c, h1, h2⟩ := ho
 have hd := hs.disown hlt
 have hm : ∀ g, I g → (I g ∨ B = some g) := fun g hg => .inl hg
 have hmono : ∀ (B' : cO) d x, bH w I B' d x → bH w (fun g => I g ∨ B = some g) B' d x := fun B' d x hr => hr.mono fun g hg => ⟨hm g hg, fun _ => rfl⟩
 have hB : ∀ g, B = some g → g < w.heap.size := fun g hg => (hs.osim.sep s g c (by rw [h1, hg])).1
 refine ⟨fun g => I g ∨ B = some g, gE A s none, ⟨⟨fun t => ?_, hd.osim.inj, fun t g c' hA => ⟨(hd.osim.sep t g c' hA).1, fun hi => hi.elim (hd.osim.sep t g c' hA).2 fun hb => ?_⟩, hs.osim.imm.step (fun g hg => hg.elim (hs.osim.imm g) (hB g)) fun g hg => ⟨.inl hg, rfl⟩⟩, hs.size, hs.bound, fun i hi => ?_, fun t ht => ?_⟩,
  ⟨rfl, ⟨rfl, Nat.le_refl _⟩, rfl, Nat.le_refl _, hm, fun g hg hA => ⟨rfl, fun hi => hi.elim id fun hb => absurd h1 (by rw [hb]; exact hA s c), fun t c' ht => ?_⟩, fun t g c' hA _ ht => ⟨t, c', ht, ?_⟩, fun t ht => d5 A _ (by omega)⟩⟩
 ·have := (hd.osim.own t).keep (I' := fun g => I g ∨ B = some g) (fun _ _ _ => rfl) hmono
  unfold set at this ⊢
  split
  ·trivial
  rename_i hne; rw [if_neg hne] at this; exact this
 ·unfold gE at hA
  split at hA
  ·cases hA
  rename_i hne
  exact hne (hs.osim.inj t s g c' c hA (by rw [h1, hb]))
 ·by_cases hi' : i = s
  ·subst hi'
   obtain ⟨B', c', q1, b, hb', q2⟩ := hsl hi
   rw [h1] at q1
   simp only [Option.some.injEq, Prod.mk.injEq] at q1
   obtain ⟨rfl, rfl⟩ := q1
   rw [aO, if_pos rfl, q2]
   exact h2.frz (fun g hg => .inr hg) hm hb'
  have := (hd.slot i hi).keep (I' := fun g => I g ∨ B = some g) hmono
  rw [aO, if_neg hi'] at this ⊢
  exact this
 ·have := hd.out t ht
  rw [aO, if_neg (by omega)] at this ⊢
  exact this
 ·unfold gE at ht
  split at ht
  ·cases ht
  exact hA t c' ht
 unfold gE at hA
 split at hA
 ·cases hA
 exact hA
theorem bJv (s : Nat) (hlt : (decide (s < 100000)) = true) {e : TypeId} {z : Nat} {xs : List (List DV)} (h : ρ s = .row e z xs) (k : AW P nt c Q (set (cI s ρ) s (frz z xs))) : AW P nt c Q ρ :=
 fun ro ds I A a w hw hd => by
  obtain ⟨I', A', h1, h2⟩ := hw.frz (of_decide_eq_true hlt) h
  exact wpIn_mono (k ro ds I' A' a w h1 hd) fun _ _ _ ⟨I2, A2, ρ2, k1, k2, k3, k4⟩ => ⟨I2, A2, ρ2, k1, k2, h2.trans k3, k4⟩
theorem aXd (s : Nat) {d : DV} (d' : DV) (hlt : (decide (s < 100000)) = true) (h : ρ s = d) (hw : dI d d') (hp : gC d = true) (hp' : gC d' = true) (k : AW P nt c Q (set ρ s d')) : AW P nt c Q ρ :=
 fun ro ds I A a w hs hd => k ro ds I A a w ⟨⟨fun t => by
   rw [aO]; split
   ·exact dY.ofPure (by cases d' <;> first | rfl | cases hp')
   ·exact hs.osim.own t, hs.osim.inj, hs.osim.sep, hs.osim.imm⟩, hs.size, hs.bound, fun i hi => by
   rw [aO]; split
   ·rename_i e
    subst e
    have := hs.slot i hi
    rw [h] at this
    exact .ofRel (hw _ _ _ _ (this.rel hp))
   ·exact hs.slot i hi, fun t ht => by
   have := of_decide_eq_true hlt
   rw [aO, if_neg (by omega)]; exact hs.out t ht⟩ hd
theorem aJq (s : Nat) (e : TypeId) (z : Nat) (hlt : (decide (s < nt)) = true) (h : ρ s = .v (.slice none 0 0) ∨ ρ s = .ez) (k : AW P nt c Q (set (cI s ρ) s (.row e z []))) : AW P nt c Q ρ :=
 fun ro ds I A a w hs hd => by
  have hlt := of_decide_eq_true hlt
  have hsl := hs.slot s hlt
  obtain ⟨b, hx⟩ : ∃ b, a.tmps.getD s undef = .slice b 0 0 := by
   generalize a.tmps.getD s undef = x at hsl ⊢
   rcases h with h | h <;> rw [h] at hsl
   ·have hsl : bH w I A (.v (.slice none 0 0)) x := hsl
    cases hsl; exact ⟨_, rfl⟩
   have hsl : bH w I A .ez x := hsl
   cases hsl; exact ⟨_, rfl⟩
  have hput : a.put (some s) (.slice b 0 0) = a := aGx (by rw [hs.size]; exact hlt) hx
  have hnew := hs.own (d := s) hlt (B := none) (c := 0) (v := .row e z []) (x := .slice b 0 0) (fun g hg => by cases hg) ⟨none, 0, by unfold gE; rw [if_pos rfl], b, jO _, rfl⟩ ⟨none, 0, by unfold gE; rw [if_pos rfl], rfl, rfl⟩
  rw [hput] at hnew
  refine wpIn_mono (k ro ds I (gE A s (some (none, 0))) a w hnew hd) fun _ _ _ ⟨I2, A2, ρ2, k1, k2, k3, k4⟩ => ⟨I2, A2, ρ2, k1, k2, eA.trans ?_ k3, k4⟩
  refine ⟨rfl, ⟨rfl, Nat.le_refl _⟩, rfl, Nat.le_refl _, fun _ h => h, fun g hg hA => ⟨rfl, fun h => h, fun t c' ht => ?_⟩, fun t g c' hA _ ht => ⟨t, c', ht, ?_⟩, fun t ht => d5 A _ (by have := hs.bound; omega)⟩
  ·unfold gE at ht
   split at ht
   ·cases ht
   exact hA t c' ht
  unfold gE at hA
  split at hA
  ·cases hA
  exact hA
theorem aQh (s : Nat) (e : TypeId) (z : Nat) (hlt : (decide (s < nt)) = true) (h : ρ s = .v (.slice none 0 0)) (k : AW P nt c Q (set (cI s ρ) s (.row e z []))) : AW P nt c Q ρ := aJq s e z hlt (.inl h) k
theorem dI.ez (z : Nat) (f : Nat → List DV) : dI .ez (.sl z 0 f) := fun _ _ A x h => by cases h; exact .sl0 A z f _ _
inductive mZ : List DV → List DV → Prop
 | nil : mZ [] []
 | cons {d d' : DV} {l l' : List DV} (h : dI d d') (t : mZ l l') : mZ (d :: l) (d' :: l')
theorem mZ.refl : ∀ l, mZ l l
 | [] => .nil
 | _ :: l => .cons (dI.refl _) (mZ.refl l)
theorem mZ.len {l l' : List DV} (h : mZ l l') : l.length = l'.length := by
 induction h with
 | nil => rfl
 | cons h t ih => simp [ih]
theorem mZ.get {l l' : List DV} (h : mZ l l') : ∀ (j : Nat) (d : DV), l'[j]? = some d → ∃ d', l[j]? = some d' ∧ dI d' d := by
 induction h with
 | nil => intro j d h; simp at h
 | cons h t ih =>
  intro j d hd
  cases j with
  | zero => simp at hd; subst hd; exact ⟨_, rfl, h⟩
  | succ j => simpa using ih j d (by simpa using hd)
theorem aIv {f : FuncId} {args args' : List DV} {R : aS → DV → Prop} (hw : mZ args args') (h : iC P O f args' R) : iC P O f args R :=
 fun w I A vals h1 h2 h3 => h w I A vals h1 (h2.trans hw.len) fun j d u hd hu => by
  obtain ⟨d', k1, k2⟩ := hw.get j d hd
  exact k2 _ _ _ _ (h3 j d' u k1 hu)
theorem gG {f : FuncId} {args : List DV} {r : DV} (args' : List DV) (hw : mZ args args') (h : aY P O f args' r) : aY P O f args r := aIv hw h
theorem aOz {f : FuncId} {args : List DV} {r : DV} (r' : DV) (h : aY P O f args r) (hw : dI r r') (h1 : bP r = false) (h2 : bP r' = false) : aY P O f args r' :=
 iC.mono (R := fun O' x => O' = O ∧ x = r') (fun w I A vals k1 k2 k3 => (h w I A vals k1 k2 k3).mono fun _ w' ⟨v, I', O', x, q1, q2, q3, q4, q5, q6, q7, q8⟩ => by
  subst q8
  refine ⟨v, I', O', r', q1, q2, q3, q4, q5, ?_, q7, rfl⟩
  have : bH w' I' A x v := by cases x <;> first | exact q6 | cases h1
  have := hw _ _ _ _ this
  cases r' <;> first | exact this | cases h2) fun _ _ h => h
theorem aEg (L : List Nat) {x y : Code} (J : aS → Prop) (hx : ∀ K : aS → Prop, (∀ ρ', J (keepC L ρ') → K ρ') → AW P nt x (oZ K Q) ρ) (hy : ∀ ρ, J ρ → AW P nt y Q ρ) : AW P nt (.seq x y) Q ρ :=
 aA fun K hK => hx K fun ρ' hJ => hK ρ' (cH (Le.keepC L ρ') (hy _ hJ))
theorem dI.frz {z n : Nat} {xs : List (List DV)} {f : Nat → List DV} (hn : xs.length = n) (h : ∀ i, i < n → xs.getD i [] = f i) : dI (frz z xs) (.sl z n f) := by
 subst hn; exact dI.sl z _ h
end
end Go.Sg
namespace Go.Sg
open Go.RowKit
def encL {α : Type} [Inhabited α] (z : Nat) (e : α → List DV) (l : List α) : DV := .sl z l.length fun i => e (l.getD i default)
def rowL {α : Type} (t : TypeId) (z : Nat) (e : α → List DV) (l : List α) : DV := .row t z (l.map e)
abbrev vi (x : Int) : DV := .v (.int .i64 x)
abbrev vb (x : Bool) : DV := .v (.bool x)
abbrev vs (x : ByteArray) : DV := .v (.string x)
abbrev eI (x : Int) : List DV := [vi x]
abbrev dL (l : List Int) : DV := encL 1 eI l
theorem aZw {α β : Type} (e : α → β) (l : List α) : (l.map e).take l.length = l.map e := by
 rw [← List.length_map (f := e), List.take_length]
theorem aEc {α : Type} [Inhabited α] (e : α → List DV) (l : List α) {i : Nat} (h : i < l.length) : (l.map e).getD i [] = e (l.getD i default) := by
 simp [List.getD_eq_getElem?_getD, List.getElem?_eq_getElem h]
theorem nH {α : Type} [Inhabited α] (e : α → List DV) (l : List α) : ((List.range l.length).map fun i => e (l.getD i default)) = l.map e := by
 apply List.ext_getElem (by simp)
 intro i h1 h2
 simp at h1
 simp [List.getElem?_eq_getElem h1]
theorem bZw (a : Bool) : (a == true) = a := by cases a <;> rfl
theorem bVq (a : Bool) : (a == false) = !a := by cases a <;> rfl
theorem bSw (a b : Bool) : (bif a then b else false) = (a && b) := by cases a <;> rfl
theorem bRs (a b : Bool) : (bif a then true else b) = (a || b) := by cases a <;> rfl
theorem aWx (l : List Int) (x : Int) : l.map eI ++ [[vi x]] = (l ++ [x]).map eI := by simp
theorem bLd (k n : Nat) : (((no_index (OfNat.ofNat k)) : Int) < (n : Int)) = (k < n) := by apply propext; show ((k : Nat) : Int) < n ↔ _; omega
theorem bLp (k n : Nat) : ((n : Int) < ((no_index (OfNat.ofNat k)) : Int)) = (n < k) := by apply propext; show (n : Int) < ((k : Nat) : Int) ↔ _; omega
theorem bLs (k n : Nat) : (((no_index (OfNat.ofNat k)) : Int) ≤ (n : Int)) = (k ≤ n) := by apply propext; show ((k : Nat) : Int) ≤ n ↔ _; omega
theorem bKs (k n : Nat) : ((n : Int) ≤ ((no_index (OfNat.ofNat k)) : Int)) = (n ≤ k) := by apply propext; show (n : Int) ≤ ((k : Nat) : Int) ↔ _; omega
theorem aSi (i n : Nat) : ((i : Int) == (n : Int)) = (i == n) := by rw [Bool.eq_iff_iff]; simp only [beq_iff_eq]; omega
theorem aQl (i n : Nat) : ((i : Int) != (n : Int)) = (i != n) := by rw [Bool.eq_iff_iff]; simp only [bne_iff_ne, ne_eq]; omega
theorem bHl (k n : Nat) : ((n : Int) == ((no_index (OfNat.ofNat k)) : Int)) = (n == k) := aSi n k
theorem bIp (k n : Nat) : ((n : Int) != ((no_index (OfNat.ofNat k)) : Int)) = (n != k) := aQl n k
theorem aPs (k n : Nat) : ((n : Int) - (no_index (OfNat.ofNat k))).toNat = n - k := by show ((n : Int) - (k : Nat)).toNat = _; omega
theorem aTc (k n : Nat) : ((n : Int) - (k : Int)).toNat = n - k := by omega
theorem aOy (k n : Nat) : ((n : Int) + (no_index (OfNat.ofNat k))).toNat = n + k := by show ((n : Int) + (k : Nat)).toNat = _; omega
theorem bBo (i : Nat) : 1 + i = i + 1 := Nat.add_comm 1 i
section
variable {P : Program} {nt : Nat} {ρ O : aS} {Q : Exit → aS → Prop} {c : Code}
theorem dI.frzL {α : Type} [Inhabited α] {z : Nat} (e : α → List DV) (l : List α) : dI (Sg.frz z (l.map e)) (encL z e l) :=
 dI.frz (by simp) fun i hi => aEc e l hi
theorem dI.nilL {α : Type} [Inhabited α] {z c : Nat} {b : Option Addr} (e : α → List DV) : dI (.v (.slice b 0 c)) (encL z e []) := dI.nil z c b _
theorem dE.encL {α : Type} [Inhabited α] {t z : Nat} {e : α → List DV} {l l' : List α} (h : ρ t = Sg.encL z e l') (hl : l' = l) : dE ρ t (Sg.encL z e l) := by
 subst hl; exact dE.is h rfl rfl
theorem dE.rowL {α : Type} {t : Nat} {ty : TypeId} {z : Nat} {e : α → List DV} {l l' : List α} (h : ρ t = Sg.rowL ty z e l') (hl : l' = l) : dE ρ t (Sg.rowL ty z e l) := by
 subst hl; exact dE.row _ _ _ h
theorem dE.cut {α : Type} {t s n : Nat} {ty : TypeId} {z : Nat} {e : α → List DV} {l l' : List α} (h : ρ t = .own s n) (hs : s < 100000) (hr : ρ s = Sg.rowL ty z e l') (hn : n ≤ l'.length) (hl : l'.take n = l) : dE ρ t (Sg.rowL ty z e l) := by
 subst hl
 have := dE.own s ty z n (l'.map e) h hs hr (by simpa using hn)
 rwa [← List.map_take] at this
theorem dE.ownL {α : Type} {t s n : Nat} {ty : TypeId} {z : Nat} {e : α → List DV} {l l' : List α} (h : ρ t = .own s n) (hs : s < 100000) (hr : ρ s = Sg.rowL ty z e l') (hn : n = l'.length) (hl : l' = l) : dE ρ t (Sg.rowL ty z e l) :=
 dE.cut h hs hr (by omega) (by rw [hn, List.take_length]; exact hl)
theorem dI.litL {α : Type} [Inhabited α] {z n : Nat} {e : α → List DV} {xs : List (List DV)} (l : List α) (hx : xs = l.map e) (hn : n = l.length) : dI (.sl z n fun i => xs.getD i []) (Sg.encL z e l) := by
 subst hx; subst hn
 exact dI.sl z _ fun i hi => aEc e l hi
theorem jB {g : Bool} {pre : Prop} {f : FuncId} {l : List DV} {k : DV → Prop} {t : Tg k} {r : DV} (h : g = true → aY P ρ f l r) (hp : g = true → pre) (hr : gC r = true) (hk : k r) : aFz P ρ g pre f l k t := ⟨r, hr, fun hg => ⟨hp hg, h hg⟩, hk⟩
theorem dJ {f : FuncId} {l : List DV} {k : DV → Prop} {t : Tg k} {r : DV} (h : aY P ρ f l r) (hr : bP r = false) (hk : k r) : aGn P ρ f l k t := ⟨r, hr, h, hk⟩
theorem fG {α : Type} [Inhabited α] (s : Nat) (l : List α) {e : α → List DV} {t : TypeId} {z : Nat} (hlt : (decide (s < 100000)) = true) (h : ρ s = .row t z (l.map e)) (k : AW P nt c Q (set (cI s ρ) s (encL z e l))) : AW P nt c Q ρ := by
 refine bJv s hlt h (aXd s (encL z e l) hlt (by rw [aO, if_pos rfl]) (dI.frzL e l) rfl rfl ?_)
 have : set (set (cI s ρ) s (Sg.frz z (l.map e))) s (encL z e l) = set (cI s ρ) s (encL z e l) := by
  funext i; simp only [aO]; split <;> rfl
 rw [this]; exact k
theorem qN {α : Type} [Inhabited α] (s : Nat) (z : Nat) (e : α → List DV) (hlt : (decide (s < 100000)) = true) (h : ρ s = .v (.slice none 0 0)) (k : AW P nt c Q (set ρ s (encL z e []))) : AW P nt c Q ρ :=
 aXd s _ hlt h (dI.nilL e) rfl rfl k
theorem gZ {α : Type} (s : Nat) (t : TypeId) (z : Nat) (e : α → List DV) (hlt : (decide (s < nt)) = true) (h : ρ s = .v (.slice none 0 0)) (k : AW P nt c Q (set (cI s ρ) s (rowL t z e []))) : AW P nt c Q ρ :=
 aQh s t z hlt h k
theorem dG {α : Type} [Inhabited α] {f : FuncId} {args : List DV} {t : TypeId} {z : Nat} {e : α → List DV} {l : List α} (h : aY P O f args (rowL t z e l)) : aY P O f args (encL z e l) :=
 aOz _ (aOj h) (dI.frzL e l) rfl rfl
end
attribute [go_sem] forall_eq forall_eq_or_imp or_false encL rowL aZw aEc nH kA List.length_map List.range_zero bSw bRs bZw bVq Bool.not_not and_self ne_eq not_false_eq_true aWx bLd bLp bLs bKs aSi aQl bHl bIp aPs aTc aOy bBo Nat.zero_lt_succ Nat.add_one_sub_one decide_true decide_false Nat.add_sub_cancel Nat.zero_le Nat.lt_irrefl Nat.not_lt_zero
end Go.Sg
namespace Go.Sg
open Go.RowKit
theorem bAz {P : Program} {f : FuncId} {args : List DV} {w : World} {vals : Array Value} (h : aY P (fun _ => .any) f args (vb true)) (hl : vals.size = args.length)
  (hv : ∀ (j : Nat) (d : DV) (u : Value), args[j]? = some d → vals[j]? = some u → bH w (fun g => g < w.heap.size) cU d u)
  (hG : ∀ g us e, GT g = some (us, e) → w.heap[g]? = some (.cells us e (0, 0))) :
  Calls P f vals w fun e w' => e = .returned (.bool true) ∧ Below w.heap.size w w' := by
 have hO : gK w (fun g => g < w.heap.size) cU (fun _ => .any) := by
  refine ⟨fun _ => trivial, fun s t g c c' h => ?_, fun s g c h => ?_, ⟨fun g h => h, fun g us e hg => ⟨(Array.getElem?_eq_some_iff.1 (hG g us e hg)).1, hG g us e hg⟩⟩⟩
  ·exact absurd h (by simp)
  exact absurd h (by simp)
 refine (h w _ cU vals hO hl hv).mono fun e w' ⟨v, I', O', r, k1, k2, k3, k4, k5, k6, k7, k8⟩ => ?_
 subst k8
 have k6 : bH w' I' cU (vb true) v := k6
 cases k6
 exact ⟨k1, k5.os, k5.tape.1, k5.output, k5.size, fun k hk => (k5.old k hk fun s c h => by cases h).1⟩
inductive RL (w : World) (I : Nat → Prop) (A : cO) : List DV → List Value → Prop
 | nil : RL w I A [] []
 | cons {d : DV} {x : Value} {l : List DV} {m : List Value} (h : bH w I A d x) (t : RL w I A l m) : RL w I A (d :: l) (x :: m)
theorem RL.len {w : World} {I : Nat → Prop} {A : cO} {l : List DV} {m : List Value} (h : RL w I A l m) : m.length = l.length := by
 induction h with
 | nil => rfl
 | cons h t ih => simp [ih]
theorem RL.get {w : World} {I : Nat → Prop} {A : cO} {l : List DV} {m : List Value} (h : RL w I A l m) : ∀ (j : Nat) (d : DV) (u : Value), l[j]? = some d → m[j]? = some u → bH w I A d u := by
 induction h with
 | nil => intro j d u hd; simp at hd
 | cons h t ih =>
  intro j d u hd hu
  cases j with
  | zero => simp at hd hu; subst hd; subst hu; exact h
  | succ j => exact ih j d u (by simpa using hd) (by simpa using hu)
theorem aVo {P : Program} {f : FuncId} {args : List DV} {w : World} {vals : List Value} (h : aY P (fun _ => .any) f args (vb true)) (hv : RL w (fun g => g < w.heap.size) cU args vals)
  (hG : ∀ g us e, GT g = some (us, e) → w.heap[g]? = some (.cells us e (0, 0))) :
  Calls P f vals.toArray w fun e w' => e = .returned (.bool true) ∧ Below w.heap.size w w' :=
 bAz h (by simpa using hv.len) (fun j d u hd hu => hv.get j d u hd (by simpa using hu)) hG
theorem aHr {w : World} {I : Nat → Prop} {A : cO} {α : Type} [Inhabited α] {z c : Nat} {e : α → List DV} {b : Option Addr} : bH w I A (encL z e []) (.slice b 0 c) := .sl0 A z _ b c
end Go.Sg
namespace Go.Sg
open Go.RowKit
inductive RC (w : World) (I : Nat → Prop) : List DV → List Value → Prop
 | nil : RC w I [] []
 | cons {d : DV} {x : Value} {l : List DV} {m : List Value} (h : bH w I cU d x) (o : x.oneCell' = true) (t : RC w I l m) : RC w I (d :: l) (x :: m)
section
variable {w : World} {I : Nat → Prop}
theorem RC.len {l : List DV} {m : List Value} (h : RC w I l m) : m.length = l.length := by
 induction h with
 | nil => rfl
 | cons h o t ih => simp [ih]
theorem RC.get {l : List DV} {m : List Value} (h : RC w I l m) : ∀ (j : Nat) (d : DV) (u : Value), l[j]? = some d → m[j]? = some u → bH w I cU d u := by
 induction h with
 | nil => intro j d u hd; simp at hd
 | cons h o t ih =>
  intro j d u hd hu
  cases j with
  | zero => simp at hd hu; subst hd; subst hu; exact h
  | succ j => exact ih j d u (by simpa using hd) (by simpa using hu)
theorem RC.one {l : List DV} {m : List Value} (h : RC w I l m) : ∀ u ∈ m, u.oneCell' = true := by
 induction h with
 | nil => simp
 | cons h o t ih => intro u hu; rcases List.mem_cons.1 hu with e | e; exact e ▸ o; exact ih u e
theorem RC.app {l l' : List DV} {m m' : List Value} (h : RC w I l m) (h' : RC w I l' m') : RC w I (l ++ l') (m ++ m') := by
 induction h with
 | nil => exact h'
 | cons h o t ih => exact .cons h o ih
theorem RC.join {l l' : List DV} {cs : List Value} {o s : Nat} (h : RC w I l ((cs.drop o).take s)) (h' : RC w I l' (cs.drop (o + s))) : RC w I (l ++ l') (cs.drop o) := by
 have := h.app h'
 rwa [← List.drop_drop, List.take_append_drop] at this
theorem RC.stop {cs : List Value} {n : Nat} (h : cs.length = n) : RC w I [] (cs.drop n) := by
 rw [List.drop_eq_nil_of_le (by omega)]; exact .nil
theorem RC.agg {l : List DV} {cs : Array Value} (h : RC w I l cs.toList) {A : cO} : bH w I A (.agg l) (.agg cs) := by
 refine bH.ofNoOwn (.agg cU l cs (by simpa using h.len.symm) h.one fun j d u hd hu => h.get j d u hd (by simpa using hu))
end
def Dec (P : Program) (t : TypeId) {α : Type} (e : α → List DV) (ok : α → Prop) : Prop :=
 ∀ (H : Type) (enc : TypeId × Value → H) (w : World) (sp : Nat → Bool) (held : Bool) (fuel : Nat) (cs : List Value) (x : DataW H × List MemPlace), DataW.trod enc P w 0 sp held fuel t cs = some x → (∀ n ∈ x.1.weights P t, n ≤ reachBytes) →
  ∃ a : α, ok a ∧ RC w (fun g => g < w.heap.size) (e a) cs
section
variable {P : Program} {t : TypeId}
abbrev eS (s : ByteArray) : List DV := [vs s]
theorem bBq (ht : P.underlying t = some (.int .i64)) : Dec P t eI (fun n => -9223372036854775808 ≤ n ∧ n ≤ 9223372036854775807) := fun H enc w sp held fuel cs x h hz => by
 obtain ⟨n, rfl, _, hw⟩ := DataW.trod_int ht h
 refine ⟨n, ?_, .cons (.v _ _) rfl .nil⟩
 simp [Lit.wf, IntKind.min, IntKind.max, IntKind.signed, IntKind.bits] at hw
 omega
theorem aKn (ht : P.underlying t = some .string) : Dec P t eS (fun s => s.size ≤ 140737488355328) := fun H enc w sp held fuel cs x h hz => by
 obtain ⟨s, rfl, rfl, hs⟩ := DataW.trod_string ht h
 have := hz s.data.toList.length (by simp [DataW.weights])
 exact ⟨s, by
  show s.size ≤ _
  have h2 : s.size = s.data.toList.length := Array.length_toList.symm
  rw [h2]; unfold reachBytes at this; omega, .cons (.v _ _) rfl .nil⟩
theorem aIr {α β : Type} {f : α → Option β} : ∀ {l : List α} {r : List β}, l.mapM f = some r → r.length = l.length ∧ ∀ (j : Nat) (x : α), l[j]? = some x → f x = r[j]?
 | [], r, h => by
  have : r = [] := by simpa using h.symm
  subst this; exact ⟨rfl, by simp⟩
 | a :: l, r, h => by
  rw [List.mapM_cons] at h
  cases ha : f a with
  | none => simp [ha] at h
  | some y =>
   cases hl : l.mapM f with
   | none => simp [ha, hl] at h
   | some ys =>
    simp [ha, hl] at h
    subst h
    obtain ⟨h1, h2⟩ := aIr hl
    refine ⟨by simp [h1], fun j x hx => ?_⟩
    cases j with
    | zero => simp at hx; subst hx; simpa using ha
    | succ j => simpa using h2 j x (by simpa using hx)
theorem aPq {w : World} {a : Addr} {v : Value} (h : w.cell? a = some v) : a.spot = none ∧ a.block < w.heap.size := by
 unfold World.cell? at h
 split at h
 ·rename_i c e f hh
  refine ⟨?_, (Array.getElem?_eq_some_iff.1 hh).1⟩
  cases hs : a.spot with
  | none => rfl
  | some s => rw [hs] at h; simp at h
 cases h
theorem aOs {w : World} {b : Nat} {a : Addr} {n : Nat} {cs : List Value} (h : w.cells? b a n = some cs) : cs.length = n ∧ ∀ j, j < n → w.cell? (a.add j) = cs[j]? := by
 unfold World.cells? at h
 split at h
 ·obtain ⟨h1, h2⟩ := aIr h
  refine ⟨by simpa using h1, fun j hj => h2 j j (by simp [hj])⟩
 cases h
theorem pU {H : Type} {P : Program} {e : TypeId} : ∀ {l : List (DataW H)} {j : Nat} {d : DataW H}, l[j]? = some d → ∀ n ∈ d.weights P e, n ∈ DataW.weightsAll P e l
 | [], _, _, h, _, _ => by simp at h
 | d0 :: l, 0, d, h, n, hn => by
  simp only [List.getElem?_cons_zero, Option.some.injEq] at h
  subst h
  simp only [DataW.weightsAll, List.mem_append]
  exact .inl hn
 | d0 :: l, j + 1, d, h, n, hn => by
  simp only [List.getElem?_cons_succ] at h
  simp only [DataW.weightsAll, List.mem_append]
  exact .inr (pU h n hn)
theorem nD {el : TypeId} {α : Type} [Inhabited α] {e : α → List DV} {ok : α → Prop} {z : Nat} (ht : P.underlying t = some (.slice el)) (hc : P.cellsOf el = z) (hz : 0 < z) (hby : 0 < P.bytesOf el) (hd : Dec P el e ok) (hlen : ∀ a, (e a).length = z) :
  Dec P t (fun l : List α => [encL z e l]) (fun l => (∀ a ∈ l, ok a) ∧ l.length ≤ 140737488355328) := fun H enc w sp held fuel cs x h hw => by
 rcases DataW.trod_slice ht h with ⟨rfl, _⟩ | ⟨a, len, cap, elems, rest, n, rfl, rfl, hx, hb, hl, hm, hle, hel, _, _⟩
 ·exact ⟨[], ⟨by simp, by simp⟩, .cons aHr rfl .nil⟩
 have hreach : len ≤ 140737488355328 := by
  have h1 := hw (((elems.map (·.1)).length + (rest.map (·.1)).length) * P.bytesOf el) (by rw [hx]; simp [DataW.weights, ht])
  have h2 : (elems.map (·.1)).length = len := by simpa using hle
  rw [h2] at h1
  have h3 : len * 1 ≤ (len + (rest.map (·.1)).length) * P.bytesOf el := Nat.mul_le_mul (by omega) hby
  unfold reachBytes at h1
  omega
 have each : ∀ i, ∃ (p : α × List Value), i < len → ok p.1 ∧ RC w (fun g => g < w.heap.size) (e p.1) p.2 ∧ p.2.length = z ∧ ∀ j, j < z → w.cell? ((a.add (i * z)).add j) = p.2[j]? := fun i => by
  by_cases hi : i < len
  ·have := hel i hi
   rw [List.getElem?_eq_getElem (by omega), Option.bind_eq_some_iff, hc] at this
   obtain ⟨cs', h1, h2⟩ := this
   obtain ⟨y, h3, h4⟩ := hd H enc w sp held n cs' _ h2 fun m hm => hw m (by
    rw [hx]
    simp only [DataW.weights, ht]
    refine List.mem_cons_of_mem _ (List.mem_append_left _ (pU (j := i) (d := elems[i].1) ?_ m hm))
    rw [List.getElem?_map, List.getElem?_eq_getElem (by omega)]; rfl)
   obtain ⟨h5, h6⟩ := aOs h1
   exact ⟨(y, cs'), fun _ => ⟨h3, h4, h5, h6⟩⟩
  exact ⟨(default, []), fun h => absurd h hi⟩
 have hch := Classical.axiomOfChoice each
 obtain ⟨f, hf⟩ := hch
 have hlen' : ((List.range len).map fun i => (f i).1).length = len := by simp
 have hget : ∀ i, i < len → ((List.range len).map fun i => (f i).1).getD i default = (f i).1 := fun i hi => by
  rw [List.getD_eq_getElem?_getD, List.getElem?_map, List.getElem?_range hi]; rfl
 refine ⟨(List.range len).map fun i => (f i).1, ⟨fun y hy => ?_, by rw [hlen']; exact hreach⟩, .cons ?_ rfl .nil⟩
 ·obtain ⟨i, hi, rfl⟩ := List.mem_map.1 hy
  exact (hf i (by simpa using hi)).1
 rcases Nat.eq_zero_or_pos len with h0 | h0
 ·subst h0; exact aHr
 have hsp : a.spot = none ∧ a.block < w.heap.size := by
  obtain ⟨_, _, k3, k4⟩ := hf 0 h0
  have := k4 0 hz
  rw [List.getElem?_eq_getElem (by omega), Nat.zero_mul] at this
  exact aPq this
 obtain ⟨b, o, s⟩ := a
 obtain ⟨rfl, hbl⟩ := hsp
 show bH _ _ _ (.sl z ((List.range len).map fun i => (f i).1).length fun i => e (((List.range len).map fun i => (f i).1).getD i default)) _
 rw [hlen']
 refine .sl cU z len _ b o cap (fun i j => (f i).2.getD j undef) h0 hl hm hbl (fun i _ => hlen _) (fun i j hi hj => ?_) (fun i j hi hj => ?_) fun i j d hi hdd => ?_
 ·obtain ⟨_, _, k3, k4⟩ := hf i hi
  have := k4 j hj
  rw [Addr.add_lit, Addr.add_lit, Nat.add_assoc] at this
  rw [this, List.getD_eq_getElem?_getD, List.getElem?_eq_getElem (by omega)]; rfl
 ·obtain ⟨_, k2, k3, _⟩ := hf i hi
  rw [List.getD_eq_getElem?_getD, List.getElem?_eq_getElem (by omega)]
  exact k2.one _ (List.getElem_mem _)
 obtain ⟨_, k2, k3, _⟩ := hf i hi
 rw [hget i hi] at hdd
 have hj : j < (f i).2.length := by
  have := k2.len
  have h2 : j < (e (f i).1).length := (List.getElem?_eq_some_iff.1 hdd).1
  omega
 rw [List.getD_eq_getElem?_getD, List.getElem?_eq_getElem hj]
 exact k2.get j d _ hdd (List.getElem?_eq_getElem hj)
theorem cL {fs : Array Field} {H : Type} {enc : TypeId × Value → H} {w : World} {sp : Nat → Bool} {held : Bool} {fuel : Nat} {cs : List Value} {x : DataW H × List MemPlace} (ht : P.underlying t = some (.struct fs))
  (h : DataW.trod enc P w 0 sp held fuel t cs = some x) (hw : ∀ n ∈ x.1.weights P t, n ≤ reachBytes) (i : Nat) {nm : Field} {α : Type} {e : α → List DV} {ok : α → Prop} {s : Nat} (hf : fs[i]? = some nm) (hs : P.cellsOf nm.type = s) (hd : Dec P nm.type e ok) :
  ∃ a : α, ok a ∧ RC w (fun g => g < w.heap.size) (e a) ((cs.drop nm.offset).take s) := by
 obtain ⟨xs, n, rfl, hx, h1, h2, h3⟩ := DataW.trod_struct ht h
 have := h3 i nm hf
 have hi : i < fs.size := (Array.getElem?_eq_some_iff.1 hf).1
 rw [List.getElem?_eq_getElem (by omega), hs] at this
 refine hd H enc w sp held n _ _ this fun m hm => hw m ?_
 rw [hx]
 simp only [DataW.weights, ht]
 refine DataW.weights_mem_each (j := i) (t := nm.type) (d := xs[i].1) ?_ ?_ m hm
 ·rw [List.getElem?_map, Array.getElem?_toList, hf]; rfl
 rw [List.getElem?_map, List.getElem?_eq_getElem (by omega)]; rfl
theorem zN {fs : Array Field} {α : Type} {e : α → List DV} {ok : α → Prop} {H : Type} {enc : TypeId × Value → H} {w : World} {r : Reach} {base : Nat} {sp : Nat → Bool} {held : Bool} {v : Value} {d : DataW H} {ps : List MemPlace}
  (ht : P.underlying t = some (.struct fs)) (hd : Dec P t e ok) (hv : Value.okWide P w r base t v) (h : DataW.Trod enc P w 0 sp held t v d ps) (hw : ∀ n ∈ d.weights P t, n ≤ reachBytes) : ∃ a : α, ok a ∧ bH w (fun g => g < w.heap.size) cU (.agg (e a)) v := by
 obtain ⟨cs, rfl, _⟩ := WideShapes.okWide_struct ht hv
 obtain ⟨fuel, h⟩ := h
 obtain ⟨a, h1, h2⟩ := hd H enc w sp held fuel _ _ h hw
 exact ⟨a, h1, RC.agg h2⟩
end
end Go.Sg
namespace Go.Sg
open Go.RowKit
def aIq {H : Type} (P : Program) : Nat → TypeId → DataW H → Option (List Value)
 | 0, _, _ => none
 | f + 1, t, d =>
  match P.underlying t, d with
  | some (.int k), .lit (.int k' z) => some [.int k' z]
  | some (.array n e), .agg ds => if ds.length = n ∧ P.cellsOf t = n * P.cellsOf e then (ds.mapM (aIq P f e)).map List.flatten else none
  | some (.struct fs), .agg ds => if ds.length = fs.size ∧ P.cellsOf t = fs.size ∧ ((List.range fs.size).all fun (i : Nat) => match (fs[i]? : Option Field) with
    | some fl => fl.offset == i && P.cellsOf fl.type == 1
    | none => false) = true then ((List.range fs.size).mapM fun (i : Nat) => match (fs[i]? : Option Field), (ds[i]? : Option (DataW H)) with
    | some fl, some d => aIq P f fl.type d
    | _, _ => none).map List.flatten else none
  | _, _ => none
theorem aJr (z : Nat) : ∀ (n : Nat) (cs : List Value), cs.length = n * z → cs = ((List.range n).map fun i => (cs.drop (i * z)).take z).flatten
 | 0, cs, h => by
  have : cs = [] := List.length_eq_zero_iff.1 (by omega)
  subst this; rfl
 | n + 1, cs, h => by
  have h1 := aJr z n (cs.drop z) (by rw [List.length_drop, h, Nat.succ_mul]; omega)
  rw [List.range_succ_eq_map, List.map_cons, List.flatten_cons, Nat.zero_mul, List.drop_zero, List.map_map]
  have h2 : (List.range n).map ((fun i => (cs.drop (i * z)).take z) ∘ Nat.succ) = (List.range n).map fun i => ((cs.drop z).drop (i * z)).take z := by
   refine List.map_congr_left fun i _ => ?_
   simp only [Function.comp, List.drop_drop, Nat.succ_mul]
   rw [Nat.add_comm z]
  rw [h2, ← h1, List.take_append_drop]
theorem aLk {α : Type} {n : Nat} {g : Nat → α} {us : List α} (hl : us.length = n) (h : ∀ i, i < n → us[i]? = some (g i)) : (List.range n).map g = us := by
 apply List.ext_getElem?
 intro i
 by_cases hi : i < n
 ·rw [h i hi]; simp [hi]
 rw [List.getElem?_eq_none (by simp; omega), List.getElem?_eq_none (by omega)]
theorem zQ {H : Type} {enc : TypeId × Value → H} {P : Program} {w : World} {base : Nat} {sp : Nat → Bool} {held : Bool} : ∀ (f : Nat) (t : TypeId) (d : DataW H) (us : List Value), aIq P f t d = some us →
  ∀ (fuel : Nat) (cs : List Value) (p : List MemPlace), DataW.trod enc P w base sp held fuel t cs = some (d, p) → cs = us
 | 0, _, _, _, h => by cases h
 | f + 1, t, d, us, h => by
  intro fuel cs p ht
  unfold aIq at h
  split at h
  ·rename_i k k' z hu
   cases h
   obtain ⟨z', hc, hx, _⟩ := DataW.trod_int hu ht
   cases hx
   exact hc
  ·rename_i n e ds hu
   split at h
   ·rename_i hc
    obtain ⟨h1, h2⟩ := hc
    obtain ⟨uss, hm, rfl⟩ := Option.map_eq_some_iff.1 h
    cases fuel with
    | zero => simp [DataW.trod] at ht
    | succ fuel =>
     simp only [DataW.trod, hu] at ht
     split at ht
     ·rename_i hl
      obtain ⟨xs, hm2, hx⟩ := Option.map_eq_some_iff.1 ht
      have hxs : xs.map (·.1) = ds := by
       have := congrArg Prod.fst hx
       simpa using this
      have hlen : cs.length = n * P.cellsOf e := by omega
      rw [aJr (P.cellsOf e) n cs hlen]
      congr 1
      have hul : uss.length = n := by rw [Lib.mapM_length hm, h1]
      refine aLk hul fun i hi => ?_
      obtain ⟨b, hb, hf⟩ := Lib.mapM_at hm2 i i (by simp [hi])
      have hd : ds[i]? = some b.1 := by rw [← hxs, List.getElem?_map, hb]; rfl
      obtain ⟨u, hu1, hu2⟩ := Lib.mapM_at hm i _ hd
      rw [hu1, zQ f e b.1 u hu2 _ _ b.2 hf]
     cases ht
   cases h
  ·rename_i fs ds hu
   split at h
   ·rename_i hc
    obtain ⟨h1, h2, h3⟩ := hc
    obtain ⟨uss, hm, rfl⟩ := Option.map_eq_some_iff.1 h
    obtain ⟨xs, n, rfl, hx, k1, k2, k3⟩ := DataW.trod_struct hu ht
    have hxs : ds = xs.map (·.1) := by
     have := congrArg Prod.fst hx
     simpa using this
    rw [aJr 1 fs.size cs (by omega)]
    congr 1
    have hul : uss.length = fs.size := by rw [Lib.mapM_length hm]; simp
    refine aLk hul fun i hi => ?_
    obtain ⟨u, hu1, hu2⟩ := Lib.mapM_at hm i i (by simp [hi])
    rw [List.all_eq_true] at h3
    have h4 := h3 i (List.mem_range.2 hi)
    have hfi : fs[i]? = some fs[i] := Array.getElem?_eq_getElem hi
    simp only [hfi, Bool.and_eq_true, beq_iff_eq] at h4
    have h5 := k3 i fs[i] hfi
    rw [h4.1, h4.2] at h5
    have hxi : xs[i]? = some (xs[i]'(by omega)) := List.getElem?_eq_getElem (by omega)
    have hdi : ds[i]? = some (xs[i]'(by omega)).1 := by rw [hxs, List.getElem?_map, hxi]; rfl
    simp only [hfi, hdi] at hu2
    rw [hxi] at h5
    rw [hu1, Nat.mul_one, zQ f _ _ u hu2 _ _ _ h5]
   cases h
  cases h
theorem kJ {P : Program} {w : World} {n : String} {d : DataW Unit} {us : List Value} {g : Nat} (f : Nat) {t : TypeId} : ∀ {l : List (String × DataW Unit)} {ps : List MemPlace}, DataW.LaidVars P w l ps → (n, d) ∈ l → P.globalNamed n = some g → (P.globals[g]?).map (·.type) = some t →
  aIq P f t d = some us → w.ShapedOpen P → (((begin P (fun _ _ => 0) default).world.heap[g]?).bind Obj.row?).map (·.2) = some t → w.heap[g]? = some (.cells us.toArray t (0, 0))
 | [], _, _, hm, _, _, _, _, _ => by cases hm
 | (n', d') :: r, ps, hL, hm, hg, hty, hlf, hsh, hz => by
  obtain ⟨g', t', cs, fuel, p, q, k1, k2, k3, k4, k5, _⟩ := hL
  rcases List.mem_cons.1 hm with e | hm
  ·cases e
   obtain rfl := Option.some.inj (hg.symm.trans k1)
   obtain rfl := Option.some.inj (hty.symm.trans k2)
   have hcs := zQ f t d us hlf _ _ _ k4
   have hgl : g < P.globals.size := by
    rcases Nat.lt_or_ge g P.globals.size with h | h
    ·exact h
    rw [Array.getElem?_eq_none h] at hty; cases hty
   obtain ⟨⟨z, t2⟩, hz1, hz2⟩ := Option.map_eq_some_iff.1 hz
   cases hz2
   obtain ⟨cs', e1, _⟩ := hsh.1 g z _ hgl hz1
   unfold World.var? at k3
   rw [hg] at k3
   simp only [Option.bind_some, e1, Option.some.injEq] at k3
   subst k3
   rw [e1, ← hcs]
  exact kJ f k5 hm hg hty hlf hsh hz
end Go.Sg
attribute [push_cast] decide_eq_true_eq decide_eq_false_iff_not Bool.not_eq_true' Bool.not_eq_false' beq_iff_eq bne_iff_ne beq_eq_false_iff_ne bne_eq_false_iff_eq Bool.not_eq_true Bool.not_eq_false Int.not_lt Int.not_le Nat.not_lt Nat.not_le ne_eq Int.ofNat_inj Bool.and_eq_true Bool.or_eq_true Bool.and_eq_false_iff Bool.or_eq_false_iff Bool.not_eq_eq_eq_not Bool.not_true Bool.not_false
namespace Go.Sg
theorem bS {p : Prop} (h : p := by first | omega | assumption | (simp only [List.length_append, List.length_cons, List.length_nil]; omega) | (intros; first | omega | assumption | (simp_all; done) | grind)) : p := h
theorem bI {p : Prop} (h : p := by first | assumption | omega | (simp only [List.length_append, List.length_cons, List.length_nil] at *; omega) | (simp_all; done)) : p := h
theorem bJi {P : Program} {nt id : Nat} {d : Bool} {l l' : List Oper} {Q : Exit → aS → Prop} {ρ : aS} (hl : l = l') (h : AW P nt (.region id l'.toArray d) Q ρ) : AW P nt (.region id l.toArray d) Q ρ := hl ▸ h
end Go.Sg
namespace Go.Sg
open Go.RowKit
open Go.Rv (FR)
section
variable {P : Program} {nt : Nat} {ρ : aS} {ops : Array Oper}
theorem bCn {o : Oper} {K : aS → Prop} {t : TypeId} {n : Nat} {parts : Array (Nat × Operand)} {d : Nat} {e : TypeId} {z by_ : Nat} {zs : List Value} (hop : o.op = .buildSlice t n parts) (hg : o.guard = none) (hdst : o.dst = some d) (hd : d < nt)
  (ho : dA nt o = true) (hs : kH P t = some (e, z, by_)) (hz : eM P e = some zs) (hz0 : 0 < z) (hn0 : 0 < n) (hn : n * z ≤ 16777216) (hl : parts.toList.length = n) (hp : zP ρ z 0 parts.toList)
  (hK : K (set (cI d ρ) d (.row e z (bsL ρ parts.toList)))) : OW P nt ops o K ρ := by
 obtain ⟨hu, i, hi, rfl, rfl⟩ := h9 hs
 obtain ⟨i', zv, hi', hzv, rfl, _⟩ := iI hz
 rw [hi] at hi'
 cases hi'
 refine eZ hg fun I A a w hsim => ?_
 have hpart : ∀ (j : Nat) (p : Nat × Operand), parts.toList[j]? = some p → p.1 = j ∧ (a.eval p.2).cells.size = i.size ∧ (∀ u ∈ (a.eval p.2).cells.toList, u.oneCell' = true) ∧
   ∀ (r : Nat) (x : DV) (u : Value), (cD (un (ev ρ p.2)))[r]? = some x → (a.eval p.2).cells[r]? = some u → bH w I cU x u := fun j p hj => by
  obtain ⟨h1, h2, h3, h4⟩ := l3 hp j p hj
  have hx := hsim.opd p.2 (bF ho (by
   simp only [hop, Op.operands]
   simp
   exact ⟨p.1, by have := List.mem_of_getElem? hj; simpa using this⟩)) h2
  obtain ⟨k1, k2, k3⟩ := nO hx (.inl (by omega))
  exact ⟨by omega, by omega, k2, fun r x u hx hu => (k3 r x u hx hu).pure (fC h4 hx)⟩
 let vparts : List (Nat × Value) := parts.toList.map fun p => (p.1, a.eval p.2)
 have hv : ∀ (j k : Nat) (v : Value), vparts[j]? = some (k, v) → ∃ p, parts.toList[j]? = some p ∧ p.1 = k ∧ a.eval p.2 = v := fun j k v h => by
  simp only [vparts, List.getElem?_map, Option.map_eq_some_iff] at h
  obtain ⟨p, hp, he⟩ := h
  simp at he
  exact ⟨p, hp, he.1, he.2⟩
 obtain ⟨zero, hzero⟩ : ∃ zero : Array Value, zero = (Array.range (n * i.size)).map (zv.cells[· % zv.cells.size]!) := ⟨_, rfl⟩
 have hzsz : zero.size = n * i.size := by simp [hzero]
 obtain ⟨out, o1, o2, o3⟩ := vJ (fun k => some (k * i.size, i.size)) vparts zero (fun j k v h => by
  obtain ⟨p, hpj, rfl, rfl⟩ := hv j k v h
  obtain ⟨h1, h2, _⟩ := hpart j p hpj
  have hjn : j < n := by
   rw [← hl]
   rcases Nat.lt_or_ge j parts.toList.length with h | h
   ·exact h
   rw [List.getElem?_eq_none h] at hpj; cases hpj
  refine ⟨p.1 * i.size, by rw [h2], ?_⟩
  rw [hzsz, h2, h1]
  have : (j + 1) * i.size ≤ n * i.size := Nat.mul_le_mul_right _ hjn
  rw [Nat.succ_mul] at this
  exact this)
 rw [hzsz] at o2
 have hout : ∀ (j : Nat) (p : Nat × Operand) (r : Nat), parts.toList[j]? = some p → r < i.size → out[j * i.size + r]? = (a.eval p.2).cells[r]? := fun j p r hj hr => by
  obtain ⟨h1, h2, _⟩ := hpart j p hj
  have hvj : vparts[j]? = some (p.1, a.eval p.2) := by simp only [vparts, List.getElem?_map, hj]; rfl
  rcases o3 (j * i.size + r) with ⟨j', k, v, off, k1, k2, k3, k4, k5⟩ | ⟨k1, _⟩
  ·obtain ⟨p', hp', rfl, rfl⟩ := hv j' k v k1
   obtain ⟨h1', h2', _⟩ := hpart j' p' hp'
   simp only [Option.some.injEq, Prod.mk.injEq] at k2
   obtain ⟨rfl, _⟩ := k2
   have e1 := kL (z := i.size) (i := p'.1) hz0 k3 (by omega)
   have e2 := kL (z := i.size) (i := j) (q := j * i.size + r) hz0 (by omega) (by omega)
   have : j' = j := by omega
   subst this
   rw [hj] at hp'
   cases hp'
   rw [k5, h1]
   congr 1
   omega
  exact absurd ⟨by rw [h1]; omega, by rw [h1, h2]; omega⟩ (k1 j p.1 _ (p.1 * i.size) hvj (by rw [h2]))
 have hgetp : ∀ m, m < n → ∃ p, parts.toList[m]? = some p ∧ (bsL ρ parts.toList)[m]? = some (cD (un (ev ρ p.2))) := fun m hm => by
  have h1 : parts.toList[m]? = some (parts.toList[m]'(by omega)) := List.getElem?_eq_getElem (by omega)
  exact ⟨_, h1, by simp only [bsL, List.getElem?_map, h1]; rfl⟩
 have hbl : (bsL ρ parts.toList).length = n := by simp only [bsL, List.length_map]; exact hl
 obtain ⟨A', k1, k2⟩ := hsim.newRow hd (e := e) (z := i.size) (c := n) (xs := bsL ρ parts.toList) (us := out) o2 (by
   unfold maxLen
   have : n * 1 ≤ n * i.size := Nat.mul_le_mul_left _ hz0
   omega) (by rw [hbl]; exact Nat.le_refl _) (fun m x hx => by
  have hm : m < n := by
   rw [← hbl]
   rcases Nat.lt_or_ge m (bsL ρ parts.toList).length with h | h
   ·exact h
   rw [List.getElem?_eq_none h] at hx; cases hx
  obtain ⟨p, hp1, hp2⟩ := hgetp m hm
  rw [hp2] at hx
  cases hx
  obtain ⟨_, h2, h3, h4⟩ := hpart m p hp1
  refine ⟨(l3 hp m p hp1).2.2.1, fun r dv u hdv hu => ?_⟩
  have hr : r < i.size := by
   rw [← (l3 hp m p hp1).2.2.1]
   rcases Nat.lt_or_ge r (cD (un (ev ρ p.2))).length with h | h
   ·exact h
   rw [List.getElem?_eq_none h] at hdv; cases hdv
  rw [hout m p r hp1 hr] at hu
  exact ⟨h3 u (by simpa using Array.mem_of_getElem? hu), h4 r dv u hdv hu⟩)
 refine ⟨.slice (some ⟨w.heap.size, 0, none⟩) n n, _, I, A', _, ?_, ?_, k2, hK⟩
 ·have hne : n * i.size ≠ 0 := by
   have := Nat.mul_pos hn0 hz0
   omega
  have hmap : (parts.map fun p => (p.1, a.eval p.2)).toList = vparts := by simp [vparts]
  have h24 : ¬ (n * i.size > 2 ^ 24) := by
   have : (2 : Nat) ^ 24 = 16777216 := by decide
   omega
  simp only [execOp, hop, Instr.buildSlice, Sem.run_bind, run_underlying hu, Result.andThen_ok, run_sizeOf w hi, Program.cellsOf, hi, Option.map_some, Option.getD_some, h24, if_false, hne, zeroValue, run_typeInfo w hi, hzv, Sem.run_pure, Sem.run_ite]
  simp only [hmap]
  rw [← hzero, o1]
  simp [newRow]
 rw [hdst]
 rw [hbl] at k1
 exact k1
def bAy (P : Program) (ρ : aS) (d : Nat) (sl : Option (TypeId × Nat × Nat)) (n : Nat) (parts : List (Nat × Operand)) (K : aS → Prop) : Prop :=
 match sl with
 | some (e, z, _) => (eM P e).isSome = true ∧ 0 < z ∧ 0 < n ∧ n * z ≤ 16777216 ∧ parts.length = n ∧ zP ρ z 0 parts ∧ K (set (cI d ρ) d (.row e z (bsL ρ parts)))
 | none => False
def xJ (z : Nat) (xs : List (List DV)) (k : DV → Prop) (_ : Tg k) : Prop := ∃ v, dI (frz z xs) v ∧ gC v = true ∧ k v
theorem aPk {z : Nat} {xs : List (List DV)} {k : DV → Prop} {t : Tg k} (v : DV) (h : dI (frz z xs) v) (h2 : gC v = true) (hk : k v) : xJ z xs k t := ⟨v, h, h2, hk⟩
def tY (d : Nat) (K : aS → Prop) (ρ : aS) : Prop :=
 match ρ d with
 | .row _ z xs => xJ z xs (fun v => K (set (cI d ρ) d v)) ⟨⟩
 | _ => False
theorem aQi {o : Oper} {d : Nat} {K : aS → Prop} (hd : d < 100000) (h : OW P nt ops o (tY d K) ρ) : OW P nt ops o K ρ := by
 intro ro ds I A a w hs hdf next Q' hn
 refine h ro ds I A a w hs hdf next Q' fun I' A' a' w' ρ' q1 q2 q3 q4 => ?_
 unfold tY at q4
 split at q4
 ·rename_i e z xs hrow
  obtain ⟨v, hv, hp, hK⟩ := q4
  obtain ⟨I2, A2, r1, r2⟩ := q1.frz hd hrow
  refine hn I2 A2 a' w' _ ?_ q2 (q3.trans r2) hK
  refine ⟨⟨fun t => ?_, r1.osim.inj, r1.osim.sep, r1.osim.imm⟩, r1.size, r1.bound, fun i hi => ?_, fun t ht => ?_⟩
  ·have := r1.osim.own t
   simp only [aO] at this ⊢
   split
   ·exact dY.ofPure (by cases v <;> first | rfl | cases hp)
   rename_i e1; rw [if_neg e1] at this; exact this
  ·have := r1.slot i hi
   simp only [aO] at this ⊢
   split
   ·rename_i e1
    rw [if_pos e1] at this
    exact .ofRel (hv _ _ _ _ (this.rel rfl))
   rename_i e1; rw [if_neg e1] at this; exact this
  have := r1.out t ht
  simp only [aO] at this ⊢
  rw [if_neg (by omega)] at this ⊢
  exact this
 exact q4.elim
def aEo (P : Program) (ρ : aS) (op : Op) (dst : Option Nat) (K : aS → Prop) : Prop :=
 match op, dst with
 | .buildSlice t (n + 1) parts, some d => bAy P ρ d (kH P t) (n + 1) parts.toList K
 | .call ⟨.builtin .append, args, ts⟩, some d => fJ P ρ (.call ⟨.builtin .append, args, ts⟩) (some d) (tY d K)
 | op, dst => fJ P ρ op dst K
theorem bBi (hnt : nt ≤ 100000) {o : Oper} {K : aS → Prop} (hg : o.guard = none) (ho : dA nt o = true) (hd : eO nt o = true) (h : aEo P ρ o.op o.dst K) : OW P nt ops o K ρ := by
 unfold aEo at h
 split at h
 ·rename_i t n parts d hop hdst
  unfold bAy at h
  split at h
  ·rename_i e z by_ hs
   obtain ⟨q1, q2, q3, q4, q5, q6, q7⟩ := h
   obtain ⟨zs, hz⟩ := Option.isSome_iff_exists.1 q1
   have hdn : d < nt := by unfold eO at hd; rw [hdst] at hd; simpa using hd
   exact bCn hop hg hdst hdn ho hs hz q2 q3 q4 q5 q6 q7
  exact h.elim
 ·rename_i args ts d hop hdst
  have hdn : d < nt := by unfold eO at hd; rw [hdst] at hd; simpa using hd
  refine aQi (d := d) (by omega) (cS hg ho hd ?_)
  rw [hop, hdst]
  exact h
 exact cS hg ho hd h
def qY (P : Program) (all : List Oper) (o : Oper) (f : Bool) (K : aS → Prop) (ρ : aS) : Prop :=
 match o.guard with
 | none => (match f, gS o.op && o.dst.isSome with
  | true, _ => aEo P ρ o.op o.dst K
  | false, true => xV P ρ o.op o.dst K
  | false, false => fJ P ρ o.op o.dst K)
 | some (j, want) => (match f with
  | true => False
  | false => vK P ρ o.op o.dst (gAt all ρ j want) K)
theorem aPw {cl : List (Nat × Nat)} {c : Code} {Q : Exit → aS → Prop} (hc : (cl.all fun p => decide (p.1 < nt) && decide (p.2 < nt) && p.1 != p.2) = true)
  (h1 : AW P nt c (fun e ρ => match e with | .normal => clG cl (Q .normal) ρ | e => Q e ρ) ρ) : AW P nt c Q ρ := by
 intro ro ds I A a w hs hd
 refine wpIn_mono (h1 ro ds I A a w hs hd) ?_
 intro e a1 w1 ⟨I1, A1, ρ1, k1, k2, k3, k4⟩
 cases e with
 | normal =>
  obtain ⟨A2, ρ2, r1, r2, r3⟩ := b9.claims cl k1 hc k4
  exact ⟨I1, A2, ρ2, r1, k2, k3.trans r2, r3⟩
 | exit i => exact ⟨I1, A1, ρ1, k1, k2, k3, k4⟩
 | goto l => exact ⟨I1, A1, ρ1, k1, k2, k3, k4⟩
 | ret => exact ⟨I1, A1, ρ1, k1, k2, k3, k4⟩
 | panic ch => exact ⟨I1, A1, ρ1, k1, k2, k3, k4⟩
 | outgrown => exact ⟨I1, A1, ρ1, k1, k2, k3, k4⟩
end
@[congr] theorem SettleG_congr {z : Nat} {xs xs' : List (List DV)} {k : DV → Prop} {t : Tg k} (h : xs = xs') : xJ z xs k t = xJ z xs' k t := by rw [h]
section
variable {P : Program} {ρ : aS} (all : List Oper) (os : List (Oper × Bool)) (k : aS → Prop) (d : Option Tmp) (op : Op) (ty : TypeId) (pos : String) (af : Array Edge) (j : Nat) (want : Bool)
variable (K : aS → Prop) (dd : Nat) (t : TypeId) (n : Nat) (parts : Array (Nat × Operand)) (x y : Operand)
theorem aVd : aEo P ρ (.buildSlice t (n + 1) parts) (some dd) K = bAy P ρ dd (kH P t) (n + 1) parts.toList K := rfl
theorem aPx : aEo P ρ (.buildSlice t 0 parts) (some dd) K = fJ P ρ (.buildSlice t 0 parts) (some dd) K := rfl
theorem aYs : aEo P ρ (.makeSlice t x y) (some dd) K = fJ P ρ (.makeSlice t x y) (some dd) K := rfl
theorem aUi : aEo P ρ (.assign x) d K = fJ P ρ (.assign x) d K := by cases d <;> rfl
theorem aUo (args : Array Operand) (ts : Array TypeId) : aEo P ρ (.call ⟨.builtin .append, args, ts⟩) (some dd) K = fJ P ρ (.call ⟨.builtin .append, args, ts⟩) (some dd) (tY dd K) := rfl
end
attribute [go_sem] aVd aPx aYs aUi aUo bAy tY
end Go.Sg
