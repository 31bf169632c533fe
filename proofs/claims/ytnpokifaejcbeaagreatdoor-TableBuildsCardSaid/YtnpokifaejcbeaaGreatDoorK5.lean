/- Several texts as one. -/
import Derived.Test.YtnpokifaejcbeaaGreatDoorK4
import Derived.DeepKeys4
set_option linter.unusedVariables false
set_option linter.unusedSimpArgs false
set_option maxRecDepth 20000
namespace Go.Sg
open Go.Proofs
def tG (a lo hi : Int) : Bool := decide (lo ≤ a ∧ a ≤ hi)
def n0 (l : aC) (e : cC) : Bool := decide (0 ≤ e.fEl ∧ e.fEl < (l.fElements.length : Int)) && decide (0 ≤ e.fSide ∧ e.fSide < fF (d7 l e.fEl.toNat).fKind)
theorem rO (k : Int) : 0 ≤ fF k ∧ fF k ≤ 4 := by unfold fF; split; omega; split; omega; split <;> omega
def pR (l : aC) : Bool := decide (1 ≤ l.fElements.length ∧ l.fElements.length ≤ 32 ∧ 1 ≤ l.fSections.length ∧ l.fSections.length ≤ 24 ∧ l.fSignals.length ≤ 20 ∧ l.fBalises.length ≤ 24)
def qD (l : aC) (x : iR) : Bool := decide ((1 ≤ x.fKind ∧ x.fKind ≤ 3) ∧ (500 ≤ x.fLength ∧ x.fLength ≤ 1000000) ∧ (-50 ≤ x.fGrade ∧ x.fGrade ≤ 50) ∧ (100 ≤ x.fSpeed ∧ x.fSpeed ≤ 10000) ∧ (0 ≤ x.fSection ∧ x.fSection < (l.fSections.length : Int)) ∧ (x.fKind = 2 → 100 ≤ x.fSlow ∧ x.fSlow ≤ x.fSpeed) ∧ (x.fKind ≠ 2 → x.fSlow = 0))
def kT (l : aC) : Bool := l.fElements.all (qD l)
def pB (l : aC) : Bool := (List.range l.fSections.length).all fun s => decide ((aJy l (s : Nat)).length ≠ 0)
theorem bZ (O : aU) (a lo hi : Int) : aW Tryz.prog O 167 [vi a, vi lo, vi hi] (vb (tG a lo hi)) := by
 refine dT Tryz.func167 ?_
 refine aB [0, 1, 2] ?_
 refine aB [0, 1, 2] ?_
 refine aL ?_
 refine b6 6 ?_
 refine xb ?_
 ((unfold tG; rw [Bool.eq_iff_iff]; simp))
theorem kO (O : aU) (l : aC) (e : cC) (hl : dX l) : aW Tryz.prog O 170 [.agg (aI l), .agg (bO e)] (vb (n0 l e)) := by
 have hl1 := hl.sec
 have hl2 := hl.el
 have hl3 := hl.jo
 have hl4 := hl.sg
 have hl5 := hl.bl
 have hsd := rO (d7 l e.fEl.toNat).fKind
 have hsd2 := rO (l.fElements.getD e.fEl.toNat default).fKind
 refine dT Tryz.func170 ?_
 refine aB [0, 1] ?_
 refine aA fun K1 hK1 => ?_
 refine eE [2, 3] [] fK (by kernel_rfl) ?_
 simp (disch := omega) only [go_sem, seval]
 repeat refine And.intro (by first | (intro h; exact ⟨h, by simp only [tG, decide_eq_true_eq] at h; omega⟩) | exact bS) ?_
 refine dR (bZ _ e.fEl 0 (l.fElements.length - 1 : Int)) ?_ ?_
 ·rfl
 try simp (disch := omega) only [go_sem, seval]
 repeat refine And.intro (by first | (intro h; exact ⟨h, by simp only [tG, decide_eq_true_eq] at h; omega⟩) | exact bS) ?_
 refine jZ (fun g0 => sC _ (d7 l e.fEl.toNat).fKind) ?_ ?_ ?_
 ·first | exact fun _ => trivial | simp
 ·rfl
 try simp (disch := omega) only [go_sem, seval]
 repeat refine And.intro (by first | (intro h; exact ⟨h, by simp only [tG, decide_eq_true_eq] at h; omega⟩) | exact bS) ?_
 refine jZ (fun g1 => bZ _ e.fSide 0 (fF (d7 l e.fEl.toNat).fKind - 1)) ?_ ?_ ?_
 ·first | exact fun _ => trivial | simp
 ·rfl
 try simp (disch := omega) only [go_sem, seval]
 repeat refine And.intro (by first | (intro h; exact ⟨h, by simp only [tG, decide_eq_true_eq] at h; omega⟩) | exact bS) ?_
 refine hK1 _ ?_; clear hK1
 refine aL ?_
 refine b6 4 ?_
 refine xb ?_
 ((unfold n0; rw [Bool.eq_iff_iff]; simp only [tG, d7, Bool.and_eq_true, decide_eq_true_eq]; omega))
theorem lI (O : aU) (l : aC) (e : cC) (hl : dX l) : aW Tryz.prog O 197 [.agg (aI l), .agg (bO e)] (vb (n0 l e)) := by
 have hl1 := hl.sec
 have hl2 := hl.el
 have hl3 := hl.jo
 have hl4 := hl.sg
 have hl5 := hl.bl
 refine dT Tryz.func197 ?_
 refine aB [0, 1] ?_
 refine aA fun K1 hK1 => ?_
 refine e5 [2, 3] [] ?_
 refine lY (fun g0 => pV _ (d7 l e.fEl.toNat).fKind) ?_
 refine hK1 _ ?_; clear hK1
 refine aL ?_
 refine b6 4 ?_
 refine xb ?_
 ((unfold n0; rw [Bool.eq_iff_iff]; simp only [d7, Bool.and_eq_true, decide_eq_true_eq]; exact ⟨fun ⟨⟨⟨a, b⟩, c⟩, d⟩ => ⟨⟨a, b⟩, c, d⟩, fun ⟨⟨a, b⟩, c, d⟩ => ⟨⟨⟨a, b⟩, c⟩, d⟩⟩))
theorem rY (O : aU) (l : aC) : aW Tryz.prog O 111 [.agg (aI l)] (vb (pR l)) := by
 refine aO 0 rfl (.agg (d := f5 l.fElements) (by simp [aI]) (.sl _ _ _)) fun he => ?_
 refine aO 0 rfl (.agg (d := gB l.fSignals) (by simp [aI]) (.sl _ _ _)) fun hs => ?_
 refine aO 0 rfl (.agg (d := dN l.fSections) (by simp [aI]) (.sl _ _ _)) fun hc => ?_
 refine aO 0 rfl (.agg (d := wL l.fBalises) (by simp [aI]) (.sl _ _ _)) fun hb => ?_
 refine dT Tryz.func111 ?_
 refine aB [0] ?_
 refine aA fun K1 hK1 => ?_
 refine bF [1] ?_
 refine dM (bZ _ (l.fElements.length : Nat) 1 32) ?_
 refine lY (fun g0 => bZ _ (l.fSections.length : Nat) 1 24) ?_
 refine hK1 _ ?_; clear hK1
 refine aL ?_
 refine b6 2 ?_
 refine xb ?_
 ((unfold pR; rw [Bool.eq_iff_iff]; simp only [tG, Bool.and_eq_true, decide_eq_true_eq]; omega))
theorem pJ (O : aU) (l : aC) (hl : dX l) : aW Tryz.prog O 113 [.agg (aI l)] (vb (kT l)) := by
 have hl1 := hl.sec
 have hl2 := hl.el
 have hl3 := hl.jo
 have hl4 := hl.sg
 have hl5 := hl.bl
 refine aO 0 rfl (.agg (d := f5 l.fElements) (by simp [aI]) (.sl _ _ _)) fun he => ?_
 refine dT Tryz.func113 ?_
 refine aB [0] ?_
 refine aA fun K1 hK1 => ?_
 refine aB [1] ?_
 refine aK ?_
 refine aX [1, 6, 7, 8] (fun n ρ => ∃ i, n = l.fElements.length - i ∧ (i ≤ l.fElements.length) ∧ (gU (qD l) l.fElements i) ∧ ρ = cU O [(1, .bx (aI l)), (6, f5 l.fElements), (7, vi (l.fElements.length : Nat)), (8, vi (i : Nat))]) _ ⟨0, rfl, ?_, ?_, ?_⟩ ?_
 ·exact bD
 ·exact fH _ _
 ·exact cD
 rintro n ρ ⟨i, rfl, l0_0, l0_1, rfl⟩ K3 hK3
 refine aB [1, 5, 6, 7, 8] ?_
 refine aA fun K5 hK5 => ?_
 refine aS (fun c0 => ?_) fun c0 => ?_
 ·refine aJ ?_
  refine hK5 _ ?_; clear hK5
  refine aA fun K6 hK6 => ?_
  refine aK ?_
  refine aB [1, 5, 6, 7, 8] ?_
  refine aA fun K8 hK8 => ?_
  refine aA fun K9 hK9 => ?_
  refine bF [1, 4, 5, 6, 7, 8] ?_
  refine dM (bZ _ (l.fElements.getD i default).fKind 1 3) ?_
  refine lY (fun g0 => bZ _ (l.fElements.getD i default).fLength 500 1000000) ?_
  refine lY (fun g1 => bZ _ (l.fElements.getD i default).fGrade (-50) 50) ?_
  refine lY (fun g2 => bZ _ (l.fElements.getD i default).fSpeed 100 10000) ?_
  refine lY (fun g3 => bZ _ (l.fElements.getD i default).fSection 0 (l.fSections.length - 1 : Int)) ?_
  refine hK9 _ ?_; clear hK9
  refine aS (fun c1 => ?_) fun c1 => ?_
  ·refine aB [] ?_
   refine aL ?_
   refine b6 2 ?_
   refine xb ?_
   ((symm; exact kA (f := qD l) c0 (by unfold qD; rw [decide_eq_false_iff_not]; simp only [tG, Bool.or_eq_true, Bool.not_eq_true', decide_eq_false_iff_not, decide_eq_true_eq, Bool.and_eq_true, bne_iff_ne, beq_iff_eq, ne_eq] at c1; omega)))
  refine aJ ?_
  refine hK8 _ ?_; clear hK8
  refine aA fun K11 hK11 => ?_
  refine bF [1, 4, 5, 6, 7, 8] ?_
  refine lY (fun g4 => bZ _ (l.fElements.getD i default).fSlow 100 (l.fElements.getD i default).fSpeed) ?_
  refine hK11 _ ?_; clear hK11
  refine aS (fun c2 => ?_) fun c2 => ?_
  ·refine aB [] ?_
   refine aL ?_
   refine b6 2 ?_
   refine xb ?_
   ((symm; exact kA (f := qD l) c0 (by unfold qD; rw [decide_eq_false_iff_not]; simp only [tG, Bool.or_eq_true, Bool.not_eq_true', decide_eq_false_iff_not, decide_eq_true_eq, Bool.and_eq_true, bne_iff_ne, beq_iff_eq, ne_eq] at c1 c2; omega)))
  refine aJ ?_
  refine hK6 _ ?_; clear hK6
  refine bC [1, 5, 6, 7, 8] ?_
  refine hK3 _ _ ?_ ⟨i + 1, rfl, ?_, ?_, ?_⟩
  ·exact bD
  ·exact bD
  ·exact fI l0_1 (by unfold qD; rw [decide_eq_true_eq]; simp only [tG, Bool.or_eq_true, Bool.not_eq_true', decide_eq_false_iff_not, decide_eq_true_eq, Bool.and_eq_true, bne_iff_ne, beq_iff_eq, ne_eq] at c1 c2; omega)
  exact cD
 refine bA ?_
 refine hK1 _ ?_; clear hK1
 refine aB [] ?_
 refine aL ?_
 refine b6 2 ?_
 refine xb ?_
 ((symm; exact kJ l0_1 c0))
theorem aAk (O : aU) (l : aC) (x : iR) (hl : dX l) : aW Tryz.prog O 195 [.agg (aI l), .agg (eM x)] (vb (qD l x)) := by
 have hl1 := hl.sec
 have hl2 := hl.el
 have hl3 := hl.jo
 have hl4 := hl.sg
 have hl5 := hl.bl
 refine dT Tryz.func195 ?_
 refine aB [0, 1] ?_
 refine aA fun K1 hK1 => ?_
 refine aB [2, 3] ?_
 refine aS (fun c0 => ?_) fun c0 => ?_
 ·refine aB [] ?_
  refine aL ?_
  refine b6 4 ?_
  refine xb ?_
  ((symm; unfold qD; rw [decide_eq_false_iff_not]; omega))
 refine aJ ?_
 refine hK1 _ ?_; clear hK1
 refine aA fun K4 hK4 => ?_
 refine aB [3] ?_
 refine aS (fun c1 => ?_) fun c1 => ?_
 ·refine aB [3] ?_
  refine aL ?_
  refine b6 4 ?_
  refine xb ?_
  ((unfold qD; rw [Bool.eq_iff_iff]; simp only [Bool.and_eq_true, decide_eq_true_eq]; omega))
 refine aJ ?_
 refine hK4 _ ?_; clear hK4
 refine aB [3] ?_
 refine aL ?_
 refine b6 4 ?_
 refine xb ?_
 ((unfold qD; rw [Bool.eq_iff_iff]; simp only [Bool.and_eq_true, decide_eq_true_eq, beq_iff_eq]; omega))
theorem oU (O : aU) (l : aC) (hl : dX l) : aW Tryz.prog O 114 [.agg (aI l)] (vb (pB l)) := by
 have hl1 := hl.sec
 have hl2 := hl.el
 have hl3 := hl.jo
 have hl4 := hl.sg
 have hl5 := hl.bl
 refine aO 0 rfl (.agg (d := dN l.fSections) (by simp [aI]) (.sl _ _ _)) fun hc => ?_
 refine dT Tryz.func114 ?_
 refine aB [0] ?_
 refine aA fun K1 hK1 => ?_
 refine aB [1] ?_
 refine aK ?_
 refine aX [1, 6, 7] (fun n ρ => ∃ i, n = l.fSections.length - i ∧ (i ≤ l.fSections.length) ∧ (j5 (fun s => decide ((aJy l (s : Nat)).length ≠ 0)) i) ∧ ρ = cU O [(1, .bx (aI l)), (6, vi (l.fSections.length : Nat)), (7, vi (i : Nat))]) _ ⟨0, rfl, ?_, ?_, ?_⟩ ?_
 ·exact bD
 ·exact gT _
 ·exact cD
 rintro n ρ ⟨i, rfl, l0_0, l0_1, rfl⟩ K3 hK3
 refine aB [1, 6, 7] ?_
 refine aA fun K5 hK5 => ?_
 refine aS (fun c0 => ?_) fun c0 => ?_
 ·refine aJ ?_
  refine hK5 _ ?_; clear hK5
  refine aA fun K6 hK6 => ?_
  refine aK ?_
  refine aB [1, 6, 7] ?_
  refine aA fun K8 hK8 => ?_
  refine bF [1, 3, 6, 7] ?_
  refine dM (uJ _ l (i : Nat) hl) ?_
  refine hK8 _ ?_; clear hK8
  refine aS (fun c1 => ?_) fun c1 => ?_
  ·refine aB [] ?_
   refine aL ?_
   refine b6 2 ?_
   refine xb ?_
   ((symm; exact o8 c0 (decide_eq_false (by omega))))
  refine aJ ?_
  refine hK6 _ ?_; clear hK6
  refine bC [1, 6, 7] ?_
  refine hK3 _ _ ?_ ⟨i + 1, rfl, ?_, ?_, ?_⟩
  ·exact bD
  ·exact bD
  ·exact gN l0_1 (decide_eq_true (by omega))
  exact cD
 refine bA ?_
 refine hK1 _ ?_; clear hK1
 refine aB [] ?_
 refine aL ?_
 refine b6 2 ?_
 refine xb ?_
 ((symm; exact o4 l0_1 c0))
end Go.Sg
namespace Go.Rv
open Go.RowKit Go.Sg
def goodB (P : Program) (k : TypeId) (v : Value) : Bool :=
 match P.underlying k with
 | some .bool => (match v with | .bool _ => true | _ => false)
 | some (.int q) => (match v with | .int q' _ => decide (q' = q) | _ => false)
 | some .string => (match v with | .string _ => true | _ => false)
 | some (.array _ _) => (keyOf P k v).isSome && P.keyTypeAt 8 k && P.tiled 8 k
 | some (.struct _) => (keyOf P k v).isSome && P.keyTypeAt 8 k && P.tiled 8 k
 | _ => false
section
variable {P : Program} {k : TypeId}
structure KeyRun (P : Program) (k : TypeId) : Prop where
 check : ∀ (w : World) (em : Bool) {v : Value}, goodB P k v = true → (Instr.checkKey em 10000 k v).run P w = .ok () w
 find : ∀ (w : World) {x : Value}, goodB P k x = true → ∀ es : List MapEntry, (∀ e ∈ es, goodB P k e.key = true) →
  ((Instr.findKey k x es).run P w = .ok none w ∧ ∀ e ∈ es, e.key ≠ x) ∨ ∃ j e, (Instr.findKey k x es).run P w = .ok (some (j, e.val)) w ∧ es[j]? = some e ∧ e.key = x
 stays : ∀ (w : World) {v : Value}, goodB P k v = true → (Instr.keyThatStays v v).run P w = .ok v w
theorem oV {d : TypeDesc} (hd : P.underlying k = some d) (hg : ∀ v, goodB P k v = true → MapKept.IsKey d v) : KeyRun P k where
 check := fun w em v hv => MapKept.run_checkKey hd (hg v hv) em 9999
 find := fun w x hx es hes => by
  rcases MapKept.findNow_spec (hg x hx) es 0 (fun e he => hg _ (hes e he)) with ⟨h1, h2⟩ | ⟨j, e, h1, h2, h3⟩
  ·exact .inl ⟨MapKept.run_findKey hd h1, h2⟩
  exact .inr ⟨j, e, by rw [MapKept.run_findKey hd h1, Nat.zero_add], h2, h3⟩
 stays := fun w v hv => MapKept.run_keyThatStays (hg v hv)
theorem wS (hw : (match P.underlying k with | some (.array _ _) | some (.struct _) => true | _ => false) = true) (hk : P.keyTypeAt 8 k = true) (ht : P.tiled 8 k = true)
  (hg : ∀ v, goodB P k v = true → ∃ l, keyOf P k v = some l) : KeyRun P k where
 check := fun w em v hv => by obtain ⟨l, hl⟩ := hg v hv; exact (deep_law (m := 8) (by omega) hk ht hw).check w em hl
 find := fun w x hx es hes => by
  obtain ⟨l, hl⟩ := hg x hx
  exact (deep_law (m := 8) (by omega) hk ht hw).find w hl es fun e he => hg _ (hes e he)
 stays := fun w v hv => by obtain ⟨l, hl⟩ := hg v hv; exact (deep_law (m := 8) (by omega) hk ht hw).stays w hl
theorem keyRun_of {v : Value} (h : goodB P k v = true) : KeyRun P k := by
 cases hu : P.underlying k with
 | none => simp [goodB, hu] at h
 | some d =>
  cases d with
  | bool => exact oV hu fun v hv => by cases v <;> simp [goodB, hu] at hv <;> trivial
  | int q => exact oV hu fun v hv => by cases v <;> simp [goodB, hu] at hv; exact hv
  | string => exact oV hu fun v hv => by cases v <;> simp [goodB, hu] at hv <;> trivial
  | array n e =>
   simp [goodB, hu] at h
   exact wS (by simp [hu]) h.1.2 h.2 fun v hv => by simp [goodB, hu] at hv; exact Option.isSome_iff_exists.1 hv.1.1
  | struct fs =>
   simp [goodB, hu] at h
   exact wS (by simp [hu]) h.1.2 h.2 fun v hv => by simp [goodB, hu] at hv; exact Option.isSome_iff_exists.1 hv.1.1
  | _ => simp [goodB, hu] at h
end
end Go.Rv
namespace Go.Sg
open Go.RowKit
open Go.Rv (goodB KeyRun keyRun_of)
section
variable {P : Program} {nt : Nat} {ρ : aU} {ops : Array Oper}
theorem aQb {es : List (Value × Value)} {vs : List MapEntry} (q3 : vs.map (fun (m : MapEntry) => (m.key, m.val)) = es) {j : Nat} {m : MapEntry} (f2 : vs[j]? = some m) : es = es.take j ++ (m.key, m.val) :: es.drop (j + 1) := by
 subst q3
 have hj : j < vs.length := by
  rcases Nat.lt_or_ge j vs.length with h | h
  ·exact h
  rw [List.getElem?_eq_none h] at f2; cases f2
 have hj2 : (vs.map (fun (m : MapEntry) => (m.key, m.val)))[j]? = some (m.key, m.val) := by rw [List.getElem?_map, f2]; rfl
 have hlt : j < (vs.map (fun (m : MapEntry) => (m.key, m.val))).length := by simp [hj]
 rw [List.getElem?_eq_getElem hlt] at hj2
 have := List.take_append_drop j (vs.map (fun (m : MapEntry) => (m.key, m.val)))
 rw [List.drop_eq_getElem_cons hlt, Option.some.inj hj2] at this
 exact this.symm
end
end Go.Sg
namespace Go.Sg
open Go.RowKit
open Go.Rv (KeyRun keyRun_of goodB)
theorem bFw {w : World} {I : Nat → Prop} {A : cY} {d : DV} {v : Value} (ok : Bool) (h : bK w I A d v) (b : Bool) : bK w I A (bif ok then .tup [d, .v (.bool b)] else d) (bif ok then .tuple #[v, .bool b] else v) := by
 cases ok with
 | false => exact h
 | true =>
  refine .tup A _ _ rfl fun j d' u hd hu => ?_
  match j with
  | 0 => simp at hd hu; subst hd; subst hu; exact h
  | 1 => simp at hd hu; subst hd; subst hu; exact .v A _
  | j + 2 => simp at hd
section
variable {P : Program} {nt : Nat} {ρ : aU} {ops : Array Oper}
theorem aJs {o : Oper} {K : aU → Prop} {t : TypeId} {x k : Operand} {s : Nat} {kt e : TypeId} {i : TypeInfo} {z kv : Value} {ok : Bool} {es : List (Value × Value)} (hop : o.op = .lookup t x k ok) (hg : o.guard = none) (ho : dL nt o = true) (hd : fG nt o = true)
  (hx : ev ρ x = .mr s) (hes : ρ s = .mo es) (hk : gd (ev ρ k)) (hkv : ∀ w I A v, bK w I A (un (ev ρ k)) v → v = kv) (u1 : P.underlying t = some (.map kt e)) (u3 : P.info? e = some i) (u4 : i.zero = some z)
  (hgk : goodB P kt kv = true) (hges : ∀ e ∈ es, goodB P kt e.1 = true)
  {dz : DV} (hz : ∀ w I A, bK w I A dz z) (hN : (∀ e ∈ es, e.1 ≠ kv) → K (cA ρ o.dst (bif ok then .tup [dz, .v (.bool false)] else dz))) (hS : ∀ es1 v es2, es = es1 ++ (kv, v) :: es2 → ∃ dv, (∀ w I A, bK w I A dv v) ∧ K (cA ρ o.dst (bif ok then .tup [dv, .v (.bool true)] else dv))) : OW P nt ops o K ρ := by
 refine fO hg fun I A a w hs => ?_
 have hxr := hs.opd x (bL ho (by simp [hop, Op.operands])) (by rw [hx]; trivial)
 have hkr := hkv _ _ _ _ (hs.opd k (bL ho (by simp [hop, Op.operands])) hk)
 rw [hx] at hxr
 have hxr : bK w I A (.mr s) (a.eval x) := hxr
 generalize hav : a.eval x = av at *
 cases hxr with
 | mr _ _ g c hA =>
  have hown := hs.osim.own s
  rw [hes] at hown
  obtain ⟨g', c', vs, cl, q1, q2, q3⟩ := hown
  rw [hA] at q1
  simp only [Option.some.injEq, Prod.mk.injEq] at q1
  obtain ⟨rfl, rfl⟩ := q1
  have kr : KeyRun P kt := keyRun_of hgk
  have hvs : ∀ e ∈ vs, goodB P kt e.key = true := fun m hm => hges (m.key, m.val) (by rw [← q3]; exact List.mem_map.2 ⟨m, hm, rfl⟩)
  have hck := kr.check w (vs.toArray.isEmpty) hgk
  rcases kr.find w hgk vs hvs with ⟨f1, f2⟩ | ⟨j, m, f1, f2, f3⟩
  ·refine ⟨bif ok then .tuple #[z, .bool false] else z, w, I, A, _, ?_, hs.putV hd (bFw ok (hz w I A) false), eX.refl _ _ _, hN fun e he => ?_⟩
   ·simp only [execOp, hop, hav, hkr, Instr.lookup, Sem.run_bind, run_underlying u1, MapKept.run_getObj_map q2, Result.andThen_ok, Sem.run_pure, hck]
    cases ok <;> simp [f1, zeroValue, typeInfo, u3, u4]
   rw [← q3] at he
   obtain ⟨m, hm, rfl⟩ := List.mem_map.1 he
   exact f2 m hm
  have hsp : es = es.take j ++ (kv, m.val) :: es.drop (j + 1) := by
   rw [← q3, ← f3]
   have hj : j < vs.length := by
    rcases Nat.lt_or_ge j vs.length with h | h
    ·exact h
    rw [List.getElem?_eq_none h] at f2; cases f2
   have hj2 : (vs.map (fun (m : MapEntry) => (m.key, m.val)))[j]? = some (m.key, m.val) := by rw [List.getElem?_map, f2]; rfl
   have hlt : j < (vs.map (fun (m : MapEntry) => (m.key, m.val))).length := by simp [hj]
   rw [List.getElem?_eq_getElem hlt] at hj2
   have := List.take_append_drop j (vs.map (fun (m : MapEntry) => (m.key, m.val)))
   rw [List.drop_eq_getElem_cons hlt, Option.some.inj hj2] at this
   exact this.symm
  obtain ⟨dv, hdv, hKv⟩ := hS _ _ _ hsp
  refine ⟨bif ok then .tuple #[m.val, .bool true] else m.val, w, I, A, _, ?_, hs.putV hd (bFw ok (hdv w I A) true), eX.refl _ _ _, hKv⟩
  simp only [execOp, hop, hav, hkr, Instr.lookup, Sem.run_bind, run_underlying u1, MapKept.run_getObj_map q2, Result.andThen_ok, Sem.run_pure, hck]
  cases ok <;> simp [f1]
theorem aJw {o : Oper} {K : aU → Prop} {t : TypeId} {x k y : Operand} {s : Nat} {kt e : TypeId} {kv v : Value} {es : List (Value × Value)} (hop : o.op = .mapUpdate t x k y ∨ o.op = .insert t x k y) (hg : o.guard = none) (hdst : o.dst = none) (ho : dL nt o = true)
  (hx : ev ρ x = .mr s) (hes : ρ s = .mo es) (hk : gd (ev ρ k)) (hkv : ∀ w I A v, bK w I A (un (ev ρ k)) v → v = kv) (hyg : gd (ev ρ y)) (hy : ∀ w I A u, bK w I A (un (ev ρ y)) u → u = v) (u1 : P.underlying t = some (.map kt e))
  (hgk : goodB P kt kv = true) (hges : ∀ e ∈ es, goodB P kt e.1 = true)
  (hN : (∀ e ∈ es, e.1 ≠ kv) → K (set ρ s (.mo (es ++ [(kv, v)])))) (hS : ∀ es1 u es2, es = es1 ++ (kv, u) :: es2 → K (set ρ s (.mo (es1 ++ (kv, v) :: es2)))) : OW P nt ops o K ρ := by
 refine x0 hg fun I A a w hs => ?_
 have hmem : ∀ q, q = x ∨ q = k ∨ q = y → q ∈ o.op.operands := fun q hq => by rcases hop with h | h <;> rw [h] <;> simp [Op.operands] <;> rcases hq with rfl | rfl | rfl <;> simp
 have hxr := hs.opd x (bL ho (hmem x (.inl rfl))) (by rw [hx]; trivial)
 have hkr := hkv _ _ _ _ (hs.opd k (bL ho (hmem k (.inr (.inl rfl)))) hk)
 have hyr := hy _ _ _ _ (hs.opd y (bL ho (hmem y (.inr (.inr rfl)))) hyg)
 rw [hx] at hxr
 have hxr : bK w I A (.mr s) (a.eval x) := hxr
 generalize hav : a.eval x = av at *
 have hyv := hyr
 cases hxr with
 | mr _ _ g c hA =>
  have hown := hs.osim.own s
  rw [hes] at hown
  obtain ⟨g', c', vs, cl, q1, q2, q3⟩ := hown
  rw [hA] at q1
  simp only [Option.some.injEq, Prod.mk.injEq] at q1
  obtain ⟨rfl, rfl⟩ := q1
  have kr : KeyRun P kt := keyRun_of hgk
  have hvs : ∀ e ∈ vs, goodB P kt e.key = true := fun m hm => hges (m.key, m.val) (by rw [← q3]; exact List.mem_map.2 ⟨m, hm, rfl⟩)
  have hck := kr.check w false hgk
  have hst := kr.stays w hgk
  rcases kr.find w hgk vs hvs with ⟨f1, f2⟩ | ⟨j, m, f1, f2, f3⟩
  ·have hset := MapKept.heap_set (o' := .map (vs ++ [({ key := kv, val := v, born := cl } : MapEntry)]).toArray (cl + 1)) q2
   refine ⟨{ w with heap := w.heap.setIfInBounds g (.map (vs ++ [({ key := kv, val := v, born := cl } : MapEntry)]).toArray (cl + 1)) }, I, A, _, ?_, ?_, eX.turnO hA hset.2 (by simp) rfl ⟨rfl, Nat.le_refl _⟩ rfl, hN fun e he => ?_⟩
   ·rcases hop with h | h <;> simp [execOp, h, hav, hkr, hyv, Instr.mapUpdate, run_underlying u1, MapKept.run_getObj_map q2, hck, f1, MapKept.run_setObj_map _ q2]
   ·rw [hdst]
    refine hs.turnO hA hset.2 (by simp) (fun x' hx' => ?_) ⟨g, c, _, _, hA, hset.1, by rw [List.map_append, q3]; rfl⟩ fun _ => rfl
    rw [hes] at hx'; exact hx'
   rw [← q3] at he
   obtain ⟨m, hm, rfl⟩ := List.mem_map.1 he
   exact f2 m hm
  have hspl := aQb q3 f2
  rw [f3] at hspl
  have hjl : j < vs.length := by
   rcases Nat.lt_or_ge j vs.length with h | h
   ·exact h
   rw [List.getElem?_eq_none h] at f2; cases f2
  have hset := MapKept.heap_set (o' := .map (vs.toArray.modify j fun e => { e with key := kv, val := v }) cl) q2
  refine ⟨{ w with heap := w.heap.setIfInBounds g (.map (vs.toArray.modify j fun e => { e with key := kv, val := v }) cl) }, I, A, _, ?_, ?_, eX.turnO hA hset.2 (by simp) rfl ⟨rfl, Nat.le_refl _⟩ rfl, hS _ _ _ hspl⟩
  ·have hkey : ((vs.toArray[j]?).map (·.key)).getD kv = kv := by simp [f2, f3]
   rcases hop with h | h <;> simp [execOp, h, hav, hkr, hyv, Instr.mapUpdate, run_underlying u1, MapKept.run_getObj_map q2, hck, f1, f2, f3, hst, MapKept.run_setObj_map _ q2]
  rw [hdst]
  refine hs.turnO hA hset.2 (by simp) (fun x' hx' => ?_) ⟨g, c, (vs.modify j fun e => { e with key := kv, val := v }), cl, hA, by rw [hset.1]; congr 2; simp, ?_⟩ fun _ => rfl
  ·rw [hes] at hx'; exact hx'
  apply List.ext_getElem?
  intro q
  rw [List.getElem?_map, List.getElem?_modify]
  have hq : es[q]? = (vs[q]?).map fun (m : MapEntry) => (m.key, m.val) := by rw [← q3, List.getElem?_map]
  have hjes : j ≤ es.length := by rw [← q3]; simp; omega
  rcases Nat.lt_trichotomy q j with h1 | h1 | h1
  ·rw [List.getElem?_append_left (by rw [List.length_take]; omega), List.getElem?_take, if_pos h1, hq]
   cases vs[q]? with
   | none => rfl
   | some m' => simp [show j ≠ q by omega]
  ·subst h1
   rw [List.getElem?_append_right (by rw [List.length_take]; omega), List.length_take, Nat.min_eq_left hjes, Nat.sub_self, List.getElem?_cons_zero, f2]
   simp
  rw [List.getElem?_append_right (by rw [List.length_take]; omega), List.length_take, Nat.min_eq_left hjes]
  obtain ⟨r, hr⟩ : ∃ r, q - j = r + 1 := ⟨q - j - 1, by omega⟩
  rw [hr, List.getElem?_cons_succ, List.getElem?_drop, show j + 1 + r = q by omega, hq]
  cases vs[q]? with
  | none => rfl
  | some m' => simp [show j ≠ q by omega]
structure KE (α : Type) where
 val : α → Value
 dv : α → DV
 inj : ∀ a b, val a = val b → a = b
 to : ∀ a w I A v, bK w I A (dv a) v → v = val a
 of : ∀ a w I A, bK w I A (dv a) (val a)
variable {α β : Type}
def esT (k : KE α) (v : KE β) (M : List (α × β)) : List (Value × Value) := M.map fun p => (k.val p.1, v.val p.2)
theorem vS {k : KE α} {v : KE β} : ∀ {M : List (α × β)} {es1 es2 : List (Value × Value)} {a : α} {u : Value}, esT k v M = es1 ++ (k.val a, u) :: es2 → ∃ M1 b M2, M = M1 ++ (a, b) :: M2 ∧ es1 = esT k v M1 ∧ u = v.val b ∧ es2 = esT k v M2
 | [], [], _, _, _, h => by cases h
 | [], _ :: _, _, _, _, h => by cases h
 | p :: M, [], es2, a, u, h => by
  simp only [esT, List.map_cons, List.nil_append, List.cons.injEq, Prod.mk.injEq] at h
  obtain ⟨⟨h1, h2⟩, h3⟩ := h
  have := k.inj _ _ h1
  subst this
  exact ⟨[], p.2, M, rfl, rfl, h2.symm, h3.symm⟩
 | p :: M, e :: es1, es2, a, u, h => by
  simp only [esT, List.map_cons, List.cons_append, List.cons.injEq] at h
  obtain ⟨M1, b, M2, rfl, h2, h3, h4⟩ := vS (k := k) (v := v) h.2
  exact ⟨p :: M1, b, M2, rfl, by rw [h2, ← h.1]; rfl, h3, h4⟩
theorem s4 {M1 M2 : List (α × β)} {a : α} {b : β} (h : ((M1 ++ (a, b) :: M2).map (·.1)).Nodup) : ∀ p ∈ M1, p.1 ≠ a := fun p hp e => by
 rw [List.map_append, List.nodup_append] at h
 exact h.2.2 p.1 (List.mem_map.2 ⟨p, hp, rfl⟩) a (by simp) e
variable [DecidableEq α]
def f0 : List (α × β) → α → Option β
 | [], _ => none
 | p :: M, a => if p.1 = a then some p.2 else f0 M a
def lB : List (α × β) → α → β → List (α × β)
 | [], a, b => [(a, b)]
 | p :: M, a, b => if p.1 = a then (a, b) :: M else p :: lB M a b
theorem aPd {M : List (α × β)} {a : α} (h : ∀ p ∈ M, p.1 ≠ a) : f0 M a = none := by
 induction M with
 | nil => rfl
 | cons p M ih => rw [f0, if_neg (h p (by simp)), ih fun q hq => h q (by simp [hq])]
theorem aKa {M1 M2 : List (α × β)} {a : α} {b : β} (h : ∀ p ∈ M1, p.1 ≠ a) : f0 (M1 ++ (a, b) :: M2) a = some b := by
 induction M1 with
 | nil => rw [List.nil_append, f0, if_pos rfl]
 | cons p M ih => rw [List.cons_append, f0, if_neg (h p (by simp)), ih fun q hq => h q (by simp [hq])]
theorem nW {M : List (α × β)} {a : α} {b : β} (h : ∀ p ∈ M, p.1 ≠ a) : lB M a b = M ++ [(a, b)] := by
 induction M with
 | nil => rfl
 | cons p M ih => rw [lB, if_neg (h p (by simp)), ih fun q hq => h q (by simp [hq])]; rfl
theorem y2 {M1 M2 : List (α × β)} {a : α} {b c : β} (h : ∀ p ∈ M1, p.1 ≠ a) : lB (M1 ++ (a, c) :: M2) a b = M1 ++ (a, b) :: M2 := by
 induction M1 with
 | nil => rw [List.nil_append, lB, if_pos rfl, List.nil_append]
 | cons p M ih => rw [List.cons_append, lB, if_neg (h p (by simp)), ih fun q hq => h q (by simp [hq])]; rfl
theorem mE (k : KE α) (v : KE β) {K : aU → Prop} {o : Oper} {t : TypeId} {x kk : Operand} {s : Nat} {kt e : TypeId} {i : TypeInfo} {ok : Bool} {M : List (α × β)} {a : α} {zb : β} (hop : o.op = .lookup t x kk ok) (hg : o.guard = none) (ho : dL nt o = true) (hd : fG nt o = true)
  (hx : ev ρ x = .mr s) (hes : ρ s = .mo (esT k v M)) (hk : ev ρ kk = k.dv a) (hkg : gd (k.dv a)) (hku : un (k.dv a) = k.dv a) (u1 : P.underlying t = some (.map kt e)) (u3 : P.info? e = some i) (u4 : i.zero = some (v.val zb))
  (hga : goodB P kt (k.val a) = true) (hgM : ∀ p ∈ M, goodB P kt (k.val p.1) = true) (hnd : (M.map (·.1)).Nodup)
  (hK : K (cA ρ o.dst (bif ok then .tup [v.dv ((f0 M a).getD zb), .v (.bool (f0 M a).isSome)] else v.dv ((f0 M a).getD zb)))) : OW P nt ops o K ρ := by
 refine aJs hop hg ho hd hx hes (by rw [hk]; exact hkg) (fun w I A u hr => k.to a w I A u (by rw [hk, hku] at hr; exact hr)) u1 u3 u4 hga (fun e he => ?_) (v.of zb) (fun hN => ?_) fun es1 u es2 hs => ?_
 ·obtain ⟨p, hp, rfl⟩ := List.mem_map.1 he
  exact hgM p hp
 ·rw [aPd fun p hp e => hN _ (List.mem_map.2 ⟨p, hp, rfl⟩) (by rw [e])] at hK
  exact hK
 obtain ⟨M1, b, M2, rfl, _, rfl, _⟩ := vS hs
 rw [aKa (s4 hnd)] at hK
 exact ⟨v.dv b, v.of b, hK⟩
theorem t1 (k : KE α) (v : KE β) {K : aU → Prop} {o : Oper} {t : TypeId} {x kk y : Operand} {s : Nat} {kt e : TypeId} {M : List (α × β)} {a : α} {b : β} (hop : o.op = .mapUpdate t x kk y ∨ o.op = .insert t x kk y) (hg : o.guard = none) (hdst : o.dst = none) (ho : dL nt o = true)
  (hx : ev ρ x = .mr s) (hes : ρ s = .mo (esT k v M)) (hk : ev ρ kk = k.dv a) (hkg : gd (k.dv a)) (hku : un (k.dv a) = k.dv a) (hy : ev ρ y = v.dv b) (hyg : gd (v.dv b)) (hyu : un (v.dv b) = v.dv b) (u1 : P.underlying t = some (.map kt e))
  (hga : goodB P kt (k.val a) = true) (hgM : ∀ p ∈ M, goodB P kt (k.val p.1) = true) (hnd : (M.map (·.1)).Nodup) (hK : K (set ρ s (.mo (esT k v (lB M a b))))) : OW P nt ops o K ρ := by
 refine aJw hop hg hdst ho hx hes (by rw [hk]; exact hkg) (fun w I A u hr => k.to a w I A u (by rw [hk, hku] at hr; exact hr)) (by rw [hy]; exact hyg) (fun w I A u hr => v.to b w I A u (by rw [hy, hyu] at hr; exact hr)) u1 hga (fun e he => ?_) (fun hN => ?_) fun es1 u es2 hs => ?_
 ·obtain ⟨p, hp, rfl⟩ := List.mem_map.1 he
  exact hgM p hp
 ·rw [nW fun p hp e => hN _ (List.mem_map.2 ⟨p, hp, rfl⟩) (by rw [e])] at hK
  unfold esT at hK
  rw [List.map_append] at hK
  exact hK
 obtain ⟨M1, c, M2, rfl, rfl, rfl, rfl⟩ := vS hs
 rw [y2 (s4 hnd)] at hK
 unfold esT at hK
 rw [List.map_append] at hK
 exact hK
theorem wJ {M : List (α × β)} {a : α} {b : β} (h : (M.map (·.1)).Nodup) : ((lB M a b).map (·.1)).Nodup := by
 by_cases hx : ∀ p ∈ M, p.1 ≠ a
 ·rw [nW hx, List.map_append, List.nodup_append]
  refine ⟨h, by simp, fun x hx' y hy e => ?_⟩
  obtain ⟨p, hp, rfl⟩ := List.mem_map.1 hx'
  simp at hy
  exact hx p hp (e.trans hy)
 simp only [ne_eq, Classical.not_forall, Classical.not_not] at hx
 obtain ⟨p, hp, rfl⟩ := hx
 obtain ⟨M1, M2, rfl⟩ := List.append_of_mem hp
 have : ∀ q ∈ M1, q.1 ≠ p.1 := s4 (b := p.2) h
 rw [show M1 ++ p :: M2 = M1 ++ (p.1, p.2) :: M2 from rfl, y2 this]
 simpa using h
theorem aDk {M : List (α × β)} {a c : α} {b : β} : f0 (lB M a b) c = if c = a then some b else f0 M c := by
 induction M with
 | nil =>
  show (if a = c then some b else none) = if c = a then some b else none
  by_cases e : c = a
  ·subst e; rw [if_pos rfl]
  rw [if_neg (Ne.symm e), if_neg e]
 | cons p M ih =>
  unfold lB
  split
  ·rename_i h
   unfold f0
   by_cases e : c = a
   ·subst e; rw [if_pos rfl, if_pos rfl]
   rw [if_neg (Ne.symm e), if_neg e, if_neg (by rw [h]; exact Ne.symm e)]
  rename_i h
  unfold f0
  by_cases e : p.1 = c
  ·subst e; rw [if_pos rfl, if_neg h, if_pos rfl]
  rw [if_neg e, if_neg e, ih]
theorem qQ {M : List (α × β)} {a : α} : (f0 M a).isSome = true ↔ ∃ p ∈ M, p.1 = a := by
 induction M with
 | nil => simp [f0]
 | cons p M ih =>
  unfold f0
  split
  ·rename_i h; simp [h]
  rename_i h; rw [ih]; simp [h]
def zI : KE ByteArray := ⟨fun s => .string s, fun s => .v (.string s), fun _ _ h => by cases h; rfl, fun a w I A v h => (by cases h; rfl), fun a w I A => .v A _⟩
def nE : KE Int := ⟨fun n => .int .i64 n, fun n => .v (.int .i64 n), fun _ _ h => by cases h; rfl, fun a w I A v h => (by cases h; rfl), fun a w I A => .v A _⟩
def qJ : KE Bool := ⟨fun b => .bool b, fun b => .v (.bool b), fun _ _ h => by cases h; rfl, fun a w I A v h => (by cases h; rfl), fun a w I A => .v A _⟩
end
end Go.Sg
namespace Go.Sg
open Go.Proofs
def nuS (n : List ByteArray) (i : Nat) : Bool := (List.range i).all fun k => decide (n.getD k default ≠ n.getD i default)
def ndS (n : List ByteArray) : Bool := (List.range n.length).all (nuS n)
def aBj (l : aC) : Bool := (cE l).all fun n => n.all gI
def ndB (l : aC) : Bool := (cE l).all ndS
def nmI (l : aC) : Int := if aBj l = true then (if ndB l = true then 0 else 8) else 3
abbrev aHu (ls : List (List ByteArray)) : DV := encL 1 (fun x => [dN x]) ls
abbrev aLo (l : List ByteArray) : DV := rowL 9 1 eS l
theorem bPe {α : Type} [Inhabited α] (f : α → ByteArray) (a : List α) {i : Nat} (h : i < a.length) : (a.map f).take (i + 1) = (a.map f).take i ++ [f (a.getD i default)] := by
 rw [List.take_succ_eq_append_getElem (by simpa using h), List.getElem_map, List.getD_eq_getElem?_getD, List.getElem?_eq_getElem h]; rfl
theorem aWb (l : aC) {i : Nat} (h : i < l.fElements.length) : (kD l).take (i + 1) = (kD l).take i ++ [(l.fElements.getD i default).fName] := bPe _ _ h
theorem aVn (l : aC) {i : Nat} (h : i < l.fSignals.length) : (lG l).take (i + 1) = (lG l).take i ++ [(l.fSignals.getD i default).fName] := bPe _ _ h
theorem tS (l : aC) : (kD l).length = l.fElements.length := by unfold kD; simp
theorem tY (l : aC) : (lG l).length = l.fSignals.length := by unfold lG; simp
theorem aUc (l : aC) {i : Nat} (h : l.fElements.length ≤ i) : (kD l).take i = kD l := List.take_of_length_le (by rw [tS]; exact h)
theorem aTn (l : aC) {i : Nat} (h : l.fSignals.length ≤ i) : (lG l).take i = lG l := List.take_of_length_le (by rw [tY]; exact h)
theorem aVs (n : ByteArray) (a b c : List ByteArray) : bV (.sl 1 4 fun i => [[.sl 1 1 fun i => [[vs n]].getD i []], [dN a], [dN b], [dN c]].getD i []) (aHu [[n], a, b, c]) := by
 refine bV.slW fun i hi => ?_
 match i, hi with
 | 0, _ => exact .cons (bV.litL [n] rfl rfl) .nil
 | 1, _ => exact .cons (bV.refl _) .nil
 | 2, _ => exact .cons (bV.refl _) .nil
 | 3, _ => exact .cons (bV.refl _) .nil
def yO (n : List ByteArray) (i : Nat) : List (Value × Value) := (List.range i).map fun k => (.string (n.getD k default), .bool true)
theorem bGg (n : List ByteArray) (i : Nat) : yO n i ++ [(.string (n.getD i default), .bool true)] = yO n (i + 1) := by
 unfold yO; rw [List.range_succ, List.map_append]; rfl
theorem uD {n : List ByteArray} {i : Nat} {e : Value × Value} (h : e ∈ yO n i) : ∃ k, k < i ∧ e = (.string (n.getD k default), .bool true) := by
 unfold yO at h
 obtain ⟨k, hk, rfl⟩ := List.mem_map.1 h
 exact ⟨k, List.mem_range.1 hk, rfl⟩
theorem aWy {n : List ByteArray} {i k : Nat} (h : nuS n i = true) (hk : k < i) : n.getD k default ≠ n.getD i default := of_decide_eq_true (bGq h hk)
theorem aHn {n : List ByteArray} : ∀ {i : Nat}, j5 (nuS n) i → aXs (yO n i)
 | 0, _ => ⟨fun e he => (by obtain ⟨k, hk, _⟩ := uD he; omega), List.nodup_nil⟩
 | i + 1, h => by
  obtain ⟨h1, h2⟩ := aHn (i := i) fun j hj => h j (by omega)
  refine ⟨fun e he => ?_, ?_⟩
  ·obtain ⟨k, hk, rfl⟩ := uD he; rfl
  rw [← bGg, List.map_append, List.nodup_append]
  refine ⟨h2, by simp, fun a ha b hb => ?_⟩
  obtain ⟨e, he, rfl⟩ := List.mem_map.1 ha
  obtain ⟨k, hk, rfl⟩ := uD he
  simp only [List.map_cons, List.map_nil, List.mem_singleton] at hb
  subst hb
  intro e
  simp only [Value.string.injEq] at e
  exact aWy (h i (by omega)) hk e
theorem aOo {n : List ByteArray} {i : Nat} (h : nuS n i = true) : bMo (yO n i) (n.getD i default) :=
 ⟨fun e he => (by obtain ⟨k, hk, rfl⟩ := uD he; rfl), fun e he => by
  obtain ⟨k, hk, rfl⟩ := uD he
  intro e
  simp only [Value.string.injEq] at e
  exact aWy h hk e⟩
theorem bBs {n : List ByteArray} {i : Nat} (h : aXs (yO n i)) : aJn (yO n i) (n.getD i default) (.bool false) = .bool (!nuS n i) := by
 cases hq : nuS n i with
 | true => exact uT (aOo hq).2
 | false =>
  have : ∃ k, k < i ∧ n.getD k default = n.getD i default := by
   apply Classical.byContradiction
   intro hno
   rw [← Bool.not_eq_true] at hq
   refine hq ?_
   unfold nuS
   rw [List.all_eq_true]
   intro k hk
   exact decide_eq_true fun e => hno ⟨k, List.mem_range.1 hk, e⟩
  obtain ⟨k, hk, e⟩ := this
  refine uW h.2 ?_
  unfold yO
  exact List.mem_map.2 ⟨k, List.mem_range.2 hk, by rw [e]; rfl⟩
theorem nm3 {l : aC} {i j : Nat} (hi : i < (cE l).length) (hj : j < ((cE l).getD i default).length) (h : gI (((cE l).getD i default).getD j default) = false) : nmI l = 3 := by
 unfold nmI
 have : aBj l = false := by
  show (cE l).all (fun n => n.all gI) = false
  exact kA (f := fun n => n.all gI) hi (kA (f := gI) hj h)
 rw [this, if_neg (by simp)]
theorem nm8 {l : aC} {i j : Nat} (h0 : aBj l = true) (hi : i < (cE l).length) (hj : j < ((cE l).getD i default).length) (h : nuS ((cE l).getD i default) j = false) : nmI l = 8 := by
 unfold nmI
 have : ndB l = false := by
  show (cE l).all ndS = false
  exact kA (f := ndS) hi (o8 hj h)
 rw [if_pos h0, this, if_neg (by simp)]
theorem nm0 {l : aC} (h0 : aBj l = true) (h : ndB l = true) : nmI l = 0 := by unfold nmI; rw [if_pos h0, if_pos h]
theorem qW (O : aU) (l : aC) (hl : dX l) : aW Tryz.prog O 112 [.agg (aI l)] (vi (nmI l)) := by
 have hl1 := hl.sec
 have hl2 := hl.el
 have hl3 := hl.jo
 have hl4 := hl.sg
 have hl5 := hl.bl
 have hn4 : (cE l).length = 4 := rfl
 have hns := fun (i : Nat) (hi : i < (cE l).length) => (show ((cE l).getD i default).length ≤ 60 by
   have := fS (l := cE l) hi
   unfold cE at this ⊢
   simp only [List.mem_cons, List.not_mem_nil, or_false] at this
   rcases this with h | h | h | h <;> rw [h] <;> first | (rw [tS]; omega) | (rw [tY]; omega) | omega | (simp; done))
 refine aO 0 rfl (.agg (d := f5 l.fElements) (by simp [aI]) (.sl _ _ _)) fun he => ?_
 refine aO 0 rfl (.agg (d := gB l.fSignals) (by simp [aI]) (.sl _ _ _)) fun hs => ?_
 refine aO 0 rfl (.agg (d := dN l.fSections) (by simp [aI]) (.sl _ _ _)) fun hc => ?_
 refine dT Tryz.func112 ?_
 refine aB [0] ?_
 refine aB [1] ?_
 refine aA fun K2 hK2 => ?_
 refine aB [1, 3] ?_
 refine aK ?_
 refine aX [1, 3, 24, 25, 26] (fun n ρ => ∃ i, n = l.fElements.length - i ∧ (i ≤ l.fElements.length) ∧ ρ = cU O [(1, .bx (aI l)), (3, aLo ((kD l).take i)), (24, f5 l.fElements), (25, vi (l.fElements.length : Nat)), (26, vi (i : Nat))]) _ ⟨0, rfl, ?_, ?_⟩ ?_
 ·exact bD
 ·exact cD
 rintro n ρ ⟨i, rfl, l0_0, rfl⟩ K4 hK4
 have htl : ((kD l).take i).length ≤ i := by rw [List.length_take]; omega
 refine aB [1, 3, 23, 24, 25, 26] ?_
 refine aA fun K6 hK6 => ?_
 refine aS (fun c0 => ?_) fun c0 => ?_
 ·refine aJ ?_
  refine hK6 _ ?_; clear hK6
  refine aA fun K7 hK7 => ?_
  refine aK ?_
  refine aB [1, 3, 23, 24, 25, 26] ?_
  refine bC [1, 3, 5, 23, 24, 25, 26] ?_
  refine hK7 _ ?_; clear hK7
  refine bC [1, 3, 23, 24, 25, 26] ?_
  refine hK4 _ _ ?_ ⟨i + 1, rfl, ?_, ?_⟩
  ·exact bD
  ·exact bD
  simp (disch := omega) only [go_sem, seval] <;> (rw [aWb l (by omega), List.map_append]; rfl)
 refine bA ?_
 refine hK2 _ ?_; clear hK2
 refine aB [1, 3] ?_
 refine aA fun K10 hK10 => ?_
 refine aB [1, 3, 6] ?_
 refine aK ?_
 refine aX [1, 3, 6, 41, 42, 43] (fun n ρ => ∃ i, n = l.fSignals.length - i ∧ (i ≤ l.fSignals.length) ∧ ρ = cU O [(1, .bx (aI l)), (3, aLo (kD l)), (6, aLo ((lG l).take i)), (41, gB l.fSignals), (42, vi (l.fSignals.length : Nat)), (43, vi (i : Nat))]) _ ⟨0, rfl, ?_, ?_⟩ ?_
 ·exact bD
 ·simp (disch := omega) only [go_sem, seval] <;> rw [aUc l (by omega)]
 rintro n ρ ⟨i, rfl, l1_0, rfl⟩ K12 hK12
 have htl : ((lG l).take i).length ≤ i := by rw [List.length_take]; omega
 refine aB [1, 3, 6, 40, 41, 42, 43] ?_
 refine aA fun K14 hK14 => ?_
 refine aS (fun c1 => ?_) fun c1 => ?_
 ·refine aJ ?_
  refine hK14 _ ?_; clear hK14
  refine aA fun K15 hK15 => ?_
  refine aK ?_
  refine aB [1, 3, 6, 40, 41, 42, 43] ?_
  refine bC [1, 3, 6, 8, 40, 41, 42, 43] ?_
  refine hK15 _ ?_; clear hK15
  refine bC [1, 3, 6, 40, 41, 42, 43] ?_
  refine hK12 _ _ ?_ ⟨i + 1, rfl, ?_, ?_⟩
  ·exact bD
  ·exact bD
  simp (disch := omega) only [go_sem, seval] <;> (rw [aVn l (by omega), List.map_append]; rfl)
 refine bA ?_
 refine hK10 _ ?_; clear hK10
 refine aA fun K17 hK17 => ?_
 rw [aTn l (by omega)]
 refine dG 3 (kD l) rfl rfl ?_
 refine dG 6 (lG l) rfl rfl ?_
 refine bC [1, 3, 6] ?_
 refine hK17 _ ?_; clear hK17
 refine aA fun K18 hK18 => ?_
 refine aA fun K19 hK19 => ?_
 refine aYn 9 (aHu (cE l)) rfl rfl (aVs _ _ _ _) rfl rfl ?_
 refine bC [9] ?_
 refine hK19 _ ?_; clear hK19
 refine aK ?_
 refine aX [9, 61, 62, 63] (fun n ρ => ∃ i, n = 4 - i ∧ (i ≤ 4) ∧ (gU (fun n => n.all gI) (cE l) i) ∧ ρ = cU O [(9, aHu (cE l)), (61, aHu (cE l)), (62, vi 4), (63, vi (i : Nat))]) _ ⟨0, rfl, ?_, ?_, ?_⟩ ?_
 ·exact bD
 ·exact fH _ _
 ·exact cD
 rintro n ρ ⟨i, rfl, l2_0, l2_1, rfl⟩ K20 hK20
 refine aB [9, 61, 62, 63] ?_
 refine aA fun K22 hK22 => ?_
 refine aS (fun c2 => ?_) fun c2 => ?_
 ·refine aJ ?_
  refine hK22 _ ?_; clear hK22
  refine aA fun K23 hK23 => ?_
  refine aK ?_
  refine aB [9, 61, 62, 63] ?_
  refine aB [9, 11, 61, 62, 63, 65] ?_
  refine aK ?_
  refine aX [9, 61, 62, 63, 67, 68, 69] (fun n ρ => ∃ j, n = ((cE l).getD i default).length - j ∧ (j ≤ ((cE l).getD i default).length) ∧ (gU gI ((cE l).getD i default) j) ∧ ρ = cU O [(9, aHu (cE l)), (61, aHu (cE l)), (62, vi 4), (63, vi (i : Nat)), (67, dN ((cE l).getD i default)), (68, vi (((cE l).getD i default).length : Nat)), (69, vi (j : Nat))]) _ ⟨0, rfl, ?_, ?_, ?_⟩ ?_
  ·exact bD
  ·exact fH _ _
  ·exact cD
  rintro n ρ ⟨j, rfl, l3_0, l3_1, rfl⟩ K26 hK26
  have hnl := hns i (by omega)
  refine aB [9, 11, 61, 62, 63, 65, 67, 68, 69] ?_
  refine aA fun K28 hK28 => ?_
  refine aS (fun c3 => ?_) fun c3 => ?_
  ·refine aJ ?_
   refine hK28 _ ?_; clear hK28
   refine aA fun K29 hK29 => ?_
   refine aK ?_
   refine aB [9, 11, 61, 62, 63, 65, 67, 68, 69] ?_
   refine aA fun K31 hK31 => ?_
   refine bF [9, 11, 13, 61, 62, 63, 65, 67, 68, 69, 71] ?_
   refine dM (aCa _ (((cE l).getD i default).getD j default)) ?_
   refine hK31 _ ?_; clear hK31
   refine aS (fun c4 => ?_) fun c4 => ?_
   ·refine aB [] ?_
    refine aL ?_
    refine b6 2 ?_
    exact cP.is (by simp (disch := omega) only [go_sem, seval] <;> ((exact congrArg vi (nm3 (by omega) c3 c4).symm))) rfl rfl
   refine aJ ?_
   refine hK29 _ ?_; clear hK29
   refine bC [9, 11, 61, 62, 63, 65, 67, 68, 69] ?_
   refine hK26 _ _ ?_ ⟨j + 1, rfl, ?_, ?_, ?_⟩
   ·exact bD
   ·exact bD
   ·exact fI l3_1 c4
   exact cD
  refine bA ?_
  refine hK23 _ ?_; clear hK23
  refine bC [9, 61, 62, 63] ?_
  refine hK20 _ _ ?_ ⟨i + 1, rfl, ?_, ?_, ?_⟩
  ·exact bD
  ·exact bD
  ·exact fI l2_1 (kJ l3_1 c3)
  exact cD
 refine bA ?_
 refine hK18 _ ?_; clear hK18
 refine aA fun K33 hK33 => ?_
 refine aA fun K34 hK34 => ?_
 have hnm : aBj l = true := (show (cE l).all (fun n => n.all gI) = true from kJ l2_1 (by omega))
 refine bC [9] ?_
 refine hK34 _ ?_; clear hK34
 refine aK ?_
 refine aX [78, 79, 80] (fun n ρ => ∃ i, n = 4 - i ∧ (i ≤ 4) ∧ (gU ndS (cE l) i) ∧ ρ = cU O [(78, aHu (cE l)), (79, vi 4), (80, vi (i : Nat))]) _ ⟨0, rfl, ?_, ?_, ?_⟩ ?_
 ·exact bD
 ·exact fH _ _
 ·exact cD
 rintro n ρ ⟨i, rfl, l4_0, l4_1, rfl⟩ K35 hK35
 refine aB [9, 78, 79, 80] ?_
 refine aA fun K37 hK37 => ?_
 refine aS (fun c5 => ?_) fun c5 => ?_
 ·refine aJ ?_
  refine hK37 _ ?_; clear hK37
  refine aA fun K38 hK38 => ?_
  refine aK ?_
  refine aB [9, 78, 79, 80] ?_
  refine aB [9, 15, 78, 79, 80, 82] ?_
  refine aB [9, 15, 16, 78, 79, 80, 82] ?_
  refine aK ?_
  refine aX [16, 78, 79, 80, 85, 86, 87] (fun n ρ => ∃ j, n = ((cE l).getD i default).length - j ∧ (j ≤ ((cE l).getD i default).length) ∧ (j5 (nuS ((cE l).getD i default)) j) ∧ ρ = cU O [(16, .mo (yO ((cE l).getD i default) j)), (78, aHu (cE l)), (79, vi 4), (80, vi (i : Nat)), (85, dN ((cE l).getD i default)), (86, vi (((cE l).getD i default).length : Nat)), (87, vi (j : Nat))]) _ ⟨0, rfl, ?_, ?_, ?_⟩ ?_
  ·exact bD
  ·exact gT _
  ·exact cD
  rintro n ρ ⟨j, rfl, l5_0, l5_1, rfl⟩ K42 hK42
  have hnl := hns i (by omega)
  have hK := aHn l5_1
  have hG := bBs hK
  refine aA fun K43 hK43 => ?_
  refine a7 [9, 15, 16, 78, 79, 80, 82, 85, 86, 87] (by kernel_rfl) ?_
  simp (disch := omega) only [go_sem, seval, hG]
  repeat refine And.intro bS ?_
  refine hK43 _ ?_; clear hK43
  refine aA fun K44 hK44 => ?_
  refine aS (fun c6 => ?_) fun c6 => ?_
  ·refine aJ ?_
   refine hK44 _ ?_; clear hK44
   refine aA fun K45 hK45 => ?_
   refine aK ?_
   refine aA fun K46 hK46 => ?_
   refine a7 [9, 15, 16, 78, 79, 80, 82, 85, 86, 87] (by kernel_rfl) ?_
   simp (disch := omega) only [go_sem, seval, hG]
   repeat refine And.intro bS ?_
   refine hK46 _ ?_; clear hK46
   refine aA fun K47 hK47 => ?_
   refine aA fun K48 hK48 => ?_
   refine a7 [9, 15, 16, 18, 78, 79, 80, 82, 85, 86, 87, 89] (by kernel_rfl) ?_
   simp (disch := omega) only [go_sem, seval, hG]
   repeat refine And.intro bS ?_
   refine hK48 _ ?_; clear hK48
   refine aS (fun c7 => ?_) fun c7 => ?_
   ·refine aA fun K49 hK49 => ?_
    refine a7 [] (by kernel_rfl) ?_
    simp (disch := omega) only [go_sem, seval, hG]
    repeat refine And.intro bS ?_
    refine hK49 _ ?_; clear hK49
    refine aL ?_
    refine dC 2 rfl (by simp (disch := omega) only [go_sem, seval, hG]) ?_
    exact cP.is (by simp (disch := omega) only [go_sem, seval, hG] <;> ((exact congrArg vi (nm8 hnm (by omega) c6 c7).symm))) rfl rfl
   refine aJ ?_
   refine hK47 _ ?_; clear hK47
   refine a7 [9, 15, 16, 18, 78, 79, 80, 82, 85, 86, 87, 89] (by kernel_rfl) ?_
   simp (disch := omega) only [go_sem, seval, hG]
   repeat refine And.intro (by first | (exact aOo c7) | exact bS) ?_
   refine hK45 _ ?_; clear hK45
   refine a7 [9, 15, 16, 78, 79, 80, 82, 85, 86, 87] (by kernel_rfl) ?_
   simp (disch := omega) only [go_sem, seval, hG]
   repeat refine And.intro bS ?_
   refine hK42 _ _ ?_ ⟨j + 1, rfl, ?_, ?_, ?_⟩
   ·exact bD
   ·exact bD
   ·exact gN l5_1 c7
   simp (disch := omega) only [go_sem, seval, hG] <;> (rw [← bGg]; rfl)
  refine bA ?_
  refine hK38 _ ?_; clear hK38
  refine a7 [9, 78, 79, 80] (by kernel_rfl) ?_
  simp (disch := omega) only [go_sem, seval, hG]
  repeat refine And.intro bS ?_
  refine hK35 _ _ ?_ ⟨i + 1, rfl, ?_, ?_, ?_⟩
  ·exact bD
  ·exact bD
  ·exact fI l4_1 (o4 l5_1 c6)
  simp (disch := omega) only [go_sem, seval, hG] <;> first | rfl | omega | simp | simp_all
 refine bA ?_
 refine hK33 _ ?_; clear hK33
 refine aB [] ?_
 refine aL ?_
 refine b6 2 ?_
 exact cP.is (by simp (disch := omega) only [go_sem, seval] <;> ((exact congrArg vi (nm0 hnm (show (cE l).all ndS = true from kJ l4_1 (by omega))).symm))) rfl rfl
def nuT {α : Type} [DecidableEq α] [Inhabited α] (q : List α) (i : Nat) : Bool := (List.range i).all fun k => decide (q.getD k default ≠ q.getD i default)
def u7 {α : Type} [DecidableEq α] [Inhabited α] (q : List α) : Bool := (List.range q.length).all (nuT q)
section
variable {α : Type} [DecidableEq α] [Inhabited α] {q : List α} {i j : Nat}
theorem aVo (hi : i < q.length) (hj : j < i) (h : q.getD i default = q.getD j default) : true = !u7 q := by
 have : u7 q = false := o8 hi (o8 hj (decide_eq_false (by rw [h]; simp)))
 rw [this]; rfl
theorem aUy (h : j5 (nuT q) i) (hi : q.length ≤ i) : false = !u7 q := by
 have : u7 q = true := o4 h hi
 rw [this]; rfl
end
theorem bVk (q : List ByteArray) : ndS q = u7 q := rfl
abbrev jX (l : List cC) : DV := encL 2 bO l
theorem mP (O : aU) (q : List ByteArray) (hq : q.length ≤ 1000) : aW Tryz.prog O 194 [dN q] (vb (!u7 q)) := by
 refine aO 0 rfl (.sl _ _ _) fun hl => ?_
 refine dT Tryz.func194 ?_
 refine aB [0] ?_
 refine aA fun K1 hK1 => ?_
 refine aB [0] ?_
 refine aK ?_
 refine aX [0, 6, 7] (fun n ρ => ∃ i, n = q.length - i ∧ (i ≤ q.length) ∧ (j5 (nuT q) i) ∧ ρ = cU O [(0, dN q), (6, vi (q.length : Nat)), (7, vi (i : Nat))]) _ ⟨0, rfl, ?_, ?_, ?_⟩ ?_
 ·exact bD
 ·exact gT _
 ·exact cD
 rintro n ρ ⟨i, rfl, l0_0, l0_1, rfl⟩ K3 hK3
 refine aB [0, 6, 7] ?_
 refine aA fun K5 hK5 => ?_
 refine aS (fun c0 => ?_) fun c0 => ?_
 ·refine aJ ?_
  refine hK5 _ ?_; clear hK5
  refine aA fun K6 hK6 => ?_
  refine aK ?_
  refine aB [0, 6, 7] ?_
  refine aB [0, 3, 6, 7] ?_
  refine aK ?_
  refine aX [0, 6, 7, 3, 10, 11] (fun n ρ => ∃ j, n = i - j ∧ (j ≤ i) ∧ (j5 (fun k => decide (q.getD k default ≠ q.getD i default)) j) ∧ ρ = cU O [(0, dN q), (6, vi (q.length : Nat)), (7, vi (i : Nat)), (3, vi (i : Nat)), (10, vi (i : Nat)), (11, vi (j : Nat))]) _ ⟨0, rfl, ?_, ?_, ?_⟩ ?_
  ·exact bD
  ·exact gT _
  ·exact cD
  rintro n ρ ⟨j, rfl, l1_0, l1_1, rfl⟩ K9 hK9
  refine aB [0, 3, 6, 7, 10, 11] ?_
  refine aA fun K11 hK11 => ?_
  refine aS (fun c1 => ?_) fun c1 => ?_
  ·refine aJ ?_
   refine hK11 _ ?_; clear hK11
   refine aA fun K12 hK12 => ?_
   refine aK ?_
   refine aB [0, 3, 6, 7, 10, 11] ?_
   refine aA fun K14 hK14 => ?_
   refine e5 [0, 3, 4, 6, 7, 10, 11] [] ?_
   refine hK14 _ ?_; clear hK14
   refine aS (fun c2 => ?_) fun c2 => ?_
   ·have c2 : q.getD i default = q.getD j default := aEj.1 c2
    refine aB [] ?_
    refine aL ?_
    refine b6 2 ?_
    refine xb ?_
    ((exact aVo c0 c1 c2))
   have c2 : q.getD j default ≠ q.getD i default := (fun e => by rw [e] at c2; simp at c2)
   refine aJ ?_
   refine hK12 _ ?_; clear hK12
   refine bC [0, 3, 6, 7, 10, 11] ?_
   refine hK9 _ _ ?_ ⟨j + 1, rfl, ?_, ?_, ?_⟩
   ·exact bD
   ·exact bD
   ·exact gN l1_1 (decide_eq_true c2)
   exact cD
  refine bA ?_
  refine hK6 _ ?_; clear hK6
  refine bC [0, 6, 7] ?_
  refine hK3 _ _ ?_ ⟨i + 1, rfl, ?_, ?_, ?_⟩
  ·exact bD
  ·exact bD
  ·exact gN l0_1 (o4 l1_1 c1)
  exact cD
 refine bA ?_
 refine hK1 _ ?_; clear hK1
 refine aB [] ?_
 refine aL ?_
 refine b6 2 ?_
 refine xb ?_
 ((exact aUy l0_1 c0))
theorem wC (O : aU) (q : List Int) (hq : q.length ≤ 1000) : aW Tryz.prog O 199 [b9 q] (vb (!u7 q)) := by
 refine aO 0 rfl (.sl _ _ _) fun hl => ?_
 refine dT Tryz.func199 ?_
 refine aB [0] ?_
 refine aA fun K1 hK1 => ?_
 refine aB [0] ?_
 refine aK ?_
 refine aX [0, 6, 7] (fun n ρ => ∃ i, n = q.length - i ∧ (i ≤ q.length) ∧ (j5 (nuT q) i) ∧ ρ = cU O [(0, b9 q), (6, vi (q.length : Nat)), (7, vi (i : Nat))]) _ ⟨0, rfl, ?_, ?_, ?_⟩ ?_
 ·exact bD
 ·exact gT _
 ·exact cD
 rintro n ρ ⟨i, rfl, l0_0, l0_1, rfl⟩ K3 hK3
 refine aB [0, 6, 7] ?_
 refine aA fun K5 hK5 => ?_
 refine aS (fun c0 => ?_) fun c0 => ?_
 ·refine aJ ?_
  refine hK5 _ ?_; clear hK5
  refine aA fun K6 hK6 => ?_
  refine aK ?_
  refine aB [0, 6, 7] ?_
  refine aB [0, 3, 6, 7] ?_
  refine aK ?_
  refine aX [0, 6, 7, 3, 10, 11] (fun n ρ => ∃ j, n = i - j ∧ (j ≤ i) ∧ (j5 (fun k => decide (q.getD k default ≠ q.getD i default)) j) ∧ ρ = cU O [(0, b9 q), (6, vi (q.length : Nat)), (7, vi (i : Nat)), (3, vi (i : Nat)), (10, vi (i : Nat)), (11, vi (j : Nat))]) _ ⟨0, rfl, ?_, ?_, ?_⟩ ?_
  ·exact bD
  ·exact gT _
  ·exact cD
  rintro n ρ ⟨j, rfl, l1_0, l1_1, rfl⟩ K9 hK9
  refine aB [0, 3, 6, 7, 10, 11] ?_
  refine aA fun K11 hK11 => ?_
  refine aS (fun c1 => ?_) fun c1 => ?_
  ·refine aJ ?_
   refine hK11 _ ?_; clear hK11
   refine aA fun K12 hK12 => ?_
   refine aK ?_
   refine aB [0, 3, 6, 7, 10, 11] ?_
   refine aA fun K14 hK14 => ?_
   refine e5 [0, 3, 4, 6, 7, 10, 11] [] ?_
   refine hK14 _ ?_; clear hK14
   refine aS (fun c2 => ?_) fun c2 => ?_
   ·have c2 : q.getD i default = q.getD j default := c2
    refine aB [] ?_
    refine aL ?_
    refine b6 2 ?_
    refine xb ?_
    ((exact aVo c0 c1 c2))
   have c2 : q.getD j default ≠ q.getD i default := (fun e => by rw [e] at c2; simp at c2)
   refine aJ ?_
   refine hK12 _ ?_; clear hK12
   refine bC [0, 3, 6, 7, 10, 11] ?_
   refine hK9 _ _ ?_ ⟨j + 1, rfl, ?_, ?_, ?_⟩
   ·exact bD
   ·exact bD
   ·exact gN l1_1 (decide_eq_true c2)
   exact cD
  refine bA ?_
  refine hK6 _ ?_; clear hK6
  refine bC [0, 6, 7] ?_
  refine hK3 _ _ ?_ ⟨i + 1, rfl, ?_, ?_, ?_⟩
  ·exact bD
  ·exact bD
  ·exact gN l0_1 (o4 l1_1 c1)
  exact cD
 refine bA ?_
 refine hK1 _ ?_; clear hK1
 refine aB [] ?_
 refine aL ?_
 refine b6 2 ?_
 refine xb ?_
 ((exact aUy l0_1 c0))
theorem sI (O : aU) (q : List cC) (hq : q.length ≤ 1000) : aW Tryz.prog O 198 [jX q] (vb (!u7 q)) := by
 refine aO 0 rfl (.sl _ _ _) fun hl => ?_
 refine dT Tryz.func198 ?_
 refine aB [0] ?_
 refine aA fun K1 hK1 => ?_
 refine aB [0] ?_
 refine aK ?_
 refine aX [0, 6, 7] (fun n ρ => ∃ i, n = q.length - i ∧ (i ≤ q.length) ∧ (j5 (nuT q) i) ∧ ρ = cU O [(0, jX q), (6, vi (q.length : Nat)), (7, vi (i : Nat))]) _ ⟨0, rfl, ?_, ?_, ?_⟩ ?_
 ·exact bD
 ·exact gT _
 ·exact cD
 rintro n ρ ⟨i, rfl, l0_0, l0_1, rfl⟩ K3 hK3
 refine aB [0, 6, 7] ?_
 refine aA fun K5 hK5 => ?_
 refine aS (fun c0 => ?_) fun c0 => ?_
 ·refine aJ ?_
  refine hK5 _ ?_; clear hK5
  refine aA fun K6 hK6 => ?_
  refine aK ?_
  refine aB [0, 6, 7] ?_
  refine aB [0, 3, 6, 7] ?_
  refine aK ?_
  refine aX [0, 6, 7, 3, 10, 11] (fun n ρ => ∃ j, n = i - j ∧ (j ≤ i) ∧ (j5 (fun k => decide (q.getD k default ≠ q.getD i default)) j) ∧ ρ = cU O [(0, jX q), (6, vi (q.length : Nat)), (7, vi (i : Nat)), (3, vi (i : Nat)), (10, vi (i : Nat)), (11, vi (j : Nat))]) _ ⟨0, rfl, ?_, ?_, ?_⟩ ?_
  ·exact bD
  ·exact gT _
  ·exact cD
  rintro n ρ ⟨j, rfl, l1_0, l1_1, rfl⟩ K9 hK9
  refine aB [0, 3, 6, 7, 10, 11] ?_
  refine aA fun K11 hK11 => ?_
  refine aS (fun c1 => ?_) fun c1 => ?_
  ·refine aJ ?_
   refine hK11 _ ?_; clear hK11
   refine aA fun K12 hK12 => ?_
   refine aK ?_
   refine aB [0, 3, 6, 7, 10, 11] ?_
   refine aA fun K14 hK14 => ?_
   refine e5 [0, 3, 4, 6, 7, 10, 11] [] ?_
   refine hK14 _ ?_; clear hK14
   refine aS (fun c2 => ?_) fun c2 => ?_
   ·have c2 : q.getD i default = q.getD j default := (d6 _ _).2 (by simpa using c2)
    refine aB [] ?_
    refine aL ?_
    refine b6 2 ?_
    refine xb ?_
    ((exact aVo c0 c1 c2))
   have c2 : q.getD j default ≠ q.getD i default := (fun e => by rw [e] at c2; simp at c2)
   refine aJ ?_
   refine hK12 _ ?_; clear hK12
   refine bC [0, 3, 6, 7, 10, 11] ?_
   refine hK9 _ _ ?_ ⟨j + 1, rfl, ?_, ?_, ?_⟩
   ·exact bD
   ·exact bD
   ·exact gN l1_1 (decide_eq_true c2)
   exact cD
  refine bA ?_
  refine hK6 _ ?_; clear hK6
  refine bC [0, 6, 7] ?_
  refine hK3 _ _ ?_ ⟨i + 1, rfl, ?_, ?_, ?_⟩
  ·exact bD
  ·exact bD
  ·exact gN l0_1 (o4 l1_1 c1)
  exact cD
 refine bA ?_
 refine hK1 _ ?_; clear hK1
 refine aB [] ?_
 refine aL ?_
 refine b6 2 ?_
 refine xb ?_
 ((exact aUy l0_1 c0))
end Go.Sg
