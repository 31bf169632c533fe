/- Several texts as one. -/
import Derived.Test.YtnpokifaejcbeaaGreatDoorF4
import Derived.DeepKeys4
set_option linter.unusedSectionVars false
set_option linter.unusedVariables false
set_option linter.unusedSimpArgs false
set_option maxRecDepth 20000
namespace Go.Sg
open Go.Proofs
def vM (a lo hi : Int) : Bool := decide (lo ≤ a ∧ a ≤ hi)
def exB (l : aB) (e : cG) : Bool := decide (0 ≤ e.fEl ∧ e.fEl < (l.fElements.length : Int)) && decide (0 ≤ e.fSide ∧ e.fSide < gH (e5 l e.fEl.toNat).fKind)
theorem uA (k : Int) : 0 ≤ gH k ∧ gH k ≤ 4 := by unfold gH; split; omega; split; omega; split <;> omega
def aAs (l : aB) : Bool := decide (1 ≤ l.fElements.length ∧ l.fElements.length ≤ 32 ∧ 1 ≤ l.fSections.length ∧ l.fSections.length ≤ 24 ∧ l.fSignals.length ≤ 20 ∧ l.fBalises.length ≤ 24)
def wJ (l : aB) (x : jD) : Bool := decide ((1 ≤ x.fKind ∧ x.fKind ≤ 3) ∧ (500 ≤ x.fLength ∧ x.fLength ≤ 1000000) ∧ (-50 ≤ x.fGrade ∧ x.fGrade ≤ 50) ∧ (100 ≤ x.fSpeed ∧ x.fSpeed ≤ 10000) ∧ (0 ≤ x.fSection ∧ x.fSection < (l.fSections.length : Int)) ∧ (x.fKind = 2 → 100 ≤ x.fSlow ∧ x.fSlow ≤ x.fSpeed) ∧ (x.fKind ≠ 2 → x.fSlow = 0))
def mH (l : aB) : Bool := l.fElements.all (wJ l)
def aBw (l : aB) : Bool := (List.range l.fSections.length).all fun s => decide ((aRc l (s : Nat)).length ≠ 0)
theorem bX (O : aS) (a lo hi : Int) : aY Tryz.prog O 167 [vi a, vi lo, vi hi] (vb (vM a lo hi)) := by
 refine eE Tryz.func167 ?_
 refine aC [0, 1, 2] ?_
 refine aC [0, 1, 2] ?_
 refine aM ?_
 refine cW 6 ?_
 refine xb ?_
 ((unfold vM; rw [Bool.eq_iff_iff]; simp))
theorem kK (O : aS) (l : aB) (e : cG) (hl : eK l) : aY Tryz.prog O 170 [.agg (aK l), .agg (cE e)] (vb (exB l e)) := by
 have hl1 := hl.sec
 have hl2 := hl.el
 have hl3 := hl.jo
 have hl4 := hl.sg
 have hl5 := hl.bl
 have hsd := uA (e5 l e.fEl.toNat).fKind
 have hsd2 := uA (l.fElements.getD e.fEl.toNat default).fKind
 refine eE Tryz.func170 ?_
 refine aC [0, 1] ?_
 refine aA fun K1 hK1 => ?_
 refine eV [2, 3] [] fH (by kernel_rfl) ?_
 simp (disch := omega) only [go_sem, seval]
 repeat refine And.intro (by first | (intro h; exact ⟨h, by simp only [vM, decide_eq_true_eq] at h; omega⟩) | exact bS) ?_
 refine dJ (bX _ e.fEl 0 (l.fElements.length - 1 : Int)) ?_ ?_
 ·rfl
 try simp (disch := omega) only [go_sem, seval]
 repeat refine And.intro (by first | (intro h; exact ⟨h, by simp only [vM, decide_eq_true_eq] at h; omega⟩) | exact bS) ?_
 refine jB (fun g0 => rD _ (e5 l e.fEl.toNat).fKind) ?_ ?_ ?_
 ·first | exact fun _ => trivial | simp
 ·rfl
 try simp (disch := omega) only [go_sem, seval]
 repeat refine And.intro (by first | (intro h; exact ⟨h, by simp only [vM, decide_eq_true_eq] at h; omega⟩) | exact bS) ?_
 refine jB (fun g1 => bX _ e.fSide 0 (gH (e5 l e.fEl.toNat).fKind - 1)) ?_ ?_ ?_
 ·first | exact fun _ => trivial | simp
 ·rfl
 try simp (disch := omega) only [go_sem, seval]
 repeat refine And.intro (by first | (intro h; exact ⟨h, by simp only [vM, decide_eq_true_eq] at h; omega⟩) | exact bS) ?_
 refine hK1 _ ?_; clear hK1
 refine aM ?_
 refine cW 4 ?_
 refine xb ?_
 ((unfold exB; rw [Bool.eq_iff_iff]; simp only [vM, e5, Bool.and_eq_true, decide_eq_true_eq]; omega))
theorem rC (O : aS) (l : aB) : aY Tryz.prog O 111 [.agg (aK l)] (vb (aAs l)) := by
 refine aU 0 rfl (.agg (d := j9 l.fElements) (by simp [aK]) (.sl _ _ _)) fun he => ?_
 refine aU 0 rfl (.agg (d := jU l.fSignals) (by simp [aK]) (.sl _ _ _)) fun hs => ?_
 refine aU 0 rfl (.agg (d := mB l.fSections) (by simp [aK]) (.sl _ _ _)) fun hc => ?_
 refine aU 0 rfl (.agg (d := aGy l.fBalises) (by simp [aK]) (.sl _ _ _)) fun hb => ?_
 refine eE Tryz.func111 ?_
 refine aC [0] ?_
 refine aA fun K1 hK1 => ?_
 refine bL [1] ?_
 refine eL (bX _ (l.fElements.length : Nat) 1 32) ?_
 refine lB (fun g0 => bX _ (l.fSections.length : Nat) 1 24) ?_
 refine hK1 _ ?_; clear hK1
 refine aM ?_
 refine cW 2 ?_
 refine xb ?_
 ((unfold aAs; rw [Bool.eq_iff_iff]; simp only [vM, Bool.and_eq_true, decide_eq_true_eq]; omega))
theorem o5 (O : aS) (l : aB) (hl : eK l) : aY Tryz.prog O 113 [.agg (aK l)] (vb (mH l)) := by
 have hl1 := hl.sec
 have hl2 := hl.el
 have hl3 := hl.jo
 have hl4 := hl.sg
 have hl5 := hl.bl
 refine aU 0 rfl (.agg (d := j9 l.fElements) (by simp [aK]) (.sl _ _ _)) fun he => ?_
 refine eE Tryz.func113 ?_
 refine aC [0] ?_
 refine aA fun K1 hK1 => ?_
 refine aC [1] ?_
 refine aL ?_
 refine aZ [1, 6, 7, 8] (fun n ρ => ∃ i, n = l.fElements.length - i ∧ (i ≤ l.fElements.length) ∧ (l9 (wJ l) l.fElements i) ∧ ρ = dU O [(1, .bx (aK l)), (6, j9 l.fElements), (7, vi (l.fElements.length : Nat)), (8, vi (i : Nat))]) _ ⟨0, rfl, ?_, ?_, ?_⟩ ?_
 ·exact bI
 ·exact jW _ _
 ·exact dC
 rintro n ρ ⟨i, rfl, l0_0, l0_1, rfl⟩ K3 hK3
 refine aC [1, 5, 6, 7, 8] ?_
 refine aA fun K5 hK5 => ?_
 refine aV (fun c0 => ?_) fun c0 => ?_
 ·refine aJ ?_
  refine hK5 _ ?_; clear hK5
  refine aA fun K6 hK6 => ?_
  refine aL ?_
  refine aC [1, 5, 6, 7, 8] ?_
  refine aA fun K8 hK8 => ?_
  refine aA fun K9 hK9 => ?_
  refine bL [1, 4, 5, 6, 7, 8] ?_
  refine eL (bX _ (l.fElements.getD i default).fKind 1 3) ?_
  refine lB (fun g0 => bX _ (l.fElements.getD i default).fLength 500 1000000) ?_
  refine lB (fun g1 => bX _ (l.fElements.getD i default).fGrade (-50) 50) ?_
  refine lB (fun g2 => bX _ (l.fElements.getD i default).fSpeed 100 10000) ?_
  refine lB (fun g3 => bX _ (l.fElements.getD i default).fSection 0 (l.fSections.length - 1 : Int)) ?_
  refine hK9 _ ?_; clear hK9
  refine aV (fun c1 => ?_) fun c1 => ?_
  ·refine aC [] ?_
   refine aM ?_
   refine cW 2 ?_
   refine xb ?_
   ((symm; exact nR (f := wJ l) c0 (by unfold wJ; rw [decide_eq_false_iff_not]; simp only [vM, Bool.or_eq_true, Bool.not_eq_true', decide_eq_false_iff_not, decide_eq_true_eq, Bool.and_eq_true, bne_iff_ne, beq_iff_eq, ne_eq] at c1; omega)))
  refine aJ ?_
  refine hK8 _ ?_; clear hK8
  refine aA fun K11 hK11 => ?_
  refine bL [1, 4, 5, 6, 7, 8] ?_
  refine lB (fun g4 => bX _ (l.fElements.getD i default).fSlow 100 (l.fElements.getD i default).fSpeed) ?_
  refine hK11 _ ?_; clear hK11
  refine aV (fun c2 => ?_) fun c2 => ?_
  ·refine aC [] ?_
   refine aM ?_
   refine cW 2 ?_
   refine xb ?_
   ((symm; exact nR (f := wJ l) c0 (by unfold wJ; rw [decide_eq_false_iff_not]; simp only [vM, Bool.or_eq_true, Bool.not_eq_true', decide_eq_false_iff_not, decide_eq_true_eq, Bool.and_eq_true, bne_iff_ne, beq_iff_eq, ne_eq] at c1 c2; omega)))
  refine aJ ?_
  refine hK6 _ ?_; clear hK6
  refine bE [1, 5, 6, 7, 8] ?_
  refine hK3 _ _ ?_ ⟨i + 1, rfl, ?_, ?_, ?_⟩
  ·exact bI
  ·exact bI
  ·exact jZ l0_1 (by unfold wJ; rw [decide_eq_true_eq]; simp only [vM, Bool.or_eq_true, Bool.not_eq_true', decide_eq_false_iff_not, decide_eq_true_eq, Bool.and_eq_true, bne_iff_ne, beq_iff_eq, ne_eq] at c1 c2; omega)
  exact dC
 refine bA ?_
 refine hK1 _ ?_; clear hK1
 refine aC [] ?_
 refine aM ?_
 refine cW 2 ?_
 refine xb ?_
 ((symm; exact pX l0_1 c0))
theorem oT (O : aS) (l : aB) (hl : eK l) : aY Tryz.prog O 114 [.agg (aK l)] (vb (aBw l)) := by
 have hl1 := hl.sec
 have hl2 := hl.el
 have hl3 := hl.jo
 have hl4 := hl.sg
 have hl5 := hl.bl
 refine aU 0 rfl (.agg (d := mB l.fSections) (by simp [aK]) (.sl _ _ _)) fun hc => ?_
 refine eE Tryz.func114 ?_
 refine aC [0] ?_
 refine aA fun K1 hK1 => ?_
 refine aC [1] ?_
 refine aL ?_
 refine aZ [1, 6, 7] (fun n ρ => ∃ i, n = l.fSections.length - i ∧ (i ≤ l.fSections.length) ∧ (oO (fun s => decide ((aRc l (s : Nat)).length ≠ 0)) i) ∧ ρ = dU O [(1, .bx (aK l)), (6, vi (l.fSections.length : Nat)), (7, vi (i : Nat))]) _ ⟨0, rfl, ?_, ?_, ?_⟩ ?_
 ·exact bI
 ·exact l4 _
 ·exact dC
 rintro n ρ ⟨i, rfl, l0_0, l0_1, rfl⟩ K3 hK3
 refine aC [1, 6, 7] ?_
 refine aA fun K5 hK5 => ?_
 refine aV (fun c0 => ?_) fun c0 => ?_
 ·refine aJ ?_
  refine hK5 _ ?_; clear hK5
  refine aA fun K6 hK6 => ?_
  refine aL ?_
  refine aC [1, 6, 7] ?_
  refine aA fun K8 hK8 => ?_
  refine bL [1, 3, 6, 7] ?_
  refine eL (uB _ l (i : Nat) hl) ?_
  refine hK8 _ ?_; clear hK8
  refine aV (fun c1 => ?_) fun c1 => ?_
  ·refine aC [] ?_
   refine aM ?_
   refine cW 2 ?_
   refine xb ?_
   ((symm; exact rA c0 (decide_eq_false (by omega))))
  refine aJ ?_
  refine hK6 _ ?_; clear hK6
  refine bE [1, 6, 7] ?_
  refine hK3 _ _ ?_ ⟨i + 1, rfl, ?_, ?_, ?_⟩
  ·exact bI
  ·exact bI
  ·exact mG l0_1 (decide_eq_true (by omega))
  exact dC
 refine bA ?_
 refine hK1 _ ?_; clear hK1
 refine aC [] ?_
 refine aM ?_
 refine cW 2 ?_
 refine xb ?_
 ((symm; exact uO l0_1 c0))
end Go.Sg
namespace Go.Rv
open Go.RowKit Go.Sg
def goodB (P : Program) (k : TypeId) (v : Value) : Bool :=
 match P.underlying k with
 | some .bool => (match v with | .bool _ => true | _ => false)
 | some (.int q) => (match v with | .int q' _ => decide (q' = q) | _ => false)
 | some .string => (match v with | .string _ => true | _ => false)
 | some (.array _ _) => (keyOf P k v).isSome && P.keyTypeAt 8 k && P.tiled 8 k
 | some (.struct _) => (keyOf P k v).isSome && P.keyTypeAt 8 k && P.tiled 8 k
 | _ => false
section
variable {P : Program} {k : TypeId}
structure KeyRun (P : Program) (k : TypeId) : Prop where
 check : ∀ (w : World) (em : Bool) {v : Value}, goodB P k v = true → (Instr.checkKey em 10000 k v).run P w = .ok () w
 find : ∀ (w : World) {x : Value}, goodB P k x = true → ∀ es : List MapEntry, (∀ e ∈ es, goodB P k e.key = true) →
  ((Instr.findKey k x es).run P w = .ok none w ∧ ∀ e ∈ es, e.key ≠ x) ∨ ∃ j e, (Instr.findKey k x es).run P w = .ok (some (j, e.val)) w ∧ es[j]? = some e ∧ e.key = x
 stays : ∀ (w : World) {v : Value}, goodB P k v = true → (Instr.keyThatStays v v).run P w = .ok v w
theorem oM {d : TypeDesc} (hd : P.underlying k = some d) (hg : ∀ v, goodB P k v = true → MapKept.IsKey d v) : KeyRun P k where
 check := fun w em v hv => MapKept.run_checkKey hd (hg v hv) em 9999
 find := fun w x hx es hes => by
  rcases MapKept.findNow_spec (hg x hx) es 0 (fun e he => hg _ (hes e he)) with ⟨h1, h2⟩ | ⟨j, e, h1, h2, h3⟩
  ·exact .inl ⟨MapKept.run_findKey hd h1, h2⟩
  exact .inr ⟨j, e, by rw [MapKept.run_findKey hd h1, Nat.zero_add], h2, h3⟩
 stays := fun w v hv => MapKept.run_keyThatStays (hg v hv)
theorem wB (hw : (match P.underlying k with | some (.array _ _) | some (.struct _) => true | _ => false) = true) (hk : P.keyTypeAt 8 k = true) (ht : P.tiled 8 k = true)
  (hg : ∀ v, goodB P k v = true → ∃ l, keyOf P k v = some l) : KeyRun P k where
 check := fun w em v hv => by obtain ⟨l, hl⟩ := hg v hv; exact (deep_law (m := 8) (by omega) hk ht hw).check w em hl
 find := fun w x hx es hes => by
  obtain ⟨l, hl⟩ := hg x hx
  exact (deep_law (m := 8) (by omega) hk ht hw).find w hl es fun e he => hg _ (hes e he)
 stays := fun w v hv => by obtain ⟨l, hl⟩ := hg v hv; exact (deep_law (m := 8) (by omega) hk ht hw).stays w hl
theorem keyRun_of {v : Value} (h : goodB P k v = true) : KeyRun P k := by
 cases hu : P.underlying k with
 | none => simp [goodB, hu] at h
 | some d =>
  cases d with
  | bool => exact oM hu fun v hv => by cases v <;> simp [goodB, hu] at hv <;> trivial
  | int q => exact oM hu fun v hv => by cases v <;> simp [goodB, hu] at hv; exact hv
  | string => exact oM hu fun v hv => by cases v <;> simp [goodB, hu] at hv <;> trivial
  | array n e =>
   simp [goodB, hu] at h
   exact wB (by simp [hu]) h.1.2 h.2 fun v hv => by simp [goodB, hu] at hv; exact Option.isSome_iff_exists.1 hv.1.1
  | struct fs =>
   simp [goodB, hu] at h
   exact wB (by simp [hu]) h.1.2 h.2 fun v hv => by simp [goodB, hu] at hv; exact Option.isSome_iff_exists.1 hv.1.1
  | _ => simp [goodB, hu] at h
end
end Go.Rv
namespace Go.Sg
open Go.RowKit
open Go.Rv (goodB KeyRun keyRun_of)
section
variable {P : Program} {nt : Nat} {ρ : aS} {ops : Array Oper}
theorem aOg {es : List (Value × Value)} {vs : List MapEntry} (q3 : vs.map (fun (m : MapEntry) => (m.key, m.val)) = es) {j : Nat} {m : MapEntry} (f2 : vs[j]? = some m) : es = es.take j ++ (m.key, m.val) :: es.drop (j + 1) := by
 subst q3
 have hj : j < vs.length := by
  rcases Nat.lt_or_ge j vs.length with h | h
  ·exact h
  rw [List.getElem?_eq_none h] at f2; cases f2
 have hj2 : (vs.map (fun (m : MapEntry) => (m.key, m.val)))[j]? = some (m.key, m.val) := by rw [List.getElem?_map, f2]; rfl
 have hlt : j < (vs.map (fun (m : MapEntry) => (m.key, m.val))).length := by simp [hj]
 rw [List.getElem?_eq_getElem hlt] at hj2
 have := List.take_append_drop j (vs.map (fun (m : MapEntry) => (m.key, m.val)))
 rw [List.drop_eq_getElem_cons hlt, Option.some.inj hj2] at this
 exact this.symm
end
end Go.Sg
namespace Go.Sg
open Go.RowKit
open Go.Rv (KeyRun keyRun_of goodB)
theorem bFa {w : World} {I : Nat → Prop} {A : cO} {d : DV} {v : Value} (ok : Bool) (h : bH w I A d v) (b : Bool) : bH w I A (bif ok then .tup [d, .v (.bool b)] else d) (bif ok then .tuple #[v, .bool b] else v) := by
 cases ok with
 | false => exact h
 | true =>
  refine .tup A _ _ rfl fun j d' u hd hu => ?_
  match j with
  | 0 => simp at hd hu; subst hd; subst hu; exact h
  | 1 => simp at hd hu; subst hd; subst hu; exact .v A _
  | j + 2 => simp at hd
section
variable {P : Program} {nt : Nat} {ρ : aS} {ops : Array Oper}
theorem aJl {o : Oper} {K : aS → Prop} {t : TypeId} {x k : Operand} {s : Nat} {kt e : TypeId} {i : TypeInfo} {z kv : Value} {ok : Bool} {es : List (Value × Value)} (hop : o.op = .lookup t x k ok) (hg : o.guard = none) (ho : dA nt o = true) (hd : eO nt o = true)
  (hx : ev ρ x = .mr s) (hes : ρ s = .mo es) (hk : gd (ev ρ k)) (hkv : ∀ w I A v, bH w I A (un (ev ρ k)) v → v = kv) (u1 : P.underlying t = some (.map kt e)) (u3 : P.info? e = some i) (u4 : i.zero = some z)
  (hgk : goodB P kt kv = true) (hges : ∀ e ∈ es, goodB P kt e.1 = true)
  {dz : DV} (hz : ∀ w I A, bH w I A dz z) (hN : (∀ e ∈ es, e.1 ≠ kv) → K (bZ ρ o.dst (bif ok then .tup [dz, .v (.bool false)] else dz))) (hS : ∀ es1 v es2, es = es1 ++ (kv, v) :: es2 → ∃ dv, (∀ w I A, bH w I A dv v) ∧ K (bZ ρ o.dst (bif ok then .tup [dv, .v (.bool true)] else dv))) : OW P nt ops o K ρ := by
 refine eZ hg fun I A a w hs => ?_
 have hxr := hs.opd x (bF ho (by simp [hop, Op.operands])) (by rw [hx]; trivial)
 have hkr := hkv _ _ _ _ (hs.opd k (bF ho (by simp [hop, Op.operands])) hk)
 rw [hx] at hxr
 have hxr : bH w I A (.mr s) (a.eval x) := hxr
 generalize hav : a.eval x = av at *
 cases hxr with
 | mr _ _ g c hA =>
  have hown := hs.osim.own s
  rw [hes] at hown
  obtain ⟨g', c', vs, cl, q1, q2, q3⟩ := hown
  rw [hA] at q1
  simp only [Option.some.injEq, Prod.mk.injEq] at q1
  obtain ⟨rfl, rfl⟩ := q1
  have kr : KeyRun P kt := keyRun_of hgk
  have hvs : ∀ e ∈ vs, goodB P kt e.key = true := fun m hm => hges (m.key, m.val) (by rw [← q3]; exact List.mem_map.2 ⟨m, hm, rfl⟩)
  have hck := kr.check w (vs.toArray.isEmpty) hgk
  rcases kr.find w hgk vs hvs with ⟨f1, f2⟩ | ⟨j, m, f1, f2, f3⟩
  ·refine ⟨bif ok then .tuple #[z, .bool false] else z, w, I, A, _, ?_, hs.putV hd (bFa ok (hz w I A) false), eA.refl _ _ _, hN fun e he => ?_⟩
   ·simp only [execOp, hop, hav, hkr, Instr.lookup, Sem.run_bind, run_underlying u1, MapKept.run_getObj_map q2, Result.andThen_ok, Sem.run_pure, hck]
    cases ok <;> simp [f1, zeroValue, typeInfo, u3, u4]
   rw [← q3] at he
   obtain ⟨m, hm, rfl⟩ := List.mem_map.1 he
   exact f2 m hm
  have hsp : es = es.take j ++ (kv, m.val) :: es.drop (j + 1) := by
   rw [← q3, ← f3]
   have hj : j < vs.length := by
    rcases Nat.lt_or_ge j vs.length with h | h
    ·exact h
    rw [List.getElem?_eq_none h] at f2; cases f2
   have hj2 : (vs.map (fun (m : MapEntry) => (m.key, m.val)))[j]? = some (m.key, m.val) := by rw [List.getElem?_map, f2]; rfl
   have hlt : j < (vs.map (fun (m : MapEntry) => (m.key, m.val))).length := by simp [hj]
   rw [List.getElem?_eq_getElem hlt] at hj2
   have := List.take_append_drop j (vs.map (fun (m : MapEntry) => (m.key, m.val)))
   rw [List.drop_eq_getElem_cons hlt, Option.some.inj hj2] at this
   exact this.symm
  obtain ⟨dv, hdv, hKv⟩ := hS _ _ _ hsp
  refine ⟨bif ok then .tuple #[m.val, .bool true] else m.val, w, I, A, _, ?_, hs.putV hd (bFa ok (hdv w I A) true), eA.refl _ _ _, hKv⟩
  simp only [execOp, hop, hav, hkr, Instr.lookup, Sem.run_bind, run_underlying u1, MapKept.run_getObj_map q2, Result.andThen_ok, Sem.run_pure, hck]
  cases ok <;> simp [f1]
theorem aKz {o : Oper} {K : aS → Prop} {t : TypeId} {x k y : Operand} {s : Nat} {kt e : TypeId} {kv v : Value} {es : List (Value × Value)} (hop : o.op = .mapUpdate t x k y ∨ o.op = .insert t x k y) (hg : o.guard = none) (hdst : o.dst = none) (ho : dA nt o = true)
  (hx : ev ρ x = .mr s) (hes : ρ s = .mo es) (hk : gd (ev ρ k)) (hkv : ∀ w I A v, bH w I A (un (ev ρ k)) v → v = kv) (hyg : gd (ev ρ y)) (hy : ∀ w I A u, bH w I A (un (ev ρ y)) u → u = v) (u1 : P.underlying t = some (.map kt e))
  (hgk : goodB P kt kv = true) (hges : ∀ e ∈ es, goodB P kt e.1 = true)
  (hN : (∀ e ∈ es, e.1 ≠ kv) → K (set ρ s (.mo (es ++ [(kv, v)])))) (hS : ∀ es1 u es2, es = es1 ++ (kv, u) :: es2 → K (set ρ s (.mo (es1 ++ (kv, v) :: es2)))) : OW P nt ops o K ρ := by
 refine xN hg fun I A a w hs => ?_
 have hmem : ∀ q, q = x ∨ q = k ∨ q = y → q ∈ o.op.operands := fun q hq => by rcases hop with h | h <;> rw [h] <;> simp [Op.operands] <;> rcases hq with rfl | rfl | rfl <;> simp
 have hxr := hs.opd x (bF ho (hmem x (.inl rfl))) (by rw [hx]; trivial)
 have hkr := hkv _ _ _ _ (hs.opd k (bF ho (hmem k (.inr (.inl rfl)))) hk)
 have hyr := hy _ _ _ _ (hs.opd y (bF ho (hmem y (.inr (.inr rfl)))) hyg)
 rw [hx] at hxr
 have hxr : bH w I A (.mr s) (a.eval x) := hxr
 generalize hav : a.eval x = av at *
 have hyv := hyr
 cases hxr with
 | mr _ _ g c hA =>
  have hown := hs.osim.own s
  rw [hes] at hown
  obtain ⟨g', c', vs, cl, q1, q2, q3⟩ := hown
  rw [hA] at q1
  simp only [Option.some.injEq, Prod.mk.injEq] at q1
  obtain ⟨rfl, rfl⟩ := q1
  have kr : KeyRun P kt := keyRun_of hgk
  have hvs : ∀ e ∈ vs, goodB P kt e.key = true := fun m hm => hges (m.key, m.val) (by rw [← q3]; exact List.mem_map.2 ⟨m, hm, rfl⟩)
  have hck := kr.check w false hgk
  have hst := kr.stays w hgk
  rcases kr.find w hgk vs hvs with ⟨f1, f2⟩ | ⟨j, m, f1, f2, f3⟩
  ·have hset := MapKept.heap_set (o' := .map (vs ++ [({ key := kv, val := v, born := cl } : MapEntry)]).toArray (cl + 1)) q2
   refine ⟨{ w with heap := w.heap.setIfInBounds g (.map (vs ++ [({ key := kv, val := v, born := cl } : MapEntry)]).toArray (cl + 1)) }, I, A, _, ?_, ?_, eA.turnO hA hset.2 (by simp) rfl ⟨rfl, Nat.le_refl _⟩ rfl, hN fun e he => ?_⟩
   ·rcases hop with h | h <;> simp [execOp, h, hav, hkr, hyv, Instr.mapUpdate, run_underlying u1, MapKept.run_getObj_map q2, hck, f1, MapKept.run_setObj_map _ q2]
   ·rw [hdst]
    refine hs.turnO hA hset.2 (by simp) (fun x' hx' => ?_) ⟨g, c, _, _, hA, hset.1, by rw [List.map_append, q3]; rfl⟩ fun _ => rfl
    rw [hes] at hx'; exact hx'
   rw [← q3] at he
   obtain ⟨m, hm, rfl⟩ := List.mem_map.1 he
   exact f2 m hm
  have hspl := aOg q3 f2
  rw [f3] at hspl
  have hjl : j < vs.length := by
   rcases Nat.lt_or_ge j vs.length with h | h
   ·exact h
   rw [List.getElem?_eq_none h] at f2; cases f2
  have hset := MapKept.heap_set (o' := .map (vs.toArray.modify j fun e => { e with key := kv, val := v }) cl) q2
  refine ⟨{ w with heap := w.heap.setIfInBounds g (.map (vs.toArray.modify j fun e => { e with key := kv, val := v }) cl) }, I, A, _, ?_, ?_, eA.turnO hA hset.2 (by simp) rfl ⟨rfl, Nat.le_refl _⟩ rfl, hS _ _ _ hspl⟩
  ·have hkey : ((vs.toArray[j]?).map (·.key)).getD kv = kv := by simp [f2, f3]
   rcases hop with h | h <;> simp [execOp, h, hav, hkr, hyv, Instr.mapUpdate, run_underlying u1, MapKept.run_getObj_map q2, hck, f1, f2, f3, hst, MapKept.run_setObj_map _ q2]
  rw [hdst]
  refine hs.turnO hA hset.2 (by simp) (fun x' hx' => ?_) ⟨g, c, (vs.modify j fun e => { e with key := kv, val := v }), cl, hA, by rw [hset.1]; congr 2; simp, ?_⟩ fun _ => rfl
  ·rw [hes] at hx'; exact hx'
  apply List.ext_getElem?
  intro q
  rw [List.getElem?_map, List.getElem?_modify]
  have hq : es[q]? = (vs[q]?).map fun (m : MapEntry) => (m.key, m.val) := by rw [← q3, List.getElem?_map]
  have hjes : j ≤ es.length := by rw [← q3]; simp; omega
  rcases Nat.lt_trichotomy q j with h1 | h1 | h1
  ·rw [List.getElem?_append_left (by rw [List.length_take]; omega), List.getElem?_take, if_pos h1, hq]
   cases vs[q]? with
   | none => rfl
   | some m' => simp [show j ≠ q by omega]
  ·subst h1
   rw [List.getElem?_append_right (by rw [List.length_take]; omega), List.length_take, Nat.min_eq_left hjes, Nat.sub_self, List.getElem?_cons_zero, f2]
   simp
  rw [List.getElem?_append_right (by rw [List.length_take]; omega), List.length_take, Nat.min_eq_left hjes]
  obtain ⟨r, hr⟩ : ∃ r, q - j = r + 1 := ⟨q - j - 1, by omega⟩
  rw [hr, List.getElem?_cons_succ, List.getElem?_drop, show j + 1 + r = q by omega, hq]
  cases vs[q]? with
  | none => rfl
  | some m' => simp [show j ≠ q by omega]
structure KE (α : Type) where
 val : α → Value
 dv : α → DV
 inj : ∀ a b, val a = val b → a = b
 to : ∀ a w I A v, bH w I A (dv a) v → v = val a
 of : ∀ a w I A, bH w I A (dv a) (val a)
variable {α β : Type}
def esT (k : KE α) (v : KE β) (M : List (α × β)) : List (Value × Value) := M.map fun p => (k.val p.1, v.val p.2)
theorem vG {k : KE α} {v : KE β} : ∀ {M : List (α × β)} {es1 es2 : List (Value × Value)} {a : α} {u : Value}, esT k v M = es1 ++ (k.val a, u) :: es2 → ∃ M1 b M2, M = M1 ++ (a, b) :: M2 ∧ es1 = esT k v M1 ∧ u = v.val b ∧ es2 = esT k v M2
 | [], [], _, _, _, h => by cases h
 | [], _ :: _, _, _, _, h => by cases h
 | p :: M, [], es2, a, u, h => by
  simp only [esT, List.map_cons, List.nil_append, List.cons.injEq, Prod.mk.injEq] at h
  obtain ⟨⟨h1, h2⟩, h3⟩ := h
  have := k.inj _ _ h1
  subst this
  exact ⟨[], p.2, M, rfl, rfl, h2.symm, h3.symm⟩
 | p :: M, e :: es1, es2, a, u, h => by
  simp only [esT, List.map_cons, List.cons_append, List.cons.injEq] at h
  obtain ⟨M1, b, M2, rfl, h2, h3, h4⟩ := vG (k := k) (v := v) h.2
  exact ⟨p :: M1, b, M2, rfl, by rw [h2, ← h.1]; rfl, h3, h4⟩
theorem sH {M1 M2 : List (α × β)} {a : α} {b : β} (h : ((M1 ++ (a, b) :: M2).map (·.1)).Nodup) : ∀ p ∈ M1, p.1 ≠ a := fun p hp e => by
 rw [List.map_append, List.nodup_append] at h
 exact h.2.2 p.1 (List.mem_map.2 ⟨p, hp, rfl⟩) a (by simp) e
variable [DecidableEq α]
def fM : List (α × β) → α → Option β
 | [], _ => none
 | p :: M, a => if p.1 = a then some p.2 else fM M a
def lC : List (α × β) → α → β → List (α × β)
 | [], a, b => [(a, b)]
 | p :: M, a, b => if p.1 = a then (a, b) :: M else p :: lC M a b
theorem aNz {M : List (α × β)} {a : α} (h : ∀ p ∈ M, p.1 ≠ a) : fM M a = none := by
 induction M with
 | nil => rfl
 | cons p M ih => rw [fM, if_neg (h p (by simp)), ih fun q hq => h q (by simp [hq])]
theorem aKs {M1 M2 : List (α × β)} {a : α} {b : β} (h : ∀ p ∈ M1, p.1 ≠ a) : fM (M1 ++ (a, b) :: M2) a = some b := by
 induction M1 with
 | nil => rw [List.nil_append, fM, if_pos rfl]
 | cons p M ih => rw [List.cons_append, fM, if_neg (h p (by simp)), ih fun q hq => h q (by simp [hq])]
theorem nM {M : List (α × β)} {a : α} {b : β} (h : ∀ p ∈ M, p.1 ≠ a) : lC M a b = M ++ [(a, b)] := by
 induction M with
 | nil => rfl
 | cons p M ih => rw [lC, if_neg (h p (by simp)), ih fun q hq => h q (by simp [hq])]; rfl
theorem yQ {M1 M2 : List (α × β)} {a : α} {b c : β} (h : ∀ p ∈ M1, p.1 ≠ a) : lC (M1 ++ (a, c) :: M2) a b = M1 ++ (a, b) :: M2 := by
 induction M1 with
 | nil => rw [List.nil_append, lC, if_pos rfl, List.nil_append]
 | cons p M ih => rw [List.cons_append, lC, if_neg (h p (by simp)), ih fun q hq => h q (by simp [hq])]; rfl
theorem l5 (k : KE α) (v : KE β) {K : aS → Prop} {o : Oper} {t : TypeId} {x kk : Operand} {s : Nat} {kt e : TypeId} {i : TypeInfo} {ok : Bool} {M : List (α × β)} {a : α} {zb : β} (hop : o.op = .lookup t x kk ok) (hg : o.guard = none) (ho : dA nt o = true) (hd : eO nt o = true)
  (hx : ev ρ x = .mr s) (hes : ρ s = .mo (esT k v M)) (hk : ev ρ kk = k.dv a) (hkg : gd (k.dv a)) (hku : un (k.dv a) = k.dv a) (u1 : P.underlying t = some (.map kt e)) (u3 : P.info? e = some i) (u4 : i.zero = some (v.val zb))
  (hga : goodB P kt (k.val a) = true) (hgM : ∀ p ∈ M, goodB P kt (k.val p.1) = true) (hnd : (M.map (·.1)).Nodup)
  (hK : K (bZ ρ o.dst (bif ok then .tup [v.dv ((fM M a).getD zb), .v (.bool (fM M a).isSome)] else v.dv ((fM M a).getD zb)))) : OW P nt ops o K ρ := by
 refine aJl hop hg ho hd hx hes (by rw [hk]; exact hkg) (fun w I A u hr => k.to a w I A u (by rw [hk, hku] at hr; exact hr)) u1 u3 u4 hga (fun e he => ?_) (v.of zb) (fun hN => ?_) fun es1 u es2 hs => ?_
 ·obtain ⟨p, hp, rfl⟩ := List.mem_map.1 he
  exact hgM p hp
 ·rw [aNz fun p hp e => hN _ (List.mem_map.2 ⟨p, hp, rfl⟩) (by rw [e])] at hK
  exact hK
 obtain ⟨M1, b, M2, rfl, _, rfl, _⟩ := vG hs
 rw [aKs (sH hnd)] at hK
 exact ⟨v.dv b, v.of b, hK⟩
theorem s3 (k : KE α) (v : KE β) {K : aS → Prop} {o : Oper} {t : TypeId} {x kk y : Operand} {s : Nat} {kt e : TypeId} {M : List (α × β)} {a : α} {b : β} (hop : o.op = .mapUpdate t x kk y ∨ o.op = .insert t x kk y) (hg : o.guard = none) (hdst : o.dst = none) (ho : dA nt o = true)
  (hx : ev ρ x = .mr s) (hes : ρ s = .mo (esT k v M)) (hk : ev ρ kk = k.dv a) (hkg : gd (k.dv a)) (hku : un (k.dv a) = k.dv a) (hy : ev ρ y = v.dv b) (hyg : gd (v.dv b)) (hyu : un (v.dv b) = v.dv b) (u1 : P.underlying t = some (.map kt e))
  (hga : goodB P kt (k.val a) = true) (hgM : ∀ p ∈ M, goodB P kt (k.val p.1) = true) (hnd : (M.map (·.1)).Nodup) (hK : K (set ρ s (.mo (esT k v (lC M a b))))) : OW P nt ops o K ρ := by
 refine aKz hop hg hdst ho hx hes (by rw [hk]; exact hkg) (fun w I A u hr => k.to a w I A u (by rw [hk, hku] at hr; exact hr)) (by rw [hy]; exact hyg) (fun w I A u hr => v.to b w I A u (by rw [hy, hyu] at hr; exact hr)) u1 hga (fun e he => ?_) (fun hN => ?_) fun es1 u es2 hs => ?_
 ·obtain ⟨p, hp, rfl⟩ := List.mem_map.1 he
  exact hgM p hp
 ·rw [nM fun p hp e => hN _ (List.mem_map.2 ⟨p, hp, rfl⟩) (by rw [e])] at hK
  unfold esT at hK
  rw [List.map_append] at hK
  exact hK
 obtain ⟨M1, c, M2, rfl, rfl, rfl, rfl⟩ := vG hs
 rw [yQ (sH hnd)] at hK
 unfold esT at hK
 rw [List.map_append] at hK
 exact hK
theorem uT {M : List (α × β)} {a : α} {b : β} (h : (M.map (·.1)).Nodup) : ((lC M a b).map (·.1)).Nodup := by
 by_cases hx : ∀ p ∈ M, p.1 ≠ a
 ·rw [nM hx, List.map_append, List.nodup_append]
  refine ⟨h, by simp, fun x hx' y hy e => ?_⟩
  obtain ⟨p, hp, rfl⟩ := List.mem_map.1 hx'
  simp at hy
  exact hx p hp (e.trans hy)
 simp only [ne_eq, Classical.not_forall, Classical.not_not] at hx
 obtain ⟨p, hp, rfl⟩ := hx
 obtain ⟨M1, M2, rfl⟩ := List.append_of_mem hp
 have : ∀ q ∈ M1, q.1 ≠ p.1 := sH (b := p.2) h
 rw [show M1 ++ p :: M2 = M1 ++ (p.1, p.2) :: M2 from rfl, yQ this]
 simpa using h
theorem aBs {M : List (α × β)} {a c : α} {b : β} : fM (lC M a b) c = if c = a then some b else fM M c := by
 induction M with
 | nil =>
  show (if a = c then some b else none) = if c = a then some b else none
  by_cases e : c = a
  ·subst e; rw [if_pos rfl]
  rw [if_neg (Ne.symm e), if_neg e]
 | cons p M ih =>
  unfold lC
  split
  ·rename_i h
   unfold fM
   by_cases e : c = a
   ·subst e; rw [if_pos rfl, if_pos rfl]
   rw [if_neg (Ne.symm e), if_neg e, if_neg (by rw [h]; exact Ne.symm e)]
  rename_i h
  unfold fM
  by_cases e : p.1 = c
  ·subst e; rw [if_pos rfl, if_neg h, if_pos rfl]
  rw [if_neg e, if_neg e, ih]
theorem pM {M : List (α × β)} {a : α} : (fM M a).isSome = true ↔ ∃ p ∈ M, p.1 = a := by
 induction M with
 | nil => simp [fM]
 | cons p M ih =>
  unfold fM
  split
  ·rename_i h; simp [h]
  rename_i h; rw [ih]; simp [h]
def x9 : KE ByteArray := ⟨fun s => .string s, fun s => .v (.string s), fun _ _ h => by cases h; rfl, fun a w I A v h => (by cases h; rfl), fun a w I A => .v A _⟩
def mP : KE Int := ⟨fun n => .int .i64 n, fun n => .v (.int .i64 n), fun _ _ h => by cases h; rfl, fun a w I A v h => (by cases h; rfl), fun a w I A => .v A _⟩
def pL : KE Bool := ⟨fun b => .bool b, fun b => .v (.bool b), fun _ _ h => by cases h; rfl, fun a w I A v h => (by cases h; rfl), fun a w I A => .v A _⟩
end
end Go.Sg
namespace Go.Sg
open Go.Proofs
def nuS (n : List ByteArray) (i : Nat) : Bool := (List.range i).all fun k => decide (n.getD k default ≠ n.getD i default)
def ndS (n : List ByteArray) : Bool := (List.range n.length).all (nuS n)
def uM (l : aB) : Bool := (cF l).all fun n => n.all jV
def ndB (l : aB) : Bool := (cF l).all ndS
def nmI (l : aB) : Int := if uM l = true then (if ndB l = true then 0 else 8) else 3
abbrev aHg (ls : List (List ByteArray)) : DV := encL 1 (fun x => [mB x]) ls
abbrev aKg (l : List ByteArray) : DV := rowL 9 1 eS l
theorem bOz {α : Type} [Inhabited α] (f : α → ByteArray) (a : List α) {i : Nat} (h : i < a.length) : (a.map f).take (i + 1) = (a.map f).take i ++ [f (a.getD i default)] := by
 rw [List.take_succ_eq_append_getElem (by simpa using h), List.getElem_map, List.getD_eq_getElem?_getD, List.getElem?_eq_getElem h]; rfl
theorem bKg (l : aB) {i : Nat} (h : i < l.fElements.length) : (xZ l).take (i + 1) = (xZ l).take i ++ [(l.fElements.getD i default).fName] := bOz _ _ h
theorem bMt (l : aB) {i : Nat} (h : i < l.fSignals.length) : (qR l).take (i + 1) = (qR l).take i ++ [(l.fSignals.getD i default).fName] := bOz _ _ h
theorem aGu (l : aB) : (xZ l).length = l.fElements.length := by unfold xZ; simp
theorem aHf (l : aB) : (qR l).length = l.fSignals.length := by unfold qR; simp
theorem bIs (l : aB) {i : Nat} (h : l.fElements.length ≤ i) : (xZ l).take i = xZ l := List.take_of_length_le (by rw [aGu]; exact h)
theorem bFu (l : aB) {i : Nat} (h : l.fSignals.length ≤ i) : (qR l).take i = qR l := List.take_of_length_le (by rw [aHf]; exact h)
theorem aTz (n : ByteArray) (a b c : List ByteArray) : dI (.sl 1 4 fun i => [[.sl 1 1 fun i => [[vs n]].getD i []], [mB a], [mB b], [mB c]].getD i []) (aHg [[n], a, b, c]) := by
 refine dI.slW fun i hi => ?_
 match i, hi with
 | 0, _ => exact .cons (dI.litL [n] rfl rfl) .nil
 | 1, _ => exact .cons (dI.refl _) .nil
 | 2, _ => exact .cons (dI.refl _) .nil
 | 3, _ => exact .cons (dI.refl _) .nil
def yU (n : List ByteArray) (i : Nat) : List (Value × Value) := (List.range i).map fun k => (.string (n.getD k default), .bool true)
theorem bFc (n : List ByteArray) (i : Nat) : yU n i ++ [(.string (n.getD i default), .bool true)] = yU n (i + 1) := by
 unfold yU; rw [List.range_succ, List.map_append]; rfl
theorem sR {n : List ByteArray} {i : Nat} {e : Value × Value} (h : e ∈ yU n i) : ∃ k, k < i ∧ e = (.string (n.getD k default), .bool true) := by
 unfold yU at h
 obtain ⟨k, hk, rfl⟩ := List.mem_map.1 h
 exact ⟨k, List.mem_range.1 hk, rfl⟩
theorem aTp {n : List ByteArray} {i k : Nat} (h : nuS n i = true) (hk : k < i) : n.getD k default ≠ n.getD i default := of_decide_eq_true (aGf h hk)
theorem aGa {n : List ByteArray} : ∀ {i : Nat}, oO (nuS n) i → aWa (yU n i)
 | 0, _ => ⟨fun e he => (by obtain ⟨k, hk, _⟩ := sR he; omega), List.nodup_nil⟩
 | i + 1, h => by
  obtain ⟨h1, h2⟩ := aGa (i := i) fun j hj => h j (by omega)
  refine ⟨fun e he => ?_, ?_⟩
  ·obtain ⟨k, hk, rfl⟩ := sR he; rfl
  rw [← bFc, List.map_append, List.nodup_append]
  refine ⟨h2, by simp, fun a ha b hb => ?_⟩
  obtain ⟨e, he, rfl⟩ := List.mem_map.1 ha
  obtain ⟨k, hk, rfl⟩ := sR he
  simp only [List.map_cons, List.map_nil, List.mem_singleton] at hb
  subst hb
  intro e
  simp only [Value.string.injEq] at e
  exact aTp (h i (by omega)) hk e
theorem aMo {n : List ByteArray} {i : Nat} (h : nuS n i = true) : bKz (yU n i) (n.getD i default) :=
 ⟨fun e he => (by obtain ⟨k, hk, rfl⟩ := sR he; rfl), fun e he => by
  obtain ⟨k, hk, rfl⟩ := sR he
  intro e
  simp only [Value.string.injEq] at e
  exact aTp h hk e⟩
theorem aZb {n : List ByteArray} {i : Nat} (h : aWa (yU n i)) : aHy (yU n i) (n.getD i default) (.bool false) = .bool (!nuS n i) := by
 cases hq : nuS n i with
 | true => exact uC (aMo hq).2
 | false =>
  have : ∃ k, k < i ∧ n.getD k default = n.getD i default := by
   apply Classical.byContradiction
   intro hno
   rw [← Bool.not_eq_true] at hq
   refine hq ?_
   unfold nuS
   rw [List.all_eq_true]
   intro k hk
   exact decide_eq_true fun e => hno ⟨k, List.mem_range.1 hk, e⟩
  obtain ⟨k, hk, e⟩ := this
  refine uI h.2 ?_
  unfold yU
  exact List.mem_map.2 ⟨k, List.mem_range.2 hk, by rw [e]; rfl⟩
theorem nm3 {l : aB} {i j : Nat} (hi : i < (cF l).length) (hj : j < ((cF l).getD i default).length) (h : jV (((cF l).getD i default).getD j default) = false) : nmI l = 3 := by
 unfold nmI
 have : uM l = false := by
  show (cF l).all (fun n => n.all jV) = false
  exact nR (f := fun n => n.all jV) hi (nR (f := jV) hj h)
 rw [this, if_neg (by simp)]
theorem nm8 {l : aB} {i j : Nat} (h0 : uM l = true) (hi : i < (cF l).length) (hj : j < ((cF l).getD i default).length) (h : nuS ((cF l).getD i default) j = false) : nmI l = 8 := by
 unfold nmI
 have : ndB l = false := by
  show (cF l).all ndS = false
  exact nR (f := ndS) hi (rA hj h)
 rw [if_pos h0, this, if_neg (by simp)]
theorem nm0 {l : aB} (h0 : uM l = true) (h : ndB l = true) : nmI l = 0 := by unfold nmI; rw [if_pos h0, if_pos h]
theorem pR (O : aS) (l : aB) (hl : eK l) : aY Tryz.prog O 112 [.agg (aK l)] (vi (nmI l)) := by
 have hl1 := hl.sec
 have hl2 := hl.el
 have hl3 := hl.jo
 have hl4 := hl.sg
 have hl5 := hl.bl
 have hn4 : (cF l).length = 4 := rfl
 have hns := fun (i : Nat) (hi : i < (cF l).length) => (show ((cF l).getD i default).length ≤ 60 by
   have := dR (l := cF l) hi
   unfold cF at this ⊢
   simp only [List.mem_cons, List.not_mem_nil, or_false] at this
   rcases this with h | h | h | h <;> rw [h] <;> first | (rw [aGu]; omega) | (rw [aHf]; omega) | omega | (simp; done))
 refine aU 0 rfl (.agg (d := j9 l.fElements) (by simp [aK]) (.sl _ _ _)) fun he => ?_
 refine aU 0 rfl (.agg (d := jU l.fSignals) (by simp [aK]) (.sl _ _ _)) fun hs => ?_
 refine aU 0 rfl (.agg (d := mB l.fSections) (by simp [aK]) (.sl _ _ _)) fun hc => ?_
 refine eE Tryz.func112 ?_
 refine aC [0] ?_
 refine aC [1] ?_
 refine aA fun K2 hK2 => ?_
 refine aC [1, 3] ?_
 refine aL ?_
 refine aZ [1, 3, 24, 25, 26] (fun n ρ => ∃ i, n = l.fElements.length - i ∧ (i ≤ l.fElements.length) ∧ ρ = dU O [(1, .bx (aK l)), (3, aKg ((xZ l).take i)), (24, j9 l.fElements), (25, vi (l.fElements.length : Nat)), (26, vi (i : Nat))]) _ ⟨0, rfl, ?_, ?_⟩ ?_
 ·exact bI
 ·exact dC
 rintro n ρ ⟨i, rfl, l0_0, rfl⟩ K4 hK4
 have htl : ((xZ l).take i).length ≤ i := by rw [List.length_take]; omega
 refine aC [1, 3, 23, 24, 25, 26] ?_
 refine aA fun K6 hK6 => ?_
 refine aV (fun c0 => ?_) fun c0 => ?_
 ·refine aJ ?_
  refine hK6 _ ?_; clear hK6
  refine aA fun K7 hK7 => ?_
  refine aL ?_
  refine aC [1, 3, 23, 24, 25, 26] ?_
  refine bE [1, 3, 5, 23, 24, 25, 26] ?_
  refine hK7 _ ?_; clear hK7
  refine bE [1, 3, 23, 24, 25, 26] ?_
  refine hK4 _ _ ?_ ⟨i + 1, rfl, ?_, ?_⟩
  ·exact bI
  ·exact bI
  simp (disch := omega) only [go_sem, seval] <;> (rw [bKg l (by omega), List.map_append]; rfl)
 refine bA ?_
 refine hK2 _ ?_; clear hK2
 refine aC [1, 3] ?_
 refine aA fun K10 hK10 => ?_
 refine aC [1, 3, 6] ?_
 refine aL ?_
 refine aZ [1, 3, 6, 41, 42, 43] (fun n ρ => ∃ i, n = l.fSignals.length - i ∧ (i ≤ l.fSignals.length) ∧ ρ = dU O [(1, .bx (aK l)), (3, aKg (xZ l)), (6, aKg ((qR l).take i)), (41, jU l.fSignals), (42, vi (l.fSignals.length : Nat)), (43, vi (i : Nat))]) _ ⟨0, rfl, ?_, ?_⟩ ?_
 ·exact bI
 ·simp (disch := omega) only [go_sem, seval] <;> rw [bIs l (by omega)]
 rintro n ρ ⟨i, rfl, l1_0, rfl⟩ K12 hK12
 have htl : ((qR l).take i).length ≤ i := by rw [List.length_take]; omega
 refine aC [1, 3, 6, 40, 41, 42, 43] ?_
 refine aA fun K14 hK14 => ?_
 refine aV (fun c1 => ?_) fun c1 => ?_
 ·refine aJ ?_
  refine hK14 _ ?_; clear hK14
  refine aA fun K15 hK15 => ?_
  refine aL ?_
  refine aC [1, 3, 6, 40, 41, 42, 43] ?_
  refine bE [1, 3, 6, 8, 40, 41, 42, 43] ?_
  refine hK15 _ ?_; clear hK15
  refine bE [1, 3, 6, 40, 41, 42, 43] ?_
  refine hK12 _ _ ?_ ⟨i + 1, rfl, ?_, ?_⟩
  ·exact bI
  ·exact bI
  simp (disch := omega) only [go_sem, seval] <;> (rw [bMt l (by omega), List.map_append]; rfl)
 refine bA ?_
 refine hK10 _ ?_; clear hK10
 refine aA fun K17 hK17 => ?_
 rw [bFu l (by omega)]
 refine fG 3 (xZ l) rfl rfl ?_
 refine fG 6 (qR l) rfl rfl ?_
 refine bE [1, 3, 6] ?_
 refine hK17 _ ?_; clear hK17
 refine aA fun K18 hK18 => ?_
 refine aA fun K19 hK19 => ?_
 refine aXd 9 (aHg (cF l)) rfl rfl (aTz _ _ _ _) rfl rfl ?_
 refine bE [9] ?_
 refine hK19 _ ?_; clear hK19
 refine aL ?_
 refine aZ [9, 61, 62, 63] (fun n ρ => ∃ i, n = 4 - i ∧ (i ≤ 4) ∧ (l9 (fun n => n.all jV) (cF l) i) ∧ ρ = dU O [(9, aHg (cF l)), (61, aHg (cF l)), (62, vi 4), (63, vi (i : Nat))]) _ ⟨0, rfl, ?_, ?_, ?_⟩ ?_
 ·exact bI
 ·exact jW _ _
 ·exact dC
 rintro n ρ ⟨i, rfl, l2_0, l2_1, rfl⟩ K20 hK20
 refine aC [9, 61, 62, 63] ?_
 refine aA fun K22 hK22 => ?_
 refine aV (fun c2 => ?_) fun c2 => ?_
 ·refine aJ ?_
  refine hK22 _ ?_; clear hK22
  refine aA fun K23 hK23 => ?_
  refine aL ?_
  refine aC [9, 61, 62, 63] ?_
  refine aC [9, 11, 61, 62, 63, 65] ?_
  refine aL ?_
  refine aZ [9, 61, 62, 63, 67, 68, 69] (fun n ρ => ∃ j, n = ((cF l).getD i default).length - j ∧ (j ≤ ((cF l).getD i default).length) ∧ (l9 jV ((cF l).getD i default) j) ∧ ρ = dU O [(9, aHg (cF l)), (61, aHg (cF l)), (62, vi 4), (63, vi (i : Nat)), (67, mB ((cF l).getD i default)), (68, vi (((cF l).getD i default).length : Nat)), (69, vi (j : Nat))]) _ ⟨0, rfl, ?_, ?_, ?_⟩ ?_
  ·exact bI
  ·exact jW _ _
  ·exact dC
  rintro n ρ ⟨j, rfl, l3_0, l3_1, rfl⟩ K26 hK26
  have hnl := hns i (by omega)
  refine aC [9, 11, 61, 62, 63, 65, 67, 68, 69] ?_
  refine aA fun K28 hK28 => ?_
  refine aV (fun c3 => ?_) fun c3 => ?_
  ·refine aJ ?_
   refine hK28 _ ?_; clear hK28
   refine aA fun K29 hK29 => ?_
   refine aL ?_
   refine aC [9, 11, 61, 62, 63, 65, 67, 68, 69] ?_
   refine aA fun K31 hK31 => ?_
   refine bL [9, 11, 13, 61, 62, 63, 65, 67, 68, 69, 71] ?_
   refine eL (aAv _ (((cF l).getD i default).getD j default)) ?_
   refine hK31 _ ?_; clear hK31
   refine aV (fun c4 => ?_) fun c4 => ?_
   ·refine aC [] ?_
    refine aM ?_
    refine cW 2 ?_
    exact dE.is (by simp (disch := omega) only [go_sem, seval] <;> ((exact congrArg vi (nm3 (by omega) c3 c4).symm))) rfl rfl
   refine aJ ?_
   refine hK29 _ ?_; clear hK29
   refine bE [9, 11, 61, 62, 63, 65, 67, 68, 69] ?_
   refine hK26 _ _ ?_ ⟨j + 1, rfl, ?_, ?_, ?_⟩
   ·exact bI
   ·exact bI
   ·exact jZ l3_1 c4
   exact dC
  refine bA ?_
  refine hK23 _ ?_; clear hK23
  refine bE [9, 61, 62, 63] ?_
  refine hK20 _ _ ?_ ⟨i + 1, rfl, ?_, ?_, ?_⟩
  ·exact bI
  ·exact bI
  ·exact jZ l2_1 (pX l3_1 c3)
  exact dC
 refine bA ?_
 refine hK18 _ ?_; clear hK18
 refine aA fun K33 hK33 => ?_
 refine aA fun K34 hK34 => ?_
 have hnm : uM l = true := (show (cF l).all (fun n => n.all jV) = true from pX l2_1 (by omega))
 refine bE [9] ?_
 refine hK34 _ ?_; clear hK34
 refine aL ?_
 refine aZ [78, 79, 80] (fun n ρ => ∃ i, n = 4 - i ∧ (i ≤ 4) ∧ (l9 ndS (cF l) i) ∧ ρ = dU O [(78, aHg (cF l)), (79, vi 4), (80, vi (i : Nat))]) _ ⟨0, rfl, ?_, ?_, ?_⟩ ?_
 ·exact bI
 ·exact jW _ _
 ·exact dC
 rintro n ρ ⟨i, rfl, l4_0, l4_1, rfl⟩ K35 hK35
 refine aC [9, 78, 79, 80] ?_
 refine aA fun K37 hK37 => ?_
 refine aV (fun c5 => ?_) fun c5 => ?_
 ·refine aJ ?_
  refine hK37 _ ?_; clear hK37
  refine aA fun K38 hK38 => ?_
  refine aL ?_
  refine aC [9, 78, 79, 80] ?_
  refine aC [9, 15, 78, 79, 80, 82] ?_
  refine aC [9, 15, 16, 78, 79, 80, 82] ?_
  refine aL ?_
  refine aZ [16, 78, 79, 80, 85, 86, 87] (fun n ρ => ∃ j, n = ((cF l).getD i default).length - j ∧ (j ≤ ((cF l).getD i default).length) ∧ (oO (nuS ((cF l).getD i default)) j) ∧ ρ = dU O [(16, .mo (yU ((cF l).getD i default) j)), (78, aHg (cF l)), (79, vi 4), (80, vi (i : Nat)), (85, mB ((cF l).getD i default)), (86, vi (((cF l).getD i default).length : Nat)), (87, vi (j : Nat))]) _ ⟨0, rfl, ?_, ?_, ?_⟩ ?_
  ·exact bI
  ·exact l4 _
  ·exact dC
  rintro n ρ ⟨j, rfl, l5_0, l5_1, rfl⟩ K42 hK42
  have hnl := hns i (by omega)
  have hK := aGa l5_1
  have hG := aZb hK
  refine aA fun K43 hK43 => ?_
  refine aX [9, 15, 16, 78, 79, 80, 82, 85, 86, 87] (by kernel_rfl) ?_
  simp (disch := omega) only [go_sem, seval, hG]
  repeat refine And.intro bS ?_
  refine hK43 _ ?_; clear hK43
  refine aA fun K44 hK44 => ?_
  refine aV (fun c6 => ?_) fun c6 => ?_
  ·refine aJ ?_
   refine hK44 _ ?_; clear hK44
   refine aA fun K45 hK45 => ?_
   refine aL ?_
   refine aA fun K46 hK46 => ?_
   refine aX [9, 15, 16, 78, 79, 80, 82, 85, 86, 87] (by kernel_rfl) ?_
   simp (disch := omega) only [go_sem, seval, hG]
   repeat refine And.intro bS ?_
   refine hK46 _ ?_; clear hK46
   refine aA fun K47 hK47 => ?_
   refine aA fun K48 hK48 => ?_
   refine aX [9, 15, 16, 18, 78, 79, 80, 82, 85, 86, 87, 89] (by kernel_rfl) ?_
   simp (disch := omega) only [go_sem, seval, hG]
   repeat refine And.intro bS ?_
   refine hK48 _ ?_; clear hK48
   refine aV (fun c7 => ?_) fun c7 => ?_
   ·refine aA fun K49 hK49 => ?_
    refine aX [] (by kernel_rfl) ?_
    simp (disch := omega) only [go_sem, seval, hG]
    repeat refine And.intro bS ?_
    refine hK49 _ ?_; clear hK49
    refine aM ?_
    refine cK 2 rfl (by simp (disch := omega) only [go_sem, seval, hG]) ?_
    exact dE.is (by simp (disch := omega) only [go_sem, seval, hG] <;> ((exact congrArg vi (nm8 hnm (by omega) c6 c7).symm))) rfl rfl
   refine aJ ?_
   refine hK47 _ ?_; clear hK47
   refine aX [9, 15, 16, 18, 78, 79, 80, 82, 85, 86, 87, 89] (by kernel_rfl) ?_
   simp (disch := omega) only [go_sem, seval, hG]
   repeat refine And.intro (by first | (exact aMo c7) | exact bS) ?_
   refine hK45 _ ?_; clear hK45
   refine aX [9, 15, 16, 78, 79, 80, 82, 85, 86, 87] (by kernel_rfl) ?_
   simp (disch := omega) only [go_sem, seval, hG]
   repeat refine And.intro bS ?_
   refine hK42 _ _ ?_ ⟨j + 1, rfl, ?_, ?_, ?_⟩
   ·exact bI
   ·exact bI
   ·exact mG l5_1 c7
   simp (disch := omega) only [go_sem, seval, hG] <;> (rw [← bFc]; rfl)
  refine bA ?_
  refine hK38 _ ?_; clear hK38
  refine aX [9, 78, 79, 80] (by kernel_rfl) ?_
  simp (disch := omega) only [go_sem, seval, hG]
  repeat refine And.intro bS ?_
  refine hK35 _ _ ?_ ⟨i + 1, rfl, ?_, ?_, ?_⟩
  ·exact bI
  ·exact bI
  ·exact jZ l4_1 (uO l5_1 c6)
  simp (disch := omega) only [go_sem, seval, hG] <;> first | rfl | omega | simp | simp_all
 refine bA ?_
 refine hK33 _ ?_; clear hK33
 refine aC [] ?_
 refine aM ?_
 refine cW 2 ?_
 exact dE.is (by simp (disch := omega) only [go_sem, seval] <;> ((exact congrArg vi (nm0 hnm (show (cF l).all ndS = true from pX l4_1 (by omega))).symm))) rfl rfl
end Go.Sg
namespace Go.Sg
open Go.Proofs
def nuT {α : Type} [DecidableEq α] [Inhabited α] (q : List α) (i : Nat) : Bool := (List.range i).all fun k => decide (q.getD k default ≠ q.getD i default)
def ndT {α : Type} [DecidableEq α] [Inhabited α] (q : List α) : Bool := (List.range q.length).all (nuT q)
section
variable {α : Type} [DecidableEq α] [Inhabited α] {q : List α} {i j : Nat}
end
abbrev aHp (l : List cG) : DV := encL 2 cE l
end Go.Sg
namespace Go.Sg
open Go.Proofs
section
attribute [local go_sem] List.take_length
end
end Go.Sg
namespace Go.Sg
open Go.Proofs
open Go.Rv (goodB)
def aAh (e : cG) : Value := .agg #[.int .i64 e.fEl, .int .i64 e.fSide]
def eJ : KE cG := ⟨aAh, fun e => .agg (cE e), fun a b h => by
  unfold aAh at h
  simp only [Value.agg.injEq, Array.mk.injEq, List.cons.injEq, Value.int.injEq, true_and, and_true] at h
  exact (dO a b).2 h,
 fun a w I A v h => by
  cases h with
  | agg _ _ vs hl hone hrel =>
   have h0 := hrel 0 (vi a.fEl) (vs[0]'(by simp [cE] at hl; omega)) rfl (Array.getElem?_eq_getElem _)
   have h1 := hrel 1 (vi a.fSide) (vs[1]'(by simp [cE] at hl; omega)) rfl (Array.getElem?_eq_getElem _)
   unfold aAh
   congr 1
   apply Array.ext
   ·simpa [cE] using hl.symm
   intro i hi1 hi2
   match i, hi2 with
   | 0, _ => generalize vs[0] = x at h0; cases h0; rfl
   | 1, _ => generalize vs[1] = x at h1; cases h1; rfl,
 fun a w I A => .agg A _ _ rfl (fun u hu => by simp [aAh] at hu; rcases hu with rfl | rfl <;> rfl) fun j d u hd hu => by
  match j with
  | 0 => simp [cE] at hd hu; subst hd; subst hu; exact .v A _
  | 1 => simp [cE] at hd hu; subst hd; subst hu; exact .v A _
  | j + 2 => simp [cE] at hd⟩
noncomputable def fsE : Array Field := match Tryz.prog.underlying 49 with
 | some (.struct fs) => fs
 | _ => #[]
theorem bOp {n : Int} (h1 : -9223372036854775808 ≤ n) (h2 : n ≤ 9223372036854775807) (d : Nat) : Tryz.prog.keyLits (d + 1) 3 [.int .i64 n] = some [.int .i64 n] := by
 have u3 : Tryz.prog.underlying 3 = some (.int .i64) := by kernel_rfl
 have hw : (Lit.int .i64 n).wf = true := by
  show (decide (IntKind.i64.min ≤ n) && decide (n ≤ IntKind.i64.max)) = true
  rw [decide_eq_true (show IntKind.i64.min ≤ n from h1), decide_eq_true (show n ≤ IntKind.i64.max from h2)]; rfl
 unfold Program.keyLits
 rw [u3]
 simp [hw]
def bDw (e : cG) : Prop := (-9223372036854775808 ≤ e.fEl ∧ e.fEl ≤ 9223372036854775807) ∧ (-9223372036854775808 ≤ e.fSide ∧ e.fSide ≤ 9223372036854775807)
theorem tR {e : cG} (h : bDw e) : goodB Tryz.prog 49 (aAh e) = true := by
 have u : Tryz.prog.underlying 49 = some (.struct fsE) := by kernel_rfl
 have c49 : Tryz.prog.cellsOf 49 = 2 := by kernel_rfl
 have c3 : Tryz.prog.cellsOf 3 = 1 := by kernel_rfl
 have k1 : Tryz.prog.keyType 49 = true := by kernel_rfl
 have k2 : Tryz.prog.keyTypeAt 8 49 = true := by kernel_rfl
 have k3 : Tryz.prog.tiled 8 49 = true := by kernel_rfl
 obtain ⟨d, hd⟩ : ∃ d, Tryz.prog.types.size + 1 = d + 1 + 1 := ⟨Tryz.prog.types.size - 1, by kernel_rfl⟩
 have hf : (aAh e).formed Tryz.prog 49 = true := by unfold aAh Value.formed; simp only [u, c49]; rfl
 have hn : fsE.all (·.name != "_") = true := by kernel_rfl
 have hm : fsE.toList.map (fun f => (f.type, f.offset)) = [(3, 0), (3, 1)] := by kernel_rfl
 have hl : Tryz.prog.keyLits (d + 1 + 1) 49 (aAh e).cells.toList = some [.int .i64 e.fEl, .int .i64 e.fSide] := by
  have hcells : (aAh e).cells.toList = [.int .i64 e.fEl, .int .i64 e.fSide] := rfl
  have key : ∀ (fs : List Field), fs.map (fun f => (f.type, f.offset)) = [(3, 0), (3, 1)] → (fs.mapM fun f => Tryz.prog.keyLits (d + 1) f.type (([Value.int .i64 e.fEl, .int .i64 e.fSide].drop f.offset).take (Tryz.prog.cellsOf f.type))) = some [[.int .i64 e.fEl], [.int .i64 e.fSide]] := by
   intro fs hfs
   rcases fs with _ | ⟨f, _ | ⟨g, _ | ⟨q, r⟩⟩⟩
   ·cases hfs
   ·simp at hfs
   ·simp only [List.map_cons, List.map_nil, List.cons.injEq, Prod.mk.injEq, and_true] at hfs
    obtain ⟨⟨a1, a2⟩, b1, b2⟩ := hfs
    simp only [List.mapM_cons, List.mapM_nil, a1, a2, b1, b2, c3, List.drop_zero, List.take_succ_cons, List.take_zero, List.drop_succ_cons]
    simp [bOp h.1.1 h.1.2, bOp h.2.1 h.2.2]
   simp at hfs
  unfold Program.keyLits
  rw [u, hcells]
  simp only [c49, hn, List.length_cons, List.length_nil, Nat.zero_add, Nat.reduceAdd, and_self, if_true, key fsE.toList hm, Option.map_some]
  rfl
 unfold goodB keyOf
 rw [u]
 simp only [k1, k2, k3, hf, hd, hl, Bool.and_self, if_true, Option.map_some, Option.isSome_some]
theorem aRz (e : cG) : eJ.dv e = .agg (cE e) := rfl
theorem aXm : ∃ i, Tryz.prog.info? 49 = some i ∧ i.zero = some (aAh E0) := by
 obtain ⟨i, hi⟩ : ∃ i, Tryz.prog.info? 49 = some i := Option.isSome_iff_exists.1 (by kernel_rfl)
 have : ((Tryz.prog.info? 49).bind (·.zero)) = some (aAh E0) := by kernel_rfl
 rw [hi] at this
 exact ⟨i, hi, this⟩
def xO (l : aB) (j : gV) : Bool := exB l j.fA && (exB l j.fB && decide (j.fA ≠ j.fB))
def eQ (js : List gV) : List cG := js.flatMap fun j => [j.fA, j.fB]
def jM (js : List gV) : List (cG × cG) := js.flatMap fun j => [(j.fA, j.fB), (j.fB, j.fA)]
theorem mV (js : List gV) : (jM js).map (·.1) = eQ js := by
 unfold jM eQ
 induction js with
 | nil => rfl
 | cons j js ih => simp only [List.flatMap_cons, List.map_append, ih]; rfl
theorem aMc {js : List gV} {i : Nat} (h : i < js.length) : eQ (js.take (i + 1)) = eQ (js.take i) ++ [(js.getD i default).fA, (js.getD i default).fB] := by
 rw [fV default h]; unfold eQ; rw [List.flatMap_append]; rfl
theorem bZr {js : List gV} {i : Nat} (h : i < js.length) : jM (js.take (i + 1)) = jM (js.take i) ++ [((js.getD i default).fA, (js.getD i default).fB), ((js.getD i default).fB, (js.getD i default).fA)] := by
 rw [fV default h]; unfold jM; rw [List.flatMap_append]; rfl
theorem tN {α : Type} [DecidableEq α] [Inhabited α] {q : List α} : ndT q = true ↔ q.Nodup := by
 have e : ∀ (i : Nat) (h : i < q.length), q.getD i default = q[i] := fun i h => by rw [List.getD_eq_getElem?_getD, List.getElem?_eq_getElem h]; rfl
 unfold ndT nuT List.Nodup
 rw [List.all_eq_true, List.pairwise_iff_getElem]
 constructor
 ·intro h i j hi hj hij
  have h2 := h j (List.mem_range.2 hj)
  rw [List.all_eq_true] at h2
  have h3 := of_decide_eq_true (h2 i (List.mem_range.2 hij))
  rw [e i hi, e j hj] at h3
  exact h3
 intro h i hi
 rw [List.all_eq_true]
 intro k hk
 have hi := List.mem_range.1 hi
 have hk := List.mem_range.1 hk
 refine decide_eq_true ?_
 rw [e i hi, e k (by omega)]
 exact h k i (by omega) hi hk
def joI (l : aB) : Int := if l.fJoints.all (xO l) = true then (if ndT (eQ l.fJoints) = true then 0 else 8) else 1
theorem bFf {l : aB} (h : l.fJoints.all (xO l) = false) : joI l = 1 := by unfold joI; rw [h, if_neg (by simp)]
theorem bEm {l : aB} (h : l.fJoints.all (xO l) = true) {i : Nat} (hi : i < l.fJoints.length) (hd : ¬ (eQ (l.fJoints.take (i + 1))).Nodup) : joI l = 8 := by
 unfold joI
 rw [if_pos h, if_neg]
 intro hn
 refine hd ?_
 have hn := tN.1 hn
 have : eQ l.fJoints = eQ (l.fJoints.take (i + 1)) ++ eQ (l.fJoints.drop (i + 1)) := by
  unfold eQ; rw [← List.flatMap_append, List.take_append_drop]
 rw [this, List.nodup_append] at hn
 exact hn.1
theorem bRj {l : aB} (h : l.fJoints.all (xO l) = true) (hn : (eQ l.fJoints).Nodup) : joI l = 0 := by
 unfold joI; rw [if_pos h, if_pos (tN.2 hn)]
theorem tD {l : aB} (hl : eK l) {e : cG} (h : exB l e = true) : bDw e := by
 unfold exB at h
 simp only [Bool.and_eq_true, decide_eq_true_eq] at h
 have h1 := hl.el
 have h2 := uA (e5 l e.fEl.toNat).fKind
 unfold bDw
 omega
theorem aPy {l : aB} (hl : eK l) (h : l.fJoints.all (xO l) = true) : ∀ p ∈ eQ l.fJoints, bDw p := fun p hp => by
 unfold eQ at hp
 obtain ⟨j, hj, hp⟩ := List.mem_flatMap.1 hp
 have := List.all_eq_true.1 h j hj
 unfold xO at this
 simp only [Bool.and_eq_true] at this
 simp only [List.mem_cons, List.not_mem_nil, or_false] at hp
 rcases hp with rfl | rfl
 ·exact tD hl this.1
 exact tD hl this.2.1
theorem sS {l : aB} (hl : eK l) (h : l.fJoints.all (xO l) = true) {i : Nat} : ∀ p ∈ jM (l.fJoints.take i), goodB Tryz.prog 49 (eJ.val p.1) = true := fun p hp => by
 have hk : p.1 ∈ eQ (l.fJoints.take i) := by rw [← mV]; exact List.mem_map.2 ⟨p, hp, rfl⟩
 refine tR (aPy hl h _ ?_)
 unfold eQ at hk ⊢
 obtain ⟨j, hj, hk⟩ := List.mem_flatMap.1 hk
 exact List.mem_flatMap.2 ⟨j, List.mem_of_mem_take hj, hk⟩
section
variable {l : aB} {i : Nat} (hl : eK l) (h : l.fJoints.all (xO l) = true) (hi : i < l.fJoints.length)
include hl h hi
theorem aWi : xO l (l.fJoints.getD i default) = true := m9 h hi
theorem aSa : goodB Tryz.prog 49 (eJ.val (l.fJoints.getD i default).fA) = true := by
 have := aWi hl h hi
 unfold xO at this
 simp only [Bool.and_eq_true] at this
 exact tR (tD hl this.1)
theorem bFh : goodB Tryz.prog 49 (eJ.val (l.fJoints.getD i default).fB) = true := by
 have := aWi hl h hi
 unfold xO at this
 simp only [Bool.and_eq_true] at this
 exact tR (tD hl this.2.1)
theorem bEh : (l.fJoints.getD i default).fA ≠ (l.fJoints.getD i default).fB := by
 have := aWi hl h hi
 unfold xO at this
 simp only [Bool.and_eq_true, decide_eq_true_eq] at this
 exact this.2.2
end
theorem aFk {M : List (cG × cG)} {e : cG} : (fM M e).isSome = true ↔ e ∈ M.map (·.1) := by
 rw [pM, List.mem_map]
theorem aWh {l : aB} {i : Nat} (hi : i < l.fJoints.length) (h : (fM (jM (l.fJoints.take i)) (l.fJoints.getD i default).fA).isSome = true ∨ (fM (jM (l.fJoints.take i)) (l.fJoints.getD i default).fB).isSome = true) : ¬ (eQ (l.fJoints.take (i + 1))).Nodup := by
 intro hn
 rw [aMc hi, List.nodup_append] at hn
 rw [aFk, aFk, mV] at h
 rcases h with h | h
 ·exact hn.2.2 _ h _ (by simp) rfl
 exact hn.2.2 _ h _ (by simp) rfl
section
variable {l : aB} {i : Nat} (hi : i < l.fJoints.length) (hn : (eQ (l.fJoints.take i)).Nodup) (hA : (fM (jM (l.fJoints.take i)) (l.fJoints.getD i default).fA).isSome = false) (hB : (fM (jM (l.fJoints.take i)) (l.fJoints.getD i default).fB).isSome = false) (hne : (l.fJoints.getD i default).fA ≠ (l.fJoints.getD i default).fB)
include hi hn hA hB hne
theorem bMe : (eQ (l.fJoints.take (i + 1))).Nodup := by
 rw [← Bool.not_eq_true, aFk, mV] at hA hB
 rw [aMc hi, List.nodup_append]
 refine ⟨hn, by simpa using hne, fun a ha b hb e => ?_⟩
 subst e
 simp only [List.mem_cons, List.not_mem_nil, or_false] at hb
 rcases hb with rfl | rfl
 ·exact hA ha
 exact hB ha
theorem bNi : lC (lC (jM (l.fJoints.take i)) (l.fJoints.getD i default).fA (l.fJoints.getD i default).fB) (l.fJoints.getD i default).fB (l.fJoints.getD i default).fA = jM (l.fJoints.take (i + 1)) := by
 have h1 : ∀ p ∈ jM (l.fJoints.take i), p.1 ≠ (l.fJoints.getD i default).fA := fun p hp e => by
  have : (fM (jM (l.fJoints.take i)) (l.fJoints.getD i default).fA).isSome = true := pM.2 ⟨p, hp, e⟩
  rw [hA] at this; cases this
 have h2 : ∀ p ∈ jM (l.fJoints.take i), p.1 ≠ (l.fJoints.getD i default).fB := fun p hp e => by
  have : (fM (jM (l.fJoints.take i)) (l.fJoints.getD i default).fB).isSome = true := pM.2 ⟨p, hp, e⟩
  rw [hB] at this; cases this
 rw [nM h1, nM, bZr hi, List.append_assoc]
 ·rfl
 intro p hp
 rw [List.mem_append] at hp
 rcases hp with hp | hp
 ·exact h2 p hp
 simp only [List.mem_singleton] at hp; subst hp; exact hne
end
end Go.Sg
