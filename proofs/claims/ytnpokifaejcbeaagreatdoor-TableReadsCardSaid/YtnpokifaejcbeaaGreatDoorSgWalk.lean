/- The walk by reckoning: what a region's operations owe and leave, as one function of the environment. -/
import Derived.Test.YtnpokifaejcbeaaGreatDoorSgMap
import Derived.Lib.SliceRun
set_option linter.unusedVariables false
set_option linter.unusedSimpArgs false
namespace Go.Sg
open Go.RowKit

/-! ## One operation -/

def asgG (ρ : Env) (d t : Nat) (c : DV) (K : Env → Prop) : Prop :=
  match isOwn c with
  | true => t ≠ d ∧ K (set (kill d (set (kill t ρ) t .any)) d (killD d (killD t c)))
  | false => gd c ∧ K (set ρ d (un c))

def boxG (ρ : Env) (d : Nat) (c : DV) (K : Env → Prop) : Prop :=
  gd c ∧ (0 < (cellsD (un c)).length ∨ ∃ cs, un c = .agg cs) ∧ K (set (kill d ρ) d (killD d (.bx (cellsD (un c)))))

def allocG (ρ : Env) (d : Nat) (zs : Option (List Value)) (K : Env → Prop) : Prop :=
  match zs with
  | some zs => K (set (kill d ρ) d (.bx (zs.map .v)))
  | none => False

def stR (ρ : Env) (s z i off n : Nat) (cs : List DV) (c : DV) (K : Env → Prop) : Prop :=
  match c with
  | .row e z' xs => z = z' ∧ cs.length = n ∧ i < xs.length ∧ off + n ≤ z ∧ allKL (fun _ => false) cs = true ∧ K (set ρ s (.row e z (xs.set i (spl off cs (xs.getD i [])))))
  | _ => False

def stG (ρ : Env) (n : Option Nat) (ad : DV) (x : DV) (K : Env → Prop) : Prop :=
  match n with
  | none => False
  | some n =>
    match ad with
    | .bp s off => gd x ∧ 0 < n ∧ stB ρ s off n (cellsD (un x)) (ρ s) K
    | .rp s z i off => gd x ∧ 0 < n ∧ stR ρ s z i off n (cellsD (un x)) (ρ s) K
    | _ => False

def mkG (P : Program) (ρ : Env) (d : Nat) (sl : Option (TypeId × Nat × Nat)) (x y : DV) (K : Env → Prop) : Prop :=
  match sl, x, y with
  | some (e, z, by_), .v (.int _ n), .v (.int _ c) =>
    (match zcOf P e with
    | some zs => zs.length = z ∧ 0 ≤ n ∧ n ≤ c ∧ c ≤ 9223372036854775807 ∧ c * by_ ≤ 140737488355328 ∧ K (set (kill d ρ) d (.row e z (List.replicate n.toNat (zs.map .v))))
    | none => False)
  | _, _, _ => False

def litG (P : Program) (ρ : Env) (d : Nat) (sl : Option (TypeId × Nat × Nat)) (n : Nat) (parts : List (Nat × Operand)) (K : Env → Prop) : Prop :=
  match sl with
  | some (e, z, _) =>
    (match parts with
    | [] => n = 0 ∧ K (set (kill d ρ) d (.row e z []))
    | parts => (zcOf P e).isSome = true ∧ 0 < z ∧ 0 < n ∧ n * z ≤ 16777216 ∧ parts.length = n ∧ bsOk ρ z 0 parts ∧ K (set ρ d (.sl z n fun i => (bsL ρ parts).getD i [])))
  | none => False

def appR (ρ : Env) (d s n e z by_ : Nat) (src : DV) (c : DV) (K : Env → Prop) : Prop :=
  match c with
  | .row e' z' xs => e' = e ∧ z' = z ∧ s < 100000 ∧ n ≤ xs.length ∧ srcOk ρ z src ∧ n + (srcL ρ src).length ≤ 9223372036854775807 ∧ (n + (srcL ρ src).length) * by_ ≤ 140737488355328 ∧
      K (set (kill d (set (kill s ρ) s .any)) d (.row e z (xs.take n ++ srcL ρ src)))
  | _ => False

def appG (P : Program) (ρ : Env) (d : Nat) (sl : Option (TypeId × Nat × Nat)) (x y : DV) (K : Env → Prop) : Prop :=
  match sl with
  | some (e, z, by_) => gd y ∧ 0 < z ∧ (zcOf P e).map List.length = some z ∧
    (match x with
    | .own s n => appR ρ d s n e z by_ (un y) (ρ s) K
    | .v (.slice none 0 0) => srcOk ρ z (un y) ∧ (srcL ρ (un y)).length ≤ 9223372036854775807 ∧ (srcL ρ (un y)).length * by_ ≤ 140737488355328 ∧ K (set (kill d ρ) d (.row e z (srcL ρ (un y))))
    | .ez => srcOk ρ z (un y) ∧ (srcL ρ (un y)).length ≤ 9223372036854775807 ∧ (srcL ρ (un y)).length * by_ ≤ 140737488355328 ∧ K (set (kill d ρ) d (.row e z (srcL ρ (un y))))
    | _ => False)
  | none => False

def gdL (ρ : Env) : List Operand → Prop
  | [] => True
  | x :: l => gd (ev ρ x) ∧ gdL ρ l
theorem gdL_iff (ρ : Env) (l : List Operand) : gdL ρ l ↔ ∀ x ∈ l, gd (ev ρ x) := by
  induction l with
  | nil => simp [gdL]
  | cons x l ih => simp [gdL, ih]

def evL (ρ : Env) (l : List Operand) : List DV := l.map fun x => un (ev ρ x)

/-- A call that is met by a contract. -/
def calG (P : Program) (ρ : Env) (d : Nat) (f : Option (FuncId × List DV)) (K : Env → Prop) : Prop :=
  match f with
  | some (f, l) => CallG P ρ f l (fun O' r => (isOwn r = true → killD d r = r) ∧ K (putR O' d r)) ⟨⟩
  | none => False

def bodyOk (P : Program) (f : Option (FuncId × List DV)) : Prop :=
  match f with
  | some (f, _) => hasBody P f = true
  | none => False

def cbG (P : Program) (ρ : Env) (b : Builtin) (args : List Operand) (ts : List TypeId) (d : Option Nat) (K : Env → Prop) : Prop :=
  match b, args, ts, d with
  | .append, [x, y], [t, t'], some d => t = t' ∧ appG P ρ d (slE P t) (ev ρ x) (ev ρ y) K
  | b, args, ts, d => (bltP P ρ b args ts).1 ∧ K (putD ρ d (bltP P ρ b args ts).2)

def isNilC : Operand → Bool
  | .const (.slice none _ _) => true
  | _ => false
def isEql : BinOp → Bool
  | .eql => true
  | _ => false
/-- A slice against nil: where it has no elements nobody knows. -/
def nilG (P : Program) (ρ : Env) (t : TypeId) (x : DV) (dst : Option Nat) (K : Env → Prop) : Prop :=
  tk P t = 2 ∧ (match x with
    | .sl _ n _ => ∀ b : Bool, (0 < n → b = false) → K (putD ρ dst (.v (.bool b)))
    | .v (.slice a _ _) => K (putD ρ dst (.v (.bool a.isNone)))
    | _ => False)
def binG (P : Program) (ρ : Env) (b : BinOp) (t : TypeId) (x y : Operand) (dst : Option Nat) (K : Env → Prop) : Prop :=
  bif isEql b && isNilC y then gd (ev ρ x) ∧ nilG P ρ t (un (ev ρ x)) dst K
  else ((gd (ev ρ x) ∧ gd (ev ρ y)) ∧ (binP (esOf P t) (tk P t) b (un (ev ρ x)) (un (ev ρ y))).1) ∧ K (putD ρ dst (binP (esOf P t) (tk P t) b (un (ev ρ x)) (un (ev ρ y))).2)

def effG (P : Program) (ρ : Env) (op : Op) (dst : Option Nat) (K : Env → Prop) : Prop :=
  match op, dst with
  | .assign (.tmp t), some d => asgG ρ d t (ρ t) K
  | .assign x, dst => gd (ev ρ x) ∧ K (putD ρ dst (un (ev ρ x)))
  | .binOp b t x y _, dst => binG P ρ b t x y dst K
  | .build t parts, dst => (bldP P ρ t parts.toList).1 ∧ K (putD ρ dst (bldP P ρ t parts.toList).2)
  | .box _ x, some d => boxG ρ d (ev ρ x) K
  | .alloc t, some d => allocG ρ d (zcOf P t) K
  | .store t ad x, none => stG ρ (szOf P t) (ev ρ ad) (ev ρ x) K
  | .makeSlice t x y, some d => mkG P ρ d (slE P t) (ev ρ x) (ev ρ y) K
  | .buildSlice t n parts, some d => litG P ρ d (slE P t) n parts.toList K
  | .lookup t x k false, dst => lkG ρ dst (mpOf P t) (ev ρ x) (ev ρ k) K
  | .mapUpdate t x k y, none => upG ρ (mpOf P t) (ev ρ x) (ev ρ k) (ev ρ y) K
  | .makeMap _ none, some d => K (set (kill d ρ) d (.mo []))
  | .call c, dst =>
    (match c.callee with
    | .value f => (match dst with
      | some d => gd (ev ρ f) ∧ gdL ρ c.args.toList ∧ bodyOk P (callee (un (ev ρ f)) (evL ρ c.args.toList)) ∧ calG P ρ d (callee (un (ev ρ f)) (evL ρ c.args.toList)) K
      | none => False)
    | .builtin b => cbG P ρ b c.args.toList c.argTypes.toList dst K
    | _ => False)
  | op, dst => (opP P ρ op).1 ∧ K (putD ρ dst (opP P ρ op).2)

section
variable {P : Program} {nt : Nat} {ρ : Env} {ops : Array Oper}

theorem length_spl {off : Nat} {cs old : List DV} (h : off + cs.length ≤ old.length) : (spl off cs old).length = old.length := by
  unfold spl
  split
  · rw [List.length_set]
  · split
    · assumption
    · simp only [List.length_append, List.length_take, List.length_drop]; omega

theorem ow_storeR {o : Oper} {K : Env → Prop} {t : TypeId} {ad x : Operand} {n s z i off : Nat} (hop : o.op = .store t ad x) (hg : o.guard = none) (hdst : o.dst = none) (ho : opsOk nt o = true)
    (ha : ev ρ ad = .rp s z i off) (hx : gd (ev ρ x)) (hz : szOf P t = some n) (hl : 0 < n) (h : stR ρ s z i off n (cellsD (un (ev ρ x))) (ρ s) K) : OW P nt ops o K ρ := by
  refine ow_skip hg fun I A a w hs => ?_
  have hxr := hs.opd x (opsOk_mem ho (by simp [hop, Op.operands])) hx
  have hadr := hs.opd ad (opsOk_mem ho (by simp [hop, Op.operands])) (by rw [ha]; trivial)
  rw [ha] at hadr
  have hadr : Rel w I A (.rp s z i off) (a.eval ad) := hadr
  generalize hav : a.eval ad = av at *
  cases hadr with
  | rp _ _ _ _ _ g c hA =>
    have hown := hs.osim.own s
    cases hρ : ρ s <;> rw [hρ] at h hown <;> simp only [stR] at h <;> try exact h.elim
    rename_i e z' xs
    obtain ⟨rfl, h1, h2, h3, h4, hK⟩ := h
    obtain ⟨B, c', q1, q2⟩ := hown
    rw [hA] at q1
    simp only [Option.some.injEq, Prod.mk.injEq] at q1
    obtain ⟨rfl, rfl⟩ := q1
    obtain ⟨us, q2, q3, q4, q5, q6⟩ := q2
    obtain ⟨k1, k2, k3⟩ := cells_ok hxr (.inl (by omega))
    have hxi : xs[i]? = some (xs.getD i []) := by rw [List.getD_eq_getElem?_getD, List.getElem?_eq_getElem h2]; rfl
    have hol := (q6 i _ hxi).1
    have hbound : ∀ i' r, i' < xs.length → r < z → i' * z + r < us.size := fun i' r hi' hr => by
      rw [q3]
      have : (i' + 1) * z ≤ c * z := Nat.mul_le_mul_right _ (by omega)
      rw [Nat.succ_mul] at this
      omega
    have hcsl : (cellsD (un (ev ρ x))).length = n := h1
    have hfit : i * z + off + n ≤ us.size := by
      rw [q3]
      have : (i + 1) * z ≤ c * z := Nat.mul_le_mul_right _ (by omega)
      rw [Nat.succ_mul] at this
      omega
    have hrun := run_storeAt (P := P) (w := w) hz (x := a.eval x) (by omega) q2 (o := i * z + off) hfit k2
    generalize hnew : (us.toList.take (i * z + off) ++ (a.eval x).cells.toList ++ us.toList.drop (i * z + off + n)).toArray = new at hrun
    have hI : ∀ {B : Own} {d : DV} {v : Value}, Rel w I B d v → Rel (w.setRow g new) I B d v := fun hr =>
      hr.mono fun g' hg' => ⟨hg', fun o => cell_of_heap (setRow_other w g g' _ (fun e => (hs.osim.sep s g c hA).2 (e ▸ hg'))) o⟩
    have hnsz : new.size = us.size := by subst hnew; simp; omega
    have hget : ∀ q, new[q]? = if i * z + off ≤ q ∧ q < i * z + off + n then (a.eval x).cells[q - (i * z + off)]? else us[q]? := fun q => by
      subst hnew
      simp only [List.getElem?_toArray]
      rw [List.getElem?_append, List.getElem?_append]
      simp only [List.length_append, List.length_take, Array.length_toList, ← k1, hcsl, Nat.min_eq_left (show i * z + off ≤ us.size by omega)]
      by_cases c1 : q < i * z + off
      · rw [if_pos (by omega), if_pos c1, if_neg (by omega), List.getElem?_take, if_pos c1, Array.getElem?_toList]
      · by_cases c2 : q < i * z + off + n
        · rw [if_pos c2, if_neg c1, if_pos (by omega), Array.getElem?_toList]
        · rw [if_neg c2, if_neg (by omega), List.getElem?_drop, Array.getElem?_toList]
          congr 1
          omega
    refine ⟨w.setRow g new, I, A, _, ?_, ?_, Ext.turn hA new, hK⟩
    · simp only [execOp, hop, Sem.run_bind, hav, hrun, Result.andThen_ok, Sem.run_pure]
    · rw [hdst]
      refine hs.turn hA q2 (fun v hv => ?_) ?_ fun hs' => rfl
      · rw [hρ] at hv
        obtain ⟨B, c2, r1, r2⟩ := hv
        exact ⟨B, c2, r1, by rw [List.length_set]; exact r2⟩
      · refine ⟨some g, c, hA, new, setRow_heap w g us _ e _ q2, by rw [hnsz, q3], q4, by rw [List.length_set]; exact q5, fun i' y hy => ?_⟩
        rw [List.getElem?_set] at hy
        split at hy
        · rename_i hii
          subst hii
          cases hy
          refine ⟨by rw [length_spl (by omega)]; exact hol, fun j d u hd hu => ?_⟩
          have hj : j < z := by
            have : (spl off (cellsD (un (ev ρ x))) (xs.getD i [])).length = z := by rw [length_spl (by omega)]; exact hol
            rw [← this]
            rcases Nat.lt_or_ge j (spl off (cellsD (un (ev ρ x))) (xs.getD i [])).length with h | h
            · exact h
            · rw [List.getElem?_eq_none h] at hd; cases hd
          rw [hget] at hu
          rw [spl_eq (by omega), List.getElem?_append, List.getElem?_append] at hd
          simp only [List.length_append, List.length_take, Nat.min_eq_left (show off ≤ (xs.getD i []).length by omega), hcsl] at hd
          by_cases c1 : j < off
          · rw [if_pos (by omega), if_pos c1, List.getElem?_take, if_pos c1] at hd
            rw [if_neg (by omega)] at hu
            obtain ⟨r1, r2⟩ := (q6 i _ hxi).2 j d u hd hu
            exact ⟨r1, hI r2⟩
          · by_cases c2 : j < off + n
            · rw [if_pos c2, if_neg c1] at hd
              rw [if_pos (by omega)] at hu
              have e1 : i * z + j - (i * z + off) = j - off := by omega
              rw [e1] at hu
              exact ⟨k2 u (by simpa using Array.mem_of_getElem? hu), hI ((k3 _ d u hd hu).pure (allKL_get h4 hd))⟩
            · rw [if_neg c2, List.getElem?_drop] at hd
              rw [if_neg (by omega)] at hu
              have e1 : off + n + (j - (off + n)) = j := by omega
              rw [e1] at hd
              obtain ⟨r1, r2⟩ := (q6 i _ hxi).2 j d u hd hu
              exact ⟨r1, hI r2⟩
        · rename_i hii
          obtain ⟨r1, r2⟩ := q6 i' y hy
          refine ⟨r1, fun j d u hd hu => ?_⟩
          have hj : j < z := by
            rw [← r1]
            rcases Nat.lt_or_ge j y.length with h | h
            · exact h
            · rw [List.getElem?_eq_none h] at hd; cases hd
          rw [hget, if_neg (by
            intro ⟨a1, a2⟩
            have e1 := mul_range (z := z) (i := i') (q := i' * z + j) (by omega) (by omega) (by omega)
            have e2 := mul_range (z := z) (i := i) (q := i' * z + j) (by omega) (by omega) (by omega)
            omega)] at hu
          exact ⟨(r2 j d u hd hu).1, hI (r2 j d u hd hu).2⟩

theorem opP_static (o : Oper) {K : Env → Prop} (hg : o.guard = none) (ho : opsOk nt o = true) (hd : dstOk nt o = true) (h : (opP P ρ o.op).1 ∧ K (putD ρ o.dst (opP P ρ o.op).2)) : OW P nt ops o K ρ :=
  ow_pure hg ho hd h.1 h.2

/-- **The reckoning is sound.** -/
theorem effG_ok {o : Oper} {K : Env → Prop} (hg : o.guard = none) (ho : opsOk nt o = true) (hd : dstOk nt o = true) (h : effG P ρ o.op o.dst K) : OW P nt ops o K ρ := by
  have hdn : ∀ d, o.dst = some d → d < nt := fun d e => by unfold dstOk at hd; rw [e] at hd; simpa using hd
  cases hop : o.op with
  | assign x =>
    rw [hop] at h
    cases hdst : o.dst with
    | none =>
      rw [hdst] at h
      have h' : gd (ev ρ x) ∧ K (putD ρ none (un (ev ρ x))) := by cases x <;> exact h
      exact ow_assign hop hg ho hd h'.1 (by rw [hdst]; exact h'.2)
    | some d =>
      rw [hdst] at h
      cases x with
      | tmp t =>
        have ht : t < nt := by
          have := opsOk_mem ho (x := .tmp t) (by simp [hop, Op.operands])
          simpa [opdOk] using this
        have h : asgG ρ d t (ρ t) K := h
        unfold asgG at h
        cases hown : isOwn (ρ t) with
        | true =>
          rw [hown] at h
          exact ow_move_own hop hg hdst (hdn d hdst) ht h.1 hown h.2
        | false =>
          rw [hown] at h
          have e1 : ev ρ (.tmp t) = ρ t := by
            rw [ev_tmp]
            cases hc : ρ t <;> first | rfl | (rw [hc] at hown; cases hown)
          exact ow_assign hop hg ho hd (by rw [e1]; exact h.1) (by rw [hdst, e1]; exact h.2)
      | const v => exact ow_assign hop hg ho hd h.1 (by rw [hdst]; exact h.2)
      | global g => exact ow_assign hop hg ho hd h.1 (by rw [hdst]; exact h.2)
      | func f => exact ow_assign hop hg ho hd h.1 (by rw [hdst]; exact h.2)
  | box t x =>
    rw [hop] at h
    cases hdst : o.dst with
    | none => rw [hdst] at h; exact h.1.elim
    | some d =>
      rw [hdst] at h
      obtain ⟨h1, h2, h3⟩ := h
      exact ow_box hop hg hdst (hdn d hdst) ho h1 h2 h3
  | alloc t =>
    rw [hop] at h
    cases hdst : o.dst with
    | none => rw [hdst] at h; exact h.1.elim
    | some d =>
      rw [hdst] at h
      have h : allocG ρ d (zcOf P t) K := h
      unfold allocG at h
      split at h
      · rename_i zs hz
        exact ow_alloc hop hg hdst (hdn d hdst) hz h
      · exact h.elim
  | lookup t x k ok =>
    rw [hop] at h
    cases ok with
    | false => exact ow_lookup hop hg ho hd h
    | true => exact ow_pure hg ho hd (by rw [hop]; exact h.1) (by rw [hop]; exact h.2)
  | mapUpdate t x k y =>
    rw [hop] at h
    cases hdst : o.dst with
    | some d => rw [hdst] at h; exact h.1.elim
    | none => rw [hdst] at h; exact ow_mapUpdate hop hg hdst ho h
  | makeMap t hint =>
    rw [hop] at h
    cases hdst : o.dst with
    | none => rw [hdst] at h; cases hint <;> exact h.1.elim
    | some d =>
      rw [hdst] at h
      cases hint with
      | none => exact ow_makeMap hop hg hdst (hdn d hdst) h
      | some x => exact h.1.elim
  | store t ad x =>
    rw [hop] at h
    cases hdst : o.dst with
    | some d => rw [hdst] at h; exact h.1.elim
    | none =>
      rw [hdst] at h
      have h : stG ρ (szOf P t) (ev ρ ad) (ev ρ x) K := h
      unfold stG at h
      split at h
      · exact h.elim
      · rename_i n hn
        split at h
        · rename_i s off ha
          exact ow_store hop hg hdst ho ha h.1 hn h.2.1 h.2.2
        · rename_i s z i off ha
          exact ow_storeR hop hg hdst ho ha h.1 hn h.2.1 h.2.2
        · exact h.elim
  | makeSlice t x y =>
    rw [hop] at h
    cases hdst : o.dst with
    | none => rw [hdst] at h; exact h.1.elim
    | some d =>
      rw [hdst] at h
      have h : mkG P ρ d (slE P t) (ev ρ x) (ev ρ y) K := h
      unfold mkG at h
      split at h
      · rename_i e z by_ k n k' c hs hx hy
        split at h
        · rename_i zs hz
          obtain ⟨h1, h2, h3, h4, h5, h6⟩ := h
          exact ow_makeSlice hop hg hdst (hdn d hdst) ho hx hy hs hz h1 h2 h3 h4 h5 h6
        · exact h.elim
      · exact h.elim
  | buildSlice t n parts =>
    rw [hop] at h
    cases hdst : o.dst with
    | none => rw [hdst] at h; exact h.1.elim
    | some d =>
      rw [hdst] at h
      have h : litG P ρ d (slE P t) n parts.toList K := h
      unfold litG at h
      split at h
      · rename_i e z by_ hs
        split at h
        · rename_i hp
          obtain ⟨rfl, hK⟩ := h
          obtain rfl : parts = #[] := by apply Array.ext'; simpa using hp
          exact ow_lit0 hop hg hdst (hdn d hdst) hs hK
        · obtain ⟨h1, h2, h3, h4, h5, h6, h7⟩ := h
          obtain ⟨zs, hz⟩ := Option.isSome_iff_exists.1 h1
          exact ow_lit hop hg hdst (hdn d hdst) ho hs hz h2 h3 h4 h5 h6 h7
      · exact h.elim
  | call c =>
    rw [hop] at h
    obtain ⟨cl, args, ts⟩ := c
    cases cl with
    | value f =>
      cases hdst : o.dst with
      | none => rw [hdst] at h; exact h.elim
      | some d =>
        rw [hdst] at h
        have h : gd (ev ρ f) ∧ gdL ρ args.toList ∧ bodyOk P (callee (un (ev ρ f)) (evL ρ args.toList)) ∧ calG P ρ d (callee (un (ev ρ f)) (evL ρ args.toList)) K := h
        obtain ⟨h1, h2, h3, h4⟩ := h
        cases hc : callee (un (ev ρ f)) (evL ρ args.toList) with
        | none => rw [hc] at h3; exact h3.elim
        | some p =>
          obtain ⟨g, l⟩ := p
          rw [hc] at h3 h4
          exact ow_call (t := ⟨⟩) hop hg hdst (hdn d hdst) ho h1 ((gdL_iff ρ _).1 h2) hc h3 h4
    | builtin b =>
      have hcb : cbG P ρ b args.toList ts.toList o.dst K := h
      clear h
      unfold cbG at hcb
      split at hcb
      · rename_i x y t t' d hargs hts hdst
        obtain rfl : args = #[x, y] := by apply Array.ext'; simpa using hargs
        obtain ⟨rfl, h⟩ := hcb
        obtain rfl : ts = #[t, t] := by apply Array.ext'; simpa using hts
        unfold appG at h
        split at h
        · rename_i e z by_ hs
          obtain ⟨h1, h2, h3, h4⟩ := h
          cases hz : zcOf P e with
          | none => rw [hz] at h3; cases h3
          | some zs =>
            rw [hz] at h3
            have hzl : zs.length = z := by simpa using h3
            split at h4
            · rename_i s n hx
              unfold appR at h4
              split at h4
              · rename_i e' z' xs hρ
                obtain ⟨rfl, rfl, k1, k2, k3, k4, k5, k6⟩ := h4
                exact ow_append hop hg hdst (hdn d hdst) ho hx hρ k1 k2 h1 hs hz h2 hzl k3 k4 k5 k6
              · exact h4.elim
            · rename_i hx
              obtain ⟨k1, k2, k3, k4⟩ := h4
              exact ow_append0 hop hg hdst (hdn d hdst) ho hx h1 hs hz h2 hzl k1 k2 k3 k4
            · rename_i hx
              obtain ⟨k1, k2, k3, k4⟩ := h4
              exact ow_appendE hop hg hdst (hdn d hdst) ho hx h1 hs hz h2 hzl k1 k2 k3 k4
            · exact h4.elim
        · exact h.elim
      · refine ow_pure hg ho hd ?_ ?_
        · rw [hop]; exact hcb.1
        · rw [hop]; exact hcb.2
    | invoke r m => exact h.elim
  | build t parts =>
    rw [hop] at h
    have h : (bldP P ρ t parts.toList).1 ∧ K (putD ρ o.dst (bldP P ρ t parts.toList).2) := h
    exact ow_build hop hg ho hd h.1 h.2
  | binOp b t x y t' =>
    rw [hop] at h
    have h : binG P ρ b t x y o.dst K := h
    unfold binG at h
    cases hc : isEql b && isNilC y with
    | false =>
      rw [hc] at h
      refine ow_pure hg ho hd ?_ ?_
      · rw [hop]; exact h.1
      · rw [hop]; exact h.2
    | true =>
      rw [hc] at h
      obtain ⟨h1, h2, h3⟩ := h
      rw [Bool.and_eq_true] at hc
      obtain ⟨c1, c2⟩ := hc
      obtain rfl : b = .eql := by cases b <;> first | rfl | cases c1
      obtain ⟨n', c', rfl⟩ : ∃ n' c', y = .const (.slice none n' c') := by
        unfold isNilC at c2; split at c2
        · exact ⟨_, _, rfl⟩
        · cases c2
      obtain ⟨e, he⟩ : ∃ e, P.underlying t = some (.slice e) := by
        unfold tk at h2; split at h2 <;> first | exact ⟨_, by assumption⟩ | omega
      refine ow_val hg fun I A a w hs => ?_
      have hr := hs.opd x (opsOk_mem ho (x := x) (by rw [hop]; simp [Op.operands])) h1
      have hrun : ∀ (b : Option Addr) n c, a.eval x = .slice b n c → (execOp a.eval o).run P w = .ok (.value (.bool b.isNone)) w := fun b n c hx => by
        have hb : execOp a.eval o = (do pure (.value (← (eqGuard .eql t x (.const (.slice none n' c')) (a.eval x) (.slice none n' c') >>= fun _ => binOp .eql t (a.eval x) (.slice none n' c'))))) := by unfold execOp; rw [hop]; rfl
        have hg : eqGuard .eql t x (.const (.slice none n' c')) (.slice b n c) (.slice none n' c') = (pure () : Sem Unit) := by unfold eqGuard; rfl
        rw [hb, hx, hg, Sem.run_bind]
        show Result.andThen ((binOp .eql t (.slice b n c) (.slice none n' c')).run P w) _ = _
        rw [Lib.run_eql_slice_nil w t e b n c n' c' he]
        rfl
      generalize un (ev ρ x) = d at *
      cases d with
      | sl z n f =>
        generalize hx : a.eval x = v at hr
        cases hr with
        | sl0 _ _ _ b c => exact ⟨_, w, I, A, _, hrun b 0 c hx, hs.putV hd (.v A _), Ext.refl _ _ _, h3 _ (by omega)⟩
        | sl _ _ _ _ b o c us hn hc hm hI hz hcell hone hrel => exact ⟨_, w, I, A, _, hrun _ n c hx, hs.putV hd (.v A _), Ext.refl _ _ _, h3 _ fun _ => rfl⟩
      | v y =>
        cases y with
        | slice b n c =>
          generalize hx : a.eval x = v at hr
          cases hr
          exact ⟨_, w, I, A, _, hrun b n c hx, hs.putV hd (.v A _), Ext.refl _ _ _, h3⟩
        | _ => exact h3.elim
      | _ => exact h3.elim
  | _ =>
    rw [hop] at h
    refine ow_pure hg ho hd ?_ ?_
    · rw [hop]; exact h.1
    · rw [hop]; exact h.2

end
end Go.Sg
