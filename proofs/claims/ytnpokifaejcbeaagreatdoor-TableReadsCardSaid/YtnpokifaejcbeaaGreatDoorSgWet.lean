/- Drawn regions in which appends stand beside loads that nothing orders with them: whatever the order. -/
import Derived.Test.YtnpokifaejcbeaaGreatDoorSgPerm
set_option linter.unusedVariables false
set_option linter.unusedSimpArgs false
namespace Go.Sg
open Go.RowKit

/-- A value that mentions none of the slots D. -/
def dryD (D : List Nat) (d : DV) : Bool := allK (fun s => !D.contains s) d
def dry (D : List Nat) (ρ : Env) : Prop := ∀ t, dryD D (ρ t) = true
def freeK (k : Nat) (ρ : Env) : Prop := ∀ t, allK (fun s => s != k) (ρ t) = true

section
variable {P : Program} {nt : Nat} {ρ : Env} {D : List Nat} {k : Nat} {v : DV}

theorem dryD_free {d : DV} (hk : D.contains k = true) (h : dryD D d = true) : allK (fun s => s != k) d = true :=
  allK_mono (fun s hs => by
    simp only [bne_iff_ne, ne_eq]
    rintro rfl
    rw [hk] at hs
    cases hs) d h
theorem dry_free (hk : D.contains k = true) (h : dry D ρ) : freeK k ρ := fun t => dryD_free hk (h t)
theorem dry_set (h : dry D ρ) (hv : dryD D v = true) : dry D (set ρ k v) := fun t => by
  rw [set_apply]; split
  · exact hv
  · exact h t
theorem free_set (h : freeK k ρ) (hv : allK (fun s => s != k) v = true) {j : Nat} : freeK k (set ρ j v) := fun t => by
  rw [set_apply]; split
  · exact hv
  · exact h t
theorem killD_free {d : DV} (h : allK (fun s => s != k) d = true) : killD k d = d := if_pos h
theorem killS_free {d : DV} (h : allK (fun s => s != k) d = true) : killS k d = d := if_pos h
theorem kill_free (h : freeK k ρ) : kill k ρ = ρ := by
  funext i
  rw [kill_apply]
  split
  · exact killS_free (h i)
  · rfl

/-! ## A slot that nobody mentions makes no difference -/

theorem allK_un {p : Nat → Bool} {d : DV} (h : allK p d = true) : allK p (un d) = true := by
  cases d <;> exact h
theorem ev_free (h : freeK k ρ) {x : Operand} (hx : x ≠ .tmp k) : allK (fun s => s != k) (ev ρ x) = true := by
  cases x with
  | tmp t =>
    have ht : (t != k) = true := by simp; rintro rfl; exact hx rfl
    have := h t
    rw [ev_tmp]
    cases hρ : ρ t <;> rw [hρ] at this <;> first | exact this | exact ht
  | const c =>
    rw [ev_const]
    cases c <;> try rfl
    simp only [cv, allK]
    rw [allKL_iff]
    intro d hd
    simp at hd
    obtain ⟨y, _, rfl⟩ := hd
    rfl
  | global g =>
    rw [ev_global]
    cases GT g <;> rfl
  | func f => rfl

theorem loadP_wet {ld : Option (Option Nat)} {d : DV} (hd : allK (fun s => s != k) d = true) : loadP (set ρ k v) ld d = loadP ρ ld d := by
  unfold loadP
  cases ld with
  | none => rfl
  | some ld =>
    cases d <;> try rfl
    · rename_i s off
      have : s ≠ k := by simpa [allK] using hd
      simp only [set_apply, if_neg this]
    · rename_i s z i off
      have : s ≠ k := by simpa [allK] using hd
      simp only [set_apply, if_neg this]
theorem idxP_wet {el : Option (Option Nat × Nat)} {d i : DV} (hd : allK (fun s => s != k) d = true) : idxP (set ρ k v) el d i = idxP ρ el d i := by
  cases d <;> try (unfold idxP; rfl)
  rename_i s n
  have : s ≠ k := by simpa [allK] using hd
  unfold idxP
  simp only [set_apply, if_neg this]
theorem subP_wet {el : Option (Option Nat × Nat)} {t : Nat} {d : DV} {lo hi : Option DV} (hd : allK (fun s => s != k) d = true) : subP (set ρ k v) el t d lo hi = subP ρ el t d lo hi := by
  unfold subP
  split <;> try rfl
  split <;> try rfl
  rename_i s n _
  have : s ≠ k := by simpa [allK] using hd
  simp only [set_apply, if_neg this]

theorem opQ_wet (hf : freeK k ρ) {op : Op} (h : unread k op) : opQ P (set ρ k v) op = opQ P ρ op := by
  have hx : ∀ x ∈ op.operands, ev (set ρ k v) x = ev ρ x := fun x hx => ev_unread (h x hx)
  have hv : ∀ x ∈ op.operands, allK (fun s => s != k) (un (ev ρ x)) = true := fun x hx => allK_un (ev_free hf (h x hx))
  cases op with
  | buildSlice t n parts =>
    have hp : ∀ p ∈ parts.toList, p.2 ≠ .tmp k := fun p hp => h p.2 (by simp [Op.operands]; exact ⟨p.1, by simpa using hp⟩)
    simp only [opQ, litP, bsOk_set hp, bsL_set hp]
  | build t parts =>
    have hp : ∀ p ∈ parts.toList, p.2 ≠ .tmp k := fun p hp => h p.2 (by simp [Op.operands]; exact ⟨p.1, by simpa using hp⟩)
    simp only [opQ, bldP, bldGo_set hp]
  | makeSlice t x y => simp only [opQ, hx x (by simp [Op.operands]), hx y (by simp [Op.operands])]
  | move x => simp only [opQ, opP, hx x (by simp [Op.operands])]
  | assign x => simp only [opQ, opP, hx x (by simp [Op.operands])]
  | pick c a b => simp only [opQ, opP, hx c (by simp [Op.operands]), hx a (by simp [Op.operands]), hx b (by simp [Op.operands])]
  | load t x => simp only [opQ, opP, hx x (by simp [Op.operands]), loadP_wet (hv x (by simp [Op.operands]))]
  | nilCheck x => simp only [opQ, opP, hx x (by simp [Op.operands])]
  | binOp op t x y t' => simp only [opQ, opP, hx x (by simp [Op.operands]), hx y (by simp [Op.operands])]
  | unOp op t x => simp only [opQ, opP, hx x (by simp [Op.operands])]
  | convert s t x => simp only [opQ, opP, hx x (by simp [Op.operands])]
  | fieldAddr s x f => simp only [opQ, opP, hx x (by simp [Op.operands])]
  | indexAddr t x i => simp only [opQ, opP, hx x (by simp [Op.operands]), hx i (by simp [Op.operands]), idxP_wet (hv x (by simp [Op.operands]))]
  | index t x i => simp only [opQ, opP, hx x (by simp [Op.operands]), hx i (by simp [Op.operands])]
  | slice t x lo hi mx =>
    cases mx with
    | some m => rfl
    | none =>
      have hlo : lo.map (fun y => un (ev (set ρ k v) y)) = lo.map fun y => un (ev ρ y) := by
        cases lo with
        | none => rfl
        | some y => simp [hx y (by simp [Op.operands])]
      have hhi : hi.map (fun y => un (ev (set ρ k v) y)) = hi.map fun y => un (ev ρ y) := by
        cases hi with
        | none => rfl
        | some y => simp [hx y (by simp [Op.operands])]
      have glo : (∀ y ∈ lo, gd (ev (set ρ k v) y)) = ∀ y ∈ lo, gd (ev ρ y) := by
        cases lo with
        | none => simp
        | some y => simp [hx y (by simp [Op.operands])]
      have ghi : (∀ y ∈ hi, gd (ev (set ρ k v) y)) = ∀ y ∈ hi, gd (ev ρ y) := by
        cases hi with
        | none => simp
        | some y => simp [hx y (by simp [Op.operands])]
      simp only [opQ, opP, hx x (by simp [Op.operands]), hlo, hhi, glo, ghi, subP_wet (hv x (by simp [Op.operands]))]
  | extract x i => simp only [opQ, opP, hx x (by simp [Op.operands])]
  | makeFunc fn first captured =>
    cases fn with
    | func f =>
      have h1 : ∀ x ∈ first.toList, ev (set ρ k v) x = ev ρ x := fun x hx' => hx x (by simp [Op.operands]; exact .inl (by simpa using hx'))
      have h2 : ∀ x ∈ captured.toList, ev (set ρ k v) x = ev ρ x := fun x hx' => hx x (by simp [Op.operands]; exact .inr (by simpa using hx'))
      have e1 : (first.toList.map fun x => un (ev (set ρ k v) x)) = first.toList.map fun x => un (ev ρ x) := List.map_congr_left fun x hx' => by rw [h1 x hx']
      have e2 : (captured.toList.map fun x => un (ev (set ρ k v) x)) = captured.toList.map fun x => un (ev ρ x) := List.map_congr_left fun x hx' => by rw [h2 x hx']
      have g1 : (∀ x ∈ first.toList, gd (ev (set ρ k v) x)) = ∀ x ∈ first.toList, gd (ev ρ x) := propext ⟨fun g x hx' => by rw [← h1 x hx']; exact g x hx', fun g x hx' => by rw [h1 x hx']; exact g x hx'⟩
      have g2 : (∀ x ∈ captured.toList, gd (ev (set ρ k v) x)) = ∀ x ∈ captured.toList, gd (ev ρ x) := propext ⟨fun g x hx' => by rw [← h2 x hx']; exact g x hx', fun g x hx' => by rw [h2 x hx']; exact g x hx'⟩
      simp only [opQ, opP, fnP, e1, e2, g1, g2]
    | _ => rfl
  | call c =>
    obtain ⟨cl, args, ts⟩ := c
    cases cl with
    | builtin b =>
      have hb : ∀ x ∈ args.toList, x ≠ .tmp k := fun x hx' => h x (by simp [Op.operands, Call.operands]; simpa using hx')
      simp only [opQ, opP, callP, bltP_set hb]
    | _ => rfl
  | _ => rfl

/-- No call of a function. -/
def calm (op : Op) : Bool := match op with
  | .call ⟨.value _, _, _⟩ => false
  | _ => true

theorem prP_wet (hf : freeK k ρ) {op : Op} {d : DV} (hc : calm op = true) (h : unread k op) (hp : prP P ρ op d) : prP P (set ρ k v) op d := by
  have gen : (opQ P ρ op).1 ∧ d = (opQ P ρ op).2 → (opQ P (set ρ k v) op).1 ∧ d = (opQ P (set ρ k v) op).2 := by rw [opQ_wet hf h]; exact id
  cases op with
  | call c =>
    obtain ⟨cl, args, ts⟩ := c
    cases cl with
    | value f => cases hc
    | _ => exact gen hp
  | _ => exact gen hp

theorem effP_wet {l : List Oper} {o : Oper} {d : DV} (hf : freeK k ρ) (hc : calm o.op = true) (hl : k ∉ o.looksAt l.toArray) (hne : o.dst ≠ some k) (h : effP P l ρ o d) : effP P l (set ρ k v) o d := by
  obtain ⟨h1, h2, h3⟩ := h
  refine ⟨h1, fun m hm => ?_, ?_⟩
  · have : m ≠ k := fun e => hne (by rw [hm, e])
    rw [set_apply, if_neg this]
    exact h2 m hm
  · cases hg : o.guard with
    | none => rw [hg] at h3; exact prP_wet hf hc (looks_unread hl) h3
    | some jw =>
      obtain ⟨j, want⟩ := jw
      rw [hg] at h3
      obtain ⟨g, d', k1, k2, k3, k4⟩ := h3
      exact ⟨g, d', by rw [gAt_set (looks_guard hl hg)]; exact k1, k2, k3, fun hgt => prP_wet hf hc (looks_unread hl) (k4 hgt)⟩

/-! ## An append as an effect of its own kind -/

def SettleD (D : List Nat) (z : Nat) (xs : List (List DV)) (k : DV → Prop) (_ : Tg k) : Prop := ∃ v, RWk (frz z xs) v ∧ isPl v = true ∧ dryD D v = true ∧ k v
theorem settleD_of {z : Nat} {xs : List (List DV)} {k : DV → Prop} {t : Tg k} (v : DV) (h : RWk (frz z xs) v) (h2 : isPl v = true) (h3 : dryD D v = true) (hk : k v) : SettleD D z xs k t := ⟨v, h, h2, h3, hk⟩

def finD (D : List Nat) (f : Bool) (d : Nat) (e : TypeId) (z : Nat) (xs : List (List DV)) (K : Env → Prop) (ρ : Env) : Prop :=
  match f with
  | true => SettleD D z xs (fun v => K (set ρ d v)) ⟨⟩
  | false => K (set ρ d (.row e z xs))
theorem finD_spec {f : Bool} {d : Nat} {e : TypeId} {z : Nat} {xs : List (List DV)} {K : Env → Prop} (h : finD D f d e z xs K ρ) : ∃ v, dryD D v = true ∧ K (set ρ d v) ∧ ∀ (K' : Env → Prop) (ρ' : Env), K' (set ρ' d v) → finD D f d e z xs K' ρ' := by
  cases f with
  | true => obtain ⟨v, h1, h2, h3, h4⟩ := h; exact ⟨v, h3, h4, fun K' ρ' hk => ⟨v, h1, h2, h3, hk⟩⟩
  | false => exact ⟨_, rfl, h, fun K' ρ' hk => hk⟩

def appT (D : List Nat) (f : Bool) (d t : Nat) (e : TypeId) (z by_ m : Nat) (g : Nat → List DV) (K : Env → Prop) (ρ : Env) (c : DV) : Prop :=
  match c with
  | .row e' z' xs => e' = e ∧ z' = z ∧ xs.length + m ≤ 9223372036854775807 ∧ (xs.length + m) * by_ ≤ 140737488355328 ∧ finD D f d e z (xs ++ (List.range m).map g) K (set ρ t .any)
  | .ez => m ≤ 9223372036854775807 ∧ m * by_ ≤ 140737488355328 ∧ finD D f d e z ((List.range m).map g) K ρ
  | _ => False
def appY (P : Program) (D : List Nat) (f : Bool) (d t : Nat) (sl : Option (TypeId × Nat × Nat)) (y : DV) (K : Env → Prop) (ρ : Env) : Prop :=
  match sl, y with
  | some (e, z, by_), .sl z' m g => 0 < z ∧ (zcOf P e).map List.length = some z ∧ z' = z ∧ appT D f d t e z by_ m g K ρ (ρ t)
  | _, _ => False
/-- The variable, the operand and the place of an append. -/
def appP : Op → Option Nat → Option (Nat × Operand × Nat × TypeId)
  | .call ⟨.builtin .append, args, ts⟩, some d => (match args.toList, ts.toList with
    | [.tmp t, y], [ty, ty'] => if ty = ty' ∧ t ≠ d then some (t, y, d, ty) else none
    | _, _ => none)
  | _, _ => none
def appD (P : Program) (D : List Nat) (ρ : Env) (f : Bool) (dst : Option Nat) (op : Op) (K : Env → Prop) : Prop :=
  match appP op dst with
  | some (t, y, d, ty) => gd (ev ρ y) ∧ appY P D f d t (slE P ty) (un (ev ρ y)) K ρ
  | none => False

theorem appP_spec {op : Op} {dst : Option Nat} {t d : Nat} {y : Operand} {ty : TypeId} (h : appP op dst = some (t, y, d, ty)) : op = .call ⟨.builtin .append, #[.tmp t, y], #[ty, ty]⟩ ∧ dst = some d ∧ t ≠ d := by
  unfold appP at h
  split at h
  · rename_i args ts d'
    split at h
    · rename_i t' y' ty' ty'' hargs hts
      split at h
      · rename_i hc
        simp only [Option.some.injEq, Prod.mk.injEq] at h
        obtain ⟨rfl, rfl, rfl, rfl⟩ := h
        obtain ⟨rfl, hne⟩ := hc
        refine ⟨?_, rfl, hne⟩
        obtain rfl : args = #[.tmp t', y'] := by apply Array.ext'; simpa using hargs
        obtain rfl : ts = #[ty', ty'] := by apply Array.ext'; simpa using hts
        rfl
      · cases h
    · cases h
  · cases h

theorem fin_ow {o : Oper} {ops : Array Oper} {f : Bool} {K : Env → Prop} {d : Nat} {e : TypeId} {z : Nat} {xs : List (List DV)} (hd : d < 100000) (hDd : D.contains d = true) {base : Env} (hb : dry D base) (h : finD D f d e z xs K base)
    (H : ∀ K' : Env → Prop, K' (set base d (.row e z xs)) → OW P nt ops o K' ρ) : OW P nt ops o (fun ρ' => dry D ρ' ∧ K ρ') ρ := by
  cases f with
  | false => exact H _ ⟨dry_set hb rfl, h⟩
  | true =>
    obtain ⟨v, h1, h2, h3, h4⟩ := h
    refine ow_settle hd (H _ ?_)
    unfold settleK
    rw [set_apply, if_pos rfl]
    refine ⟨v, h1, h2, ?_⟩
    have e1 : kill d (set base d (.row e z xs)) = set base d (.row e z xs) := kill_free (free_set (dry_free hDd hb) rfl)
    have e2 : set (set base d (.row e z xs)) d v = set base d v := by
      funext i; simp only [set_apply]; split <;> rfl
    rw [e1]
    show dry D (set (set base d (.row e z xs)) d v) ∧ K (set (set base d (.row e z xs)) d v)
    rw [e2]
    exact ⟨dry_set hb h3, h4⟩

theorem appD_ow {o : Oper} {ops : Array Oper} {f : Bool} {K : Env → Prop} (hnt : nt ≤ 100000) (hg : o.guard = none) (ho : opsOk nt o = true) (hd : dstOk nt o = true) (hD : ∀ t y d ty, appP o.op o.dst = some (t, y, d, ty) → D.contains t = true ∧ D.contains d = true)
    (hdry : dry D ρ) (h : appD P D ρ f o.dst o.op K) : OW P nt ops o (fun ρ' => dry D ρ' ∧ K ρ') ρ := by
  unfold appD at h
  split at h
  · rename_i t y d ty hp
    obtain ⟨hop, hdst, hne⟩ := appP_spec hp
    obtain ⟨hDt, hDd⟩ := hD _ _ _ _ hp
    obtain ⟨h0, h⟩ := h
    have hdn : d < nt := by unfold dstOk at hd; rw [hdst] at hd; simpa using hd
    have htn : t < nt := by
      have := opsOk_mem ho (x := .tmp t) (by simp [hop, Op.operands, Call.operands])
      simpa [opdOk] using this
    have hdry2 : dry D (set ρ t .any) := dry_set hdry rfl
    have hkt : kill t ρ = ρ := kill_free (dry_free hDt hdry)
    have hkd : kill d (set ρ t .any) = set ρ t .any := kill_free (dry_free hDd hdry2)
    have hk1 : kill d ρ = ρ := kill_free (dry_free hDd hdry)
    unfold appY at h
    split at h
    · rename_i e z by_ z' m g hs hy
      obtain ⟨h1, h2, rfl, h3⟩ := h
      unfold appT at h3
      split at h3
      · rename_i e' z' xs hρ
        obtain ⟨rfl, rfl, k1, k2, k3⟩ := h3
        refine fin_ow (by omega) hDd hdry2 k3 fun K' hK' => effG_ok hg ho hd ?_
        rw [hop, hdst]
        show ty = ty ∧ appG P ρ d (slE P ty) (ev ρ (.tmp t)) (ev ρ y) K'
        refine ⟨rfl, ?_⟩
        unfold appG
        rw [hs, ev_tmp, hρ]
        refine ⟨h0, h1, h2, ?_⟩
        show appR ρ d t xs.length _ _ by_ (un (ev ρ y)) (ρ t) K'
        unfold appR
        rw [hρ, hy]
        refine ⟨rfl, rfl, by omega, Nat.le_refl _, rfl, by simpa [srcL] using k1, by simpa [srcL] using k2, ?_⟩
        rw [hkt, hkd, List.take_length]
        exact hK'
      · rename_i hρ
        obtain ⟨k1, k2, k3⟩ := h3
        refine fin_ow (by omega) hDd hdry k3 fun K' hK' => effG_ok hg ho hd ?_
        rw [hop, hdst]
        show ty = ty ∧ appG P ρ d (slE P ty) (ev ρ (.tmp t)) (ev ρ y) K'
        refine ⟨rfl, ?_⟩
        unfold appG
        rw [hs, ev_tmp, hρ]
        refine ⟨h0, h1, h2, ?_⟩
        show srcOk ρ _ (un (ev ρ y)) ∧ _ ∧ _ ∧ _
        rw [hy]
        refine ⟨rfl, by simpa [srcL] using k1, by simpa [srcL] using k2, ?_⟩
        rw [hk1]
        exact hK'
      · exact h3.elim
    · exact h.elim
  · exact h.elim

/-- Whether a pure operation has been taken makes no difference to an append. -/
theorem appD_put {l : List Oper} {oi oj : Oper} {f : Bool} {u : DV} {ki : Nat} (hki : oi.dst = some ki) (hc : calm oi.op = true) (hap : oi.apart l.toArray oj = true) (hsrc : ∀ t y d ty, appP oj.op oj.dst = some (t, y, d, ty) → t ∉ oi.looksAt l.toArray)
    (hD : ∀ t y d ty, appP oj.op oj.dst = some (t, y, d, ty) → D.contains t = true ∧ D.contains d = true) (hdry : dry D ρ) {K : Env → Prop}
    (hy : effP P l ρ oi u) (h : appD P D (putD ρ oi.dst u) f oj.dst oj.op K) : appD P D ρ f oj.dst oj.op (fun ρ' => effP P l ρ' oi u ∧ K (putD ρ' oi.dst u)) := by
  obtain ⟨a1, a2, a3⟩ := Oper.apart_spec hap
  unfold appD at h ⊢
  split at h
  · rename_i t y d ty hp
    obtain ⟨hop, hdst, hne⟩ := appP_spec hp
    obtain ⟨hDt, hDd⟩ := hD _ _ _ _ hp
    have hts := hsrc _ _ _ _ hp
    have htl : Operand.tmp t ∈ oj.op.operands := by simp [hop, Op.operands, Call.operands]
    have hyl : y ∈ oj.op.operands := by simp [hop, Op.operands, Call.operands]
    have hkt : ki ≠ t := fun e => looks_unread (a1 ki hki) _ htl (by rw [e])
    have hky : y ≠ .tmp ki := looks_unread (a1 ki hki) _ hyl
    have hkd : ki ≠ d := fun e => a2 ki hki (by rw [hdst, e])
    have hdl : d ∉ oi.looksAt l.toArray := a3 d hdst
    rw [hki, putD_some] at h
    rw [ev_unread hky] at h
    refine ⟨h.1, ?_⟩
    have h := h.2
    have fd := dry_free hDd hdry
    have ft := dry_free hDt hdry
    have e1 : ∀ v, effP P l (set ρ d v) oi u := fun v => effP_wet fd hc hdl (by rw [hki]; simpa using hkd) hy
    have e2 : ∀ v, effP P l (set (set ρ t .any) d v) oi u := fun v =>
      effP_wet (free_set fd rfl) hc hdl (by rw [hki]; simpa using hkd) (effP_wet ft hc hts (by rw [hki]; simpa using hkt) hy)
    have c1 : ∀ v, set (set ρ ki u) d v = set (set ρ d v) ki u := fun v => by
      funext i; simp only [set_apply]
      split
      · rename_i h1; rw [if_neg (by omega)]
      · rfl
    have c2 : ∀ v, set (set (set ρ ki u) t .any) d v = set (set (set ρ t .any) d v) ki u := fun v => by
      funext i; simp only [set_apply]
      by_cases h1 : i = ki
      · rw [if_neg (by omega), if_neg (by omega), if_pos h1, if_pos h1]
      · simp only [if_neg h1]
    unfold appY at h ⊢
    split at h
    · rename_i e z by_ z' m g hs hyv
      obtain ⟨h1, h2, h3, h4⟩ := h
      refine ⟨h1, h2, h3, ?_⟩
      rw [set_apply, if_neg (Ne.symm hkt)] at h4
      unfold appT at h4 ⊢
      split at h4
      · rename_i e' z' xs hρ
        obtain ⟨q1, q2, q3, q4, q5⟩ := h4
        refine ⟨q1, q2, q3, q4, ?_⟩
        obtain ⟨v, r1, r2, r3⟩ := finD_spec q5
        refine r3 _ _ ⟨e2 v, ?_⟩
        rw [hki, putD_some, ← c2]
        exact r2
      · rename_i hρ
        obtain ⟨q3, q4, q5⟩ := h4
        refine ⟨q3, q4, ?_⟩
        obtain ⟨v, r1, r2, r3⟩ := finD_spec q5
        refine r3 _ _ ⟨e1 v, ?_⟩
        rw [hki, putD_some, ← c1]
        exact r2
      · exact h4.elim
    · exact h.elim
  · exact h.elim
theorem finD_mono {f : Bool} {d : Nat} {e : TypeId} {z : Nat} {xs : List (List DV)} {K K' : Env → Prop} (hb : dry D ρ) (hk : ∀ ρ, dry D ρ → K ρ → K' ρ) (h : finD D f d e z xs K ρ) : finD D f d e z xs K' ρ := by
  obtain ⟨v, r1, r2, r3⟩ := finD_spec h
  exact r3 _ _ (hk _ (dry_set hb r1) r2)
theorem appD_mono {f : Bool} {op : Op} {dst : Option Nat} {K K' : Env → Prop} (hdry : dry D ρ) (hk : ∀ ρ, dry D ρ → K ρ → K' ρ) (h : appD P D ρ f dst op K) : appD P D ρ f dst op K' := by
  unfold appD at h ⊢
  split
  · rename_i t y d ty hp
    rw [hp] at h
    refine ⟨h.1, ?_⟩
    have h := h.2
    unfold appY at h ⊢
    split
    · rename_i e z by_ z' m g hs hyv
      rw [hs, hyv] at h
      obtain ⟨h1, h2, h3, h4⟩ := h
      refine ⟨h1, h2, h3, ?_⟩
      unfold appT at h4 ⊢
      split
      · rename_i e' z' xs hρ
        rw [hρ] at h4
        obtain ⟨q1, q2, q3, q4, q5⟩ := h4
        exact ⟨q1, q2, q3, q4, finD_mono (dry_set hdry rfl) hk q5⟩
      · rename_i hρ
        rw [hρ] at h4
        obtain ⟨q3, q4, q5⟩ := h4
        exact ⟨q3, q4, finD_mono hdry hk q5⟩
      · rename_i h5 h6
        exfalso
        cases hq : ρ t <;> rw [hq] at h4 <;> first | exact h4 | exact h5 _ _ _ hq | exact h6 hq
    · rename_i h5
      exfalso
      cases hs : slE P ty with
      | none => rw [hs] at h; exact h
      | some x =>
        obtain ⟨e, z, by_⟩ := x
        rw [hs] at h
        cases hq : un (ev ρ y) <;> rw [hq] at h <;> first | exact h | exact h5 _ _ _ _ _ _ hs hq
  · rename_i hp
    rw [hp] at h
    exact h

/-! ## Whatever order -/

def purD (fl : List Nat) (i : Nat) (o : Oper) : Bool := (pureOp o.op && o.dst.isSome) && !fl.contains i && calm o.op

/-- While appends are to come: one operation comes up. sf: the appends whose results settle. -/
def sED (P : Program) (D fl sf : List Nat) (l : List Oper) (i : Nat) (K : Env → Prop) (ρ : Env) : Prop :=
  match l[i]? with
  | none => False
  | some o => if fl.contains i then o.guard = none ∧ appD P D ρ (sf.contains i) o.dst o.op K else (pureOp o.op && o.dst.isSome) = true ∧ ∃ d, effP P l ρ o d ∧ dryD D d = true ∧ K (putD ρ o.dst d)

theorem sED_mono {fl sf : List Nat} {l : List Oper} {i : Nat} {K K' : Env → Prop} (hdry : dry D ρ) (h : ∀ ρ, dry D ρ → K ρ → K' ρ) (hh : sED P D fl sf l i K ρ) : sED P D fl sf l i K' ρ := by
  unfold sED at *
  split
  · rename_i hi; rw [hi] at hh; exact hh
  · rename_i o hi
    rw [hi] at hh
    simp only at hh
    split
    · rename_i hp; rw [if_pos hp] at hh; exact ⟨hh.1, appD_mono hdry h hh.2⟩
    · rename_i hp
      rw [if_neg hp] at hh
      obtain ⟨h0, d, h1, h2, h3⟩ := hh
      refine ⟨h0, d, h1, h2, h _ ?_ h3⟩
      cases hd : o.dst with
      | none => exact hdry
      | some k => exact dry_set hdry h2

def doneD (fl : List Nat) (listed : Array Bool) : Bool := fl.all fun j => listed.getD j true
def anyED (P : Program) (nt : Nat) (D fl sf fl2 : List Nat) (l : List Oper) (k : Env → Prop) : Nat → Array Bool → Env → Prop
  | 0, listed, ρ => doneD fl listed = true ∧ anyEF P nt fl2 l k 0 listed ρ
  | fuel + 1, listed, ρ => if doneD fl listed then anyEF P nt fl2 l k (fuel + 1) listed ρ else
      dry D ρ ∧ Region.ready .any l.toArray listed ≠ [] ∧ ∀ i ∈ Region.ready .any l.toArray listed, sED P D fl sf l i (anyED P nt D fl sf fl2 l k fuel (listed.setIfInBounds i true)) ρ

/-- The appends name only slots of D. -/
def wetOk (D fl : List Nat) (l : List Oper) : Bool := fl.all fun j => match l[j]? with
  | some o => (match appP o.op o.dst with
    | some (t, _, d, _) => D.contains t && D.contains d
    | none => false)
  | none => false
theorem wetOk_get {fl : List Nat} {l : List Oper} (h : wetOk D fl l = true) {j : Nat} {o : Oper} (hj : fl.contains j = true) (hl : l[j]? = some o) : ∀ t y d ty, appP o.op o.dst = some (t, y, d, ty) → D.contains t = true ∧ D.contains d = true := fun t y d ty hp => by
  have := List.all_eq_true.1 h j (by simpa using hj)
  rw [hl] at this
  simp only [hp, Bool.and_eq_true] at this
  exact this

theorem any_soundD {fl sf fl2 : List Nat} {l : List Oper} {k : Env → Prop} {Q' : Exit → Act → World → Prop} (hr : regOk nt l = true) (hw : wetOk D fl l = true) : ∀ (fuel : Nat) (listed : Array Bool) (ρ : Env) (I : Nat → Prop) (A : Own) (a : Act) (w : World),
    anyED P nt D fl sf fl2 l k fuel listed ρ → Sim nt w I A ρ a → a.defers = [] →
    (∀ I' A' a' w' ρ', Sim nt w' I' A' ρ' a' → a'.defers = [] → Ext w I A w' I' A' → k ρ' → Q' .normal a' w') → wpAny P .any l.toArray Q' fuel listed a w
  | 0, listed, ρ, I, A, a, w, h, hs, hd, hk => any_soundF hr 0 listed ρ I A a w h.2 hs hd hk
  | fuel + 1, listed, ρ, I, A, a, w, h, hs, hd, hk => by
    unfold anyED at h
    split at h
    · exact any_soundF hr (fuel + 1) listed ρ I A a w h hs hd hk
    obtain ⟨hdry, hne, h⟩ := h
    refine ⟨fun h0 => absurd h0 hne, fun i hi => ?_⟩
    have h2 := h i hi
    have rec_ : ∀ I' A' a' w' ρ', Sim nt w' I' A' ρ' a' → a'.defers = [] → Ext w I A w' I' A' → anyED P nt D fl sf fl2 l k fuel (listed.setIfInBounds i true) ρ' → wpAny P .any l.toArray Q' fuel (listed.setIfInBounds i true) a' w' :=
      fun I' A' a' w' ρ' q1 q2 q3 q4 => any_soundD hr hw fuel _ ρ' I' A' a' w' q4 q1 q2 fun I2 A2 a2 w2 ρ2 k1 k2 k3 k4 => hk I2 A2 a2 w2 ρ2 k1 k2 (q3.trans k3) k4
    unfold wpOp
    unfold sED at h2
    simp only [List.getElem?_toArray]
    split
    · rename_i ho
      rw [ho] at h2
      exact h2.elim
    · rename_i o ho
      rw [ho] at h2
      have hOW : OW P nt l.toArray o (anyED P nt D fl sf fl2 l k fuel (listed.setIfInBounds i true)) ρ := by
        simp only at h2
        split at h2
        · rename_i hp
          exact (appD_ow hs.bound h2.1 (regOk_get hr ho).1 (regOk_get hr ho).2 (wetOk_get hw hp ho) hdry h2.2).mono fun _ h => h.2
        · rename_i hp
          obtain ⟨h0, d, k1, _, k2⟩ := h2
          simp only [Bool.and_eq_true] at h0
          exact ow_effP (regOk_dst hr) (regOk_get hr ho).1 (regOk_get hr ho).2 h0.2 k1 k2
      have := hOW I A a w hs hd (wpAny P .any l.toArray Q' fuel (listed.setIfInBounds i true)) Q' rec_
      split at this
      · rename_i hw; rw [if_pos hw]; exact .inl this
      · rename_i hw; rw [if_neg hw]; exact this

/-- Two operations that only give values. -/
theorem pure_put {l : List Oper} {oi oj : Oper} {d u : DV} {ki kj : Nat} (hki : oi.dst = some ki) (hkj : oj.dst = some kj) (hap : oi.apart l.toArray oj = true) (hy : effP P l ρ oi d) (k1 : effP P l (putD ρ oi.dst d) oj u) :
    effP P l ρ oj u ∧ effP P l (putD ρ oj.dst u) oi d ∧ putD (putD ρ oi.dst d) oj.dst u = putD (putD ρ oj.dst u) oi.dst d := by
  obtain ⟨h1, h2, h3⟩ := Oper.apart_spec hap
  have hne : kj ≠ ki := fun e => h2 ki hki (by rw [hkj, e])
  have hdi : isOwn d = false := hy.1
  have hui : isOwn u = false := k1.1
  have hρi : isOwn (ρ ki) = false := hy.2.1 ki hki
  have hρj : isOwn (ρ kj) = false := by
    have := k1.2.1 kj hkj
    rw [hki, putD_some, set_apply, if_neg hne] at this
    exact this
  refine ⟨?_, ?_, ?_⟩
  · have := effP_set (ρ := putD ρ oi.dst d) (k := ki) (u := ρ ki) hρi (by rw [hki, putD_some, set_apply, if_pos rfl]; exact hdi) (h1 ki hki) (fun e => hne (by rw [hkj] at e; cases e; rfl)) k1
    rw [hki, putD_some, set_back] at this
    exact this
  · rw [hkj, putD_some]
    exact effP_set hui hρj (h3 kj hkj) (fun e => hne (by rw [hki] at e; cases e; rfl)) hy
  · rw [hki, hkj]
    funext i
    simp only [putD_some, set_apply]
    by_cases e1 : i = ki
    · rw [if_pos e1, if_neg (by rw [e1]; exact fun e => hne e.symm), if_pos e1]
    · simp only [if_neg e1]

/-- The source of an append, and whether operation o leaves it alone. -/
def srcFree (l : List Oper) (oi oj : Oper) : Bool := match appP oj.op oj.dst with
  | some (t, _, _, _) => !(oi.looksAt l.toArray).contains t
  | none => false
def freeED (fl fl2 : List Nat) (l : List Oper) (listed : Array Bool) (i : Nat) : Bool :=
  match l[i]? with
  | none => false
  | some oi => (purD fl i oi && !fl2.contains i && (depsF l i).all fun j => !listed.getD j true && match l[j]? with
      | some o => o.after.any (fun e => Region.binds .any e && (e.on == i || (depsF l i).contains e.on))
      | none => false) && (List.range l.length).all fun j =>
    j == i || listed.getD j true || (depsF l i).contains j || match l[j]? with
      | none => true
      | some oj => if fl.contains j then oi.apart l.toArray oj && srcFree l oi oj else (pureOp oj.op && oj.dst.isSome) && !fl2.contains j && oi.apart l.toArray oj

theorem anyE_firstD {fl sf fl2 : List Nat} {l : List Oper} {k : Env → Prop} {i : Nat} {oi : Oper} {d : DV} (hi : l[i]? = some oi) (hpi : purD fl i oi = true) (hpi2 : fl2.contains i = false) (hw : wetOk D fl l = true) (hdd : dryD D d = true) (E : Nat → Prop)
    (hD : ∀ j oj, E j → l[j]? = some oj → ∃ e ∈ oj.after, Region.binds .any e = true ∧ (e.on = i ∨ E e.on)) :
    ∀ (fuel : Nat) (listed : Array Bool) (ρ : Env), (∀ j, E j → listed.getD j true = false) →
      (∀ j oj, l[j]? = some oj → j ≠ i → listed.getD j true = false → ¬ E j → if fl.contains j then oi.apart l.toArray oj = true ∧ srcFree l oi oj = true else ((pureOp oj.op && oj.dst.isSome) = true ∧ fl2.contains j = false) ∧ oi.apart l.toArray oj = true) →
      i ∈ Region.ready .any l.toArray listed → dry D ρ → effP P l ρ oi d → anyED P nt D fl sf fl2 l k fuel (listed.setIfInBounds i true) (putD ρ oi.dst d) → anyED P nt D fl sf fl2 l k (fuel + 1) listed ρ := by
  have hpi' := hpi
  unfold purD at hpi'
  simp only [Bool.and_eq_true, Bool.not_eq_true'] at hpi'
  obtain ⟨⟨hp1, hp2⟩, hp3⟩ := hpi'
  obtain ⟨ki, hki⟩ := Option.isSome_iff_exists.1 hp1.2
  have hpF : pur fl2 i oi = true := by unfold pur; simp only [Bool.and_eq_true, hp1, hpi2]; simp
  have hdone : ∀ {listed : Array Bool}, doneD fl (listed.setIfInBounds i true) = doneD fl listed := fun {listed} => by
    unfold doneD
    refine Bool.eq_iff_iff.2 ?_
    simp only [List.all_eq_true]
    have : ∀ j ∈ fl, (listed.setIfInBounds i true).getD j true = listed.getD j true := fun j hj => getD_set_ne true (fun e => by
      subst e
      have : fl.contains i = true := by simpa using hj
      rw [hp2] at this; cases this)
    exact ⟨fun h j hj => by rw [← this j hj]; exact h j hj, fun h j hj => by rw [this j hj]; exact h j hj⟩
  intro fuel
  induction fuel with
  | zero =>
    intro listed ρ hun0 hfree hr hdry hy H
    unfold anyED at H
    unfold anyED
    have hd1 : doneD fl listed = true := by rw [← hdone]; exact H.1
    rw [if_pos hd1]
    refine anyE_firstF hi hpF E hD 0 listed ρ hun0 (fun j oj hj hji hun hno => ?_) hr hy H.2
    have := hfree j oj hj hji hun hno
    have hnf : ¬ fl.contains j = true := fun hc => by
      have := List.all_eq_true.1 hd1 j (by simpa using hc)
      rw [hun] at this; cases this
    rw [if_neg hnf] at this
    exact ⟨by unfold pur; rw [this.1.1, this.1.2]; rfl, this.2⟩
  | succ fuel ih =>
    intro listed ρ hun0 hfree hr hdry hy H
    unfold anyED at H
    rw [hdone] at H
    unfold anyED
    split
    · rename_i hd1
      rw [if_pos hd1] at H
      refine anyE_firstF hi hpF E hD (fuel + 1) listed ρ hun0 (fun j oj hj hji hun hno => ?_) hr hy H
      have := hfree j oj hj hji hun hno
      have hnf : ¬ fl.contains j = true := fun hc => by
        have := List.all_eq_true.1 hd1 j (by simpa using hc)
        rw [hun] at this; cases this
      rw [if_neg hnf] at this
      exact ⟨by unfold pur; rw [this.1.1, this.1.2]; rfl, this.2⟩
    · rename_i hd1
      rw [if_neg hd1] at H
      obtain ⟨hdry', _, H⟩ := H
      refine ⟨hdry, fun h => (by rw [h] at hr; cases hr), fun j hj => ?_⟩
      by_cases hji : j = i
      · subst hji
        unfold sED
        rw [hi]
        simp only
        rw [if_neg (by rw [hp2]; simp)]
        refine ⟨by simp only [Bool.and_eq_true]; exact hp1, d, hy, hdd, ?_⟩
        unfold anyED
        rw [hdone, if_neg hd1]
        exact ⟨hdry', by assumption, H⟩
      · have h1 := H j (ready_mono hj hji)
        obtain ⟨hjun, oj, hoj, hall⟩ := mem_ready.1 hj
        have hoj' : l[j]? = some oj := by simpa using hoj
        have hne : ∀ m, listed.getD m true = false → ∀ e ∈ oj.after, Region.binds .any e = true → e.on ≠ m := fun m h0 e he hb heq => by
          have h1 := hall e he hb
          rw [heq] at h1
          rcases Nat.lt_or_ge m listed.size with h' | h'
          · simp [h'] at h0 h1; rw [h0] at h1; cases h1
          · simp [Array.getElem?_eq_none h'] at h1
        have hnot : ¬ E j := fun hDj => by
          obtain ⟨e, he, hb, hon | hon⟩ := hD j oj hDj hoj'
          · exact hne i (mem_ready.1 hr).1 e he hb hon
          · exact hne e.on (hun0 _ hon) e he hb rfl
        have hset : ∀ m, j ≠ m → (listed.setIfInBounds j true).getD m true = listed.getD m true := fun m h => getD_set_ne true h
        have hun' : ∀ m, E m → (listed.setIfInBounds j true).getD m true = false := fun m hm => by
          rw [hset m (fun e => hnot (e ▸ hm))]; exact hun0 m hm
        have hfree' : ∀ m om, l[m]? = some om → m ≠ i → (listed.setIfInBounds j true).getD m true = false → ¬ E m → if fl.contains m then oi.apart l.toArray om = true ∧ srcFree l oi om = true else ((pureOp om.op && om.dst.isSome) = true ∧ fl2.contains m = false) ∧ oi.apart l.toArray om = true := fun m om hm hmi hun hno => by
          refine hfree m om hm hmi ?_ hno
          by_cases hjm : j = m
          · subst hjm; exact hjun
          · rw [hset m hjm] at hun; exact hun
        have hcom : (listed.setIfInBounds i true).setIfInBounds j true = (listed.setIfInBounds j true).setIfInBounds i true := by rw [Array.setIfInBounds_comm _ _ (Ne.symm hji)]
        rw [hcom] at h1
        have hre := ready_mono hr (Ne.symm hji)
        have hf := hfree j oj hoj' hji hjun hnot
        unfold sED at h1 ⊢
        rw [hoj'] at h1 ⊢
        simp only at h1 ⊢
        split
        · rename_i hfj
          rw [if_pos hfj] at h1 hf
          refine ⟨h1.1, ?_⟩
          have hsrc : ∀ t y d ty, appP oj.op oj.dst = some (t, y, d, ty) → t ∉ oi.looksAt l.toArray := fun t y d ty hp => by
            have := hf.2
            unfold srcFree at this
            rw [hp] at this
            simpa using this
          have h2 := appD_put hki hp3 hf.1 hsrc (wetOk_get hw hfj hoj') hdry hy h1.2
          exact appD_mono hdry (fun ρ' hd' h3 => ih (listed.setIfInBounds j true) ρ' hun' hfree' hre hd' h3.1 h3.2) h2
        · rename_i hfj
          rw [if_neg hfj] at h1 hf
          obtain ⟨h0, u, k1, k2, k3⟩ := h1
          have h0' := h0
          simp only [Bool.and_eq_true] at h0'
          obtain ⟨kj, hkj⟩ := Option.isSome_iff_exists.1 h0'.2
          obtain ⟨q1, q2, q3⟩ := pure_put hki hkj hf.2 hy k1
          rw [q3] at k3
          exact ⟨h0, u, q1, k2, ih (listed.setIfInBounds j true) _ hun' hfree' hre (by rw [hkj, putD_some]; exact dry_set hdry k2) q2 k3⟩

theorem freeED_spec {fl fl2 : List Nat} {l : List Oper} {listed : Array Bool} {i : Nat} {oi : Oper} (hi : l[i]? = some oi) (h : freeED fl fl2 l listed i = true) : purD fl i oi = true ∧ fl2.contains i = false ∧
    (∀ j oj, j ∈ depsF l i → l[j]? = some oj → ∃ e ∈ oj.after, Region.binds .any e = true ∧ (e.on = i ∨ e.on ∈ depsF l i)) ∧ (∀ j, j ∈ depsF l i → listed.getD j true = false) ∧
    ∀ j oj, l[j]? = some oj → j ≠ i → listed.getD j true = false → ¬ j ∈ depsF l i → if fl.contains j then oi.apart l.toArray oj = true ∧ srcFree l oi oj = true else ((pureOp oj.op && oj.dst.isSome) = true ∧ fl2.contains j = false) ∧ oi.apart l.toArray oj = true := by
  unfold freeED at h
  rw [hi] at h
  generalize depsF l i = E at h ⊢
  simp only [Bool.and_eq_true] at h
  obtain ⟨⟨⟨h0, h1⟩, h2⟩, h3⟩ := h
  rw [List.all_eq_true] at h2 h3
  refine ⟨h0, by simpa using h1, fun j oj hj hoj => ?_, fun j hj => ?_, fun j oj hj hne hun hno => ?_⟩
  · have := h2 j hj
    rw [hoj] at this
    simp only [Bool.and_eq_true, Array.any_eq_true', Bool.or_eq_true, beq_iff_eq] at this
    obtain ⟨_, e, he, hb, hon⟩ := this
    exact ⟨e, he, hb, hon.imp id fun h => by simpa using h⟩
  · have := h2 j hj
    simp only [Bool.and_eq_true, Bool.not_eq_true'] at this
    exact this.1
  · have hlt : j < l.length := by
      rcases Nat.lt_or_ge j l.length with h | h
      · exact h
      · rw [List.getElem?_eq_none h] at hj; cases hj
    have := h3 j (by simpa using hlt)
    rw [hj] at this
    simp only [Bool.or_eq_true, beq_iff_eq] at this
    rcases this with ((h | h) | h) | h
    · exact absurd h hne
    · rw [hun] at h; cases h
    · exact absurd (by simpa using h) hno
    · split
      · rename_i hc; rw [if_pos hc] at h; simpa using h
      · rename_i hc; rw [if_neg hc] at h; simp only [Bool.and_eq_true, Bool.not_eq_true'] at h ⊢; exact h

/-- The given order's checks. -/
def permED (fl fl2 : List Nat) (l : List Oper) : List Nat → Array Bool → Bool
  | [], listed => doneD fl listed && permE fl2 l [] listed
  | i :: r, listed => if doneD fl listed then permE fl2 l (i :: r) listed else
      ((Region.ready .any l.toArray listed).contains i && freeED fl fl2 l listed i || (Region.ready .any l.toArray listed == [i] && fl.contains i)) && permED fl fl2 l r (listed.setIfInBounds i true)

/-- The walk in the given order. -/
def permWD (P : Program) (nt : Nat) (D fl sf fl2 : List Nat) (l : List Oper) (k : Env → Prop) : List Nat → Array Bool → Env → Prop
  | [], _, ρ => k ρ
  | i :: r, listed, ρ => if doneD fl listed then permW P nt fl2 l k (i :: r) ρ else sED P D fl sf l i (permWD P nt D fl sf fl2 l k r (listed.setIfInBounds i true)) ρ

theorem anyE_permD {fl sf fl2 : List Nat} {l : List Oper} {k : Env → Prop} (hw : wetOk D fl l = true) : ∀ (r : List Nat) (listed : Array Bool) (ρ : Env), permED fl fl2 l r listed = true → dry D ρ → permWD P nt D fl sf fl2 l k r listed ρ → anyED P nt D fl sf fl2 l k r.length listed ρ
  | [], listed, ρ, hB, _, h => by
    unfold permED at hB
    simp only [Bool.and_eq_true] at hB
    exact ⟨hB.1, anyE_perm [] listed ρ hB.2 h⟩
  | i :: r, listed, ρ, hB, hdry, h => by
    unfold permED at hB
    unfold permWD at h
    by_cases hd : doneD fl listed = true
    · rw [if_pos hd] at hB h
      unfold List.length anyED
      rw [if_pos hd]
      exact anyE_perm (i :: r) listed ρ hB h
    · rw [if_neg hd] at hB h
      simp only [Bool.and_eq_true, Bool.or_eq_true] at hB
      obtain ⟨hB1, hB2⟩ := hB
      rcases hB1 with ⟨hr, hf⟩ | hone
      · cases hi : l[i]? with
        | none => unfold freeED at hf; rw [hi] at hf; cases hf
        | some oi =>
          obtain ⟨hp, hp2, hD, hun, hfree⟩ := freeED_spec hi hf
          unfold sED at h
          rw [hi] at h
          have hp' := hp
          unfold purD at hp'
          simp only [Bool.and_eq_true, Bool.not_eq_true'] at hp'
          simp only [hp'.1.2] at h
          rw [if_neg (by simp)] at h
          obtain ⟨_, d, k1, k2, k3⟩ := h
          have hdry' : dry D (putD ρ oi.dst d) := by
            cases hd : oi.dst with
            | none => exact hdry
            | some kk => exact dry_set hdry k2
          exact anyE_firstD hi hp hp2 hw k2 (fun j => j ∈ depsF l i) hD r.length listed ρ hun hfree (by simpa using hr) hdry k1 (anyE_permD hw r _ _ hB2 hdry' k3)
      · have hone' : Region.ready .any l.toArray listed = [i] := by simpa using hone.1
        unfold List.length anyED
        rw [if_neg hd]
        refine ⟨hdry, fun h => (by rw [hone'] at h; cases h), fun j hj => ?_⟩
        rw [hone'] at hj
        obtain rfl : j = i := by simpa using hj
        exact sED_mono hdry (fun ρ' hd' h' => anyE_permD hw r _ _ hB2 hd' h') h

/-! ## By reckoning -/

def dryK (D : List Nat) (kk : Nat) (K : Env → Prop) (ρ : Env) : Prop := dryD D (ρ kk) = true ∧ K ρ
def opW (P : Program) (all : List Oper) (D : List Nat) (o : Oper) (c : Nat) (K : Env → Prop) (ρ : Env) : Prop :=
  match c, o.dst with
  | 0, some kk => (match o.guard with
    | none => prG P ρ o.op (some kk) (dryK D kk K)
    | some (j, want) => gdG P ρ o.op (some kk) (gAt all ρ j want) (dryK D kk K))
  | 1, dst => o.guard = none ∧ appD P D ρ false dst o.op K
  | 2, dst => o.guard = none ∧ appD P D ρ true dst o.op K
  | 3, _ => opI P all o false K ρ
  | 4, _ => opI P all o true K ρ
  | _, _ => False
def pwWX (P : Program) (all : List Oper) (D : List Nat) (k : Env → Prop) : List (Oper × Nat) → Env → Prop
  | [], ρ => k ρ
  | p :: r, ρ => opW P all D p.1 p.2 (pwWX P all D k r) ρ
def pwW (P : Program) (all : List Oper) (D : List Nat) (k : Env → Prop) (l : List (Oper × Nat)) (_ : Tg (all, k, l)) (ρ : Env) : Prop := pwWX P all D k l ρ

def pickW (fl sf fl2 : List Nat) (l : List Oper) : List Nat → Array Bool → Option (List (Oper × Nat))
  | [], _ => some []
  | i :: r, listed => match l[i]?, pickW fl sf fl2 l r (listed.setIfInBounds i true) with
    | some o, some q => (match doneD fl listed, fl2.contains i, fl.contains i, sf.contains i, pureOp o.op && o.dst.isSome with
      | true, true, _, _, _ => some ((o, 4) :: q)
      | true, false, _, _, _ => some ((o, 3) :: q)
      | false, _, true, true, _ => some ((o, 2) :: q)
      | false, _, true, false, _ => some ((o, 1) :: q)
      | false, _, false, _, true => some ((o, 0) :: q)
      | false, _, false, _, false => none)
    | _, _ => none
theorem done_more {fl : List Nat} {listed : Array Bool} {i : Nat} (h : doneD fl listed = true) : doneD fl (listed.setIfInBounds i true) = true := by
  unfold doneD at h ⊢
  rw [List.all_eq_true] at h ⊢
  intro j hj
  have := h j hj
  by_cases e : i = j
  · subst e
    by_cases hs : i < listed.size
    · simp [Array.getD_eq_getD_getElem?, Array.getElem?_setIfInBounds, hs]
    · simp [Array.getD_eq_getD_getElem?, Array.getElem?_setIfInBounds, hs]
  · rw [getD_set_ne true e]; exact this

theorem opI_step (hnt : nt ≤ 100000) {fl : List Nat} {all : List Oper} {i : Nat} {o : Oper} {K K' : Env → Prop} (hr : regOk nt all = true) (hgo : all.all gOk = true) (hi : all[i]? = some o) (hrec : ∀ ρ', K ρ' → K' ρ') (h : opI P all o (fl.contains i) K ρ) :
    if pur fl i o then ∃ d, effP P all ρ o d ∧ K' (putD ρ o.dst d) else OW P nt all.toArray o K' ρ := by
  obtain ⟨h1, h2⟩ := regOk_get hr hi
  unfold opI at h
  split at h
  · rename_i hg
    split at h
    · rename_i hf
      rw [if_neg (by unfold pur; rw [hf]; simp)]
      exact (effF_ok hnt hg h1 h2 h).mono hrec
    · rename_i hf hp
      rw [if_pos (by unfold pur; rw [hf, hp]; rfl)]
      obtain ⟨d, k1, k2⟩ := prG_eff (all := all) hg h
      exact ⟨d, k1, hrec _ k2⟩
    · rename_i hf hp
      rw [if_neg (by unfold pur; rw [hp]; simp)]
      exact (effG_ok hg h1 h2 h).mono hrec
  · rename_i j want hg
    split at h
    · exact h.elim
    · rename_i hf
      have hgk := List.all_eq_true.1 hgo o (List.mem_of_getElem? hi)
      unfold gOk at hgk
      rw [hg] at hgk
      simp only [Option.isNone_some, Bool.false_or] at hgk
      obtain ⟨d, k1, k2⟩ := gdG_eff hg hgk h
      rw [if_pos (by unfold pur; rw [hf, hgk]; rfl)]
      exact ⟨d, k1, hrec _ k2⟩

theorem pwW_permW (hnt : nt ≤ 100000) {fl sf fl2 : List Nat} {all : List Oper} {k : Env → Prop} (hr : regOk nt all = true) (hgo : all.all gOk = true) : ∀ (r : List Nat) (listed : Array Bool) (l : List (Oper × Nat)) (ρ : Env), doneD fl listed = true → pickW fl sf fl2 all r listed = some l → pwWX P all D k l ρ → permW P nt fl2 all k r ρ
  | [], listed, l, ρ, _, hl, h => by
    simp [pickW] at hl; subst hl; exact h
  | i :: r, listed, l, ρ, hd, hl, h => by
    unfold pickW at hl
    split at hl
    · rename_i o q ho hq
      rw [hd] at hl
      have hrec := fun ρ' => pwW_permW (k := k) hnt hr hgo r _ q ρ' (done_more hd) hq
      unfold permW
      rw [ho]
      simp only
      refine opI_step hnt hr hgo ho hrec ?_
      cases hc : fl2.contains i <;> rw [hc] at hl <;> cases hl <;> unfold pwWX at h <;> exact h
    · cases hl

theorem pwW_perm (hnt : nt ≤ 100000) {fl sf fl2 : List Nat} {all : List Oper} {k : Env → Prop} (hr : regOk nt all = true) (hgo : all.all gOk = true) : ∀ (r : List Nat) (listed : Array Bool) (l : List (Oper × Nat)) (ρ : Env), pickW fl sf fl2 all r listed = some l → pwWX P all D k l ρ → dry D ρ → permWD P nt D fl sf fl2 all k r listed ρ
  | [], listed, l, ρ, hl, h, _ => by
    simp [pickW] at hl; subst hl; exact h
  | i :: r, listed, l, ρ, hl, h, hdry => by
    unfold permWD
    split
    · rename_i hd; exact pwW_permW hnt hr hgo (i :: r) listed l ρ hd hl h
    · rename_i hd
      unfold pickW at hl
      split at hl
      · rename_i o q ho hq
        rw [Bool.not_eq_true] at hd
        rw [hd] at hl
        have hrec := fun ρ' => pwW_perm (k := k) hnt hr hgo r _ q ρ' hq
        unfold sED
        rw [ho]
        simp only
        cases hf : fl.contains i
        case true =>
          rw [if_pos rfl]
          rw [hf] at hl
          have h' : o.guard = none ∧ appD P D ρ (sf.contains i) o.dst o.op (pwWX P all D k q) := by
            cases hc : sf.contains i <;> rw [hc] at hl <;> cases hl <;> unfold pwWX at h <;> exact h
          exact ⟨h'.1, appD_mono hdry (fun ρ' hd' h3 => hrec ρ' h3 hd') h'.2⟩
        case false =>
          rw [if_neg (by simp)]
          rw [hf] at hl
          cases hp : (pureOp o.op && o.dst.isSome)
          case true =>
            rw [hp] at hl
            cases hl
            unfold pwWX at h
            have hgk := List.all_eq_true.1 hgo o (List.mem_of_getElem? ho)
            refine ⟨rfl, ?_⟩
            have hp' := hp
            simp only [Bool.and_eq_true] at hp'
            obtain ⟨kk, hkk⟩ := Option.isSome_iff_exists.1 hp'.2
            unfold opW at h
            rw [hkk] at h
            simp only at h
            have fin : ∀ d, effP P all ρ o d ∧ dryK D kk (pwWX P all D k q) (putD ρ o.dst d) → ∃ d, effP P all ρ o d ∧ dryD D d = true ∧ permWD P nt D fl sf fl2 all k r (listed.setIfInBounds i true) (putD ρ o.dst d) := fun d ⟨q1, q2, q3⟩ => by
              have hdd : dryD D d = true := by rwa [hkk, putD_some, set_apply, if_pos rfl] at q2
              refine ⟨d, q1, hdd, hrec _ q3 ?_⟩
              rw [hkk, putD_some]
              exact dry_set hdry hdd
            split at h
            · rename_i hg
              obtain ⟨d, q⟩ := prG_eff (all := all) (o := o) hg (by rw [hkk]; exact h)
              exact fin d q
            · rename_i j want hg
              obtain ⟨d, q⟩ := gdG_eff (all := all) (o := o) hg hp (by rw [hkk]; exact h)
              exact fin d q
          case false =>
            rw [hp] at hl
            cases hl
      · cases hl

/-- The kept slots mention none of D. -/
def dryLs (D : List Nat) : List Nat → Env → Prop
  | [], _ => True
  | l :: L, ρ => dryD D (ρ l) = true ∧ dryLs D L ρ
theorem dry_keepC (hD : D.all (fun s => decide (s < 100000)) = true) (hout : ∀ s, 100000 ≤ s → isOut (ρ s)) : ∀ (L : List Nat), dryLs D L ρ → dry D (keepC L ρ)
  | [], _ => fun t => by
    rw [keepC_nil]
    unfold hi
    split
    · rfl
    · rename_i ht
      refine allK_mono (fun s hs => ?_) _ (hout t (by omega))
      have hs := of_decide_eq_true hs
      simp only [Bool.not_eq_true', List.contains_eq_mem, decide_eq_false_iff_not]
      intro hm
      have := of_decide_eq_true (List.all_eq_true.1 hD s hm)
      omega
  | l :: L, h => by
    rw [keepC_cons]
    exact dry_set (dry_keepC hD hout L h.2) h.1

theorem aw_drawW (L : List Nat) (D r fl sf fl2 : List Nat) {id : Nat} {l : List Oper} {Q : Exit → Env → Prop} (hm : P.follows .mixedOrders = true) (h1 : regOk nt l = true) (h2 : l.all gOk = true) (h3 : r.length = l.length)
    (h4 : permED fl fl2 l r (Array.replicate l.length false) = true) (h5 : wetOk D fl l = true) (h6 : D.all (fun s => decide (s < 100000)) = true) {q : List (Oper × Nat)} (hq : pickW fl sf fl2 l r (Array.replicate l.length false) = some q)
    (h : pwW P l D (Q .normal) q ⟨⟩ (keepC L ρ)) (hdr : dryLs D L ρ) : AW P nt (.region id l.toArray true) Q ρ := by
  intro I A a w hs hd
  have hdry := dry_keepC (ρ := ρ) h6 hs.out L hdr
  have hnt := hs.bound
  have hs := hs.weaken (Le.keepC L ρ)
  refine wp_region_any hm ?_
  have h1' := anyE_permD (P := P) (nt := nt) (sf := sf) h5 r (Array.replicate l.length false) _ h4 hdry (pwW_perm hnt h1 h2 r _ q _ hq h hdry)
  rw [h3] at h1'
  have hgr : Grow w I w.drew I := ⟨rfl, ⟨rfl, Nat.le_succ _⟩, rfl, Nat.le_refl _, fun _ _ => rfl, fun _ h => h, fun _ h => .inl h⟩
  have := any_soundD (Q' := fun e a' w' => ∃ I' A' ρ', Sim nt w' I' A' ρ' a' ∧ a'.defers = [] ∧ Ext w I A w' I' A' ∧ Q e ρ') h1 h5 _ _ _ I A a w.drew h1' (hs.grow hgr) hd
    fun I' A' a' w' ρ' q1 q2 q3 q4 => ⟨I', A', ρ', q1, q2, (hgr.ext hs.osim).trans q3, q4⟩
  simpa using this

/-- A region in the order r: fl the appends that loads may precede or follow (sf: those that settle), D the slots that they use. -/
theorem aw_regW (L : List Nat) (cl : List (Nat × Nat)) (D r fl sf fl2 : List Nat) {id : Nat} {l : List Oper} {Q : Exit → Env → Prop} (hm : P.follows .mixedOrders = true)
    (hr : (regOk2 nt l && decide (r.length = l.length) && permED fl fl2 l r (Array.replicate l.length false) && wetOk D fl l && D.all (fun s => decide (s < 100000)) && cl.all fun p => decide (p.1 < nt) && decide (p.2 < nt) && p.1 != p.2) = true)
    (h : ∀ q, pickW fl sf fl2 l r (Array.replicate l.length false) = some q → pwW P l D (clG cl (Q .normal)) q ⟨⟩ (keepC L ρ)) (hq : (pickW fl sf fl2 l r (Array.replicate l.length false)).isSome = true) (hdr : dryLs D L ρ) : AW P nt (.region id l.toArray true) Q ρ := by
  simp only [regOk2, Bool.and_eq_true, decide_eq_true_eq] at hr
  obtain ⟨⟨⟨⟨⟨⟨h1, h2⟩, h3⟩, h4⟩, h5⟩, h6⟩, h7⟩ := hr
  obtain ⟨q, hq⟩ := Option.isSome_iff_exists.1 hq
  exact aw_claims h7 (aw_drawW L D r fl sf fl2 hm h1 h2 h3 h4 h5 h6 hq (h q hq) hdr)
end

@[congr] theorem SettleD_congr {D : List Nat} {z : Nat} {xs xs' : List (List DV)} {k : DV → Prop} {t : Tg k} (h : xs = xs') : SettleD D z xs k t = SettleD D z xs' k t := by rw [h]
@[congr] theorem pwW_congr {P : Program} {all : List Oper} {D : List Nat} {l : List (Oper × Nat)} {k : Env → Prop} {t : Tg (all, k, l)} {ρ ρ' : Env} (h : ρ = ρ') : pwW P all D k l t ρ = pwW P all D k l t ρ' := by rw [h]
section
variable {P : Program} {ρ : Env} (all : List Oper) (D : List Nat) (os : List (Oper × Nat)) (k : Env → Prop) (dd : Nat) (d : Option Tmp) (op : Op) (ty : TypeId) (pos : String) (af : Array Edge) (j : Nat) (want : Bool)
theorem pwW_nil : pwW P all D k [] ⟨⟩ ρ = k ρ := rfl
theorem pwW_pure : pwW P all D k ((⟨some dd, op, ty, pos, af, none⟩, 0) :: os) ⟨⟩ ρ = prG P ρ op (some dd) (dryK D dd (pwW P all D k os ⟨⟩)) := rfl
theorem pwW_grd : pwW P all D k ((⟨some dd, op, ty, pos, af, some (j, want)⟩, 0) :: os) ⟨⟩ ρ = gdG P ρ op (some dd) (gAt all ρ j want) (dryK D dd (pwW P all D k os ⟨⟩)) := rfl
theorem pwW_app : pwW P all D k ((⟨d, op, ty, pos, af, none⟩, 1) :: os) ⟨⟩ ρ = appD P D ρ false d op (pwW P all D k os ⟨⟩) := by
  show (_ = _ ∧ _) = _
  simp; rfl
theorem pwW_appS : pwW P all D k ((⟨d, op, ty, pos, af, none⟩, 2) :: os) ⟨⟩ ρ = appD P D ρ true d op (pwW P all D k os ⟨⟩) := by
  show (_ = _ ∧ _) = _
  simp; rfl
theorem pwW_plain : pwW P all D k ((⟨d, op, ty, pos, af, none⟩, 3) :: os) ⟨⟩ ρ = (match pureOp op && d.isSome with
      | true => prG P ρ op d (pwW P all D k os ⟨⟩)
      | false => effG P ρ op d (pwW P all D k os ⟨⟩)) := by
  unfold pwW
  rw [pwWX]
  unfold opW opI
  simp only
  generalize (pureOp op && d.isSome) = b
  cases b <;> rfl
theorem pwW_eff : pwW P all D k ((⟨d, op, ty, pos, af, none⟩, 4) :: os) ⟨⟩ ρ = effF P ρ op d (pwW P all D k os ⟨⟩) := rfl
theorem pwW_guard : pwW P all D k ((⟨d, op, ty, pos, af, some (j, want)⟩, 3) :: os) ⟨⟩ ρ = gdG P ρ op d (gAt all ρ j want) (pwW P all D k os ⟨⟩) := rfl
theorem dryK_at (kk : Nat) (K : Env → Prop) : dryK D kk K ρ = (dryD D (ρ kk) = true ∧ K ρ) := rfl
theorem appD_at (f : Bool) (t dd : Nat) (y : Operand) (K : Env → Prop) : appD P D ρ f (some dd) (.call ⟨.builtin .append, #[.tmp t, y], #[ty, ty]⟩) K = (t ≠ dd ∧ gd (ev ρ y) ∧ appY P D f dd t (slE P ty) (un (ev ρ y)) K ρ) := by
  unfold appD appP
  by_cases h : t = dd
  · simp [h]
  · simp [h]
theorem appY_at (f : Bool) (t dd : Nat) (e : TypeId) (z by_ z' m : Nat) (g : Nat → List DV) (K : Env → Prop) : appY P D f dd t (some (e, z, by_)) (.sl z' m g) K ρ = (0 < z ∧ (zcOf P e).map List.length = some z ∧ z' = z ∧ appT D f dd t e z by_ m g K ρ (ρ t)) := rfl
theorem appT_row (f : Bool) (t dd : Nat) (e e' : TypeId) (z by_ z' m : Nat) (g : Nat → List DV) (K : Env → Prop) (xs : List (List DV)) : appT D f dd t e z by_ m g K ρ (.row e' z' xs) = (e' = e ∧ z' = z ∧ xs.length + m ≤ 9223372036854775807 ∧ (xs.length + m) * by_ ≤ 140737488355328 ∧ finD D f dd e z (xs ++ (List.range m).map g) K (set ρ t .any)) := rfl
theorem appT_ez (f : Bool) (t dd : Nat) (e : TypeId) (z by_ m : Nat) (g : Nat → List DV) (K : Env → Prop) : appT D f dd t e z by_ m g K ρ .ez = (m ≤ 9223372036854775807 ∧ m * by_ ≤ 140737488355328 ∧ finD D f dd e z ((List.range m).map g) K ρ) := rfl
theorem finD_t (dd : Nat) (e : TypeId) (z : Nat) (K : Env → Prop) (xs : List (List DV)) : finD D true dd e z xs K ρ = SettleD D z xs (fun v => K (set ρ dd v)) ⟨⟩ := rfl
theorem finD_f (dd : Nat) (e : TypeId) (z : Nat) (K : Env → Prop) (xs : List (List DV)) : finD D false dd e z xs K ρ = K (set ρ dd (.row e z xs)) := rfl
end
attribute [go_sem] pwW_nil pwW_pure pwW_grd pwW_app pwW_appS pwW_plain pwW_eff pwW_guard dryK_at appD_at appY_at appT_row appT_ez finD_t finD_f dryLs
end Go.Sg
