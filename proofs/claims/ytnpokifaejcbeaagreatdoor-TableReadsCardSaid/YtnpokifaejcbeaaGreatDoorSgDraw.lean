/- Regions that draw their order: operations that only give a value may be taken in the text's order. -/
import Derived.Test.YtnpokifaejcbeaaGreatDoorSgWalk
import Derived.Still
set_option linter.unusedVariables false
set_option linter.unusedSimpArgs false
namespace Go.Sg
open Go.RowKit

/-- Operations that do no more than give a value. -/
def pureOp : Op → Bool
  | .call c => match c.callee with
    | .value _ => true
    | .builtin .len => true
    | .builtin .max => true
    | .builtin .min => true
    | _ => false
  | .assign _ | .move _ | .pick .. | .load .. | .nilCheck _ | .binOp .. | .unOp .. | .convert .. | .fieldAddr .. | .indexAddr .. | .index .. | .slice .. | .extract .. | .makeFunc .. => true
  | .buildSlice _ _ _ => true
  | .build _ _ => true
  | .makeSlice .. => true
  | _ => false

def litP (P : Program) (ρ : Env) (sl : Option (TypeId × Nat × Nat)) (n : Nat) (parts : List (Nat × Operand)) : Prop × DV :=
  match sl with
  | some (e, z, _) => if n = 0 then (parts = [], .ez) else ((zcOf P e).isSome = true ∧ 0 < z ∧ 0 < n ∧ n * z ≤ 16777216 ∧ parts.length = n ∧ bsOk ρ z 0 parts, .sl z n fun i => (bsL ρ parts).getD i [])
  | none => (False, .any)

/-- New memory of zeros, settled. -/
def mkP (P : Program) (sl : Option (TypeId × Nat × Nat)) (x y : DV) : Prop × DV :=
  match sl, x, y with
  | some (e, z, by_), .v (.int _ n), .v (.int _ c) =>
    (match zcOf P e with
    | some zs => (zs.length = z ∧ 0 ≤ n ∧ n ≤ c ∧ c ≤ 9223372036854775807 ∧ c * by_ ≤ 140737488355328, .sl z n.toNat fun _ => zs.map .v)
    | none => (False, .any))
  | _, _, _ => (False, .any)

/-- The obligation and value of an operation that only gives a value, calls apart. -/
def opQ (P : Program) (ρ : Env) : Op → Prop × DV
  | .buildSlice t n parts => litP P ρ (slE P t) n parts.toList
  | .build t parts => bldP P ρ t parts.toList
  | .makeSlice t x y => mkP P (slE P t) (ev ρ x) (ev ρ y)
  | op => opP P ρ op

/-- Without a guard: d is given. -/
def prP (P : Program) (ρ : Env) (op : Op) (d : DV) : Prop :=
  match op with
  | .call ⟨.value f, args, _⟩ => gd (ev ρ f) ∧ gdL ρ args.toList ∧ ∃ g l, callee (un (ev ρ f)) (evL ρ args.toList) = some (g, l) ∧ hasBody P g = true ∧ PCall P ρ g l d
  | op => (opQ P ρ op).1 ∧ d = (opQ P ρ op).2

def effP (P : Program) (all : List Oper) (ρ : Env) (o : Oper) (d : DV) : Prop :=
  isOwn d = false ∧ (∀ k, o.dst = some k → isOwn (ρ k) = false) ∧
  match o.guard with
  | none => prP P ρ o.op d
  | some (j, want) => ∃ g d', gAt all ρ j want = some g ∧ d = .cond g d' ∧ isPl d' = true ∧ (g = true → prP P ρ o.op d')

section
variable {P : Program} {nt : Nat} {ρ : Env}

theorem isOwn_of_pl {d : DV} (h : isPl d = true) : isOwn d = false := by cases d <;> first | rfl | (cases h)

theorem ow_prP {ops : Array Oper} {o : Oper} {d : DV} {K : Env → Prop} (hg : o.guard = none) (ho : opsOk nt o = true) (hd : dstOk nt o = true) (hi : isOwn d = false) (hdst : o.dst.isSome = true) (h : prP P ρ o.op d) (hK : K (putD ρ o.dst d)) : OW P nt ops o K ρ := by
  obtain ⟨k, hk⟩ := Option.isSome_iff_exists.1 hdst
  have hkn : k < nt := by unfold dstOk at hd; rw [hk] at hd; simpa using hd
  have gen : (∀ t n parts, o.op ≠ .buildSlice t n parts) → (opP P ρ o.op).1 ∧ d = (opP P ρ o.op).2 → OW P nt ops o K ρ := fun _ h => ow_pure hg ho hd h.1 (by rw [← h.2]; exact hK)
  cases hop : o.op with
  | call c =>
    obtain ⟨cl, args, ts⟩ := c
    rw [hop] at h
    cases cl with
    | value f =>
      obtain ⟨h1, h2, g, l, h3, h4, h5⟩ := h
      refine ow_call (t := ⟨⟩) hop hg hk hkn ho h1 ((gdL_iff ρ _).1 h2) h3 h4 ⟨_, h5, ?_⟩
      rintro O' r ⟨rfl, rfl⟩
      refine ⟨?_, ?_⟩
      · intro h; rw [hi] at h; cases h
      · rw [hk] at hK
        unfold putR
        rw [if_neg (by simp [hi])]
        exact hK
    | _ => exact gen (by simp [hop]) (by rw [hop]; exact h)
  | buildSlice t n parts =>
    rw [hop] at h
    obtain ⟨h1, rfl⟩ := h
    simp only [opQ] at h1 hK
    unfold litP at h1 hK
    split at h1
    · rename_i e z by_ hs
      rw [hs] at hK
      split at h1
      · rename_i hn0
        simp only [if_pos hn0] at hK
        have h1 : parts.toList = [] := h1
        obtain rfl : parts = #[] := by apply Array.ext'; simpa using h1
        subst hn0
        exact ow_litE hop hg hk hd hs (by rw [hk] at hK; exact hK)
      rename_i hn0
      simp only [if_neg hn0] at hK
      obtain ⟨q1, q2, q3, q4, q5, q6⟩ := h1
      obtain ⟨zs, hz⟩ := Option.isSome_iff_exists.1 q1
      rw [hk] at hK
      exact ow_lit hop hg hk hkn ho hs hz q2 q3 q4 q5 q6 hK
    · exact h1.elim
  | build t parts =>
    rw [hop] at h
    obtain ⟨h1, rfl⟩ := h
    exact ow_build hop hg ho hd h1 hK
  | makeSlice t x y =>
    rw [hop] at h
    obtain ⟨h1, rfl⟩ := h
    simp only [opQ] at h1 hK
    unfold mkP at h1 hK
    split at h1
    · rename_i e z by_ k' n k'' c hs hx hy
      split at h1
      · rename_i zs hz
        rw [hs, hx, hy] at hK
        simp only [hz] at hK
        obtain ⟨q1, q2, q3, q4, q5⟩ := h1
        rw [hk] at hK
        exact ow_mkS hop hg hk hkn ho hx hy hs hz q1 q2 q3 q4 q5 hK
      · exact h1.elim
    · exact h1.elim
  | _ => exact gen (by simp [hop]) (by rw [hop]; rw [hop] at h; exact h)

/-! ## What an operation looks at -/

/-- Slot k is not looked at by an operation. -/
def unread (k : Nat) (op : Op) : Prop := ∀ x ∈ op.operands, x ≠ .tmp k

theorem ev_unread {k : Nat} {u : DV} {x : Operand} (h : x ≠ .tmp k) : ev (set ρ k u) x = ev ρ x := by
  cases x with
  | tmp t =>
    have : t ≠ k := fun e => h (by rw [e])
    rw [ev_tmp, ev_tmp, set_apply, if_neg this]
  | _ => rfl

theorem loadB_own {ld : Option Nat} {off : Nat} {c : DV} (h : isOwn c = false) : loadB ld off c = (False, .any) := by cases c <;> first | rfl | (cases h)
theorem loadR_own {ld : Option Nat} {z i off : Nat} {c : DV} (h : isOwn c = false) : loadR ld z i off c = (False, .any) := by cases c <;> first | rfl | (cases h)

theorem loadP_set {k : Nat} {u : DV} (hu : isOwn u = false) (hk : isOwn (ρ k) = false) (ld : Option (Option Nat)) (d : DV) : loadP (set ρ k u) ld d = loadP ρ ld d := by
  unfold loadP
  cases ld with
  | none => rfl
  | some ld =>
    cases d <;> try rfl
    · rename_i s off
      simp only [set_apply]
      split
      · rename_i e; subst e; rw [loadB_own hu, loadB_own hk]
      · rfl
    · rename_i s z i off
      simp only [set_apply]
      split
      · rename_i e; subst e; rw [loadR_own hu, loadR_own hk]
      · rfl

theorem row_set {k s : Nat} {u : DV} (hu : isOwn u = false) (hk : isOwn (ρ k) = false) (e : TypeId) (z : Nat) (xs : List (List DV)) : (set ρ k u s = .row e z xs) = (ρ s = .row e z xs) := by
  rw [set_apply]
  split
  · rename_i h
    subst h
    apply propext
    constructor
    · intro h; rw [h] at hu; cases hu
    · intro h; rw [h] at hk; cases hk
  · rfl

theorem idxP_set {k : Nat} {u : DV} (hu : isOwn u = false) (hk : isOwn (ρ k) = false) (el : Option (Option Nat × Nat)) (d i : DV) : idxP (set ρ k u) el d i = idxP ρ el d i := by
  unfold idxP
  simp only [row_set hu hk]

theorem subP_set {k : Nat} {u : DV} (hu : isOwn u = false) (hk : isOwn (ρ k) = false) (el : Option (Option Nat × Nat)) (t : Nat) (d : DV) (lo hi : Option DV) : subP (set ρ k u) el t d lo hi = subP ρ el t d lo hi := by
  unfold subP
  simp only [row_set hu hk]

theorem gdL_set {k : Nat} {u : DV} : ∀ {l : List Operand}, (∀ x ∈ l, x ≠ .tmp k) → gdL (set ρ k u) l = gdL ρ l
  | [], _ => rfl
  | x :: l, h => by
    have h1 := ev_unread (ρ := ρ) (u := u) (h x (by simp))
    have h2 := gdL_set (k := k) (u := u) (l := l) fun y hy => h y (by simp [hy])
    simp only [gdL, h1, h2]

theorem evL_set {k : Nat} {u : DV} {l : List Operand} (h : ∀ x ∈ l, x ≠ .tmp k) : evL (set ρ k u) l = evL ρ l := by
  unfold evL
  apply List.map_congr_left
  intro x hx
  rw [ev_unread (h x hx)]

theorem bsOk_set {k z : Nat} {u : DV} : ∀ {l : List (Nat × Operand)} {m : Nat}, (∀ p ∈ l, p.2 ≠ .tmp k) → bsOk (set ρ k u) z m l = bsOk ρ z m l
  | [], _, _ => rfl
  | p :: l, m, h => by
    have h1 := ev_unread (ρ := ρ) (u := u) (h p (by simp))
    have h2 := bsOk_set (z := z) (k := k) (u := u) (l := l) (m := m + 1) fun y hy => h y (by simp [hy])
    simp only [bsOk, h1, h2]

theorem bsL_set {k : Nat} {u : DV} {l : List (Nat × Operand)} (h : ∀ p ∈ l, p.2 ≠ .tmp k) : bsL (set ρ k u) l = bsL ρ l := by
  unfold bsL
  apply List.map_congr_left
  intro p hp
  rw [ev_unread (h p hp)]

theorem bldGo_set {k : Nat} {t : TypeId} {u : DV} : ∀ {l : List (Nat × Operand)} {cs : List DV}, (∀ p ∈ l, p.2 ≠ .tmp k) → bldGo P (set ρ k u) t l cs = bldGo P ρ t l cs
  | [], _, _ => rfl
  | p :: l, cs, h => by
    have h1 := ev_unread (ρ := ρ) (u := u) (h p (by simp))
    have h2 := fun cs => bldGo_set (k := k) (t := t) (u := u) (l := l) (cs := cs) fun y hy => h y (by simp [hy])
    unfold bldGo
    simp only [h1, h2]
theorem bltP_set {k : Nat} {u : DV} {b : Builtin} {l : List Operand} {ts : List TypeId} (h : ∀ x ∈ l, x ≠ .tmp k) : bltP P (set ρ k u) b l ts = bltP P ρ b l ts := by
  unfold bltP
  split
  · rename_i x t; rw [ev_unread (h x (by simp))]
  · rename_i x y; rw [ev_unread (h x (by simp)), ev_unread (h y (by simp))]
  · rename_i x y; rw [ev_unread (h x (by simp)), ev_unread (h y (by simp))]
  · rfl

theorem opQ_set {k : Nat} {u : DV} (hu : isOwn u = false) (hk : isOwn (ρ k) = false) {op : Op} (h : unread k op) : opQ P (set ρ k u) op = opQ P ρ op := by
  have hx : ∀ x ∈ op.operands, ev (set ρ k u) x = ev ρ x := fun x hx => ev_unread (h x hx)
  cases op with
  | buildSlice t n parts =>
    have hp : ∀ p ∈ parts.toList, p.2 ≠ .tmp k := fun p hp => h p.2 (by simp [Op.operands]; exact ⟨p.1, by simpa using hp⟩)
    simp only [opQ, litP, bsOk_set hp, bsL_set hp]
  | build t parts =>
    have hp : ∀ p ∈ parts.toList, p.2 ≠ .tmp k := fun p hp => h p.2 (by simp [Op.operands]; exact ⟨p.1, by simpa using hp⟩)
    simp only [opQ, bldP, bldGo_set hp]
  | makeSlice t x y => simp only [opQ, hx x (by simp [Op.operands]), hx y (by simp [Op.operands])]
  | move x => simp only [opQ, opP, hx x (by simp [Op.operands])]
  | assign x => simp only [opQ, opP, hx x (by simp [Op.operands])]
  | pick c a b => simp only [opQ, opP, hx c (by simp [Op.operands]), hx a (by simp [Op.operands]), hx b (by simp [Op.operands])]
  | load t x => simp only [opQ, opP, hx x (by simp [Op.operands]), loadP_set hu hk]
  | nilCheck x => simp only [opQ, opP, hx x (by simp [Op.operands])]
  | binOp op t x y t' => simp only [opQ, opP, hx x (by simp [Op.operands]), hx y (by simp [Op.operands])]
  | unOp op t x => simp only [opQ, opP, hx x (by simp [Op.operands])]
  | convert s t x => simp only [opQ, opP, hx x (by simp [Op.operands])]
  | fieldAddr s x f => simp only [opQ, opP, hx x (by simp [Op.operands])]
  | indexAddr t x i => simp only [opQ, opP, hx x (by simp [Op.operands]), hx i (by simp [Op.operands]), idxP_set hu hk]
  | index t x i => simp only [opQ, opP, hx x (by simp [Op.operands]), hx i (by simp [Op.operands])]
  | slice t x lo hi mx =>
    cases mx with
    | some m => rfl
    | none =>
      have hlo : lo.map (fun y => un (ev (set ρ k u) y)) = lo.map fun y => un (ev ρ y) := by
        cases lo with
        | none => rfl
        | some y => simp [hx y (by simp [Op.operands])]
      have hhi : hi.map (fun y => un (ev (set ρ k u) y)) = hi.map fun y => un (ev ρ y) := by
        cases hi with
        | none => rfl
        | some y => simp [hx y (by simp [Op.operands])]
      have glo : (∀ y ∈ lo, gd (ev (set ρ k u) y)) = ∀ y ∈ lo, gd (ev ρ y) := by
        cases lo with
        | none => simp
        | some y => simp [hx y (by simp [Op.operands])]
      have ghi : (∀ y ∈ hi, gd (ev (set ρ k u) y)) = ∀ y ∈ hi, gd (ev ρ y) := by
        cases hi with
        | none => simp
        | some y => simp [hx y (by simp [Op.operands])]
      simp only [opQ, opP, hx x (by simp [Op.operands]), hlo, hhi, glo, ghi, subP_set hu hk]
  | extract x i => simp only [opQ, opP, hx x (by simp [Op.operands])]
  | makeFunc fn first captured =>
    cases fn with
    | func f =>
      have h1 : ∀ x ∈ first.toList, ev (set ρ k u) x = ev ρ x := fun x hx' => hx x (by simp [Op.operands]; exact .inl (by simpa using hx'))
      have h2 : ∀ x ∈ captured.toList, ev (set ρ k u) x = ev ρ x := fun x hx' => hx x (by simp [Op.operands]; exact .inr (by simpa using hx'))
      have e1 : (first.toList.map fun x => un (ev (set ρ k u) x)) = first.toList.map fun x => un (ev ρ x) := List.map_congr_left fun x hx' => by rw [h1 x hx']
      have e2 : (captured.toList.map fun x => un (ev (set ρ k u) x)) = captured.toList.map fun x => un (ev ρ x) := List.map_congr_left fun x hx' => by rw [h2 x hx']
      have g1 : (∀ x ∈ first.toList, gd (ev (set ρ k u) x)) = ∀ x ∈ first.toList, gd (ev ρ x) := propext ⟨fun g x hx' => by rw [← h1 x hx']; exact g x hx', fun g x hx' => by rw [h1 x hx']; exact g x hx'⟩
      have g2 : (∀ x ∈ captured.toList, gd (ev (set ρ k u) x)) = ∀ x ∈ captured.toList, gd (ev ρ x) := propext ⟨fun g x hx' => by rw [← h2 x hx']; exact g x hx', fun g x hx' => by rw [h2 x hx']; exact g x hx'⟩
      simp only [opQ, opP, fnP, e1, e2, g1, g2]
    | _ => rfl
  | call c =>
    obtain ⟨cl, args, ts⟩ := c
    cases cl with
    | builtin b =>
      have hb : ∀ x ∈ args.toList, x ≠ .tmp k := fun x hx' => h x (by simp [Op.operands, Call.operands]; simpa using hx')
      simp only [opQ, opP, callP, bltP_set hb]
    | _ => rfl
  | _ => rfl

theorem PCall.set {k : Nat} {u : DV} (hu : isOwn u = false) (hk : isOwn (ρ k) = false) {f : FuncId} {l : List DV} {d : DV} (h : PCall P ρ f l d) : PCall P (Sg.set ρ k u) f l d := by
  have key : ∀ w I A, OSim w I A (Sg.set ρ k u) ↔ OSim w I A ρ := fun w I A => by
    have : ∀ s, OwnRel w I A s (Sg.set ρ k u s) ↔ OwnRel w I A s (ρ s) := fun s => by
      rw [set_apply]
      split
      · rename_i e
        subst e
        exact ⟨fun _ => .ofPure hk, fun _ => .ofPure hu⟩
      · exact Iff.rfl
    exact ⟨fun h => ⟨fun s => (this s).1 (h.own s), h.inj, h.sep, h.imm⟩, fun h => ⟨fun s => (this s).2 (h.own s), h.inj, h.sep, h.imm⟩⟩
  intro w I A vals h1 h2 h3
  refine (h w I A vals ((key w I A).1 h1) h2 h3).mono ?_
  rintro e w' ⟨v, I', O', r, k1, k2, k3, k4, k5, k6, rfl, rfl⟩
  exact ⟨v, I', _, r, k1, (key w' I' A).2 k2, fun s => frOk.refl _, fun s h => h, k5, k6, rfl, rfl⟩

theorem set_back {k : Nat} {u : DV} : Sg.set (Sg.set ρ k u) k (ρ k) = ρ := by
  funext i
  rw [set_apply, set_apply]
  split
  · rename_i e; rw [e]
  · rfl

theorem prP_set {k : Nat} {u : DV} (hu : isOwn u = false) (hk : isOwn (ρ k) = false) {op : Op} {d : DV} (h : unread k op) (hp : prP P ρ op d) : prP P (set ρ k u) op d := by
  have gen : (opQ P ρ op).1 ∧ d = (opQ P ρ op).2 → (opQ P (set ρ k u) op).1 ∧ d = (opQ P (set ρ k u) op).2 := by rw [opQ_set hu hk h]; exact id
  cases op with
  | call c =>
    obtain ⟨cl, args, ts⟩ := c
    cases cl with
    | value f =>
      obtain ⟨h1, h2, g, l, h3, h4, h5⟩ := hp
      have hf : ev (set ρ k u) f = ev ρ f := ev_unread (h f (by simp [Op.operands, Call.operands]))
      have ha : ∀ x ∈ args.toList, x ≠ .tmp k := fun x hx => h x (by simp [Op.operands, Call.operands]; exact .inr (by simpa using hx))
      refine ⟨by rw [hf]; exact h1, by rw [gdL_set ha]; exact h2, g, l, by rw [hf, evL_set ha]; exact h3, h4, h5.set hu hk⟩
    | _ => exact gen hp
  | _ => exact gen hp

theorem gAt_set {all : List Oper} {k j : Nat} {want : Bool} {u : DV} (h : ∀ o, all[j]? = some o → o.dst ≠ some k) : gAt all (set ρ k u) j want = gAt all ρ j want := by
  unfold gAt
  cases ho : all[j]? with
  | none => rfl
  | some o =>
    simp only
    cases hd : o.dst with
    | none => rfl
    | some d =>
      have : d ≠ k := fun e => h o ho (by rw [hd, e])
      simp only [set_apply, if_neg this]

/-- An operation that gives a value may be taken. -/
theorem ow_effP {l : List Oper} {o : Oper} {d : DV} {K : Env → Prop} (hall : l.all (dstOk nt) = true) (ho : opsOk nt o = true) (hd : dstOk nt o = true) (hdst : o.dst.isSome = true) (h : effP P l ρ o d) (hK : K (putD ρ o.dst d)) : OW P nt l.toArray o K ρ := by
  obtain ⟨h1, h2, h3⟩ := h
  cases hg : o.guard with
  | none => rw [hg] at h3; exact ow_prP hg ho hd h1 hdst h3 hK
  | some jw =>
    obtain ⟨j, want⟩ := jw
    rw [hg] at h3
    obtain ⟨g, d', k1, rfl, k3, k4⟩ := h3
    obtain ⟨k, hk⟩ := Option.isSome_iff_exists.1 hdst
    have hkn : k < nt := by unfold dstOk at hd; rw [hk] at hd; simpa using hd
    intro I A a w hs hdf next Q' hn
    rw [gAt_sound hs hg hall k1]
    cases g with
    | true =>
      rw [if_pos rfl]
      have := ow_prP (P := P) (nt := nt) (ρ := ρ) (ops := l.toArray) (o := { o with guard := none }) (d := d') (K := fun ρ' => ρ' = putD ρ o.dst d') rfl ho hd (isOwn_of_pl k3) hdst (k4 rfl) rfl I A a w hs hdf next Q'
        (fun I' A' a' w' ρ' q1 q2 q3 q4 => by
          subst q4
          refine hn I' A' a' w' (putD ρ o.dst (.cond true d')) ?_ q2 q3 hK
          rw [hk] at q1 ⊢
          refine ⟨⟨fun s => ?_, q1.osim.inj, q1.osim.sep, q1.osim.imm⟩, q1.size, q1.bound, fun i hi => ?_, fun s hs' => ?_⟩
          · have := q1.osim.own s
            simp only [putD_some, set_apply] at this ⊢
            split
            · trivial
            · rename_i e; rw [if_neg e] at this; exact this
          · have := q1.slot i hi
            simp only [putD_some, set_apply] at this ⊢
            split
            · rename_i e
              rw [if_pos e] at this
              refine ⟨fun _ => ?_, fun h => by cases h⟩
              exact SlotRel.rel this k3
            · rename_i e; rw [if_neg e] at this; exact this
          · have := q1.out s hs'
            simp only [putD_some, set_apply] at this ⊢
            split
            · rename_i e; exact absurd (Nat.lt_of_lt_of_le hkn q1.bound) (by rw [← e]; exact Nat.not_lt.2 hs')
            · rename_i e; rw [if_neg e] at this; exact this)
      rw [if_pos (by simp [Region.wanted])] at this
      exact this
    | false =>
      rw [if_neg (by simp)]
      rw [hk]
      exact hn I A _ w _ (hs.put (v := .cond false d') hkn ⟨(fun h => by cases h), fun _ => rfl⟩ trivial) (by rw [put_defers]; exact hdf) (Ext.refl _ _ _) (by rw [hk] at hK; exact hK)

theorem looks_unread {ops : Array Oper} {o : Oper} {k : Nat} (h : k ∉ o.looksAt ops) : unread k o.op := fun x hx e => by
  subst e
  apply h
  unfold Oper.looksAt
  simp only [List.mem_append, List.mem_filterMap]
  exact .inl ⟨.tmp k, by simpa using hx, rfl⟩

theorem looks_guard {l : List Oper} {o : Oper} {k j : Nat} {want : Bool} (h : k ∉ o.looksAt l.toArray) (hg : o.guard = some (j, want)) : ∀ q, l[j]? = some q → q.dst ≠ some k := fun q hq e => by
  apply h
  unfold Oper.looksAt
  simp only [hg, List.mem_append]
  refine .inr ?_
  simp [hq, e]

/-- A value that an operation does not look at makes no difference to it. -/
theorem effP_set {l : List Oper} {o : Oper} {d u : DV} {k : Nat} (hu : isOwn u = false) (hk : isOwn (ρ k) = false) (hl : k ∉ o.looksAt l.toArray) (hne : o.dst ≠ some k) (h : effP P l ρ o d) : effP P l (set ρ k u) o d := by
  obtain ⟨h1, h2, h3⟩ := h
  refine ⟨h1, fun m hm => ?_, ?_⟩
  · have : m ≠ k := fun e => hne (by rw [hm, e])
    rw [set_apply, if_neg this]
    exact h2 m hm
  · cases hg : o.guard with
    | none => rw [hg] at h3; exact prP_set hu hk (looks_unread hl) h3
    | some jw =>
      obtain ⟨j, want⟩ := jw
      rw [hg] at h3
      obtain ⟨g, d', k1, k2, k3, k4⟩ := h3
      exact ⟨g, d', by rw [gAt_set (looks_guard hl hg)]; exact k1, k2, k3, fun hgt => prP_set hu hk (looks_unread hl) (k4 hgt)⟩

/-! ## Whatever order -/

/-- One operation comes up: of those that only give a value a value is named; the others by their own rule. -/
def sE (P : Program) (nt : Nat) (l : List Oper) (i : Nat) (K : Env → Prop) (ρ : Env) : Prop :=
  match l[i]? with
  | none => K ρ
  | some o => if pureOp o.op && o.dst.isSome then ∃ d, effP P l ρ o d ∧ K (putD ρ o.dst d) else OW P nt l.toArray o K ρ

theorem sE_mono {l : List Oper} {i : Nat} {K K' : Env → Prop} (h : ∀ ρ, K ρ → K' ρ) (hh : sE P nt l i K ρ) : sE P nt l i K' ρ := by
  unfold sE at *
  split
  · rename_i hi; rw [hi] at hh; exact h _ hh
  · rename_i o hi
    rw [hi] at hh
    simp only at hh
    split
    · rename_i hp; rw [if_pos hp] at hh; obtain ⟨d, h1, h2⟩ := hh; exact ⟨d, h1, h _ h2⟩
    · rename_i hp; rw [if_neg hp] at hh; exact hh.mono h

def anyE (P : Program) (nt : Nat) (l : List Oper) (k : Env → Prop) : Nat → Array Bool → Env → Prop
  | 0, listed, ρ => Region.ready .any l.toArray listed = [] ∧ k ρ
  | fuel + 1, listed, ρ => (Region.ready .any l.toArray listed = [] → k ρ) ∧ ∀ i ∈ Region.ready .any l.toArray listed, sE P nt l i (anyE P nt l k fuel (listed.setIfInBounds i true)) ρ

def regOk (nt : Nat) (l : List Oper) : Bool := l.all fun o => opsOk nt o && dstOk nt o

theorem regOk_dst {l : List Oper} (h : regOk nt l = true) : l.all (dstOk nt) = true := by
  unfold regOk at h
  rw [List.all_eq_true] at h ⊢
  exact fun o ho => by have := h o ho; simp at this; exact this.2

theorem regOk_get {l : List Oper} (h : regOk nt l = true) {i : Nat} {o : Oper} (hi : l[i]? = some o) : opsOk nt o = true ∧ dstOk nt o = true := by
  unfold regOk at h
  rw [List.all_eq_true] at h
  have := h o (List.mem_of_getElem? hi)
  simpa using this

theorem any_sound {l : List Oper} {k : Env → Prop} {Q' : Exit → Act → World → Prop} (hr : regOk nt l = true) : ∀ (fuel : Nat) (listed : Array Bool) (ρ : Env) (I : Nat → Prop) (A : Own) (a : Act) (w : World),
    anyE P nt l k fuel listed ρ → Sim nt w I A ρ a → a.defers = [] →
    (∀ I' A' a' w' ρ', Sim nt w' I' A' ρ' a' → a'.defers = [] → Ext w I A w' I' A' → k ρ' → Q' .normal a' w') → wpAny P .any l.toArray Q' fuel listed a w
  | 0, listed, ρ, I, A, a, w, h, hs, hd, hk => ⟨h.1, hk I A a w ρ hs hd (Ext.refl _ _ _) h.2⟩
  | fuel + 1, listed, ρ, I, A, a, w, h, hs, hd, hk => by
    refine ⟨fun h0 => hk I A a w ρ hs hd (Ext.refl _ _ _) (h.1 h0), fun i hi => ?_⟩
    have h2 := h.2 i hi
    have rec_ : ∀ I' A' a' w' ρ', Sim nt w' I' A' ρ' a' → a'.defers = [] → Ext w I A w' I' A' → anyE P nt l k fuel (listed.setIfInBounds i true) ρ' → wpAny P .any l.toArray Q' fuel (listed.setIfInBounds i true) a' w' :=
      fun I' A' a' w' ρ' q1 q2 q3 q4 => any_sound hr fuel _ ρ' I' A' a' w' q4 q1 q2 fun I2 A2 a2 w2 ρ2 k1 k2 k3 k4 => hk I2 A2 a2 w2 ρ2 k1 k2 (q3.trans k3) k4
    unfold wpOp
    unfold sE at h2
    simp only [List.getElem?_toArray]
    split
    · rename_i ho
      rw [ho] at h2
      exact rec_ I A a w ρ hs hd (Ext.refl _ _ _) h2
    · rename_i o ho
      rw [ho] at h2
      have hOW : OW P nt l.toArray o (anyE P nt l k fuel (listed.setIfInBounds i true)) ρ := by
        simp only at h2
        split at h2
        · rename_i hp
          obtain ⟨d, k1, k2⟩ := h2
          simp only [Bool.and_eq_true] at hp
          exact ow_effP (regOk_dst hr) (regOk_get hr ho).1 (regOk_get hr ho).2 hp.2 k1 k2
        · exact h2
      have := hOW I A a w hs hd (wpAny P .any l.toArray Q' fuel (listed.setIfInBounds i true)) Q' rec_
      split at this
      · rename_i hw; rw [if_pos hw]; exact .inl this
      · rename_i hw; rw [if_neg hw]; exact this

/-- Two operations that only give values: whether the one has been taken makes no difference to the other. -/
theorem sE_put {l : List Oper} {j : Nat} {oi oj : Oper} {d : DV} (hj : l[j]? = some oj) (hpj : (pureOp oj.op && oj.dst.isSome) = true) {ki : Nat} (hki : oi.dst = some ki) (hap : oi.apart l.toArray oj = true) {K : Env → Prop}
    (hy : effP P l ρ oi d) (h : sE P nt l j K (putD ρ oi.dst d)) : sE P nt l j (fun ρ' => effP P l ρ' oi d ∧ K (putD ρ' oi.dst d)) ρ := by
  obtain ⟨h1, h2, h3⟩ := Oper.apart_spec hap
  unfold sE at h ⊢
  rw [hj] at h ⊢
  simp only [hpj, if_true] at h ⊢
  obtain ⟨u, k1, k2⟩ := h
  simp only [Bool.and_eq_true] at hpj
  obtain ⟨kj, hkj⟩ := Option.isSome_iff_exists.1 hpj.2
  have hne : kj ≠ ki := fun e => h2 ki hki (by rw [hkj, e])
  have hdi : isOwn d = false := hy.1
  have hui : isOwn u = false := k1.1
  have hρi : isOwn (ρ ki) = false := hy.2.1 ki hki
  have hρj : isOwn (ρ kj) = false := by
    have := k1.2.1 kj hkj
    rw [hki, putD_some, set_apply, if_neg hne] at this
    exact this
  refine ⟨u, ?_, ?_, ?_⟩
  · have := effP_set (ρ := putD ρ oi.dst d) (k := ki) (u := ρ ki) hρi (by rw [hki, putD_some, set_apply, if_pos rfl]; exact hdi) (h1 ki hki) (fun e => hne (by rw [hkj] at e; cases e; rfl)) k1
    rw [hki, putD_some, set_back] at this
    exact this
  · rw [hkj, putD_some]
    exact effP_set hui hρj (h3 kj hkj) (fun e => hne (by rw [hki] at e; cases e; rfl)) hy
  · rw [hki, hkj] at k2
    rw [hki, hkj]
    have : putD (putD ρ (some kj) u) (some ki) d = putD (putD ρ (some ki) d) (some kj) u := by
      funext i
      simp only [putD_some, set_apply]
      by_cases e1 : i = ki
      · rw [if_pos e1, if_neg (by rw [e1]; exact fun e => hne e.symm), if_pos e1]
      · simp only [if_neg e1]
    rw [this]
    exact k2

/-- The checks on a region's edges: each operation either only gives a value, and every operation that need not wait for it only gives a value as well and is apart from it; or it comes up alone. -/
def freeE (l : List Oper) (listed : Array Bool) (i : Nat) : Bool :=
  match l[i]? with
  | none => false
  | some oi => pureOp oi.op && oi.dst.isSome && (List.range l.length).all fun j =>
    j == i || listed.getD j true || match l[j]? with
      | none => true
      | some oj => oj.after.any (fun e => Region.binds .any e && e.on == i) || (pureOp oj.op && oj.dst.isSome && oi.apart l.toArray oj)

def lexE (l : List Oper) : Nat → Nat → Array Bool → Bool
  | 0, _, listed => (Region.ready .any l.toArray listed).isEmpty
  | fuel + 1, i, listed => ((Region.ready .any l.toArray listed).contains i && freeE l listed i || Region.ready .any l.toArray listed == [i]) && lexE l fuel (i + 1) (listed.setIfInBounds i true)

theorem anyE_first {l : List Oper} {k : Env → Prop} {i : Nat} {oi : Oper} {d : DV} (hi : l[i]? = some oi) (hpi : (pureOp oi.op && oi.dst.isSome) = true) :
    ∀ (fuel : Nat) (listed : Array Bool) (ρ : Env),
      (∀ j oj, l[j]? = some oj → j ≠ i → listed.getD j true = false → (∀ e ∈ oj.after, Region.binds .any e = true → e.on ≠ i) → (pureOp oj.op && oj.dst.isSome) = true ∧ oi.apart l.toArray oj = true) →
      i ∈ Region.ready .any l.toArray listed → effP P l ρ oi d → anyE P nt l k fuel (listed.setIfInBounds i true) (putD ρ oi.dst d) → anyE P nt l k (fuel + 1) listed ρ := by
  obtain ⟨ki, hki⟩ := Option.isSome_iff_exists.1 (by simp only [Bool.and_eq_true] at hpi; exact hpi.2)
  have take : ∀ {K : Env → Prop} {ρ : Env}, effP P l ρ oi d → K (putD ρ oi.dst d) → sE P nt l i K ρ := fun h1 h2 => by
    unfold sE
    rw [hi]
    simp only [hpi, if_true]
    exact ⟨d, h1, h2⟩
  intro fuel
  induction fuel with
  | zero =>
    intro listed ρ _ hr hy H
    refine ⟨fun h => (by rw [h] at hr; cases hr), fun j hj => ?_⟩
    by_cases hji : j = i
    · subst hji; exact take hy H
    · have := ready_mono hj hji
      rw [H.1] at this
      cases this
  | succ fuel ih =>
    intro listed ρ hfree hr hy H
    refine ⟨fun h => (by rw [h] at hr; cases hr), fun j hj => ?_⟩
    by_cases hji : j = i
    · subst hji; exact take hy H
    · have h1 := H.2 j (ready_mono hj hji)
      obtain ⟨hjun, oj, hoj, hall⟩ := mem_ready.1 hj
      have hoj' : l[j]? = some oj := by simpa using hoj
      have hnot : ∀ e ∈ oj.after, Region.binds .any e = true → e.on ≠ i := fun e he hb heq => by
        have h1 := hall e he hb
        have h0 := (mem_ready.1 hr).1
        rw [heq] at h1
        rcases Nat.lt_or_ge i listed.size with h' | h'
        · simp [h'] at h0 h1; rw [h0] at h1; cases h1
        · simp [Array.getElem?_eq_none h'] at h1
      obtain ⟨hpj, hap⟩ := hfree j oj hoj' hji hjun hnot
      have h2 := sE_put hoj' hpj hki hap hy h1
      have hfree' : ∀ m om, l[m]? = some om → m ≠ i → (listed.setIfInBounds j true).getD m true = false → (∀ e ∈ om.after, Region.binds .any e = true → e.on ≠ i) → (pureOp om.op && om.dst.isSome) = true ∧ oi.apart l.toArray om = true := fun m om hm hmi hun hno => by
        refine hfree m om hm hmi ?_ hno
        by_cases hjm : j = m
        · subst hjm; exact hjun
        · rw [getD_set_ne true hjm] at hun; exact hun
      refine sE_mono (fun ρ' h3 => ih (listed.setIfInBounds j true) ρ' hfree' (ready_mono hr (Ne.symm hji)) h3.1 ?_) h2
      rw [Array.setIfInBounds_comm _ _ hji]
      exact h3.2

/-- The walk in the text's order. -/
def lexW (P : Program) (nt : Nat) (l : List Oper) (k : Env → Prop) : List Oper → Env → Prop
  | [], ρ => k ρ
  | o :: os, ρ => if pureOp o.op && o.dst.isSome then ∃ d, effP P l ρ o d ∧ lexW P nt l k os (putD ρ o.dst d) else OW P nt l.toArray o (lexW P nt l k os) ρ

theorem freeE_spec {l : List Oper} {listed : Array Bool} {i : Nat} {oi : Oper} (hi : l[i]? = some oi) (h : freeE l listed i = true) : (pureOp oi.op && oi.dst.isSome) = true ∧
    ∀ j oj, l[j]? = some oj → j ≠ i → listed.getD j true = false → (∀ e ∈ oj.after, Region.binds .any e = true → e.on ≠ i) → (pureOp oj.op && oj.dst.isSome) = true ∧ oi.apart l.toArray oj = true := by
  unfold freeE at h
  rw [hi] at h
  simp only [Bool.and_eq_true, List.all_eq_true, List.mem_range, Bool.or_eq_true, beq_iff_eq] at h
  obtain ⟨h1, h2⟩ := h
  refine ⟨by simpa using h1, fun j oj hj hne hun hno => ?_⟩
  have hlt : j < l.length := by
    rcases Nat.lt_or_ge j l.length with h | h
    · exact h
    · rw [List.getElem?_eq_none h] at hj; cases hj
  rcases h2 j hlt with (h3 | h3) | h3
  · exact absurd h3 hne
  · rw [hun] at h3; cases h3
  · rw [hj] at h3
    simp only [Bool.or_eq_true, Array.any_eq_true', Bool.and_eq_true, beq_iff_eq] at h3
    rcases h3 with ⟨e, he, hb, hon⟩ | h3
    · exact absurd hon (hno e he hb)
    · exact ⟨by simpa using h3.1, h3.2⟩

theorem anyE_lex {l : List Oper} {k : Env → Prop} : ∀ (r : List Oper) (i : Nat) (listed : Array Bool) (ρ : Env), (∀ j, r[j]? = l[i + j]?) → lexE l r.length i listed = true → lexW P nt l k r ρ → anyE P nt l k r.length listed ρ
  | [], _, _, _, _, hB, h => ⟨by simpa [lexE] using hB, h⟩
  | o :: r, i, listed, ρ, hl, hB, h => by
    have h0 : l[i]? = some o := by simpa using (hl 0).symm
    have hl' : ∀ j, r[j]? = l[i + 1 + j]? := fun j => by have := hl (j + 1); simpa [Nat.add_assoc, Nat.add_comm 1 j] using this
    simp only [List.length_cons, lexE, Bool.and_eq_true, Bool.or_eq_true] at hB
    obtain ⟨hB1, hB2⟩ := hB
    rcases hB1 with ⟨hr, hf⟩ | hone
    · obtain ⟨hp, hfree⟩ := freeE_spec h0 hf
      unfold lexW at h
      rw [if_pos hp] at h
      obtain ⟨d, k1, k2⟩ := h
      exact anyE_first h0 hp r.length listed ρ hfree (by simpa using hr) k1 (anyE_lex r (i + 1) _ _ hl' hB2 k2)
    · have hone : Region.ready .any l.toArray listed = [i] := by simpa using hone
      refine ⟨fun h => (by rw [hone] at h; cases h), fun j hj => ?_⟩
      rw [hone] at hj
      obtain rfl : j = i := by simpa using hj
      unfold sE
      rw [h0]
      unfold lexW at h
      simp only
      split
      · rename_i hp
        rw [if_pos hp] at h
        obtain ⟨d, k1, k2⟩ := h
        exact ⟨d, k1, anyE_lex r (j + 1) _ _ hl' hB2 k2⟩
      · rename_i hp
        rw [if_neg hp] at h
        exact h.mono fun ρ' h' => anyE_lex r (j + 1) _ _ hl' hB2 h'

/-- **One walk in the text's order serves every order.** -/
theorem aw_draw {id : Nat} {l : List Oper} {Q : Exit → Env → Prop} (hm : P.follows .mixedOrders = true) (hr : regOk nt l = true) (hB : lexE l l.length 0 (Array.replicate l.length false) = true)
    (h : lexW P nt l (Q .normal) l ρ) : AW P nt (.region id l.toArray true) Q ρ := by
  intro I A a w hs hd
  refine wp_region_any hm ?_
  have h1 := anyE_lex (P := P) (nt := nt) l 0 (Array.replicate l.length false) ρ (by simp) hB h
  have hgr : Grow w I w.drew I := ⟨rfl, ⟨rfl, Nat.le_succ _⟩, rfl, Nat.le_refl _, fun _ _ => rfl, fun _ h => h, fun _ h => .inl h⟩
  have := any_sound (Q' := fun e a' w' => ∃ I' A' ρ', Sim nt w' I' A' ρ' a' ∧ a'.defers = [] ∧ Ext w I A w' I' A' ∧ Q e ρ') hr _ _ ρ I A a w.drew h1 (hs.grow hgr) hd
    fun I' A' a' w' ρ' q1 q2 q3 q4 => ⟨I', A', ρ', q1, q2, (hgr.ext hs.osim).trans q3, q4⟩
  simpa using this

end
end Go.Sg
