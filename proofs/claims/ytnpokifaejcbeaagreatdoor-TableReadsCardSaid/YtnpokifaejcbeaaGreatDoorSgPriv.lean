/- Regions that draw their order and fill variables of their own: one walk serves every order. -/
import Derived.Test.YtnpokifaejcbeaaGreatDoorSgJoin
set_option linter.unusedVariables false
set_option linter.unusedSimpArgs false
namespace Go.Sg
open Go.RowKit

/-- k is not mentioned. -/
abbrev nmD (k : Nat) (d : DV) : Prop := allK (fun t => t != k) d = true
def nmE (pv : List Nat) (ρ : Env) : Prop := ∀ k ∈ pv, ∀ s, s ≠ k → nmD k (ρ s)

section
variable {P : Program} {nt : Nat} {ρ : Env}

theorem nm_un {k : Nat} {d : DV} (h : nmD k d) : nmD k (un d) := by
  cases d <;> exact h
theorem nm_rd {k t : Nat} {d : DV} (ht : t ≠ k) (h : nmD k d) : nmD k (rd t d) := by
  cases d <;> first | exact h | (simp only [nmD, rd, allK, bne_iff_ne]; exact ht)
theorem nm_cv {k : Nat} (v : Value) : nmD k (cv v) := by
  cases v <;> first
    | rfl
    | (simp only [nmD, cv, allK]; rw [allKL_iff]; intro d hd; obtain ⟨x, _, rfl⟩ := List.mem_map.1 hd; rfl)
theorem nm_ev {k : Nat} {x : Operand} (hm : ∀ s, s ≠ k → nmD k (ρ s)) (h : x ≠ .tmp k) : nmD k (un (ev ρ x)) := by
  refine nm_un ?_
  cases x with
  | tmp t =>
    have ht : t ≠ k := fun e => h (by rw [e])
    exact nm_rd ht (hm t ht)
  | const v => exact nm_cv v
  | global g => rw [ev_global]; split <;> rfl
  | func f => rfl

theorem loadP_priv {k : Nat} {u : DV} {ld : Option (Option Nat)} {d : DV} (h : nmD k d) : loadP (set ρ k u) ld d = loadP ρ ld d := by
  unfold loadP
  cases ld with
  | none => rfl
  | some ld =>
    cases d <;> try rfl
    · rename_i s off
      have : s ≠ k := by simpa [nmD, allK] using h
      simp only [set_apply, if_neg this]
    · rename_i s z i off
      have : s ≠ k := by simpa [nmD, allK] using h
      simp only [set_apply, if_neg this]
theorem idxP_priv {k : Nat} {u : DV} {el : Option (Option Nat × Nat)} {d i : DV} (h : nmD k d) : idxP (set ρ k u) el d i = idxP ρ el d i := by
  unfold idxP
  cases d <;> try rfl
  rename_i s n
  have : s ≠ k := by simpa [nmD, allK] using h
  simp only [set_apply, if_neg this]
theorem subP_priv {k : Nat} {u : DV} {el : Option (Option Nat × Nat)} {t : Nat} {d : DV} {lo hi : Option DV} (h : nmD k d) : subP (set ρ k u) el t d lo hi = subP ρ el t d lo hi := by
  unfold subP
  split <;> try rfl
  split <;> try rfl
  rename_i s n _
  have : s ≠ k := by simpa [nmD, allK] using h
  simp only [set_apply, if_neg this]

theorem opQ_priv {k : Nat} {u : DV} (hm : ∀ s, s ≠ k → nmD k (ρ s)) {op : Op} (h : unread k op) : opQ P (set ρ k u) op = opQ P ρ op := by
  have hx : ∀ x ∈ op.operands, ev (set ρ k u) x = ev ρ x := fun x hx => ev_unread (h x hx)
  have hn : ∀ x ∈ op.operands, nmD k (un (ev ρ x)) := fun x hx => nm_ev hm (h x hx)
  cases op with
  | buildSlice t n parts =>
    have hp : ∀ p ∈ parts.toList, p.2 ≠ .tmp k := fun p hp => h p.2 (by simp [Op.operands]; exact ⟨p.1, by simpa using hp⟩)
    simp only [opQ, litP, bsOk_set hp, bsL_set hp]
  | build t parts =>
    have hp : ∀ p ∈ parts.toList, p.2 ≠ .tmp k := fun p hp => h p.2 (by simp [Op.operands]; exact ⟨p.1, by simpa using hp⟩)
    simp only [opQ, bldP, bldGo_set hp]
  | makeSlice t x y => simp only [opQ, hx x (by simp [Op.operands]), hx y (by simp [Op.operands])]
  | move x => simp only [opQ, opP, hx x (by simp [Op.operands])]
  | assign x => simp only [opQ, opP, hx x (by simp [Op.operands])]
  | pick c a b => simp only [opQ, opP, hx c (by simp [Op.operands]), hx a (by simp [Op.operands]), hx b (by simp [Op.operands])]
  | load t x => simp only [opQ, opP, hx x (by simp [Op.operands]), loadP_priv (hn x (by simp [Op.operands]))]
  | nilCheck x => simp only [opQ, opP, hx x (by simp [Op.operands])]
  | binOp op t x y t' => simp only [opQ, opP, hx x (by simp [Op.operands]), hx y (by simp [Op.operands])]
  | unOp op t x => simp only [opQ, opP, hx x (by simp [Op.operands])]
  | convert s t x => simp only [opQ, opP, hx x (by simp [Op.operands])]
  | fieldAddr s x f => simp only [opQ, opP, hx x (by simp [Op.operands])]
  | indexAddr t x i => simp only [opQ, opP, hx x (by simp [Op.operands]), hx i (by simp [Op.operands]), idxP_priv (hn x (by simp [Op.operands]))]
  | index t x i => simp only [opQ, opP, hx x (by simp [Op.operands]), hx i (by simp [Op.operands])]
  | slice t x lo hi mx =>
    cases mx with
    | some m => rfl
    | none =>
      have hlo : lo.map (fun y => un (ev (set ρ k u) y)) = lo.map fun y => un (ev ρ y) := by
        cases lo with
        | none => rfl
        | some y => simp [hx y (by simp [Op.operands])]
      have hhi : hi.map (fun y => un (ev (set ρ k u) y)) = hi.map fun y => un (ev ρ y) := by
        cases hi with
        | none => rfl
        | some y => simp [hx y (by simp [Op.operands])]
      have glo : (∀ y ∈ lo, gd (ev (set ρ k u) y)) = ∀ y ∈ lo, gd (ev ρ y) := by
        cases lo with
        | none => simp
        | some y => simp [hx y (by simp [Op.operands])]
      have ghi : (∀ y ∈ hi, gd (ev (set ρ k u) y)) = ∀ y ∈ hi, gd (ev ρ y) := by
        cases hi with
        | none => simp
        | some y => simp [hx y (by simp [Op.operands])]
      simp only [opQ, opP, hx x (by simp [Op.operands]), hlo, hhi, glo, ghi, subP_priv (hn x (by simp [Op.operands]))]
  | extract x i => simp only [opQ, opP, hx x (by simp [Op.operands])]
  | makeFunc fn first captured =>
    cases fn with
    | func f =>
      have h1 : ∀ x ∈ first.toList, ev (set ρ k u) x = ev ρ x := fun x hx' => hx x (by simp [Op.operands]; exact .inl (by simpa using hx'))
      have h2 : ∀ x ∈ captured.toList, ev (set ρ k u) x = ev ρ x := fun x hx' => hx x (by simp [Op.operands]; exact .inr (by simpa using hx'))
      have e1 : (first.toList.map fun x => un (ev (set ρ k u) x)) = first.toList.map fun x => un (ev ρ x) := List.map_congr_left fun x hx' => by rw [h1 x hx']
      have e2 : (captured.toList.map fun x => un (ev (set ρ k u) x)) = captured.toList.map fun x => un (ev ρ x) := List.map_congr_left fun x hx' => by rw [h2 x hx']
      have g1 : (∀ x ∈ first.toList, gd (ev (set ρ k u) x)) = ∀ x ∈ first.toList, gd (ev ρ x) := propext ⟨fun g x hx' => by rw [← h1 x hx']; exact g x hx', fun g x hx' => by rw [h1 x hx']; exact g x hx'⟩
      have g2 : (∀ x ∈ captured.toList, gd (ev (set ρ k u) x)) = ∀ x ∈ captured.toList, gd (ev ρ x) := propext ⟨fun g x hx' => by rw [← h2 x hx']; exact g x hx', fun g x hx' => by rw [h2 x hx']; exact g x hx'⟩
      simp only [opQ, opP, fnP, e1, e2, g1, g2]
    | _ => rfl
  | call c =>
    obtain ⟨cl, args, ts⟩ := c
    cases cl with
    | builtin b =>
      have hb : ∀ x ∈ args.toList, x ≠ .tmp k := fun x hx' => h x (by simp [Op.operands, Call.operands]; simpa using hx')
      simp only [opQ, opP, callP, bltP_set hb]
    | _ => rfl
  | _ => rfl

/-- As prP, a call's contract for whatever the caller holds. -/
def prA (P : Program) (ρ : Env) (op : Op) (d : DV) : Prop :=
  match op with
  | .call ⟨.value f, args, _⟩ => gd (ev ρ f) ∧ gdL ρ args.toList ∧ ∃ g l, callee (un (ev ρ f)) (evL ρ args.toList) = some (g, l) ∧ hasBody P g = true ∧ ∀ O, PCall P O g l d
  | op => (opQ P ρ op).1 ∧ d = (opQ P ρ op).2
theorem prA_P {op : Op} {d : DV} (h : prA P ρ op d) : prP P ρ op d := by
  cases op with
  | call c =>
    obtain ⟨cl, args, ts⟩ := c
    cases cl with
    | value f =>
      obtain ⟨h1, h2, g, l, h3, h4, h5⟩ := h
      exact ⟨h1, h2, g, l, h3, h4, h5 ρ⟩
    | _ => exact h
  | _ => exact h

/-- What makes a slot's turn no difference to those that do not look at it. -/
def Sep (ρ : Env) (k : Nat) (u : DV) : Prop := (isOwn u = false ∧ isOwn (ρ k) = false) ∨ ∀ s, s ≠ k → nmD k (ρ s)

theorem prA_set {k : Nat} {u : DV} (hk : Sep ρ k u) {op : Op} {d : DV} (h : unread k op) (hp : prA P ρ op d) : prA P (set ρ k u) op d := by
  have hq : opQ P (set ρ k u) op = opQ P ρ op := by
    rcases hk with ⟨h1, h2⟩ | h1
    · exact opQ_set h1 h2 h
    · exact opQ_priv h1 h
  have gen : (opQ P ρ op).1 ∧ d = (opQ P ρ op).2 → (opQ P (set ρ k u) op).1 ∧ d = (opQ P (set ρ k u) op).2 := by rw [hq]; exact id
  cases op with
  | call c =>
    obtain ⟨cl, args, ts⟩ := c
    cases cl with
    | value f =>
      obtain ⟨h1, h2, g, l, h3, h4, h5⟩ := hp
      have hf : ev (set ρ k u) f = ev ρ f := ev_unread (h f (by simp [Op.operands, Call.operands]))
      have ha : ∀ x ∈ args.toList, x ≠ .tmp k := fun x hx => h x (by simp [Op.operands, Call.operands]; exact .inr (by simpa using hx))
      exact ⟨by rw [hf]; exact h1, by rw [gdL_set ha]; exact h2, g, l, by rw [hf, evL_set ha]; exact h3, h4, h5⟩
    | _ => exact gen hp
  | _ => exact gen hp

def effA (P : Program) (all : List Oper) (ρ : Env) (o : Oper) (d : DV) : Prop :=
  isOwn d = false ∧ (∀ k, o.dst = some k → isOwn (ρ k) = false) ∧
  match o.guard with
  | none => prA P ρ o.op d
  | some (j, want) => ∃ g d', gAt all ρ j want = some g ∧ d = .cond g d' ∧ isPl d' = true ∧ (g = true → prA P ρ o.op d')
theorem effA_P {l : List Oper} {o : Oper} {d : DV} (h : effA P l ρ o d) : effP P l ρ o d := by
  obtain ⟨h1, h2, h3⟩ := h
  refine ⟨h1, h2, ?_⟩
  cases hg : o.guard with
  | none => rw [hg] at h3; exact prA_P h3
  | some jw =>
    obtain ⟨j, want⟩ := jw
    rw [hg] at h3
    obtain ⟨g, d', k1, k2, k3, k4⟩ := h3
    exact ⟨g, d', k1, k2, k3, fun q => prA_P (k4 q)⟩
theorem effA_set {l : List Oper} {o : Oper} {d u : DV} {k : Nat} (hk : Sep ρ k u) (hl : k ∉ o.looksAt l.toArray) (hne : o.dst ≠ some k) (h : effA P l ρ o d) : effA P l (set ρ k u) o d := by
  obtain ⟨h1, h2, h3⟩ := h
  refine ⟨h1, fun m hm => ?_, ?_⟩
  · have : m ≠ k := fun e => hne (by rw [hm, e])
    rw [set_apply, if_neg this]
    exact h2 m hm
  · cases hg : o.guard with
    | none => rw [hg] at h3; exact prA_set hk (looks_unread hl) h3
    | some jw =>
      obtain ⟨j, want⟩ := jw
      rw [hg] at h3
      obtain ⟨g, d', k1, k2, k3, k4⟩ := h3
      exact ⟨g, d', by rw [gAt_set (looks_guard hl hg)]; exact k1, k2, k3, fun hgt => prA_set hk (looks_unread hl) (k4 hgt)⟩

/-! ## Variables of the region's own -/

/-- The slot of the variable that the operation lays, or fills whole. -/
def pvOp (pv : List Nat) (o : Oper) : Option Nat :=
  match o.guard with
  | some _ => none
  | none => match o.op with
    | .alloc _ => (match o.dst with | some p => if pv.contains p then some p else none | none => none)
    | .store _ (.tmp p) _ => if pv.contains p && o.dst.isNone then some p else none
    | _ => none
def dstV (pv : List Nat) (o : Oper) : Option Nat := match pvOp pv o with | some p => some p | none => o.dst
theorem pvOp_spec {pv : List Nat} {o : Oper} {p : Nat} (h : pvOp pv o = some p) : o.guard = none ∧ p ∈ pv ∧ ((∃ t, o.op = .alloc t ∧ o.dst = some p) ∨ ∃ t x, o.op = .store t (.tmp p) x ∧ o.dst = none) := by
  unfold pvOp at h
  split at h
  · cases h
  · rename_i hg
    refine ⟨hg, ?_⟩
    split at h
    · rename_i t ht
      split at h
      · rename_i q hq
        split at h <;> cases h
        rename_i hc
        exact ⟨by simpa using hc, .inl ⟨t, ht, hq⟩⟩
      · cases h
    · rename_i t q x ht
      split at h <;> cases h
      rename_i hc
      simp only [Bool.and_eq_true] at hc
      exact ⟨by simpa using hc.1, .inr ⟨t, x, ht, by simpa using hc.2⟩⟩
    · cases h

def valV (P : Program) (l : List Oper) (pv : List Nat) (ρ : Env) (o : Oper) (d : DV) : Prop :=
  (∀ q ∈ pv, dstV pv o ≠ some q → nmD q d) ∧
  match pvOp pv o with
  | none => effA P l ρ o d
  | some p => match o.op with
    | .alloc t => ∃ zs, zcOf P t = some zs ∧ d = .bx (zs.map .v)
    | .store t _ x => ∃ n cs, ρ p = .bx cs ∧ szOf P t = some n ∧ 0 < n ∧ cs.length = n ∧ (cellsD (un (ev ρ x))).length = n ∧ gd (ev ρ x) ∧ d = .bx (cellsD (un (ev ρ x)))
    | _ => False

def isV (pv : List Nat) (o : Oper) : Bool := (pvOp pv o).isSome || (pureOp o.op && o.dst.isSome && pv.all fun q => o.dst != some q)

theorem isV_dst {pv : List Nat} {o : Oper} (h : isV pv o = true) : ∃ k, dstV pv o = some k := by
  unfold isV at h
  unfold dstV
  cases hp : pvOp pv o with
  | some p => exact ⟨p, rfl⟩
  | none =>
    rw [hp] at h
    simp only [Option.isSome_none, Bool.false_or, Bool.and_eq_true] at h
    exact Option.isSome_iff_exists.1 h.1.2

theorem valV_sep {l : List Oper} {pv : List Nat} {o : Oper} {d u : DV} {k : Nat} (hnm : nmE pv ρ) (hk : dstV pv o = some k) (h : valV P l pv ρ o d) (hu : isOwn u = false ∨ k ∈ pv) : Sep ρ k u := by
  unfold dstV at hk
  have h2 := h.2
  cases hp : pvOp pv o with
  | some p =>
    rw [hp] at hk
    cases hk
    exact .inr (hnm _ (pvOp_spec hp).2.1)
  | none =>
    rw [hp] at hk h2
    rcases hu with hu | hu
    · exact .inl ⟨hu, h2.2.1 k hk⟩
    · exact .inr (hnm k hu)

theorem valV_own {l : List Oper} {pv : List Nat} {o : Oper} {d : DV} {k : Nat} (hk : dstV pv o = some k) (h : valV P l pv ρ o d) : isOwn d = false ∨ k ∈ pv := by
  have h2 := h.2
  unfold dstV at hk
  cases hp : pvOp pv o with
  | some p =>
    rw [hp] at hk
    cases hk
    exact .inr (pvOp_spec hp).2.1
  | none => rw [hp] at h2; exact .inl h2.1

theorem valV_set {l : List Oper} {pv : List Nat} {o : Oper} {d u : DV} {k : Nat} (hk : Sep ρ k u) (hl : k ∉ o.looksAt l.toArray) (hne : dstV pv o ≠ some k) (h : valV P l pv ρ o d) : valV P l pv (set ρ k u) o d := by
  obtain ⟨h1, h2⟩ := h
  refine ⟨h1, ?_⟩
  unfold dstV at hne
  cases hp : pvOp pv o with
  | none => rw [hp] at h2 hne; exact effA_set hk hl hne h2
  | some p =>
    rw [hp] at h2 hne
    have hpk : p ≠ k := fun e => hne (by rw [e])
    simp only at h2 ⊢
    split at h2
    · exact h2
    · rename_i t ad x hop
      obtain ⟨n, cs, k1, k2, k3, k4, k5, k6, k7⟩ := h2
      have hx : ev (set ρ k u) x = ev ρ x := ev_unread (looks_unread hl x (by rw [hop]; simp [Op.operands]))
      exact ⟨n, cs, by rw [set_apply, if_neg hpk]; exact k1, k2, k3, k4, by rw [hx]; exact k5, by rw [hx]; exact k6, by rw [hx]; exact k7⟩
    · exact h2

theorem nmE_put {l : List Oper} {pv : List Nat} {o : Oper} {d : DV} {k : Nat} (hnm : nmE pv ρ) (hk : dstV pv o = some k) (h : valV P l pv ρ o d) : nmE pv (set ρ k d) := fun q hq s hs => by
  rw [set_apply]
  split
  · rename_i e
    subst e
    exact h.1 q hq (by rw [hk]; intro e; exact hs (Option.some.inj e))
  · exact hnm q hq s hs

/-! ## Whatever order -/

def sV (P : Program) (l : List Oper) (pv : List Nat) (i : Nat) (K : Env → Prop) (ρ : Env) : Prop :=
  match l[i]? with
  | none => K ρ
  | some o => ∃ d, valV P l pv ρ o d ∧ K (putD ρ (dstV pv o) d)
def anyV (P : Program) (l : List Oper) (pv : List Nat) (k : Env → Prop) : Nat → Array Bool → Env → Prop
  | 0, listed, ρ => Region.ready .any l.toArray listed = [] ∧ k ρ
  | fuel + 1, listed, ρ => (Region.ready .any l.toArray listed = [] → k ρ) ∧ ∀ i ∈ Region.ready .any l.toArray listed, sV P l pv i (anyV P l pv k fuel (listed.setIfInBounds i true)) ρ

/-- Neither looks at what the other gives. -/
def apV (l : List Oper) (pv : List Nat) (x y : Oper) : Bool :=
  match dstV pv x, dstV pv y with
  | some a, some b => !(y.looksAt l.toArray).contains a && a != b && !(x.looksAt l.toArray).contains b
  | _, _ => false

theorem sV_put {l : List Oper} {pv : List Nat} {j : Nat} {oi oj : Oper} {d : DV} (hj : l[j]? = some oj) (hap : apV l pv oi oj = true) {K : Env → Prop} (hnm : nmE pv ρ)
    (hy : valV P l pv ρ oi d) (h : sV P l pv j K (putD ρ (dstV pv oi) d)) : ∃ u kj, dstV pv oj = some kj ∧ valV P l pv ρ oj u ∧ valV P l pv (putD ρ (dstV pv oj) u) oi d ∧ K (putD (putD ρ (dstV pv oj) u) (dstV pv oi) d) := by
  unfold apV at hap
  split at hap
  · rename_i ki kj hki hkj
    simp only [Bool.and_eq_true, Bool.not_eq_true', bne_iff_ne, ne_eq] at hap
    obtain ⟨⟨h1, h2⟩, h3⟩ := hap
    have h1 : ki ∉ oj.looksAt l.toArray := fun q => by rw [List.contains_iff_mem.2 q] at h1; cases h1
    have h3 : kj ∉ oi.looksAt l.toArray := fun q => by rw [List.contains_iff_mem.2 q] at h3; cases h3
    unfold sV at h
    rw [hj, hki, putD_some] at h
    obtain ⟨u, k1, k2⟩ := h
    have hnm' := nmE_put hnm hki hy
    have hback : valV P l pv ρ oj u := by
      have hs : Sep (set ρ ki d) ki (ρ ki) := by
        have hy2 := hy.2
        cases hp : pvOp pv oi with
        | some p =>
          have : p = ki := by unfold dstV at hki; rw [hp] at hki; exact Option.some.inj hki
          subst this
          exact .inr fun s hs => by rw [set_apply, if_neg hs]; exact hnm _ (pvOp_spec hp).2.1 s hs
        | none =>
          rw [hp] at hy2
          unfold dstV at hki
          rw [hp] at hki
          exact .inl ⟨hy2.2.1 ki hki, by rw [set_apply, if_pos rfl]; exact hy2.1⟩
      have := valV_set (u := ρ ki) hs h1 (by rw [hkj]; intro e; exact h2 (Option.some.inj e).symm) k1
      rwa [set_back] at this
    refine ⟨u, kj, hkj, hback, ?_, ?_⟩
    · rw [hkj, putD_some]
      exact valV_set (valV_sep hnm hkj hback (valV_own hkj hback)) h3 (by rw [hki]; intro e; exact h2 (Option.some.inj e)) hy
    · rw [hki, hkj, putD_some, putD_some]
      rw [hkj, putD_some] at k2
      have : set (set ρ kj u) ki d = set (set ρ ki d) kj u := by
        funext i
        simp only [set_apply]
        by_cases e1 : i = ki
        · rw [if_pos e1, if_neg (by rw [e1]; exact h2), if_pos e1]
        · simp only [if_neg e1]
      rw [this]
      exact k2
  · cases hap

theorem anyV_first {l : List Oper} {pv : List Nat} {k : Env → Prop} {i : Nat} {oi : Oper} {d : DV} (hi : l[i]? = some oi) (hvi : isV pv oi = true) :
    ∀ (fuel : Nat) (listed : Array Bool) (ρ : Env),
      (∀ j oj, l[j]? = some oj → j ≠ i → listed.getD j true = false → (∀ e ∈ oj.after, Region.binds .any e = true → e.on ≠ i) → apV l pv oi oj = true) → nmE pv ρ →
      i ∈ Region.ready .any l.toArray listed → valV P l pv ρ oi d → anyV P l pv k fuel (listed.setIfInBounds i true) (putD ρ (dstV pv oi) d) → anyV P l pv k (fuel + 1) listed ρ := by
  obtain ⟨ki, hki⟩ := isV_dst hvi
  have take : ∀ {K : Env → Prop} {ρ : Env}, valV P l pv ρ oi d → K (putD ρ (dstV pv oi) d) → sV P l pv i K ρ := fun h1 h2 => by
    unfold sV
    rw [hi]
    exact ⟨d, h1, h2⟩
  intro fuel
  induction fuel with
  | zero =>
    intro listed ρ _ _ hr hy H
    refine ⟨fun h => (by rw [h] at hr; cases hr), fun j hj => ?_⟩
    by_cases hji : j = i
    · subst hji; exact take hy H
    · have := ready_mono hj hji
      rw [H.1] at this
      cases this
  | succ fuel ih =>
    intro listed ρ hfree hnm hr hy H
    refine ⟨fun h => (by rw [h] at hr; cases hr), fun j hj => ?_⟩
    by_cases hji : j = i
    · subst hji; exact take hy H
    · have h1 := H.2 j (ready_mono hj hji)
      obtain ⟨hjun, oj, hoj, hall⟩ := mem_ready.1 hj
      have hoj' : l[j]? = some oj := by simpa using hoj
      have hnot : ∀ e ∈ oj.after, Region.binds .any e = true → e.on ≠ i := fun e he hb heq => by
        have h1 := hall e he hb
        have h0 := (mem_ready.1 hr).1
        rw [heq] at h1
        rcases Nat.lt_or_ge i listed.size with h' | h'
        · simp [h'] at h0 h1; rw [h0] at h1; cases h1
        · simp [Array.getElem?_eq_none h'] at h1
      obtain ⟨u, kj, q1, q2, q3, q4⟩ := sV_put hoj' (hfree j oj hoj' hji hjun hnot) hnm hy h1
      have hfree' : ∀ m om, l[m]? = some om → m ≠ i → (listed.setIfInBounds j true).getD m true = false → (∀ e ∈ om.after, Region.binds .any e = true → e.on ≠ i) → apV l pv oi om = true := fun m om hm hmi hun hno => by
        refine hfree m om hm hmi ?_ hno
        by_cases hjm : j = m
        · subst hjm; exact hjun
        · rw [getD_set_ne true hjm] at hun; exact hun
      unfold sV
      rw [hoj']
      refine ⟨u, q2, ih (listed.setIfInBounds j true) _ hfree' ?_ (ready_mono hr (Ne.symm hji)) q3 ?_⟩
      · rw [q1, putD_some]; exact nmE_put hnm q1 q2
      · rw [Array.setIfInBounds_comm _ _ hji]
        exact q4

def freeV (l : List Oper) (pv : List Nat) (listed : Array Bool) (i : Nat) : Bool :=
  match l[i]? with
  | none => false
  | some oi => isV pv oi && (List.range l.length).all fun j =>
    j == i || listed.getD j true || match l[j]? with
      | none => true
      | some oj => oj.after.any (fun e => Region.binds .any e && e.on == i) || apV l pv oi oj
def permV (l : List Oper) (pv : List Nat) : List Nat → Array Bool → Bool
  | [], listed => (Region.ready .any l.toArray listed).isEmpty
  | i :: r, listed => (Region.ready .any l.toArray listed).contains i && freeV l pv listed i && permV l pv r (listed.setIfInBounds i true)
theorem freeV_spec {l : List Oper} {pv : List Nat} {listed : Array Bool} {i : Nat} {oi : Oper} (hi : l[i]? = some oi) (h : freeV l pv listed i = true) : isV pv oi = true ∧
    ∀ j oj, l[j]? = some oj → j ≠ i → listed.getD j true = false → (∀ e ∈ oj.after, Region.binds .any e = true → e.on ≠ i) → apV l pv oi oj = true := by
  unfold freeV at h
  rw [hi] at h
  simp only [Bool.and_eq_true, List.all_eq_true, List.mem_range, Bool.or_eq_true, beq_iff_eq] at h
  obtain ⟨h1, h2⟩ := h
  refine ⟨h1, fun j oj hj hne hun hno => ?_⟩
  have hlt : j < l.length := by
    rcases Nat.lt_or_ge j l.length with h | h
    · exact h
    · rw [List.getElem?_eq_none h] at hj; cases hj
  rcases h2 j hlt with (h3 | h3) | h3
  · exact absurd h3 hne
  · rw [hun] at h3; cases h3
  · rw [hj] at h3
    simp only [Bool.or_eq_true, Array.any_eq_true', Bool.and_eq_true, beq_iff_eq] at h3
    rcases h3 with ⟨e, he, hb, hon⟩ | h3
    · exact absurd hon (hno e he hb)
    · exact h3

/-- The walk in one order. -/
def lexV (P : Program) (l : List Oper) (pv : List Nat) (k : Env → Prop) : List Oper → Env → Prop
  | [], ρ => k ρ
  | o :: os, ρ => ∃ d, valV P l pv ρ o d ∧ lexV P l pv k os (putD ρ (dstV pv o) d)
theorem anyV_perm {l : List Oper} {pv : List Nat} {k : Env → Prop} : ∀ (r : List Nat) (rs : List Oper) (listed : Array Bool) (ρ : Env), r.map (fun i => l[i]?) = rs.map some → permV l pv r listed = true → nmE pv ρ → lexV P l pv k rs ρ → anyV P l pv k r.length listed ρ
  | [], rs, _, _, hl, hB, _, h => by
    cases rs with
    | nil => exact ⟨by simpa [permV] using hB, h⟩
    | cons => simp at hl
  | i :: r, rs, listed, ρ, hl, hB, hnm, h => by
    cases rs with
    | nil => simp at hl
    | cons o rs =>
      simp only [List.map_cons, List.cons.injEq] at hl
      simp only [permV, Bool.and_eq_true] at hB
      obtain ⟨⟨hr, hf⟩, hB2⟩ := hB
      obtain ⟨hp, hfree⟩ := freeV_spec hl.1 hf
      obtain ⟨d, k1, k2⟩ := h
      obtain ⟨kd, hkd⟩ := isV_dst hp
      exact anyV_first hl.1 hp r.length listed ρ hfree hnm (by simpa using hr) k1 (anyV_perm r rs _ _ hl.2 hB2 (by rw [hkd, putD_some]; exact nmE_put hnm hkd k1) k2)

/-! ## Back to the elder form -/

theorem killS_nm {k : Nat} {d : DV} (h : nmD k d) : killS k d = d := by unfold killS; rw [if_pos h]
theorem anyV_E {l : List Oper} {pv : List Nat} {k : Env → Prop} (hr : regOk nt l = true) (hv : l.all (isV pv) = true) (hp : ∀ p ∈ pv, p < nt ∧ p < 100000) : ∀ (fuel : Nat) (listed : Array Bool) (ρ : Env), nmE pv ρ → anyV P l pv k fuel listed ρ → anyE P nt l k fuel listed ρ
  | 0, _, _, _, h => h
  | fuel + 1, listed, ρ, hnm, h => by
    refine ⟨h.1, fun i hi => ?_⟩
    have h2 := h.2 i hi
    unfold sV at h2
    unfold sE
    cases hl : l[i]? with
    | none => rw [hl] at h2; exact anyV_E hr hv hp fuel _ ρ hnm h2
    | some o =>
      rw [hl] at h2
      obtain ⟨d, k1, k2⟩ := h2
      have hvo := List.all_eq_true.1 hv o (List.mem_of_getElem? hl)
      obtain ⟨kd, hkd⟩ := isV_dst hvo
      have hrec : anyE P nt l k fuel (listed.setIfInBounds i true) (set ρ kd d) := by
        have := anyV_E hr hv hp fuel (listed.setIfInBounds i true) (putD ρ (dstV pv o) d) (by rw [hkd, putD_some]; exact nmE_put hnm hkd k1) k2
        rwa [hkd, putD_some] at this
      obtain ⟨ho1, ho2⟩ := regOk_get hr hl
      have k12 := k1.2
      simp only
      cases hpv : pvOp pv o with
      | none =>
        rw [hpv] at k12
        unfold isV at hvo
        rw [hpv] at hvo
        simp only [Option.isSome_none, Bool.false_or, Bool.and_eq_true] at hvo
        rw [if_pos (by rw [Bool.and_eq_true]; exact hvo.1)]
        have hd : o.dst = some kd := by unfold dstV at hkd; rw [hpv] at hkd; exact hkd
        exact ⟨d, effA_P k12, by rw [hd, putD_some]; exact hrec⟩
      | some p =>
        have hpk : p = kd := by unfold dstV at hkd; rw [hpv] at hkd; exact Option.some.inj hkd
        subst hpk
        obtain ⟨hg, hpm, hcase⟩ := pvOp_spec hpv
        obtain ⟨hp1, hp2⟩ := hp p hpm
        rw [hpv] at k12
        rcases hcase with ⟨t, hop, hdst⟩ | ⟨t, x, hop, hdst⟩
        · rw [if_neg (by rw [hop]; simp [pureOp])]
          simp only [hop] at k12
          obtain ⟨zs, hz, rfl⟩ := k12
          refine ow_alloc hop hg hdst hp1 hz ?_
          have : set (kill p ρ) p (.bx (zs.map .v)) = set ρ p (.bx (zs.map .v)) := by
            funext s
            rw [set_apply, set_apply]
            split
            · rfl
            · rename_i hs
              rw [kill_apply]
              split
              · exact killS_nm (hnm p hpm s hs)
              · rfl
          rw [this]
          exact hrec
        · rw [if_neg (by rw [hop]; simp [pureOp])]
          simp only [hop] at k12
          obtain ⟨n, cs, q1, q2, q3, q4, q5, q6, rfl⟩ := k12
          refine ow_store (s := p) (off := 0) (n := n) hop hg hdst ho1 (by rw [ev_tmp, q1]; rfl) q6 q2 q3 ?_
          rw [q1]
          refine ⟨q5, by omega, .inl hp2, ?_⟩
          rw [spl_eq (by omega), List.take_zero, List.nil_append, Nat.zero_add, List.drop_eq_nil_of_le (by omega), List.append_nil]
          exact hrec

/-! ## The walk that simp makes -/

/-- A pure call, for whatever the caller holds. -/
def CallA (P : Program) (f : FuncId) (l : List DV) (k : DV → Prop) (_ : Tg k) : Prop := ∃ r, isOwn r = false ∧ (∀ O, PCall P O f l r) ∧ k r
@[congr] theorem CallA_congr {f : FuncId} {l l' : List DV} {k : DV → Prop} {t : Tg k} (h : l = l') : CallA P f l k t = CallA P f l' k t := by rw [h]
theorem callA_to {f : FuncId} {l : List DV} {k : DV → Prop} {t : Tg k} {r : DV} (h : ∀ O, PCall P O f l r) (hr : isOwn r = false) (hk : k r) : CallA P f l k t := ⟨r, hr, h, hk⟩
def pcA (P : Program) (d : Option Nat) (c : Option (FuncId × List DV)) (K : Env → Prop) (ρ : Env) : Prop :=
  match c, d with
  | some (fid, l), some k => hasBody P fid = true ∧ CallA P fid l (fun r => K (set ρ k r)) ⟨⟩
  | _, _ => False
def callV : Op → Option (Operand × List Operand)
  | .call ⟨.value f, args, _⟩ => some (f, args.toList)
  | _ => none
def pwVX (P : Program) (all : List Oper) (k : Env → Prop) : List Oper → Env → Prop
  | [], ρ => k ρ
  | o :: os, ρ => match o.guard with
    | none => (match callV o.op with
      | some (f, args) => dstFree ρ o.dst ∧ gd (ev ρ f) ∧ gdL ρ args ∧ pcA P o.dst (callee (un (ev ρ f)) (evL ρ args)) (pwVX P all k os) ρ
      | none => prG P ρ o.op o.dst (pwVX P all k os))
    | some (j, want) => (match callV o.op with
      | some _ => False
      | none => gdG P ρ o.op o.dst (gAt all ρ j want) (pwVX P all k os))
def pwV (P : Program) (all : List Oper) (k : Env → Prop) (l : List Oper) (_ : Tg (all, k, l)) (ρ : Env) : Prop := pwVX P all k l ρ
@[congr] theorem pwV_congr {all l : List Oper} {k : Env → Prop} {t : Tg (all, k, l)} {ρ ρ' : Env} (h : ρ = ρ') : pwV P all k l t ρ = pwV P all k l t ρ' := by rw [h]
section rules
variable (all os : List Oper) (k K : Env → Prop) (d : Option Tmp) (op : Op) (ty : TypeId) (pos : String) (af : Array Edge) (j : Nat) (want : Bool)
theorem pwV_nil : pwV P all k [] ⟨⟩ ρ = k ρ := rfl
theorem pwV_plain : pwV P all k (⟨d, op, ty, pos, af, none⟩ :: os) ⟨⟩ ρ = (match callV op with
      | some (f, args) => dstFree ρ d ∧ gd (ev ρ f) ∧ gdL ρ args ∧ pcA P d (callee (un (ev ρ f)) (evL ρ args)) (pwV P all k os ⟨⟩) ρ
      | none => prG P ρ op d (pwV P all k os ⟨⟩)) := rfl
theorem pwV_guard : pwV P all k (⟨d, op, ty, pos, af, some (j, want)⟩ :: os) ⟨⟩ ρ = (match callV op with
      | some _ => False
      | none => gdG P ρ op d (gAt all ρ j want) (pwV P all k os ⟨⟩)) := rfl
end rules

theorem callV_no {op : Op} (h : callV op = none) : ∀ f args ts, op ≠ .call ⟨.value f, args, ts⟩ := fun f args ts e => by rw [e] at h; cases h
theorem prP_A {op : Op} {d : DV} (h : callV op = none) (hp : prP P ρ op d) : prA P ρ op d := by
  cases op with
  | call c =>
    obtain ⟨cl, args, ts⟩ := c
    cases cl with
    | value f => cases h
    | _ => exact hp
  | _ => exact hp
theorem effP_A {all : List Oper} {o : Oper} {d : DV} (h : callV o.op = none) (hp : effP P all ρ o d) : effA P all ρ o d := by
  obtain ⟨h1, h2, h3⟩ := hp
  refine ⟨h1, h2, ?_⟩
  cases hg : o.guard with
  | none => rw [hg] at h3; exact prP_A h h3
  | some jw =>
    obtain ⟨j, want⟩ := jw
    rw [hg] at h3
    obtain ⟨g, d', k1, k2, k3, k4⟩ := h3
    exact ⟨g, d', k1, k2, k3, fun q => prP_A h (k4 q)⟩

/-- Slots S and what the region's own variables are: no one names them. -/
def nmF (pv S : List Nat) (ρ : Env) : Bool := pv.all fun p => S.all fun s => s == p || allK (fun t => t != p) (ρ s)

/-- Each variable laid. -/
def alcT (P : Program) : List (Nat × TypeId × Nat) → (Env → Prop) → Env → Prop
  | [], K, ρ => K ρ
  | (p, t, _) :: r, K, ρ => match zcOf P t with
    | some zs => alcT P r K (set ρ p (.bx (zs.map .v)))
    | none => False
/-- Each variable filled whole. -/
def stoT (P : Program) : List (Nat × TypeId × Nat) → (Env → Prop) → Env → Prop
  | [], K, ρ => K ρ
  | (p, t, x) :: r, K, ρ => match szOf P t, ρ p with
    | some n, .bx cs => 0 < n ∧ cs.length = n ∧ gd (ev ρ (.tmp x)) ∧ (cellsD (un (ev ρ (.tmp x)))).length = n ∧ stoT P r K (set ρ p (.bx (cellsD (un (ev ρ (.tmp x))))))
    | _, _ => False
def tailT (P : Program) (q : List (Nat × TypeId × Nat)) (K : Env → Prop) (ρ : Env) : Prop := alcT P q (stoT P q K) ρ
theorem alcT_nil {K : Env → Prop} : alcT P [] K ρ = K ρ := rfl
theorem alcT_cons {p : Nat} {t : TypeId} {x : Nat} {r : List (Nat × TypeId × Nat)} {K : Env → Prop} : alcT P ((p, t, x) :: r) K ρ = (match zcOf P t with
    | some zs => alcT P r K (set ρ p (.bx (zs.map .v)))
    | none => False) := rfl
theorem stoT_nil {K : Env → Prop} : stoT P [] K ρ = K ρ := rfl
theorem stoT_cons {p : Nat} {t : TypeId} {x : Nat} {r : List (Nat × TypeId × Nat)} {K : Env → Prop} : stoT P ((p, t, x) :: r) K ρ = (match szOf P t, ρ p with
    | some n, .bx cs => 0 < n ∧ cs.length = n ∧ gd (ev ρ (.tmp x)) ∧ (cellsD (un (ev ρ (.tmp x)))).length = n ∧ stoT P r K (set ρ p (.bx (cellsD (un (ev ρ (.tmp x))))))
    | _, _ => False) := rfl

def alOk (pv : List Nat) : List Oper → List (Nat × TypeId × Nat) → Bool
  | [], [] => true
  | a :: r, (p, t, x) :: q => a.guard.isNone && a.dst == some p && pv.contains p && (match a.op with | .alloc t' => t' == t | _ => false) && alOk pv r q
  | _, _ => false
def soOk (pv : List Nat) : List Oper → List (Nat × TypeId × Nat) → Bool
  | [], [] => true
  | b :: r, (p, t, x) :: q => b.guard.isNone && b.dst.isNone && pv.contains p && (match b.op with | .store t' (.tmp p') (.tmp y) => t' == t && p' == p && y == x && !pv.contains y | _ => false) && soOk pv r q
  | _, _ => false

theorem nm_cells {k : Nat} {d : DV} (h : nmD k d) : nmD k (.bx (cellsD d)) := by
  unfold nmD
  simp only [allK]
  cases d with
  | v x => cases x <;> rfl
  | agg cs => simpa [cellsD, nmD, allK] using h
  | any => rfl
  | sl z n f => rfl
  | tup cs => rfl
  | dp cs => rfl
  | bp s o => simpa [cellsD, nmD, allK, allKL] using h
  | own s n => simpa [cellsD, nmD, allK, allKL] using h
  | rp s z i o => simpa [cellsD, nmD, allK, allKL] using h
  | fn f a b => simpa [cellsD, nmD, allK, allKL] using h
  | iface t x => simpa [cellsD, nmD, allK, allKL] using h
  | cond g x => rfl
  | bx cs => rfl
  | row e z xs => rfl
  | mr s => rfl
  | ez => rfl
  | mo es => rfl

theorem alc_lex {l : List Oper} {pv : List Nat} {K K' : Env → Prop} {rest : List Oper} (hk : ∀ ρ', nmE pv ρ' → K' ρ' → lexV P l pv K rest ρ') : ∀ (as : List Oper) (q : List (Nat × TypeId × Nat)) (ρ : Env), alOk pv as q = true → nmE pv ρ → alcT P q K' ρ → lexV P l pv K (as ++ rest) ρ
  | [], [], ρ, _, hn, h => hk ρ hn h
  | [], _ :: _, _, hc, _, _ => by cases hc
  | _ :: _, [], _, hc, _, _ => by cases hc
  | a :: r, (p, t, x) :: q, ρ, hc, hnm, h => by
    simp only [alOk, Bool.and_eq_true, Option.isNone_iff_eq_none, beq_iff_eq] at hc
    obtain ⟨⟨⟨⟨ga, da⟩, hp⟩, oa⟩, hr⟩ := hc
    have hpm : p ∈ pv := by simpa using hp
    rw [alcT_cons] at h
    split at h
    · rename_i zs hzc
      split at oa
      · rename_i t' hopa
        have oa : t' = t := by simpa using oa
        subst oa
        have pva : pvOp pv a = some p := by unfold pvOp; rw [ga]; simp only [hopa, da]; rw [if_pos (by simpa using hpm)]
        have dva : dstV pv a = some p := by unfold dstV; rw [pva]
        have va : valV P l pv ρ a (.bx (zs.map .v)) := ⟨fun k _ _ => by unfold nmD; simp only [allK]; rw [allKL_iff]; intro d hd; obtain ⟨z, _, rfl⟩ := List.mem_map.1 hd; rfl, by rw [pva]; simp only [hopa]; exact ⟨zs, hzc, rfl⟩⟩
        refine ⟨_, va, ?_⟩
        rw [dva, putD_some]
        exact alc_lex hk r q _ hr (nmE_put hnm dva va) h
      · cases oa
    · cases h
theorem sto_lex {l : List Oper} {pv : List Nat} {K : Env → Prop} : ∀ (bs : List Oper) (q : List (Nat × TypeId × Nat)) (ρ : Env), soOk pv bs q = true → nmE pv ρ → stoT P q K ρ → lexV P l pv K bs ρ
  | [], [], ρ, _, hn, h => h
  | [], _ :: _, _, hc, _, _ => by cases hc
  | _ :: _, [], _, hc, _, _ => by cases hc
  | b :: r, (p, t, x) :: q, ρ, hc, hnm, h => by
    simp only [soOk, Bool.and_eq_true, Option.isNone_iff_eq_none, beq_iff_eq] at hc
    obtain ⟨⟨⟨⟨gb, db⟩, hp⟩, ob⟩, hr⟩ := hc
    have hpm : p ∈ pv := by simpa using hp
    rw [stoT_cons] at h
    split at h
    · rename_i n cs hsz hcs
      obtain ⟨h1, h2, h3, h4, h5⟩ := h
      split at ob
      · rename_i t2 p2 y hopb
        simp only [Bool.and_eq_true, beq_iff_eq, Bool.not_eq_true'] at ob
        obtain ⟨⟨⟨rfl, rfl⟩, rfl⟩, hyc⟩ := ob
        have hyk : ∀ k ∈ pv, (Operand.tmp y) ≠ .tmp k := fun k hk e => by
          cases e
          rw [List.contains_iff_mem.2 hk] at hyc
          cases hyc
        have pvb : pvOp pv b = some p2 := by unfold pvOp; rw [gb]; simp only [hopb, db]; rw [if_pos (by simpa using hpm)]
        have dvb : dstV pv b = some p2 := by unfold dstV; rw [pvb]
        have vb' : valV P l pv ρ b (.bx (cellsD (un (ev ρ (.tmp y))))) := by
          refine ⟨fun k hk hne => nm_cells (nm_ev (hnm k hk) (hyk k hk)), ?_⟩
          rw [pvb]
          simp only [hopb]
          exact ⟨n, cs, hcs, hsz, h1, h2, h4, h3, by first | rfl | trivial⟩
        refine ⟨_, vb', ?_⟩
        rw [dvb, putD_some]
        exact sto_lex r q _ hr (nmE_put hnm dvb vb') h5
      · cases ob
    · cases h

theorem prV_eff {all : List Oper} {o : Oper} {f : Operand} {args : List Operand} {K : Env → Prop} (hg : o.guard = none) (hc : callV o.op = some (f, args)) (h : dstFree ρ o.dst ∧ gd (ev ρ f) ∧ gdL ρ args ∧ pcA P o.dst (callee (un (ev ρ f)) (evL ρ args)) K ρ) : ∃ d, effA P all ρ o d ∧ K (putD ρ o.dst d) := by
  obtain ⟨h1, h2, h3, h4⟩ := h
  unfold pcA at h4
  split at h4
  · rename_i fid l kd hcal hdst
    obtain ⟨hb, r, k1, k2, k3⟩ := h4
    refine ⟨r, ⟨k1, fun k hk => ?_, ?_⟩, by rw [hdst, putD_some]; exact k3⟩
    · rw [hk] at h1; exact h1
    · rw [hg]
      unfold callV at hc
      split at hc <;> cases hc
      rename_i args' ts hop
      rw [hop]
      exact ⟨h2, h3, fid, l, hcal, hb, k2⟩
  · exact h4.elim

/-- The steps that give values: each step's value, and that no one names the region's own variables, is known at the end. -/
def lexN (P : Program) (l : List Oper) (k : Env → Prop) : List Oper → Env → Prop
  | [], ρ => k ρ
  | o :: os, ρ => ∃ d, effA P l ρ o d ∧ lexN P l k os (putD ρ o.dst d)
theorem pwV_N {all : List Oper} {k : Env → Prop} : ∀ (l : List Oper) (ρ : Env), (∀ o ∈ l, (pureOp o.op && o.dst.isSome) = true) → pwVX P all k l ρ → lexN P all k l ρ
  | [], ρ, _, h => h
  | o :: l, ρ, hp, h => by
    have hrec := fun ρ' => pwV_N (all := all) (k := k) l ρ' fun o' ho => hp o' (by simp [ho])
    unfold pwVX at h
    unfold lexN
    split at h
    · rename_i hg
      split at h
      · rename_i f args hc
        obtain ⟨d, k1, k2⟩ := prV_eff (all := all) hg hc h
        exact ⟨d, k1, hrec _ k2⟩
      · rename_i hc
        obtain ⟨d, k1, k2⟩ := prG_eff (all := all) hg h
        exact ⟨d, effP_A hc k1, hrec _ k2⟩
    · rename_i j want hg
      split at h
      · exact h.elim
      · rename_i hc
        obtain ⟨d, k1, k2⟩ := gdG_eff hg (hp o (by simp)) h
        exact ⟨d, effP_A hc k1, hrec _ k2⟩

/-- Different slots are written, none of them a variable of the region's own. -/
def dstsOk (pv S : List Nat) : List Oper → List Nat → Bool
  | [], _ => true
  | o :: l, seen => (match o.dst with | some d => !seen.contains d && S.contains d && !pv.contains d | none => false) && (pvOp pv o).isNone && dstsOk pv S l ((o.dst.toList) ++ seen)

theorem lexN_keep {all : List Oper} {pv S : List Nat} {k : Env → Prop} : ∀ (l : List Oper) (seen : List Nat) (ρ : Env), dstsOk pv S l seen = true → lexN P all k l ρ → ∃ ρf, k ρf ∧ ∀ s ∈ seen, ρf s = ρ s
  | [], _, ρ, _, h => ⟨ρ, h, fun _ _ => rfl⟩
  | o :: l, seen, ρ, hd, h => by
    obtain ⟨d, _, h2⟩ := h
    simp only [dstsOk, Bool.and_eq_true] at hd
    obtain ⟨⟨h3, _⟩, h4⟩ := hd
    split at h3
    · rename_i q hq
      simp only [Bool.and_eq_true, Bool.not_eq_true'] at h3
      obtain ⟨ρf, k1, k2⟩ := lexN_keep l _ _ h4 h2
      refine ⟨ρf, k1, fun s hs => ?_⟩
      rw [k2 s (by simp [hs]), hq, putD_some, set_apply, if_neg]
      intro e
      subst e
      rw [List.contains_iff_mem.2 hs] at h3
      cases h3.1.1
    · cases h3

/-- The values in order, then the variables. -/
theorem lexN_V {all : List Oper} {pv S : List Nat} {q : List (Nat × TypeId × Nat)} {as bs : List Oper} {K : Env → Prop} (hal : alOk pv as q = true) (hso : soOk pv bs q = true) : ∀ (l : List Oper) (seen : List Nat) (ρ : Env), dstsOk pv S l seen = true → nmE pv ρ →
    lexN P all (fun ρ' => nmF pv S ρ' = true ∧ tailT P q K ρ') l ρ → lexV P all pv K (l ++ (as ++ bs)) ρ
  | [], _, ρ, _, hnm, h => alc_lex (fun ρ' hn hk => sto_lex bs q ρ' hso hn hk) as q ρ hal hnm h.2
  | o :: l, seen, ρ, hd, hnm, h => by
    obtain ⟨d, h1, h2⟩ := h
    have hd0 := hd
    simp only [dstsOk, Bool.and_eq_true] at hd
    obtain ⟨⟨h3, h5⟩, h4⟩ := hd
    have hpn : pvOp pv o = none := by simpa using h5
    split at h3
    · rename_i qd hq
      simp only [Bool.and_eq_true, Bool.not_eq_true'] at h3
      obtain ⟨ρf, k1, k2⟩ := lexN_keep (S := S) l _ _ h4 h2
      have hval : ρf qd = d := by rw [k2 qd (by simp [hq]), hq, putD_some, set_apply, if_pos rfl]
      have hnd : ∀ p ∈ pv, nmD p d := fun p hp => by
        have := k1.1
        unfold nmF at this
        rw [List.all_eq_true] at this
        have := List.all_eq_true.1 (this p hp) qd (List.contains_iff_mem.1 h3.1.2)
        rw [Bool.or_eq_true, hval] at this
        rcases this with e | e
        · have e : qd = p := by simpa using e
          subst e
          rw [List.contains_iff_mem.2 hp] at h3
          cases h3.2
        · exact e
      have hdv : dstV pv o = some qd := by unfold dstV; rw [hpn]; exact hq
      have hv : valV P all pv ρ o d := ⟨fun p hp _ => hnd p hp, by rw [hpn]; exact h1⟩
      refine ⟨d, hv, ?_⟩
      rw [hdv, putD_some]
      rw [hq, putD_some] at h2
      exact lexN_V hal hso l _ _ h4 (nmE_put hnm hdv hv) h2
    · cases h3

/-- All the checks on a region's text. pv: its own variables; q: what fills them; r: the order of the walk. -/
def chkV (nt : Nat) (l : List Oper) (pv S r : List Nat) (l1 as bs : List Oper) (q : List (Nat × TypeId × Nat)) : Bool :=
  regOk2 nt l && l.all (isV pv) && pv.all (fun p => decide (p < nt) && decide (p < 100000)) && permV l pv r (Array.replicate l.length false) && decide (r.length = l.length) && alOk pv as q && soOk pv bs q && dstsOk pv S l1 [] && l1.all (fun o => pureOp o.op && o.dst.isSome)

/-- The region's parts, by their places. -/
def ptA (l : List Oper) (r1 : List Nat) : List Oper := r1.filterMap fun i => l[i]?
theorem keepC_out : ∀ {L : List Nat} {ρ : Env} {s : Nat}, s < 100000 → s ∉ L → keepC L ρ s = .any
  | [], ρ, s, h, _ => by rw [keepC_nil]; unfold hi; rw [if_pos h]
  | l :: L, ρ, s, h, hn => by
    rw [keepC_cons, set_apply, if_neg (fun e => hn (by simp [e]))]
    exact keepC_out h fun q => hn (by simp [q])

/-- **A region that draws its order and fills variables of its own.** -/
theorem aw_regV (L pv S r1 : List Nat) (ra rb : List Nat) (q : List (Nat × TypeId × Nat)) {id : Nat} {l : List Oper} {Q : Exit → Env → Prop} (hm : P.follows .mixedOrders = true)
    (hr : (chkV nt l pv S (r1 ++ (ra ++ rb)) (ptA l r1) (ptA l ra) (ptA l rb) q) = true) (hl : (r1 ++ (ra ++ rb)).map (fun i => l[i]?) = (ptA l r1 ++ (ptA l ra ++ ptA l rb)).map some)
    (hn : nmF pv L (keepC L ρ) = true) {l1 : List Oper} (hl1 : ptA l r1 = l1) (h : pwV P l (fun ρ' => nmF pv S ρ' = true ∧ tailT P q (Q .normal) ρ') l1 ⟨⟩ (keepC L ρ)) : AW P nt (.region id l.toArray true) Q ρ := by
  subst hl1
  simp only [chkV, Bool.and_eq_true, beq_iff_eq, decide_eq_true_eq, List.all_eq_true, Bool.not_eq_true'] at hr
  obtain ⟨⟨⟨⟨⟨⟨⟨⟨h1, h2⟩, h3⟩, h4⟩, h5⟩, h6⟩, h6'⟩, h7⟩, h8⟩ := hr
  simp only [regOk2, Bool.and_eq_true] at h1
  refine aw_weaken (Le.keepC L ρ) fun I A a w hs hd => wp_region_any hm ?_
  have hnm : nmE pv (keepC L ρ) := fun p hp s hsp => by
    rcases Nat.lt_or_ge s 100000 with hlt | hge
    · by_cases hsL : s ∈ L
      · unfold nmF at hn
        have := List.all_eq_true.1 (List.all_eq_true.1 hn p hp) s hsL
        rw [Bool.or_eq_true] at this
        rcases this with e | e
        · exact absurd (by simpa using e) hsp
        · exact e
      · rw [keepC_out hlt hsL]; rfl
    · exact isOut_ne (hs.out s hge) (h3 p hp).2
  have hN := pwV_N (all := l) (ptA l r1) (keepC L ρ) (fun o ho => by rw [Bool.and_eq_true]; exact h8 o ho) h
  have hV := lexN_V (all := l) (S := S) h6 h6' (ptA l r1) [] (keepC L ρ) h7 hnm hN
  have hA := anyV_perm (P := P) (r1 ++ (ra ++ rb)) (ptA l r1 ++ (ptA l ra ++ ptA l rb)) (Array.replicate l.length false) (keepC L ρ) hl h4 hnm hV
  rw [h5] at hA
  have hE := anyV_E (nt := nt) h1.1 (List.all_eq_true.2 h2) h3 l.length _ _ hnm hA
  have hgr : Grow w I w.drew I := ⟨rfl, ⟨rfl, Nat.le_succ _⟩, rfl, Nat.le_refl _, fun _ _ => rfl, fun _ h => h, fun _ h => .inl h⟩
  have := any_sound (Q' := fun e a' w' => ∃ I' A' ρ', Sim nt w' I' A' ρ' a' ∧ a'.defers = [] ∧ Ext w I A w' I' A' ∧ Q e ρ') h1.1 _ _ _ I A a w.drew hE (hs.grow hgr) hd
    fun I' A' a' w' ρ' q1 q2 q3 q4 => ⟨I', A', ρ', q1, q2, (hgr.ext hs.osim).trans q3, q4⟩
  simpa using this
end
attribute [go_sem] pwV_nil pwV_plain pwV_guard callV pcA tailT alcT_nil alcT_cons stoT_nil stoT_cons
end Go.Sg
