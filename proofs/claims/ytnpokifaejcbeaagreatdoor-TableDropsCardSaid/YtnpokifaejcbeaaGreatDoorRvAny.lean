/- Regions that draw their order: every order gives what the text's order gives. -/
import Derived.Test.YtnpokifaejcbeaaGreatDoorRvDraw
set_option linter.unusedVariables false
set_option linter.unusedSimpArgs false
namespace Go.Rv
open Go.RowKit Go.Sg

theorem drawOk_spec {ops : List Oper} {M : List Nat} (h : drawOk ops M = true) {i : Nat} {o : Oper} (hi : ops[i]? = some o) : (∀ e ∈ o.after.toList, Region.binds .any e = true → e.on < i) ∧
    ∀ j oj q, ops[j]? = some oj → j ≠ i → oj.dst = some q → o.dst ≠ some q ∧ (q ∈ looks ops o → (M.getD i 0).testBit j = true ∨ (M.getD j 0).testBit i = true) := by
  have hlt : ∀ {j : Nat} {oj : Oper}, ops[j]? = some oj → j < ops.length := fun {j oj} hj => by
    rcases Nat.lt_or_ge j ops.length with h | h
    · exact h
    · rw [List.getElem?_eq_none h] at hj; cases hj
  unfold drawOk at h
  rw [List.all_eq_true] at h
  have h1 := h i (List.mem_range.2 (hlt hi))
  simp only [hi, Bool.and_eq_true, List.all_eq_true, Bool.or_eq_true, Bool.not_eq_true', decide_eq_true_eq, List.mem_range, beq_iff_eq] at h1
  refine ⟨fun e he hb => ?_, fun j oj q hj hne hd => ?_⟩
  · rcases h1.1 e he with h2 | h2
    · rw [hb] at h2; cases h2
    · exact h2
  · rcases h1.2 j (hlt hj) with h2 | h2
    · exact absurd h2 hne
    · simp only [hj, hd, Bool.and_eq_true, Bool.not_eq_true', decide_eq_false_iff_not, Bool.or_eq_true] at h2
      refine ⟨h2.1, fun hq => ?_⟩
      rcases h2.2 with (h3 | h3) | h3
      · rw [List.contains_iff_mem.2 hq] at h3; cases h3
      · exact .inl h3
      · exact .inr h3

section
variable {ops : List Oper}

theorem getD_ff {listed : Array Bool} {j : Nat} (hj : j < listed.size) : listed.getD j true = listed.getD j false := by simp [Array.getD_eq_getD_getElem?, hj]

/-- Whoever is listed, those it waits for are. -/
def Cl (ops : List Oper) (listed : Array Bool) : Prop := ∀ i, i < ops.length → listed.getD i false = true → ∀ j, ((masks ops []).getD i 0).testBit j = true → listed.getD j false = true

theorem ready_cl {listed : Array Bool} (hc : Cl ops listed) {i : Nat} (hi : i ∈ Region.ready .any ops.toArray listed) : ∀ j, ((masks ops []).getD i 0).testBit j = true → listed.getD j false = true := fun j hb => by
  obtain ⟨_, o, ho, hall⟩ := mem_ready.1 hi
  have ho : ops[i]? = some o := by simpa using ho
  have hlt : i < ops.length := by
    rcases Nat.lt_or_ge i ops.length with h | h
    · exact h
    · rw [List.getElem?_eq_none h] at ho; cases ho
  obtain ⟨e, he, hbd, h1⟩ := masks_bit ops [] i o j ho (by simpa using hb)
  have hl := hall e (by simpa using he) hbd
  rcases h1 with rfl | ⟨h2, h3⟩
  · exact hl
  · exact hc e.on (by simp at h2; omega) hl j h3

theorem Cl.set {listed : Array Bool} (hc : Cl ops listed) {i : Nat} (hi : i ∈ Region.ready .any ops.toArray listed) : Cl ops (listed.setIfInBounds i true) := fun k hk hl j hb => by
  by_cases e : k = i
  · subst e
    exact getD_set_true (ready_cl hc hi j hb)
  · have : (listed.setIfInBounds i true).getD k false = listed.getD k false := getD_set_ne false (Ne.symm e)
    rw [this] at hl
    exact getD_set_true (hc k hk hl j hb)

theorem bit_lt (hd : drawOk ops (masks ops []) = true) : ∀ (i : Nat), i < ops.length → ∀ j, ((masks ops []).getD i 0).testBit j = true → j < i := fun i => by
  induction i using Nat.strongRecOn with
  | _ i ih =>
    intro hi j hb
    obtain ⟨o, ho⟩ : ∃ o, ops[i]? = some o := ⟨_, List.getElem?_eq_getElem hi⟩
    obtain ⟨e, he, hbd, h1⟩ := masks_bit ops [] i o j ho (by simpa using hb)
    have hlt := (drawOk_spec hd ho).1 e he hbd
    rcases h1 with rfl | ⟨h2, h3⟩
    · exact hlt
    · have := ih e.on hlt (by omega) j h3; omega

/-- While something is left, something is ready. -/
theorem ready_ne (hd : drawOk ops (masks ops []) = true) {listed : Array Bool} (hs : listed.size = ops.length) : ∀ (i : Nat), i < ops.length → listed.getD i true = false → Region.ready .any ops.toArray listed ≠ [] := fun i => by
  induction i using Nat.strongRecOn with
  | _ i ih =>
    intro hi hl hr
    obtain ⟨o, ho⟩ : ∃ o, ops[i]? = some o := ⟨_, List.getElem?_eq_getElem hi⟩
    have : i ∈ Region.ready .any ops.toArray listed := by
      refine mem_ready.2 ⟨hl, o, by simpa using ho, fun e he hb => ?_⟩
      have hlt := (drawOk_spec hd ho).1 e (by simpa using he) hb
      cases hq : listed.getD e.on false with
      | true => rfl
      | false =>
        refine absurd hr (ih e.on hlt (by omega) ?_)
        rw [getD_ff (by omega)]; exact hq
    rw [hr] at this
    cases this

/-- At most so many are left. -/
def Left (ops : List Oper) (listed : Array Bool) (fuel : Nat) : Prop := ∃ U : List Nat, U.length ≤ fuel ∧ ∀ j, j < ops.length → listed.getD j true = false → j ∈ U
theorem Left.set {listed : Array Bool} {fuel i : Nat} (h : Left ops listed (fuel + 1)) (hi : i < ops.length) (hs : listed.size = ops.length) (hl : listed.getD i true = false) : Left ops (listed.setIfInBounds i true) fuel := by
  obtain ⟨U, h1, h2⟩ := h
  refine ⟨U.erase i, ?_, fun j hj hlj => ?_⟩
  · have := List.length_erase_of_mem (h2 i hi hl)
    omega
  · have hne : j ≠ i := fun e => by
      subst e
      simp [Array.getD_eq_getD_getElem?, Array.getElem?_setIfInBounds, hs, hj] at hlj
    rw [getD_set_ne true (Ne.symm hne)] at hlj
    exact (List.mem_erase_of_ne hne).2 (h2 j hj hlj)
theorem Left.pos {listed : Array Bool} {i : Nat} (h : Left ops listed 0) (hi : i < ops.length) (hl : listed.getD i true = false) : False := by
  obtain ⟨U, h1, h2⟩ := h
  have := h2 i hi hl
  have h3 : U = [] := List.eq_nil_of_length_eq_zero (by omega)
  rw [h3] at this
  cases this

theorem getD_set_self {listed : Array Bool} {i : Nat} (h : i < listed.size) (d : Bool) : (listed.setIfInBounds i true).getD i d = true := by simp [Array.getD_eq_getD_getElem?, h]
end

/-- The first that is left and writes block b. -/
def fw (listed : Array Bool) (b : Nat) : Nat → List Rc → Option Rc
  | _, [] => none
  | j, rc :: l => if listed.getD j false = false ∧ rc.wb = some b then some rc else fw listed b (j + 1) l
theorem fw_some {listed : Array Bool} {b : Nat} : ∀ (l : List Rc) (j p : Nat) (rc : Rc), l[p]? = some rc → listed.getD (j + p) false = false → rc.wb = some b → (∀ p2 rc2, l[p2]? = some rc2 → p2 < p → listed.getD (j + p2) false = false → rc2.wb ≠ some b) → fw listed b j l = some rc
  | [], j, p, rc, h, _, _, _ => by simp at h
  | r :: l, j, 0, rc, h, h1, h2, _ => by
    simp at h; subst h
    unfold fw; rw [if_pos ⟨h1, h2⟩]
  | r :: l, j, p + 1, rc, h, h1, h2, h3 => by
    unfold fw
    rw [if_neg fun q => h3 0 r rfl (by omega) q.1 q.2]
    exact fw_some l (j + 1) p rc (by simpa using h) (by rw [show j + 1 + p = j + (p + 1) by omega]; exact h1) h2 fun p2 rc2 hp2 hlt hl => h3 (p2 + 1) rc2 (by simpa using hp2) (by omega) (by rw [show j + (p2 + 1) = j + 1 + p2 by omega]; exact hl)
theorem fw_none {listed : Array Bool} {b : Nat} : ∀ (l : List Rc) (j : Nat), (∀ p rc, l[p]? = some rc → listed.getD (j + p) false = false → rc.wb ≠ some b) → fw listed b j l = none
  | [], j, _ => rfl
  | r :: l, j, h => by
    unfold fw
    rw [if_neg fun q => h 0 r rfl q.1 q.2]
    exact fw_none l (j + 1) fun p rc hp hl => h (p + 1) rc (by simpa using hp) (by rw [show j + (p + 1) = j + 1 + p by omega]; exact hl)
theorem fw_congr {listed listed' : Array Bool} {b : Nat} : ∀ (l : List Rc) (j : Nat), (∀ p rc, l[p]? = some rc → rc.wb = some b → listed.getD (j + p) false = listed'.getD (j + p) false) → fw listed b j l = fw listed' b j l
  | [], j, _ => rfl
  | r :: l, j, h => by
    unfold fw
    have ih := fw_congr (listed := listed) (listed' := listed') l (j + 1) fun p rc hp hw => by
      have := h (p + 1) rc (by simpa using hp) hw
      rwa [show j + (p + 1) = j + 1 + p by omega] at this
    rw [ih]
    by_cases hw : r.wb = some b
    · have h0 := h 0 r rfl hw
      rw [Nat.add_zero] at h0
      rw [h0]
    · rw [if_neg fun q => hw q.2, if_neg fun q => hw q.2]

/-- Block b lies there while some of a phase are left. -/
def Lies (listed : Array Bool) (k n0 : Nat) (rcs : List Rc) (b : Nat) : Prop := b < n0 ∨ ∃ p rc, rcs[p]? = some rc ∧ listed.getD (k + p) false = true ∧ rc.n ≤ b ∧ b < rc.n'
/-- The heap while some of a phase are left. -/
noncomputable def HD (listed : Array Bool) (k n0 : Nat) (rcs : List Rc) (h : Hp) : Hp := fun b => by
  classical exact if Lies listed k n0 rcs b then (match fw listed b k rcs with
    | some rc => rc.hm.get b
    | none => h b) else none
section
variable {listed : Array Bool} {k n0 : Nat} {rcs : List Rc} {h : Hp} {b : Nat}
theorem HD_out (hb : n0 ≤ b) (hn : ∀ p rc, rcs[p]? = some rc → listed.getD (k + p) false = true → ¬ (rc.n ≤ b ∧ b < rc.n')) : HD listed k n0 rcs h b = none := by
  unfold HD; rw [if_neg]; rintro (h0 | ⟨p, rc, h1, h2, h3⟩)
  · omega
  · exact hn p rc h1 h2 h3
theorem HD_w (hb : Lies listed k n0 rcs b) {r : Rc} (hf : fw listed b k rcs = some r) : HD listed k n0 rcs h b = r.hm.get b := by
  unfold HD; rw [if_pos hb, hf]
theorem HD_nw (hb : Lies listed k n0 rcs b) (hf : fw listed b k rcs = none) : HD listed k n0 rcs h b = h b := by
  unfold HD; rw [if_pos hb, hf]
/-- What a block holds, read off what comes next. -/
theorem HD_nx {s' : St} {p : Nat} {v : Option Blk} (hb : Lies listed k n0 rcs b) (hx : Nx rcs s' p b v) (hlo : ∀ p2 rc2, rcs[p2]? = some rc2 → rc2.wb = some b → p2 < p → listed.getD (k + p2) false = true)
    (hhi : ∀ p2 rc2, rcs[p2]? = some rc2 → rc2.wb = some b → p ≤ p2 → listed.getD (k + p2) false = false) : HD listed k n0 rcs s'.h.get b = v := by
  rcases hx with ⟨p', rc', q1, q2, q3, q4, q5⟩ | ⟨q1, q2⟩
  · rw [HD_w hb (fw_some rcs k p' rc' q1 (hhi p' rc' q1 q3 q2) q3 fun p2 rc2 hp2 hlt hl hw => ?_), q5]
    rcases Nat.lt_or_ge p2 p with h | h
    · rw [hlo p2 rc2 hp2 hw h] at hl; cases hl
    · exact q4 p2 rc2 hp2 h hlt hw
  · rw [HD_nw hb (fw_none rcs k fun p2 rc2 hp2 hl hw => ?_), q2]
    rcases Nat.lt_or_ge p2 p with h | h
    · rw [hlo p2 rc2 hp2 hw h] at hl; cases hl
    · exact q1 p2 rc2 hp2 h hw
end

section
variable {P : Program} {nt lo : Nat} {ops : List Oper}

/-- **A phase, in whatever order.** -/
theorem ph_any (ro : Option Nat) (hreg : regOkR nt ops = true) (hd : drawOk ops (masks ops []) = true) {k : Nat} {HL : List (Nat × Nat)} {s s' : St} {rcs : List Rc} (hops : ∀ p rc, rcs[p]? = some rc → ops[k + p]? = some rc.o) (hkN : k + rcs.length ≤ ops.length)
    (hlate : k + rcs.length < ops.length → effAt (masks ops []) (k + rcs.length) ops.length = true) (hf : ∀ p rc, rcs[p]? = some rc → RcOk P lo ops (masks ops []) HL s.n [] k s s' rcs p rc) (hout : ∀ b, s.n ≤ b → (∀ rc ∈ rcs, ¬ (rc.n ≤ b ∧ b < rc.n')) → s'.h.get b = s.h.get b) (hft : ∀ q, (∀ rc ∈ rcs, rc.o.dst ≠ some q) → s'.t.get q = s.t.get q)
    {m : Nat} (hm : s'.n ≤ m) (hsn : ∀ b, s.n ≤ b → s.h.get b = none) (hlo : lo ≤ s.n) (hng : NG ≤ s.n) {E0 : Emb} {w0 : World} {d0 : List Deferred} {Q' : Exit → Act → World → Prop}
    (hend : ∀ fuel listed E a w, listed.size = ops.length → Cl ops listed → (∀ j, j < ops.length → listed.getD j true = decide (j < k + rcs.length)) → Left ops listed fuel → SS nt E s'.t a → a.defers = d0 → HS E s'.h.get s'.n m w → RX lo E0 s.h.get s.n w0 E s'.h.get s'.n w →
      wpAnyIn (FR ro) 0 P .any ops.toArray Q' fuel listed a w) : ∀ (fuel : Nat) (listed : Array Bool) (E : Emb) (a : Act) (w : World), listed.size = ops.length → Cl ops listed → (∀ j, j < k → listed.getD j false = true) → (∀ j, k + rcs.length ≤ j → j < ops.length → listed.getD j false = false) →
      Left ops listed fuel → a.tmps.size = nt → (∀ q, q < nt → ((∃ p rc, rcs[p]? = some rc ∧ listed.getD (k + p) false = false ∧ rc.o.dst = some q) → Rr E ((s.t.get q).getD .nov) (a.tmps.getD q undef)) ∧
        ((∀ p rc, rcs[p]? = some rc → listed.getD (k + p) false = false → rc.o.dst ≠ some q) → Rr E ((s'.t.get q).getD .nov) (a.tmps.getD q undef))) → a.defers = d0 → HS E (HD listed k s.n rcs s'.h.get) s'.n m w →
      (∀ p rc, rcs[p]? = some rc → listed.getD (k + p) false = false → ∀ b, rc.n ≤ b → b < rc.n' → E b = none) → RX lo E0 s.h.get s.n w0 E (HD listed k s.n rcs s'.h.get) s'.n w → wpAnyIn (FR ro) 0 P .any ops.toArray Q' fuel listed a w := by
  obtain ⟨hnt, hall⟩ := regOkR_get hreg
  have hplt : ∀ {p : Nat} {rc : Rc}, rcs[p]? = some rc → p < rcs.length := fun {p rc} h => by
    rcases Nat.lt_or_ge p rcs.length with h' | h'
    · exact h'
    · rw [List.getElem?_eq_none h'] at h; cases h
  have huniq : ∀ (p : Nat) (rc : Rc) (p2 : Nat) (rc2 : Rc) (q : Nat), rcs[p]? = some rc → rcs[p2]? = some rc2 → p2 ≠ p → rc2.o.dst = some q → rc.o.dst ≠ some q := fun p rc p2 rc2 q h1 h2 hne hd2 => ((drawOk_spec hd (hops p rc h1)).2 (k + p2) rc2.o q (hops p2 rc2 h2) (by omega) hd2).1
  have hfull : ∀ listed : Array Bool, (∀ p rc, rcs[p]? = some rc → listed.getD (k + p) false = true) → HD listed k s.n rcs s'.h.get = s'.h.get := fun listed hall => funext fun b => by
    rcases Nat.lt_or_ge b s.n with hb | hb
    · exact HD_nw (.inl hb) (fw_none rcs k fun p2 rc2 hp2 hl => by rw [hall p2 rc2 hp2] at hl; cases hl)
    · by_cases hr : ∃ (p : Nat) (rc : Rc), rcs[p]? = some rc ∧ rc.n ≤ b ∧ b < rc.n'
      · obtain ⟨p, rc, h1, h2⟩ := hr
        exact HD_nw (.inr ⟨p, rc, h1, hall p rc h1, h2⟩) (fw_none rcs k fun p2 rc2 hp2 hl => by rw [hall p2 rc2 hp2] at hl; cases hl)
      · rw [HD_out hb fun p rc h1 _ h2 => hr ⟨p, rc, h1, h2⟩, hout b hb fun rc hrc h2 => ?_, hsn b hb]
        obtain ⟨p, hp⟩ := List.getElem?_of_mem hrc
        exact hr ⟨p, rc, hp, h2⟩
  intro fuel
  induction fuel with
  | zero =>
    intro listed E a w hsz hcl hpre hpost hleft hasz hsl hdf hs hfr hx
    refine hend 0 listed E a w hsz hcl (fun j hj => ?_) hleft ?_ hdf ?_ ?_
    all_goals
      have hallL : ∀ j, j < ops.length → listed.getD j true = true := fun j hj => by
        cases hq : listed.getD j true with
        | true => rfl
        | false => exact (hleft.pos hj hq).elim
      have hnone : ∀ p rc, rcs[p]? = some rc → listed.getD (k + p) false ≠ false := fun p rc hp hq => by
        have h1 := hallL (k + p) (by have := hplt hp; omega)
        rw [getD_ff (by have := hplt hp; omega), hq] at h1; cases h1
    · rw [hallL j hj]
      rcases Nat.lt_or_ge j (k + rcs.length) with h | h
      · exact (decide_eq_true h).symm
      · have h1 := hallL j hj
        rw [getD_ff (by omega), hpost j h hj] at h1; cases h1
    · exact ⟨hasz, fun q hq => (hsl q hq).2 fun p rc hp hl => absurd hl (hnone p rc hp)⟩
    · have hh := hfull listed fun p rc hp => by
        cases hq : listed.getD (k + p) false with
        | true => rfl
        | false => exact absurd hq (hnone p rc hp)
      rw [hh] at hs; exact hs
    · have hh := hfull listed fun p rc hp => by
        cases hq : listed.getD (k + p) false with
        | true => rfl
        | false => exact absurd hq (hnone p rc hp)
      rw [hh] at hx; exact hx
  | succ fuel ih =>
    intro listed E a w hsz hcl hpre hpost hleft hasz hsl hdf hs hfr hx
    by_cases hdone : ∀ p rc, rcs[p]? = some rc → listed.getD (k + p) false = true
    · have hnone : ∀ p rc, rcs[p]? = some rc → listed.getD (k + p) false ≠ false := fun p rc hp hq => by rw [hdone p rc hp] at hq; cases hq
      refine hend (fuel + 1) listed E a w hsz hcl (fun j hj => ?_) hleft ⟨hasz, fun q hq => (hsl q hq).2 fun p rc hp hl => absurd hl (hnone p rc hp)⟩ hdf (by rw [hfull listed hdone] at hs; exact hs) ?_
      · rw [getD_ff (by omega)]
        rcases Nat.lt_or_ge j (k + rcs.length) with h | h
        · rw [decide_eq_true h]
          rcases Nat.lt_or_ge j k with h2 | h2
          · exact hpre j h2
          · obtain ⟨p, rfl⟩ : ∃ p, j = k + p := ⟨j - k, by omega⟩
            exact hdone p _ (List.getElem?_eq_getElem (by omega))
        · rw [decide_eq_false (by omega)]; exact hpost j h hj
      · rw [hfull listed hdone] at hx; exact hx
    · have hex : ∃ p rc, rcs[p]? = some rc ∧ listed.getD (k + p) false = false := by
        apply Classical.byContradiction
        intro hno
        refine hdone fun p rc hp => ?_
        cases hq : listed.getD (k + p) false with
        | true => rfl
        | false => exact absurd ⟨p, rc, hp, hq⟩ hno
      obtain ⟨p0, rc0, hp0, hl0⟩ := hex
      refine ⟨fun h => absurd h (ready_ne hd hsz (k + p0) (by have := hplt hp0; omega) (by rw [getD_ff (by have := hplt hp0; omega)]; exact hl0)), fun i hi => ?_⟩
      obtain ⟨hiu, o, ho, _⟩ := mem_ready.1 hi
      have ho : ops[i]? = some o := by simpa using ho
      have hiN : i < ops.length := by
        rcases Nat.lt_or_ge i ops.length with h | h
        · exact h
        · rw [List.getElem?_eq_none h] at ho; cases ho
      have hil : listed.getD i false = false := by rw [← getD_ff (by omega)]; exact hiu
      have hrc := ready_cl hcl hi
      -- it is of the phase
      obtain ⟨p, rc, hp, rfl⟩ : ∃ p rc, rcs[p]? = some rc ∧ i = k + p := by
        have h1 : k ≤ i := by
          rcases Nat.lt_or_ge i k with h | h
          · rw [hpre i h] at hil; cases hil
          · exact h
        have h2 : i < k + rcs.length := by
          rcases Nat.lt_or_ge i (k + rcs.length) with h | h
          · exact h
          · have he := hlate (by omega)
            unfold effAt at he
            simp only [Bool.and_eq_true, List.all_eq_true, List.mem_range, Bool.or_eq_true, decide_eq_true_eq] at he
            rcases Nat.lt_or_eq_of_le h with h3 | h3
            · rcases he.2 i hiN with h4 | h4
              · omega
              · have := hrc _ h4
                rw [hpost _ (Nat.le_refl _) (by omega)] at this; cases this
            · subst h3
              have := hrc _ (he.1 (k + p0) (by have := hplt hp0; omega))
              rw [hl0] at this; cases this
        exact ⟨i - k, rcs[i - k]'(by omega), List.getElem?_eq_getElem (by omega), by omega⟩
      have R := hf p rc hp
      have hro : rc.o = o := by have := hops p rc hp; rw [ho] at this; cases this; rfl
      obtain ⟨ho1, ho2⟩ := hall rc.o (by rw [hro]; exact List.mem_of_getElem? ho)
      have hnil : ∀ b, rc.n ≤ b → rc.hm.get b = none := fun b hb => by
        cases hq : rc.hm.get b with
        | none => rfl
        | some z => have := R.hi b hb (by rw [hq]; simp); rw [hq, hsn b (Nat.le_trans R.n1 hb)] at this; cases this
      have hwlate : ∀ (p2 : Nat) (rc2 : Rc) (b : Nat), rcs[p2]? = some rc2 → rc2.wb = some b → p ≤ p2 → (rc.hm.get b ≠ none ∧ b < rc.n) ∨ (rc.n ≤ b ∧ b < rc.n') → listed.getD (k + p2) false = false := fun p2 rc2 b hp2 hw hle hb => by
        rcases Nat.lt_or_eq_of_le hle with h | h
        · cases hq : listed.getD (k + p2) false with
          | false => rfl
          | true =>
            have hbit := R.see p2 rc2 b hp2 h hw (hb.imp (fun q => ⟨q.2, q.1⟩) id)
            rw [hcl (k + p2) (by have := hplt hp2; omega) hq _ hbit] at hil; cases hil
        · subst h; rw [hp] at hp2; cases hp2; exact hil
      have hwearly : ∀ (p2 : Nat) (rc2 : Rc) (b : Nat), rcs[p2]? = some rc2 → rc2.wb = some b → p2 < p → rc.hm.get b ≠ none → listed.getD (k + p2) false = true := fun p2 rc2 b hp2 hw hlt hb => by
        cases hbit : ((masks ops []).getD (k + p) 0).testBit (k + p2) with
        | true => exact hrc _ hbit
        | false => exact absurd (R.hid' p2 rc2 hp2 hlt hbit b (.inr hw)) hb
      have hmade : ∀ b, s.n ≤ b → b < rc.n → rc.hm.get b ≠ none → ∃ (p2 : Nat) (rc2 : Rc), rcs[p2]? = some rc2 ∧ listed.getD (k + p2) false = true ∧ rc2.n ≤ b ∧ b < rc2.n' := fun b h1 h2 h3 => by
        rcases R.cov b h1 h2 with ⟨x, hx, _⟩ | ⟨p2, rc2, q1, q2, q3⟩
        · cases hx
        · refine ⟨p2, rc2, q1, ?_, q3⟩
          cases hbit : ((masks ops []).getD (k + p) 0).testBit (k + p2) with
          | true => exact hrc _ hbit
          | false => exact absurd (R.hid' p2 rc2 q1 q2 hbit b (.inl q3)) h3
      have hsub : ∀ b, rc.hm.get b ≠ none → rc.hm.get b = HD listed k s.n rcs s'.h.get b := fun b hn => by
        rcases Nat.lt_or_ge b rc.n with hb | hb
        · have hx0 := R.low b hb hn
          have hl0 : Lies listed k s.n rcs b := by
            rcases Nat.lt_or_ge b s.n with h0 | h0
            · exact .inl h0
            · exact .inr (hmade b h0 hb hn)
          exact (HD_nx hl0 hx0 (fun p3 rc3 h1 h2 h3 => hwearly p3 rc3 b h1 h2 h3 hn) fun p3 rc3 h1 h2 h3 => hwlate p3 rc3 b h1 h2 h3 (.inl ⟨hn, hb⟩)).symm
        · exact absurd (hnil b hb) hn
      have hfri : ∀ b, rc.n ≤ b → b < rc.n' → E b = none := hfr p rc hp hil
      have hsi : HS E rc.hm.get rc.n rc.n' w := by
        have := hs.sub hsub
        exact ⟨this.blk, this.inj, this.old, hfri, fun b hb => hnil b (Nat.le_trans R.n2 hb), Nat.le_trans hng R.n1, this.glob⟩
      have hslot : ∀ q, q < nt → q ∈ looks ops rc.o → Rr E ((rc.t.get q).getD .nov) (a.tmps.getD q undef) := fun q hq hlk => by
        obtain ⟨s1, s2⟩ := hsl q hq
        by_cases hw : ∃ (p2 : Nat) (rc2 : Rc), rcs[p2]? = some rc2 ∧ rc2.o.dst = some q
        · obtain ⟨p2, rc2, hp2, hd2⟩ := hw
          have huq : ∀ (p3 : Nat) (rc3 : Rc), rcs[p3]? = some rc3 → p3 ≠ p2 → rc3.o.dst ≠ some q := fun p3 rc3 hp3 hne => huniq p3 rc3 p2 rc2 q hp3 hp2 (Ne.symm hne) hd2
          have hold : p ≤ p2 → rc.t.get q = s.t.get q := fun hle => R.t0 q fun p' rc' hp' hlt => huq p' rc' hp' (by omega)
          by_cases e : p2 = p
          · subst e
            rw [hp] at hp2; cases hp2
            rw [hold (Nat.le_refl _)]
            exact s1 ⟨p2, rc, hp, hil, hd2⟩
          · rcases ((drawOk_spec hd (hops p rc hp)).2 (k + p2) rc2.o q (hops p2 rc2 hp2) (by omega) hd2).2 hlk with hb | hb
            · have hlt := bit_lt hd _ hiN _ hb
              rw [R.t1 q p2 rc2 hp2 (by omega) hd2 huq]
              refine s2 fun p3 rc3 hp3 hl3 hd3 => ?_
              by_cases e3 : p3 = p2
              · subst e3; rw [hrc _ hb] at hl3; cases hl3
              · exact huq p3 rc3 hp3 e3 hd3
            · have hlt := bit_lt hd (k + p2) (by have := hplt hp2; omega) _ hb
              rw [hold (by omega)]
              refine s1 ⟨p2, rc2, hp2, ?_, hd2⟩
              cases hq2 : listed.getD (k + p2) false with
              | false => rfl
              | true => have := hcl (k + p2) (by have := hplt hp2; omega) hq2 _ hb; rw [hil] at this; cases this
        · have hno : ∀ (p2 : Nat) (rc2 : Rc), rcs[p2]? = some rc2 → rc2.o.dst ≠ some q := fun p2 rc2 h2 hd2 => hw ⟨p2, rc2, h2, hd2⟩
          rw [R.t0 q fun p' rc' hp' _ => hno p' rc' hp', ← hft q fun rc2 hrc2 => ?_]
          · exact s2 fun p3 rc3 hp3 _ => hno p3 rc3 hp3
          · obtain ⟨p2, hp2⟩ := List.getElem?_of_mem hrc2
            exact hno p2 rc2 hp2
      have hopd : OpdOk E rc.t a rc.o := fun x hx => opd_of x (opsOk_mem ho1 hx) fun q hq => by
        subst hq
        refine hslot q (by simpa [opdOk] using opsOk_mem ho1 hx) ?_
        unfold looks
        rw [List.mem_append, List.mem_filterMap]
        exact .inl ⟨.tmp q, by simpa using hx, rfl⟩
      have hgs : ∀ d, gSlot ops rc.o = some d → d < a.tmps.size ∧ Rr E ((rc.t.get d).getD .nov) (a.tmps.getD d undef) := fun d hdd => by
        have hlt := gSlot_lt (fun o ho => (hall o ho).2) d hdd
        refine ⟨by omega, hslot d hlt ?_⟩
        unfold looks
        rw [List.mem_append, hdd]
        exact .inr (by simp)
      obtain ⟨l, hl0, hl1, hgok⟩ := R.ok
      have run := hgok.2 ro rc.n' E a w (Nat.le_refl _) hopd hgs hsi (wpAnyIn (FR ro) 0 P .any ops.toArray Q' fuel (listed.setIfInBounds (k + p) true)) Q' fun E' y w' q1 q2 q3 => by
        have q1 : HS E' rc.h'.get rc.n' rc.n' w' := q1
        have q2 : RX l E rc.hm.get rc.n w E' rc.h'.get rc.n' w' := q2
        have q3 : Rr E' (rc.v.getD .nov) y := q3
        have hup : ∀ b z, E b = some z → E' b = some z := hsi.up q2 (Nat.le_refl _)
        have hset : ∀ p2, p2 ≠ p → (listed.setIfInBounds (k + p) true).getD (k + p2) false = listed.getD (k + p2) false := fun p2 hne => getD_set_ne false (by omega)
        have hself : (listed.setIfInBounds (k + p) true).getD (k + p) false = true := getD_set_self (by omega) false
        have hul : ∀ p2 rc2, rcs[p2]? = some rc2 → (listed.setIfInBounds (k + p) true).getD (k + p2) false = false → p2 ≠ p ∧ listed.getD (k + p2) false = false := fun p2 rc2 hp2 hl2 => by
          have hne : p2 ≠ p := fun e => by subst e; rw [hself] at hl2; cases hl2
          exact ⟨hne, by rw [← hset p2 hne]; exact hl2⟩
        have hdis : ∀ p2 rc2, rcs[p2]? = some rc2 → p2 ≠ p → ∀ b, rc2.n ≤ b → b < rc2.n' → b < rc.n ∨ rc.n' ≤ b := fun p2 rc2 hp2 hne b hb1 hb2 => by
          rcases Nat.lt_or_gt_of_ne hne with h | h
          · have := (hf p2 rc2 hp2).nx p rc hp h; omega
          · have := R.nx p2 rc2 hp2 h; omega
        have hmono : ∀ q, listed.getD q false = true → (listed.setIfInBounds (k + p) true).getD q false = true := fun q hq => getD_set_true hq
        have hnew : ∀ b, (rc.hm.get b ≠ none ∧ b < rc.n) ∨ (rc.n ≤ b ∧ b < rc.n') → Nx rcs s' (p + 1) b (rc.h'.get b) := fun b hb => by
          rcases hb with ⟨h1, h2⟩ | ⟨h1, h2⟩
          · by_cases hw : rc.wb = some b
            · exact R.wr b hw
            · rw [R.st b h2 hw]
              exact (R.low b h2 h1).next fun rc2 hrc2 => by rw [hp] at hrc2; cases hrc2; exact hw
          · exact R.new b h1 h2
        obtain ⟨r1, r2⟩ := hs.side (H' := HD (listed.setIfInBounds (k + p) true) k s.n rcs s'.h.get) hsub hnil q2 hl1 q1 R.n3 hm hfri
          (fun b hb => by
            have hb : (rc.hm.get b ≠ none ∧ b < rc.n) ∨ (rc.n ≤ b ∧ b < rc.n') := hb.imp (fun h => ⟨h, by
              rcases Nat.lt_or_ge b rc.n with h3 | h3
              · exact h3
              · exact absurd (hnil b h3) h⟩) id
            have hx1 := hnew b hb
            · have hl0 : Lies (listed.setIfInBounds (k + p) true) k s.n rcs b := by
                rcases Nat.lt_or_ge b s.n with h0 | h0
                · exact .inl h0
                · rcases hb with ⟨h1, h2⟩ | h1
                  · obtain ⟨p2, rc2, e1, e2, e3⟩ := hmade b h0 h2 h1
                    exact .inr ⟨p2, rc2, e1, hmono _ e2, e3⟩
                  · exact .inr ⟨p, rc, hp, hself, h1⟩
              refine HD_nx hl0 hx1 (fun p3 rc3 h1 h2 h3 => ?_) fun p3 rc3 h1 h2 h3 => ?_
              · by_cases e : p3 = p
                · subst e; exact hself
                · rcases hb with ⟨h4, _⟩ | ⟨h4, _⟩
                  · exact hmono _ (hwearly p3 rc3 b h1 h2 (by omega) h4)
                  · have g1 := ((hf p3 rc3 h1).wv b h2).2.1
                    have g2 := (hf p3 rc3 h1).nx p rc hp (by omega)
                    have g3 := (hf p3 rc3 h1).n2
                    omega
              · rw [hset p3 (by omega)]
                exact hwlate p3 rc3 b h1 h2 (by omega) hb)
          (fun b hb0 hb => by
            · have hfw : fw (listed.setIfInBounds (k + p) true) b k rcs = fw listed b k rcs := fw_congr rcs k fun p2 rc2 h1 h2 => by
                by_cases e : p2 = p
                · subst e; rw [hp] at h1; cases h1; exact absurd hb0 (R.wv b h2).2.2
                · exact hset p2 e
              by_cases hq : Lies listed k s.n rcs b
              · have hq' : Lies (listed.setIfInBounds (k + p) true) k s.n rcs b := hq.imp id fun ⟨p2, rc2, e1, e2, e3⟩ => ⟨p2, rc2, e1, hmono _ e2, e3⟩
                cases hfv : fw listed b k rcs with
                | none => rw [HD_nw hq hfv, HD_nw hq' (hfw.trans hfv)]
                | some r => rw [HD_w hq hfv, HD_w hq' (hfw.trans hfv)]
              · have h0 : s.n ≤ b := Nat.le_of_not_lt fun h => hq (.inl h)
                rw [HD_out h0 fun p2 rc2 h1 h2 h3 => hq (.inr ⟨p2, rc2, h1, h2, h3⟩), HD_out h0 fun p2 rc2 h1 h2 h3 => ?_]
                by_cases e : p2 = p
                · subst e; rw [hp] at h1; cases h1; omega
                · rw [hset p2 e] at h2; exact hq (.inr ⟨p2, rc2, h1, h2, h3⟩))
        have hputd : ∀ q, q < nt → (a.put rc.o.dst y).tmps.getD q undef = if rc.o.dst = some q then y else a.tmps.getD q undef := fun q hq => by
          cases hdst : rc.o.dst with
          | none => simp [Act.put]
          | some d =>
            have hdn := dstOk_lt ho2 d hdst
            rw [getD_put a d q y (by rw [hasz]; exact hdn)]
            by_cases e : q = d
            · subst e; simp
            · rw [if_neg e, if_neg (fun h => e (Option.some.inj h).symm)]
        refine ih (listed.setIfInBounds (k + p) true) E' _ w' (by simp [hsz]) (hcl.set hi) (fun j hj => getD_set_true (hpre j hj)) (fun j hj hjN => by rw [getD_set_ne false (by have := hplt hp; omega)]; exact hpost j hj hjN) (hleft.set hiN hsz hiu) ?_ (fun q hq => ⟨?_, fun hno => ?_⟩) (by rw [put_defers]; exact hdf) r1 (fun p2 rc2 hp2 hl2 b hb1 hb2 => ?_) (r2 hx (by omega) hlo R.n1)
        · cases hdst : rc.o.dst <;> simp [Act.put, hasz]
        · rintro ⟨p2, rc2, hp2, hl2, hd2⟩
          obtain ⟨e1, e2⟩ := hul p2 rc2 hp2 hl2
          rw [hputd q hq, if_neg (huniq p rc p2 rc2 q hp hp2 e1 hd2)]
          exact ((hsl q hq).1 ⟨p2, rc2, hp2, e2, hd2⟩).mono hup
        · rw [hputd q hq]
          by_cases hdq : rc.o.dst = some q
          · rw [if_pos hdq, R.dst q hdq fun p2 rc2 hp2 hne => huniq p2 rc2 p rc q hp2 hp (Ne.symm hne) hdq]
            exact q3
          · rw [if_neg hdq]
            refine ((hsl q hq).2 fun p2 rc2 hp2 hl2 => ?_).mono hup
            by_cases e : p2 = p
            · subst e; rw [hp] at hp2; cases hp2; exact hdq
            · exact hno p2 rc2 hp2 (by rw [hset p2 e]; exact hl2)
        · obtain ⟨e1, e2⟩ := hul p2 rc2 hp2 hl2
          rw [q2.emb b (hdis p2 rc2 hp2 e1 b hb1 hb2)]
          exact hfr p2 rc2 hp2 e2 b hb1 hb2
      unfold wpOpIn
      simp only [List.getElem?_toArray, ho]
      rw [hro] at run
      exact run
end
end Go.Rv
