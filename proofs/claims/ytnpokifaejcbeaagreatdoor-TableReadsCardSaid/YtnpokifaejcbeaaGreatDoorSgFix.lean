/- A row that nobody writes any more is settled data; arguments that say more; joins. -/
import Derived.Test.YtnpokifaejcbeaaGreatDoorSgUse
set_option linter.unusedVariables false
set_option linter.unusedSimpArgs false
namespace Go.Sg
open Go.RowKit

/-- The settled reading of a row. -/
def frz (z : Nat) (xs : List (List DV)) : DV := .sl z xs.length fun i => xs.getD i []

section
variable {P : Program} {nt : Nat} {w w' : World} {I I' : Nat → Prop} {A : Own} {ρ O : Env} {Q : Exit → Env → Prop} {c : Code}

theorem SlotRel.keep {s : Nat} {d : DV} {x : Value} (hr : SlotRel w I A s d x) (h : ∀ B d x, Rel w I B d x → Rel w' I' B d x) : SlotRel w' I' A s d x := by
  cases d with
  | bx cs => exact hr
  | row e z xs => exact hr
  | cond g y => exact ⟨fun hg => h _ _ _ (hr.1 hg), hr.2⟩
  | any => exact .any A x
  | v y => exact h _ _ _ hr
  | sl z n f => exact h _ _ _ hr
  | agg cs => exact h _ _ _ hr
  | tup cs => exact h _ _ _ hr
  | dp cs => exact h _ _ _ hr
  | bp t o => exact h _ _ _ hr
  | own t n => exact h _ _ _ hr
  | rp t z i o => exact h _ _ _ hr
  | fn f b c => exact h _ _ _ hr
  | iface t y => exact h _ _ _ hr
  | mr t => exact h _ _ _ hr
  | ez => exact h _ _ _ hr
  | mo es => exact hr

theorem RowRel.frz {e : TypeId} {z : Nat} {xs : List (List DV)} {B : Option Nat} {c : Nat} (h : RowRel w I e z xs B c) (hI : ∀ g, B = some g → I' g) (hm : ∀ g, I g → I' g) {A : Own} :
    ∀ {b : Option Addr}, BaseOk B b → Rel w I' A (frz z xs) (.slice b xs.length c) := by
  intro b hb
  unfold Sg.frz
  cases B with
  | none => obtain ⟨rfl, rfl⟩ := h; exact .sl0 A _ _ _ _
  | some g =>
    obtain rfl := baseOk_some hb
    obtain ⟨us, h1, h2, h3, h4, h5⟩ := h
    rcases Nat.eq_zero_or_pos xs.length with h0 | h0
    · rw [h0]; exact .sl0 A _ _ _ _
    · have hget : ∀ i, i < xs.length → xs[i]? = some (xs.getD i []) := fun i hi => by rw [List.getD_eq_getElem?_getD, List.getElem?_eq_getElem hi]; rfl
      have hb : ∀ i j, i < xs.length → j < z → i * z + j < us.size := fun i j hi hj => by
        rw [h2]
        have : (i + 1) * z ≤ c * z := Nat.mul_le_mul_right _ (by omega)
        rw [Nat.succ_mul] at this
        omega
      refine .sl A z _ _ g 0 c (fun i j => us.getD (i * z + j) undef) h0 h4 h3 (hI g rfl) (fun i hi => (h5 i _ (hget i hi)).1) (fun i j hi hj => ?_) (fun i j hi hj => ?_) fun i j d hi hd => ?_
      · unfold World.cell?
        rw [h1]
        simp only [Option.isSome_none, Nat.zero_add]
        rw [Array.getElem?_eq_getElem (hb i j hi hj), Array.getD_eq_getD_getElem?, Array.getElem?_eq_getElem (hb i j hi hj)]
        rfl
      · have hl := (h5 i _ (hget i hi)).1
        have hj' : j < (xs.getD i []).length := by omega
        have e2 : us[i * z + j]? = some (us.getD (i * z + j) undef) := by rw [Array.getD_eq_getD_getElem?, Array.getElem?_eq_getElem (hb i j hi hj)]; rfl
        exact ((h5 i _ (hget i hi)).2 j _ _ (List.getElem?_eq_getElem hj') e2).1
      · have hl := (h5 i _ (hget i hi)).1
        have hj : j < z := by
          rw [← hl]
          rcases Nat.lt_or_ge j (xs.getD i []).length with h | h
          · exact h
          · rw [List.getElem?_eq_none h] at hd; cases hd
        have e2 : us[i * z + j]? = some (us.getD (i * z + j) undef) := by rw [Array.getD_eq_getD_getElem?, Array.getElem?_eq_getElem (hb i j hi hj)]; rfl
        exact ((h5 i _ (hget i hi)).2 j d _ hd e2).2.mono fun g' hg' => ⟨hm g' hg', fun _ => rfl⟩

/-- A call's new row as settled data. -/
theorem pcall_frz {f : FuncId} {args : List DV} {e : TypeId} {z : Nat} {xs : List (List DV)} (h : PCall P O f args (.row e z xs)) : PCall P O f args (frz z xs) :=
  fun w I A vals h1 h2 h3 => (h w I A vals h1 h2 h3).mono fun _ w' ⟨v, I', O', r, k1, k2, k3, k4, k5, k6, k7, k8⟩ => by
    subst k8
    obtain ⟨B, c, ⟨b, hb, rfl⟩, q2, q3⟩ := k6
    have hm : ∀ g, I' g → (I' g ∨ B = some g) := fun g hg => .inl hg
    have hmono : ∀ (B' : Own) d x, Rel w' I' B' d x → Rel w' (fun g => I' g ∨ B = some g) B' d x := fun B' d x hr => hr.mono fun g hg => ⟨hm g hg, fun _ => rfl⟩
    refine ⟨_, fun g => I' g ∨ B = some g, _, frz z xs, k1, ⟨fun s => (k2.own s).keep (fun _ _ _ => rfl) hmono, k2.inj, fun s g c' hA => ⟨(k2.sep s g c' hA).1, fun hi => hi.elim (k2.sep s g c' hA).2 fun hB => ?_⟩, k2.imm.step (fun g hg => hg.elim (k2.imm g) fun hB => (q3 g hB).2.1) fun g hg => ⟨.inl hg, rfl⟩⟩, k3, k4,
      ⟨k5.os, k5.tape, k5.output, k5.size, fun g hg => .inl (k5.imm g hg), fun g hg hA => ?_, k5.loc, k5.outA⟩, q2.frz (fun g hg => .inr hg) hm hb, k7, rfl⟩
    · have := (h1.sep s g c' hA).1
      have := (q3 g hB).1
      omega
    · obtain ⟨e1, e2, e3⟩ := k5.old g hg hA
      refine ⟨e1, fun hi => hi.elim e2 fun hB => ?_, e3⟩
      have := (q3 g hB).1
      omega

theorem Sim.frz {a : Act} (hs : Sim nt w I A ρ a) {s : Nat} (hlt : s < 100000) {e : TypeId} {z : Nat} {xs : List (List DV)} (h : ρ s = .row e z xs) :
    ∃ I' A', Sim nt w I' A' (set (kill s ρ) s (Sg.frz z xs)) a ∧ Ext w I A w I' A' := by
  have ho := hs.osim.own s
  have hsl := hs.slot s
  rw [h] at ho hsl
  obtain ⟨B, c, h1, h2⟩ := ho
  have hd := hs.disown hlt
  have hm : ∀ g, I g → (I g ∨ B = some g) := fun g hg => .inl hg
  have hmono : ∀ (B' : Own) d x, Rel w I B' d x → Rel w (fun g => I g ∨ B = some g) B' d x := fun B' d x hr => hr.mono fun g hg => ⟨hm g hg, fun _ => rfl⟩
  have hB : ∀ g, B = some g → g < w.heap.size := fun g hg => (hs.osim.sep s g c (by rw [h1, hg])).1
  refine ⟨fun g => I g ∨ B = some g, upd A s none, ⟨⟨fun t => ?_, hd.osim.inj, fun t g c' hA => ⟨(hd.osim.sep t g c' hA).1, fun hi => hi.elim (hd.osim.sep t g c' hA).2 fun hb => ?_⟩, hs.osim.imm.step (fun g hg => hg.elim (hs.osim.imm g) (hB g)) fun g hg => ⟨.inl hg, rfl⟩⟩, hs.size, hs.bound, fun i hi => ?_, fun t ht => ?_⟩,
    ⟨rfl, ⟨rfl, Nat.le_refl _⟩, rfl, Nat.le_refl _, hm, fun g hg hA => ⟨rfl, fun hi => hi.elim id fun hb => absurd h1 (by rw [hb]; exact hA s c), fun t c' ht => ?_⟩, fun t g c' hA _ ht => ⟨t, c', ht, ?_⟩, fun t ht => upd_ne A _ (by omega)⟩⟩
  · have := (hd.osim.own t).keep (I' := fun g => I g ∨ B = some g) (fun _ _ _ => rfl) hmono
    unfold set at this ⊢
    split
    · trivial
    · rename_i hne; rw [if_neg hne] at this; exact this
  · unfold upd at hA
    split at hA
    · cases hA
    · rename_i hne
      exact hne (hs.osim.inj t s g c' c hA (by rw [h1, hb]))
  · by_cases hi' : i = s
    · subst hi'
      obtain ⟨B', c', q1, b, hb', q2⟩ := hsl hi
      rw [h1] at q1
      simp only [Option.some.injEq, Prod.mk.injEq] at q1
      obtain ⟨rfl, rfl⟩ := q1
      rw [set_apply, if_pos rfl, q2]
      exact h2.frz (fun g hg => .inr hg) hm hb'
    · have := (hd.slot i hi).keep (I' := fun g => I g ∨ B = some g) hmono
      rw [set_apply, if_neg hi'] at this ⊢
      exact this
  · have := hd.out t ht
    rw [set_apply, if_neg (by omega)] at this ⊢
    exact this
  · unfold upd at ht
    split at ht
    · cases ht
    · exact hA t c' ht
  · unfold upd at hA
    split at hA
    · cases hA
    · exact hA

/-- A row of this body's own may be settled. -/
theorem aw_frz (s : Nat) (hlt : (decide (s < 100000)) = true) {e : TypeId} {z : Nat} {xs : List (List DV)} (h : ρ s = .row e z xs) (k : AW P nt c Q (set (kill s ρ) s (frz z xs))) : AW P nt c Q ρ :=
  fun I A a w hw hd => by
    obtain ⟨I', A', h1, h2⟩ := hw.frz (of_decide_eq_true hlt) h
    exact wp_mono (k I' A' a w h1 hd) fun _ _ _ ⟨I2, A2, ρ2, k1, k2, k3, k4⟩ => ⟨I2, A2, ρ2, k1, k2, h2.trans k3, k4⟩

/-- A slot's value, said anew. -/
theorem aw_to (s : Nat) {d : DV} (d' : DV) (hlt : (decide (s < 100000)) = true) (h : ρ s = d) (hw : RWk d d') (hp : isPl d = true) (hp' : isPl d' = true) (k : AW P nt c Q (set ρ s d')) : AW P nt c Q ρ :=
  fun I A a w hs hd => k I A a w ⟨⟨fun t => by
      rw [set_apply]; split
      · exact OwnRel.ofPure (by cases d' <;> first | rfl | cases hp')
      · exact hs.osim.own t, hs.osim.inj, hs.osim.sep, hs.osim.imm⟩, hs.size, hs.bound, fun i hi => by
      rw [set_apply]; split
      · rename_i e
        subst e
        have := hs.slot i hi
        rw [h] at this
        exact .ofRel (hw _ _ _ _ (this.rel hp))
      · exact hs.slot i hi, fun t ht => by
      have := of_decide_eq_true hlt
      rw [set_apply, if_neg (by omega)]; exact hs.out t ht⟩ hd

/-- A nil slice begins a row. -/
theorem aw_nilrow' (s : Nat) (e : TypeId) (z : Nat) (hlt : (decide (s < nt)) = true) (h : ρ s = .v (.slice none 0 0) ∨ ρ s = .ez) (k : AW P nt c Q (set (kill s ρ) s (.row e z []))) : AW P nt c Q ρ :=
  fun I A a w hs hd => by
    have hlt := of_decide_eq_true hlt
    have hsl := hs.slot s hlt
    obtain ⟨b, hx⟩ : ∃ b, a.tmps.getD s undef = .slice b 0 0 := by
      generalize a.tmps.getD s undef = x at hsl ⊢
      rcases h with h | h <;> rw [h] at hsl
      · have hsl : Rel w I A (.v (.slice none 0 0)) x := hsl
        cases hsl; exact ⟨_, rfl⟩
      · have hsl : Rel w I A .ez x := hsl
        cases hsl; exact ⟨_, rfl⟩
    have hput : a.put (some s) (.slice b 0 0) = a := put_same (by rw [hs.size]; exact hlt) hx
    have hnew := hs.own (d := s) hlt (B := none) (c := 0) (v := .row e z []) (x := .slice b 0 0) (fun g hg => by cases hg) ⟨none, 0, by unfold upd; rw [if_pos rfl], b, baseOk_none _, rfl⟩ ⟨none, 0, by unfold upd; rw [if_pos rfl], rfl, rfl⟩
    rw [hput] at hnew
    refine wp_mono (k I (upd A s (some (none, 0))) a w hnew hd) fun _ _ _ ⟨I2, A2, ρ2, k1, k2, k3, k4⟩ => ⟨I2, A2, ρ2, k1, k2, Ext.trans ?_ k3, k4⟩
    refine ⟨rfl, ⟨rfl, Nat.le_refl _⟩, rfl, Nat.le_refl _, fun _ h => h, fun g hg hA => ⟨rfl, fun h => h, fun t c' ht => ?_⟩, fun t g c' hA _ ht => ⟨t, c', ht, ?_⟩, fun t ht => upd_ne A _ (by have := hs.bound; omega)⟩
    · unfold upd at ht
      split at ht
      · cases ht
      · exact hA t c' ht
    · unfold upd at hA
      split at hA
      · cases hA
      · exact hA

theorem aw_nilrow (s : Nat) (e : TypeId) (z : Nat) (hlt : (decide (s < nt)) = true) (h : ρ s = .v (.slice none 0 0)) (k : AW P nt c Q (set (kill s ρ) s (.row e z []))) : AW P nt c Q ρ := aw_nilrow' s e z hlt (.inl h) k
theorem aw_ezrow (s : Nat) (e : TypeId) (z : Nat) (hlt : (decide (s < nt)) = true) (h : ρ s = .ez) (k : AW P nt c Q (set (kill s ρ) s (.row e z []))) : AW P nt c Q ρ := aw_nilrow' s e z hlt (.inr h) k
theorem RWk.ez (z : Nat) (f : Nat → List DV) : RWk .ez (.sl z 0 f) := fun _ _ A x h => by cases h; exact .sl0 A z f _ _

/-! ## Arguments that say more -/

inductive RWkL : List DV → List DV → Prop
  | nil : RWkL [] []
  | cons {d d' : DV} {l l' : List DV} (h : RWk d d') (t : RWkL l l') : RWkL (d :: l) (d' :: l')
theorem RWkL.refl : ∀ l, RWkL l l
  | [] => .nil
  | _ :: l => .cons (RWk.refl _) (RWkL.refl l)
theorem RWkL.len {l l' : List DV} (h : RWkL l l') : l.length = l'.length := by
  induction h with
  | nil => rfl
  | cons h t ih => simp [ih]
theorem RWkL.get {l l' : List DV} (h : RWkL l l') : ∀ (j : Nat) (d : DV), l'[j]? = some d → ∃ d', l[j]? = some d' ∧ RWk d' d := by
  induction h with
  | nil => intro j d h; simp at h
  | cons h t ih =>
    intro j d hd
    cases j with
    | zero => simp at hd; subst hd; exact ⟨_, rfl, h⟩
    | succ j => simpa using ih j d (by simpa using hd)

theorem ecall_args {f : FuncId} {args args' : List DV} {R : Env → DV → Prop} (hw : RWkL args args') (h : ECall P O f args' R) : ECall P O f args R :=
  fun w I A vals h1 h2 h3 => h w I A vals h1 (h2.trans hw.len) fun j d u hd hu => by
    obtain ⟨d', k1, k2⟩ := hw.get j d hd
    exact k2 _ _ _ _ (h3 j d' u k1 hu)
theorem pcall_args {f : FuncId} {args : List DV} {r : DV} (args' : List DV) (hw : RWkL args args') (h : PCall P O f args' r) : PCall P O f args r := ecall_args hw h

/-- A result that says less. -/
theorem pcall_res {f : FuncId} {args : List DV} {r : DV} (r' : DV) (h : PCall P O f args r) (hw : RWk r r') (h1 : isOwn r = false) (h2 : isOwn r' = false) : PCall P O f args r' :=
  ECall.mono (R := fun O' x => O' = O ∧ x = r') (fun w I A vals k1 k2 k3 => (h w I A vals k1 k2 k3).mono fun _ w' ⟨v, I', O', x, q1, q2, q3, q4, q5, q6, q7, q8⟩ => by
    subst q8
    refine ⟨v, I', O', r', q1, q2, q3, q4, q5, ?_, q7, rfl⟩
    have : Rel w' I' A x v := by cases x <;> first | exact q6 | cases h1
    have := hw _ _ _ _ this
    cases r' <;> first | exact this | cases h2) fun _ _ h => h

/-! ## Joins -/

theorem aw_seqJ (L : List Nat) {x y : Code} (J : Env → Prop) (hx : ∀ K : Env → Prop, (∀ ρ', J (keepC L ρ') → K ρ') → AW P nt x (thenQ K Q) ρ) (hy : ∀ ρ, J ρ → AW P nt y Q ρ) : AW P nt (.seq x y) Q ρ :=
  aw_seq fun K hK => hx K fun ρ' hJ => hK ρ' (aw_weaken (Le.keepC L ρ') (hy _ hJ))

theorem RWk.frz {z n : Nat} {xs : List (List DV)} {f : Nat → List DV} (hn : xs.length = n) (h : ∀ i, i < n → xs.getD i [] = f i) : RWk (frz z xs) (.sl z n f) := by
  subst hn; exact RWk.sl z _ h
theorem pcall_frzL {f : FuncId} {args : List DV} {e : TypeId} {z : Nat} {xs : List (List DV)} {n : Nat} {g : Nat → List DV} (h : PCall P O f args (.row e z xs)) (hn : xs.length = n) (hg : ∀ i, i < n → xs.getD i [] = g i) : PCall P O f args (.sl z n g) :=
  pcall_res _ (pcall_frz h) (RWk.frz hn hg) rfl rfl

end
end Go.Sg
