/- Several texts as one. -/
import Derived.Test.YtbndgcddihbhlaaSgB
import Derived.ChangeArms
import Derived.WideShapes
import Derived.SizedLaws
set_option linter.unusedVariables false
set_option linter.unusedSimpArgs false
namespace Go.Sg
open Go.RowKit
open Go.Rv (FR)
def mkE (O : Env) : List (Nat × DV) → Env
  | [] => outer O
  | p :: l => set (mkE O l) p.1 p.2
theorem mkE_nil (O : Env) : mkE O [] = outer O := rfl
theorem mkE_cons (O : Env) (i : Nat) (d : DV) (l : List (Nat × DV)) : mkE O ((i, d) :: l) = set (mkE O l) i d := rfl
inductive Has : DV → Nat → Prop
  | sl (z n : Nat) (f : Nat → List DV) : Has (.sl z n f) n
  | el {z m n : Nat} {f : Nat → List DV} (i : Nat) {d : DV} (hi : i < m) (hd : d ∈ f i) (h : Has d n) : Has (.sl z m f) n
  | agg {cs : List DV} {n : Nat} {d : DV} (hd : d ∈ cs) (h : Has d n) : Has (.agg cs) n
  | tup {cs : List DV} {n : Nat} {d : DV} (hd : d ∈ cs) (h : Has d n) : Has (.tup cs) n
  | dp {cs : List DV} {n : Nat} {d : DV} (hd : d ∈ cs) (h : Has d n) : Has (.dp cs) n
theorem Rel.has {w : World} {I : Nat → Prop} {d : DV} {n : Nat} (hh : Has d n) : ∀ {A : Own} {x : Value}, Rel w I A d x → n ≤ 9223372036854775807 := by
  induction hh with
  | sl z n f =>
    intro A x h
    cases h with
    | sl0 => omega
    | sl _ _ _ _ b o c us hn hc hm hI hz hcell hone hrel => exact Nat.le_trans hc hm
  | el i hi hd h ih =>
    intro A x hr
    cases hr with
    | sl0 => omega
    | sl _ _ _ _ b o c us hn hc hm hI hz hcell hone hrel =>
      obtain ⟨j, hj⟩ := List.getElem?_of_mem hd
      exact ih (hrel i j _ hi hj)
  | agg hd h ih =>
    intro A x hr
    cases hr with
    | agg _ _ vs hl hone hrel =>
      obtain ⟨j, hj⟩ := List.getElem?_of_mem hd
      have hlt : j < vs.size := by
        rw [← hl]
        rcases Nat.lt_or_ge j _ with h1 | h1
        · exact h1
        · rw [List.getElem?_eq_none h1] at hj; cases hj
      exact ih (hrel j _ _ hj (Array.getElem?_eq_getElem hlt))
  | tup hd h ih =>
    intro A x hr
    cases hr with
    | tup _ _ vs hl hrel =>
      obtain ⟨j, hj⟩ := List.getElem?_of_mem hd
      have hlt : j < vs.size := by
        rw [← hl]
        rcases Nat.lt_or_ge j _ with h1 | h1
        · exact h1
        · rw [List.getElem?_eq_none h1] at hj; cases hj
      exact ih (hrel j _ _ hj (Array.getElem?_eq_getElem hlt))
  | dp hd h ih =>
    intro A x hr
    cases hr with
    | dp _ _ b o us hI hcell hone hrel =>
      obtain ⟨j, hj⟩ := List.getElem?_of_mem hd
      exact ih (hrel j _ hj)
section
variable {P : Program} {nt : Nat} {ρ O : Env} {Q : Exit → Env → Prop} {c : Code}
theorem ecall_has {f : FuncId} {args : List DV} {R : Env → DV → Prop} (j : Nat) {d : DV} {n : Nat} (hj : args[j]? = some d) (hh : Has d n) (k : n ≤ 9223372036854775807 → ECall P O f args R) : ECall P O f args R :=
  fun w I A vals hO hl hv => by
    have hlt : j < vals.size := by
      rw [hl]
      rcases Nat.lt_or_ge j args.length with h1 | h1
      · exact h1
      · rw [List.getElem?_eq_none h1] at hj; cases hj
    exact k ((hv j d _ hj (Array.getElem?_eq_getElem hlt)).has hh) w I A vals hO hl hv
theorem pcall_has {f : FuncId} {args : List DV} {r : DV} (j : Nat) {d : DV} {n : Nat} (hj : args[j]? = some d) (hh : Has d n) (k : n ≤ 9223372036854775807 → PCall P O f args r) : PCall P O f args r := ecall_has j hj hh k
/-! ## Ends -/
theorem ret_tmp {fn : Func} {O : Env} {r : DV} (t : Nat) (hf : fn.results = #[.tmp t]) (h1 : hi ρ = outer O) (h2 : Exp ρ t r) : retQ P fn O (fun O' r' => O' = O ∧ r' = r) .ret ρ :=
  ret_pure h1 (by rw [hf]; exact h2)
theorem Exp.is {t : Nat} {r : DV} (h : ρ t = r) (hr : isPl r = true) (hs : sh r = r) : Exp ρ t r := .pure r (h.symm ▸ hr) (by rw [h, hs]; exact RWk.refl _) (by cases r <;> first | rfl | cases hr)
theorem i64id {x : Int} (h : -9223372036854775808 ≤ x) (h' : x ≤ 9223372036854775807) : IntKind.i64.wrap x = x := by
  rw [IntKind.wrap_i64]; omega
theorem nat_lt (i n : Nat) : ((i : Int) < (n : Int)) = (i < n) := by apply propext; omega
theorem nat_le (i n : Nat) : ((i : Int) ≤ (n : Int)) = (i ≤ n) := by apply propext; omega
theorem nat_nn (i : Nat) : ((0 : Int) ≤ (i : Int)) = True := by apply propext; simp
theorem dropD {α : Type} {l : List α} {i : Nat} (d : α) (h : i < l.length) : l.drop i = l.getD i d :: l.drop (i + 1) := by
  rw [List.drop_eq_getElem_cons h, List.getD_eq_getElem?_getD, List.getElem?_eq_getElem h]; rfl
theorem dropE {α : Type} {l : List α} {i : Nat} (h : l.length ≤ i) : l.drop i = [] := List.drop_eq_nil_of_le h
end
attribute [go_sem] mkE_nil mkE_cons Int.toNat_natCast nat_lt nat_le nat_nn
end Go.Sg
set_option linter.unusedVariables false
set_option linter.unusedSimpArgs false
namespace Go.Sg
open Go.RowKit
open Go.Rv (FR)
def frz (z : Nat) (xs : List (List DV)) : DV := .sl z xs.length fun i => xs.getD i []
section
variable {P : Program} {nt : Nat} {w w' : World} {I I' : Nat → Prop} {A : Own} {ρ O : Env} {Q : Exit → Env → Prop} {c : Code}
theorem SlotRel.keep {s : Nat} {d : DV} {x : Value} (hr : SlotRel w I A s d x) (h : ∀ B d x, Rel w I B d x → Rel w' I' B d x) : SlotRel w' I' A s d x := by
  cases d with
  | bx cs => exact hr
  | row e z xs => exact hr
  | cond g y => exact ⟨fun hg => h _ _ _ (hr.1 hg), hr.2⟩
  | any => exact .any A x
  | v y => exact h _ _ _ hr
  | sl z n f => exact h _ _ _ hr
  | agg cs => exact h _ _ _ hr
  | tup cs => exact h _ _ _ hr
  | dp cs => exact h _ _ _ hr
  | bp t o => exact h _ _ _ hr
  | own t n => exact h _ _ _ hr
  | rp t z i o => exact h _ _ _ hr
  | fn f b c => exact h _ _ _ hr
  | iface t y => exact h _ _ _ hr
  | mr t => exact h _ _ _ hr
  | ez => exact h _ _ _ hr
  | mo es => exact hr
theorem RowRel.frz {e : TypeId} {z : Nat} {xs : List (List DV)} {B : Option Nat} {c : Nat} (h : RowRel w I e z xs B c) (hI : ∀ g, B = some g → I' g) (hm : ∀ g, I g → I' g) {A : Own} :
    ∀ {b : Option Addr}, BaseOk B b → Rel w I' A (frz z xs) (.slice b xs.length c) := by
  intro b hb
  unfold Sg.frz
  cases B with
  | none => obtain ⟨rfl, rfl⟩ := h; exact .sl0 A _ _ _ _
  | some g =>
    obtain rfl := baseOk_some hb
    obtain ⟨us, h1, h2, h3, h4, h5⟩ := h
    rcases Nat.eq_zero_or_pos xs.length with h0 | h0
    · rw [h0]; exact .sl0 A _ _ _ _
    · have hget : ∀ i, i < xs.length → xs[i]? = some (xs.getD i []) := fun i hi => by rw [List.getD_eq_getElem?_getD, List.getElem?_eq_getElem hi]; rfl
      have hb : ∀ i j, i < xs.length → j < z → i * z + j < us.size := fun i j hi hj => by
        rw [h2]
        have : (i + 1) * z ≤ c * z := Nat.mul_le_mul_right _ (by omega)
        rw [Nat.succ_mul] at this
        omega
      refine .sl A z _ _ g 0 c (fun i j => us.getD (i * z + j) undef) h0 h4 h3 (hI g rfl) (fun i hi => (h5 i _ (hget i hi)).1) (fun i j hi hj => ?_) (fun i j hi hj => ?_) fun i j d hi hd => ?_
      · unfold World.cell?
        rw [h1]
        simp only [Option.isSome_none, Nat.zero_add]
        rw [Array.getElem?_eq_getElem (hb i j hi hj), Array.getD_eq_getD_getElem?, Array.getElem?_eq_getElem (hb i j hi hj)]
        rfl
      · have hl := (h5 i _ (hget i hi)).1
        have hj' : j < (xs.getD i []).length := by omega
        have e2 : us[i * z + j]? = some (us.getD (i * z + j) undef) := by rw [Array.getD_eq_getD_getElem?, Array.getElem?_eq_getElem (hb i j hi hj)]; rfl
        exact ((h5 i _ (hget i hi)).2 j _ _ (List.getElem?_eq_getElem hj') e2).1
      · have hl := (h5 i _ (hget i hi)).1
        have hj : j < z := by
          rw [← hl]
          rcases Nat.lt_or_ge j (xs.getD i []).length with h | h
          · exact h
          · rw [List.getElem?_eq_none h] at hd; cases hd
        have e2 : us[i * z + j]? = some (us.getD (i * z + j) undef) := by rw [Array.getD_eq_getD_getElem?, Array.getElem?_eq_getElem (hb i j hi hj)]; rfl
        exact ((h5 i _ (hget i hi)).2 j d _ hd e2).2.mono fun g' hg' => ⟨hm g' hg', fun _ => rfl⟩
theorem pcall_frz {f : FuncId} {args : List DV} {e : TypeId} {z : Nat} {xs : List (List DV)} (h : PCall P O f args (.row e z xs)) : PCall P O f args (frz z xs) :=
  fun w I A vals h1 h2 h3 => (h w I A vals h1 h2 h3).mono fun _ w' ⟨v, I', O', r, k1, k2, k3, k4, k5, k6, k7, k8⟩ => by
    subst k8
    obtain ⟨B, c, ⟨b, hb, rfl⟩, q2, q3⟩ := k6
    have hm : ∀ g, I' g → (I' g ∨ B = some g) := fun g hg => .inl hg
    have hmono : ∀ (B' : Own) d x, Rel w' I' B' d x → Rel w' (fun g => I' g ∨ B = some g) B' d x := fun B' d x hr => hr.mono fun g hg => ⟨hm g hg, fun _ => rfl⟩
    refine ⟨_, fun g => I' g ∨ B = some g, _, frz z xs, k1, ⟨fun s => (k2.own s).keep (fun _ _ _ => rfl) hmono, k2.inj, fun s g c' hA => ⟨(k2.sep s g c' hA).1, fun hi => hi.elim (k2.sep s g c' hA).2 fun hB => ?_⟩, k2.imm.step (fun g hg => hg.elim (k2.imm g) fun hB => (q3 g hB).2.1) fun g hg => ⟨.inl hg, rfl⟩⟩, k3, k4,
      ⟨k5.os, k5.tape, k5.output, k5.size, fun g hg => .inl (k5.imm g hg), fun g hg hA => ?_, k5.loc, k5.outA⟩, q2.frz (fun g hg => .inr hg) hm hb, k7, rfl⟩
    · have := (h1.sep s g c' hA).1
      have := (q3 g hB).1
      omega
    · obtain ⟨e1, e2, e3⟩ := k5.old g hg hA
      refine ⟨e1, fun hi => hi.elim e2 fun hB => ?_, e3⟩
      have := (q3 g hB).1
      omega
theorem Sim.frz {a : Act} (hs : Sim nt w I A ρ a) {s : Nat} (hlt : s < 100000) {e : TypeId} {z : Nat} {xs : List (List DV)} (h : ρ s = .row e z xs) :
    ∃ I' A', Sim nt w I' A' (set (kill s ρ) s (Sg.frz z xs)) a ∧ Ext w I A w I' A' := by
  have ho := hs.osim.own s
  have hsl := hs.slot s
  rw [h] at ho hsl
  obtain ⟨B, c, h1, h2⟩ := ho
  have hd := hs.disown hlt
  have hm : ∀ g, I g → (I g ∨ B = some g) := fun g hg => .inl hg
  have hmono : ∀ (B' : Own) d x, Rel w I B' d x → Rel w (fun g => I g ∨ B = some g) B' d x := fun B' d x hr => hr.mono fun g hg => ⟨hm g hg, fun _ => rfl⟩
  have hB : ∀ g, B = some g → g < w.heap.size := fun g hg => (hs.osim.sep s g c (by rw [h1, hg])).1
  refine ⟨fun g => I g ∨ B = some g, upd A s none, ⟨⟨fun t => ?_, hd.osim.inj, fun t g c' hA => ⟨(hd.osim.sep t g c' hA).1, fun hi => hi.elim (hd.osim.sep t g c' hA).2 fun hb => ?_⟩, hs.osim.imm.step (fun g hg => hg.elim (hs.osim.imm g) (hB g)) fun g hg => ⟨.inl hg, rfl⟩⟩, hs.size, hs.bound, fun i hi => ?_, fun t ht => ?_⟩,
    ⟨rfl, ⟨rfl, Nat.le_refl _⟩, rfl, Nat.le_refl _, hm, fun g hg hA => ⟨rfl, fun hi => hi.elim id fun hb => absurd h1 (by rw [hb]; exact hA s c), fun t c' ht => ?_⟩, fun t g c' hA _ ht => ⟨t, c', ht, ?_⟩, fun t ht => upd_ne A _ (by omega)⟩⟩
  · have := (hd.osim.own t).keep (I' := fun g => I g ∨ B = some g) (fun _ _ _ => rfl) hmono
    unfold set at this ⊢
    split
    · trivial
    · rename_i hne; rw [if_neg hne] at this; exact this
  · unfold upd at hA
    split at hA
    · cases hA
    · rename_i hne
      exact hne (hs.osim.inj t s g c' c hA (by rw [h1, hb]))
  · by_cases hi' : i = s
    · subst hi'
      obtain ⟨B', c', q1, b, hb', q2⟩ := hsl hi
      rw [h1] at q1
      simp only [Option.some.injEq, Prod.mk.injEq] at q1
      obtain ⟨rfl, rfl⟩ := q1
      rw [set_apply, if_pos rfl, q2]
      exact h2.frz (fun g hg => .inr hg) hm hb'
    · have := (hd.slot i hi).keep (I' := fun g => I g ∨ B = some g) hmono
      rw [set_apply, if_neg hi'] at this ⊢
      exact this
  · have := hd.out t ht
    rw [set_apply, if_neg (by omega)] at this ⊢
    exact this
  · unfold upd at ht
    split at ht
    · cases ht
    · exact hA t c' ht
  · unfold upd at hA
    split at hA
    · cases hA
    · exact hA
theorem aw_frz (s : Nat) (hlt : (decide (s < 100000)) = true) {e : TypeId} {z : Nat} {xs : List (List DV)} (h : ρ s = .row e z xs) (k : AW P nt c Q (set (kill s ρ) s (frz z xs))) : AW P nt c Q ρ :=
  fun ro ds I A a w hw hd => by
    obtain ⟨I', A', h1, h2⟩ := hw.frz (of_decide_eq_true hlt) h
    exact wpIn_mono (k ro ds I' A' a w h1 hd) fun _ _ _ ⟨I2, A2, ρ2, k1, k2, k3, k4⟩ => ⟨I2, A2, ρ2, k1, k2, h2.trans k3, k4⟩
theorem aw_to (s : Nat) {d : DV} (d' : DV) (hlt : (decide (s < 100000)) = true) (h : ρ s = d) (hw : RWk d d') (hp : isPl d = true) (hp' : isPl d' = true) (k : AW P nt c Q (set ρ s d')) : AW P nt c Q ρ :=
  fun ro ds I A a w hs hd => k ro ds I A a w ⟨⟨fun t => by
      rw [set_apply]; split
      · exact OwnRel.ofPure (by cases d' <;> first | rfl | cases hp')
      · exact hs.osim.own t, hs.osim.inj, hs.osim.sep, hs.osim.imm⟩, hs.size, hs.bound, fun i hi => by
      rw [set_apply]; split
      · rename_i e
        subst e
        have := hs.slot i hi
        rw [h] at this
        exact .ofRel (hw _ _ _ _ (this.rel hp))
      · exact hs.slot i hi, fun t ht => by
      have := of_decide_eq_true hlt
      rw [set_apply, if_neg (by omega)]; exact hs.out t ht⟩ hd
theorem aw_nilrow' (s : Nat) (e : TypeId) (z : Nat) (hlt : (decide (s < nt)) = true) (h : ρ s = .v (.slice none 0 0) ∨ ρ s = .ez) (k : AW P nt c Q (set (kill s ρ) s (.row e z []))) : AW P nt c Q ρ :=
  fun ro ds I A a w hs hd => by
    have hlt := of_decide_eq_true hlt
    have hsl := hs.slot s hlt
    obtain ⟨b, hx⟩ : ∃ b, a.tmps.getD s undef = .slice b 0 0 := by
      generalize a.tmps.getD s undef = x at hsl ⊢
      rcases h with h | h <;> rw [h] at hsl
      · have hsl : Rel w I A (.v (.slice none 0 0)) x := hsl
        cases hsl; exact ⟨_, rfl⟩
      · have hsl : Rel w I A .ez x := hsl
        cases hsl; exact ⟨_, rfl⟩
    have hput : a.put (some s) (.slice b 0 0) = a := put_same (by rw [hs.size]; exact hlt) hx
    have hnew := hs.own (d := s) hlt (B := none) (c := 0) (v := .row e z []) (x := .slice b 0 0) (fun g hg => by cases hg) ⟨none, 0, by unfold upd; rw [if_pos rfl], b, baseOk_none _, rfl⟩ ⟨none, 0, by unfold upd; rw [if_pos rfl], rfl, rfl⟩
    rw [hput] at hnew
    refine wpIn_mono (k ro ds I (upd A s (some (none, 0))) a w hnew hd) fun _ _ _ ⟨I2, A2, ρ2, k1, k2, k3, k4⟩ => ⟨I2, A2, ρ2, k1, k2, Ext.trans ?_ k3, k4⟩
    refine ⟨rfl, ⟨rfl, Nat.le_refl _⟩, rfl, Nat.le_refl _, fun _ h => h, fun g hg hA => ⟨rfl, fun h => h, fun t c' ht => ?_⟩, fun t g c' hA _ ht => ⟨t, c', ht, ?_⟩, fun t ht => upd_ne A _ (by have := hs.bound; omega)⟩
    · unfold upd at ht
      split at ht
      · cases ht
      · exact hA t c' ht
    · unfold upd at hA
      split at hA
      · cases hA
      · exact hA
theorem aw_nilrow (s : Nat) (e : TypeId) (z : Nat) (hlt : (decide (s < nt)) = true) (h : ρ s = .v (.slice none 0 0)) (k : AW P nt c Q (set (kill s ρ) s (.row e z []))) : AW P nt c Q ρ := aw_nilrow' s e z hlt (.inl h) k
/-! ## Arguments that say more -/
inductive RWkL : List DV → List DV → Prop
  | nil : RWkL [] []
  | cons {d d' : DV} {l l' : List DV} (h : RWk d d') (t : RWkL l l') : RWkL (d :: l) (d' :: l')
theorem RWkL.refl : ∀ l, RWkL l l
  | [] => .nil
  | _ :: l => .cons (RWk.refl _) (RWkL.refl l)
theorem RWkL.len {l l' : List DV} (h : RWkL l l') : l.length = l'.length := by
  induction h with
  | nil => rfl
  | cons h t ih => simp [ih]
theorem RWkL.get {l l' : List DV} (h : RWkL l l') : ∀ (j : Nat) (d : DV), l'[j]? = some d → ∃ d', l[j]? = some d' ∧ RWk d' d := by
  induction h with
  | nil => intro j d h; simp at h
  | cons h t ih =>
    intro j d hd
    cases j with
    | zero => simp at hd; subst hd; exact ⟨_, rfl, h⟩
    | succ j => simpa using ih j d (by simpa using hd)
theorem ecall_args {f : FuncId} {args args' : List DV} {R : Env → DV → Prop} (hw : RWkL args args') (h : ECall P O f args' R) : ECall P O f args R :=
  fun w I A vals h1 h2 h3 => h w I A vals h1 (h2.trans hw.len) fun j d u hd hu => by
    obtain ⟨d', k1, k2⟩ := hw.get j d hd
    exact k2 _ _ _ _ (h3 j d' u k1 hu)
theorem pcall_args {f : FuncId} {args : List DV} {r : DV} (args' : List DV) (hw : RWkL args args') (h : PCall P O f args' r) : PCall P O f args r := ecall_args hw h
theorem pcall_res {f : FuncId} {args : List DV} {r : DV} (r' : DV) (h : PCall P O f args r) (hw : RWk r r') (h1 : isOwn r = false) (h2 : isOwn r' = false) : PCall P O f args r' :=
  ECall.mono (R := fun O' x => O' = O ∧ x = r') (fun w I A vals k1 k2 k3 => (h w I A vals k1 k2 k3).mono fun _ w' ⟨v, I', O', x, q1, q2, q3, q4, q5, q6, q7, q8⟩ => by
    subst q8
    refine ⟨v, I', O', r', q1, q2, q3, q4, q5, ?_, q7, rfl⟩
    have : Rel w' I' A x v := by cases x <;> first | exact q6 | cases h1
    have := hw _ _ _ _ this
    cases r' <;> first | exact this | cases h2) fun _ _ h => h
/-! ## Joins -/
theorem aw_seqJ (L : List Nat) {x y : Code} (J : Env → Prop) (hx : ∀ K : Env → Prop, (∀ ρ', J (keepC L ρ') → K ρ') → AW P nt x (thenQ K Q) ρ) (hy : ∀ ρ, J ρ → AW P nt y Q ρ) : AW P nt (.seq x y) Q ρ :=
  aw_seq fun K hK => hx K fun ρ' hJ => hK ρ' (aw_weaken (Le.keepC L ρ') (hy _ hJ))
theorem RWk.frz {z n : Nat} {xs : List (List DV)} {f : Nat → List DV} (hn : xs.length = n) (h : ∀ i, i < n → xs.getD i [] = f i) : RWk (frz z xs) (.sl z n f) := by
  subst hn; exact RWk.sl z _ h
end
end Go.Sg
set_option linter.unusedVariables false
set_option linter.unusedSimpArgs false
namespace Go.Sg
open Go.RowKit
def encL {α : Type} [Inhabited α] (z : Nat) (e : α → List DV) (l : List α) : DV := .sl z l.length fun i => e (l.getD i default)
def rowL {α : Type} (t : TypeId) (z : Nat) (e : α → List DV) (l : List α) : DV := .row t z (l.map e)
abbrev vi (x : Int) : DV := .v (.int .i64 x)
abbrev vb (x : Bool) : DV := .v (.bool x)
abbrev vs (x : ByteArray) : DV := .v (.string x)
abbrev eI (x : Int) : List DV := [vi x]
abbrev encI (l : List Int) : DV := encL 1 eI l
theorem takeMap {α β : Type} (e : α → β) (l : List α) : (l.map e).take l.length = l.map e := by
  rw [← List.length_map (f := e), List.take_length]
theorem getDMap {α : Type} [Inhabited α] (e : α → List DV) (l : List α) {i : Nat} (h : i < l.length) : (l.map e).getD i [] = e (l.getD i default) := by
  simp [List.getD_eq_getElem?_getD, List.getElem?_eq_getElem h]
theorem rangeGetD {α : Type} [Inhabited α] (e : α → List DV) (l : List α) : ((List.range l.length).map fun i => e (l.getD i default)) = l.map e := by
  apply List.ext_getElem (by simp)
  intro i h1 h2
  simp at h1
  simp [List.getElem?_eq_getElem h1]
theorem bEqT (a : Bool) : (a == true) = a := by cases a <;> rfl
theorem bEqF (a : Bool) : (a == false) = !a := by cases a <;> rfl
theorem condF (a b : Bool) : (bif a then b else false) = (a && b) := by cases a <;> rfl
theorem condT (a b : Bool) : (bif a then true else b) = (a || b) := by cases a <;> rfl
theorem mapSnocI (l : List Int) (x : Int) : l.map eI ++ [[vi x]] = (l ++ [x]).map eI := by simp
theorem lit_lt (k n : Nat) : (((no_index (OfNat.ofNat k)) : Int) < (n : Int)) = (k < n) := by apply propext; show ((k : Nat) : Int) < n ↔ _; omega
theorem lt_lit (k n : Nat) : ((n : Int) < ((no_index (OfNat.ofNat k)) : Int)) = (n < k) := by apply propext; show (n : Int) < ((k : Nat) : Int) ↔ _; omega
theorem lit_le (k n : Nat) : (((no_index (OfNat.ofNat k)) : Int) ≤ (n : Int)) = (k ≤ n) := by apply propext; show ((k : Nat) : Int) ≤ n ↔ _; omega
theorem le_lit (k n : Nat) : ((n : Int) ≤ ((no_index (OfNat.ofNat k)) : Int)) = (n ≤ k) := by apply propext; show (n : Int) ≤ ((k : Nat) : Int) ↔ _; omega
theorem natEqB (i n : Nat) : ((i : Int) == (n : Int)) = (i == n) := by rw [Bool.eq_iff_iff]; simp only [beq_iff_eq]; omega
theorem natNeB (i n : Nat) : ((i : Int) != (n : Int)) = (i != n) := by rw [Bool.eq_iff_iff]; simp only [bne_iff_ne, ne_eq]; omega
theorem litEqB (k n : Nat) : ((n : Int) == ((no_index (OfNat.ofNat k)) : Int)) = (n == k) := natEqB n k
theorem litNeB (k n : Nat) : ((n : Int) != ((no_index (OfNat.ofNat k)) : Int)) = (n != k) := natNeB n k
theorem toNatSubL (k n : Nat) : ((n : Int) - (no_index (OfNat.ofNat k))).toNat = n - k := by show ((n : Int) - (k : Nat)).toNat = _; omega
theorem toNatSub (k n : Nat) : ((n : Int) - (k : Int)).toNat = n - k := by omega
theorem toNatAddL (k n : Nat) : ((n : Int) + (no_index (OfNat.ofNat k))).toNat = n + k := by show ((n : Int) + (k : Nat)).toNat = _; omega
theorem one_add (i : Nat) : 1 + i = i + 1 := Nat.add_comm 1 i
section
variable {P : Program} {nt : Nat} {ρ O : Env} {Q : Exit → Env → Prop} {c : Code}
theorem RWk.frzL {α : Type} [Inhabited α] {z : Nat} (e : α → List DV) (l : List α) : RWk (Sg.frz z (l.map e)) (encL z e l) :=
  RWk.frz (by simp) fun i hi => getDMap e l hi
theorem RWk.nilL {α : Type} [Inhabited α] {z c : Nat} {b : Option Addr} (e : α → List DV) : RWk (.v (.slice b 0 c)) (encL z e []) := RWk.nil z c b _
theorem Exp.encL {α : Type} [Inhabited α] {t z : Nat} {e : α → List DV} {l l' : List α} (h : ρ t = Sg.encL z e l') (hl : l' = l) : Exp ρ t (Sg.encL z e l) := by
  subst hl; exact Exp.is h rfl rfl
theorem Exp.rowL {α : Type} {t : Nat} {ty : TypeId} {z : Nat} {e : α → List DV} {l l' : List α} (h : ρ t = Sg.rowL ty z e l') (hl : l' = l) : Exp ρ t (Sg.rowL ty z e l) := by
  subst hl; exact Exp.row _ _ _ h
theorem Exp.cut {α : Type} {t s n : Nat} {ty : TypeId} {z : Nat} {e : α → List DV} {l l' : List α} (h : ρ t = .own s n) (hs : s < 100000) (hr : ρ s = Sg.rowL ty z e l') (hn : n ≤ l'.length) (hl : l'.take n = l) : Exp ρ t (Sg.rowL ty z e l) := by
  subst hl
  have := Exp.own s ty z n (l'.map e) h hs hr (by simpa using hn)
  rwa [← List.map_take] at this
theorem Exp.ownL {α : Type} {t s n : Nat} {ty : TypeId} {z : Nat} {e : α → List DV} {l l' : List α} (h : ρ t = .own s n) (hs : s < 100000) (hr : ρ s = Sg.rowL ty z e l') (hn : n = l'.length) (hl : l' = l) : Exp ρ t (Sg.rowL ty z e l) :=
  Exp.cut h hs hr (by omega) (by rw [hn, List.take_length]; exact hl)
theorem RWk.litL {α : Type} [Inhabited α] {z n : Nat} {e : α → List DV} {xs : List (List DV)} (l : List α) (hx : xs = l.map e) (hn : n = l.length) : RWk (.sl z n fun i => xs.getD i []) (Sg.encL z e l) := by
  subst hx; subst hn
  exact RWk.sl z _ fun i hi => getDMap e l hi
theorem callC_to {g : Bool} {pre : Prop} {f : FuncId} {l : List DV} {k : DV → Prop} {t : Tg k} {r : DV} (h : g = true → PCall P ρ f l r) (hp : g = true → pre) (hr : isPl r = true) (hk : k r) : CallC P ρ g pre f l k t := ⟨r, hr, fun hg => ⟨hp hg, h hg⟩, hk⟩
theorem callD_to {f : FuncId} {l : List DV} {k : DV → Prop} {t : Tg k} {r : DV} (h : PCall P ρ f l r) (hr : isOwn r = false) (hk : k r) : CallD P ρ f l k t := ⟨r, hr, h, hk⟩
theorem aw_frzL {α : Type} [Inhabited α] (s : Nat) (l : List α) {e : α → List DV} {t : TypeId} {z : Nat} (hlt : (decide (s < 100000)) = true) (h : ρ s = .row t z (l.map e)) (k : AW P nt c Q (set (kill s ρ) s (encL z e l))) : AW P nt c Q ρ := by
  refine aw_frz s hlt h (aw_to s (encL z e l) hlt (by rw [set_apply, if_pos rfl]) (RWk.frzL e l) rfl rfl ?_)
  have : set (set (kill s ρ) s (Sg.frz z (l.map e))) s (encL z e l) = set (kill s ρ) s (encL z e l) := by
    funext i; simp only [set_apply]; split <;> rfl
  rw [this]; exact k
theorem aw_nilL {α : Type} [Inhabited α] (s : Nat) (z : Nat) (e : α → List DV) (hlt : (decide (s < 100000)) = true) (h : ρ s = .v (.slice none 0 0)) (k : AW P nt c Q (set ρ s (encL z e []))) : AW P nt c Q ρ :=
  aw_to s _ hlt h (RWk.nilL e) rfl rfl k
theorem aw_nilR {α : Type} (s : Nat) (t : TypeId) (z : Nat) (e : α → List DV) (hlt : (decide (s < nt)) = true) (h : ρ s = .v (.slice none 0 0)) (k : AW P nt c Q (set (kill s ρ) s (rowL t z e []))) : AW P nt c Q ρ :=
  aw_nilrow s t z hlt h k
theorem pcall_encL {α : Type} [Inhabited α] {f : FuncId} {args : List DV} {t : TypeId} {z : Nat} {e : α → List DV} {l : List α} (h : PCall P O f args (rowL t z e l)) : PCall P O f args (encL z e l) :=
  pcall_res _ (pcall_frz h) (RWk.frzL e l) rfl rfl
end
attribute [go_sem] forall_eq forall_eq_or_imp or_false encL rowL takeMap getDMap rangeGetD srcL List.length_map List.range_zero condF condT bEqT bEqF Bool.not_not and_self ne_eq not_false_eq_true mapSnocI lit_lt lt_lit lit_le le_lit natEqB natNeB litEqB litNeB toNatSubL toNatSub toNatAddL one_add Nat.zero_lt_succ Nat.add_one_sub_one decide_true decide_false Nat.add_sub_cancel Nat.zero_le Nat.lt_irrefl Nat.not_lt_zero
end Go.Sg
set_option linter.unusedVariables false
set_option linter.unusedSimpArgs false
namespace Go.Sg
open Go.RowKit
theorem law_run {P : Program} {f : FuncId} {args : List DV} {w : World} {vals : Array Value} (h : PCall P (fun _ => .any) f args (vb true)) (hl : vals.size = args.length)
    (hv : ∀ (j : Nat) (d : DV) (u : Value), args[j]? = some d → vals[j]? = some u → Rel w (fun g => g < w.heap.size) noOwn d u)
    (hG : ∀ g us e, GT g = some (us, e) → w.heap[g]? = some (.cells us e (0, 0))) :
    Calls P f vals w fun e w' => e = .returned (.bool true) ∧ Below w.heap.size w w' := by
  have hO : OSim w (fun g => g < w.heap.size) noOwn (fun _ => .any) := by
    refine ⟨fun _ => trivial, fun s t g c c' h => ?_, fun s g c h => ?_, ⟨fun g h => h, fun g us e hg => ⟨(Array.getElem?_eq_some_iff.1 (hG g us e hg)).1, hG g us e hg⟩⟩⟩
    · exact absurd h (by simp)
    · exact absurd h (by simp)
  refine (h w _ noOwn vals hO hl hv).mono fun e w' ⟨v, I', O', r, k1, k2, k3, k4, k5, k6, k7, k8⟩ => ?_
  subst k8
  have k6 : Rel w' I' noOwn (vb true) v := k6
  cases k6
  exact ⟨k1, k5.os, k5.tape.1, k5.output, k5.size, fun k hk => (k5.old k hk fun s c h => by cases h).1⟩
inductive RL (w : World) (I : Nat → Prop) (A : Own) : List DV → List Value → Prop
  | nil : RL w I A [] []
  | cons {d : DV} {x : Value} {l : List DV} {m : List Value} (h : Rel w I A d x) (t : RL w I A l m) : RL w I A (d :: l) (x :: m)
theorem RL.len {w : World} {I : Nat → Prop} {A : Own} {l : List DV} {m : List Value} (h : RL w I A l m) : m.length = l.length := by
  induction h with
  | nil => rfl
  | cons h t ih => simp [ih]
theorem RL.get {w : World} {I : Nat → Prop} {A : Own} {l : List DV} {m : List Value} (h : RL w I A l m) : ∀ (j : Nat) (d : DV) (u : Value), l[j]? = some d → m[j]? = some u → Rel w I A d u := by
  induction h with
  | nil => intro j d u hd; simp at hd
  | cons h t ih =>
    intro j d u hd hu
    cases j with
    | zero => simp at hd hu; subst hd; subst hu; exact h
    | succ j => exact ih j d u (by simpa using hd) (by simpa using hu)
theorem law_at {P : Program} {f : FuncId} {args : List DV} {w : World} {vals : List Value} (h : PCall P (fun _ => .any) f args (vb true)) (hv : RL w (fun g => g < w.heap.size) noOwn args vals)
    (hG : ∀ g us e, GT g = some (us, e) → w.heap[g]? = some (.cells us e (0, 0))) :
    Calls P f vals.toArray w fun e w' => e = .returned (.bool true) ∧ Below w.heap.size w w' :=
  law_run h (by simpa using hv.len) (fun j d u hd hu => hv.get j d u hd (by simpa using hu)) hG
theorem rel_none {w : World} {I : Nat → Prop} {A : Own} {α : Type} [Inhabited α] {z c : Nat} {e : α → List DV} {b : Option Addr} : Rel w I A (encL z e []) (.slice b 0 c) := .sl0 A z _ b c
end Go.Sg
set_option linter.unusedVariables false
set_option linter.unusedSimpArgs false
namespace Go.Sg
open Go.RowKit
inductive RC (w : World) (I : Nat → Prop) : List DV → List Value → Prop
  | nil : RC w I [] []
  | cons {d : DV} {x : Value} {l : List DV} {m : List Value} (h : Rel w I noOwn d x) (o : x.oneCell' = true) (t : RC w I l m) : RC w I (d :: l) (x :: m)
section
variable {w : World} {I : Nat → Prop}
theorem RC.len {l : List DV} {m : List Value} (h : RC w I l m) : m.length = l.length := by
  induction h with
  | nil => rfl
  | cons h o t ih => simp [ih]
theorem RC.get {l : List DV} {m : List Value} (h : RC w I l m) : ∀ (j : Nat) (d : DV) (u : Value), l[j]? = some d → m[j]? = some u → Rel w I noOwn d u := by
  induction h with
  | nil => intro j d u hd; simp at hd
  | cons h o t ih =>
    intro j d u hd hu
    cases j with
    | zero => simp at hd hu; subst hd; subst hu; exact h
    | succ j => exact ih j d u (by simpa using hd) (by simpa using hu)
theorem RC.one {l : List DV} {m : List Value} (h : RC w I l m) : ∀ u ∈ m, u.oneCell' = true := by
  induction h with
  | nil => simp
  | cons h o t ih => intro u hu; rcases List.mem_cons.1 hu with e | e; exact e ▸ o; exact ih u e
theorem RC.app {l l' : List DV} {m m' : List Value} (h : RC w I l m) (h' : RC w I l' m') : RC w I (l ++ l') (m ++ m') := by
  induction h with
  | nil => exact h'
  | cons h o t ih => exact .cons h o ih
theorem RC.join {l l' : List DV} {cs : List Value} {o s : Nat} (h : RC w I l ((cs.drop o).take s)) (h' : RC w I l' (cs.drop (o + s))) : RC w I (l ++ l') (cs.drop o) := by
  have := h.app h'
  rwa [← List.drop_drop, List.take_append_drop] at this
theorem RC.stop {cs : List Value} {n : Nat} (h : cs.length = n) : RC w I [] (cs.drop n) := by
  rw [List.drop_eq_nil_of_le (by omega)]; exact .nil
theorem RC.agg {l : List DV} {cs : Array Value} (h : RC w I l cs.toList) {A : Own} : Rel w I A (.agg l) (.agg cs) := by
  refine Rel.ofNoOwn (.agg noOwn l cs (by simpa using h.len.symm) h.one fun j d u hd hu => h.get j d u hd (by simpa using hu))
theorem RC.single {d : DV} {v : Value} (h : RC w I [d] [v]) {A : Own} : Rel w I A d v := by
  cases h with
  | cons h o t => exact h.ofNoOwn
end
def Dec (P : Program) (t : TypeId) {α : Type} (e : α → List DV) (ok : α → Prop) : Prop :=
  ∀ (H : Type) (enc : TypeId × Value → H) (w : World) (sp : Nat → Bool) (held : Bool) (fuel : Nat) (cs : List Value) (x : DataW H × List MemPlace), DataW.trod enc P w 0 sp held fuel t cs = some x → (∀ n ∈ x.1.weights P t, n ≤ reachBytes) →
    ∃ a : α, ok a ∧ RC w (fun g => g < w.heap.size) (e a) cs
section
variable {P : Program} {t : TypeId}
abbrev eS (s : ByteArray) : List DV := [vs s]
theorem dec_int (ht : P.underlying t = some (.int .i64)) : Dec P t eI (fun n => -9223372036854775808 ≤ n ∧ n ≤ 9223372036854775807) := fun H enc w sp held fuel cs x h hz => by
  obtain ⟨n, rfl, _, hw⟩ := DataW.trod_int ht h
  refine ⟨n, ?_, .cons (.v _ _) rfl .nil⟩
  simp [Lit.wf, IntKind.min, IntKind.max, IntKind.signed, IntKind.bits] at hw
  omega
theorem dec_string (ht : P.underlying t = some .string) : Dec P t eS (fun s => s.size ≤ 140737488355328) := fun H enc w sp held fuel cs x h hz => by
  obtain ⟨s, rfl, rfl, hs⟩ := DataW.trod_string ht h
  have := hz s.data.toList.length (by simp [DataW.weights])
  exact ⟨s, by
    show s.size ≤ _
    have h2 : s.size = s.data.toList.length := Array.length_toList.symm
    rw [h2]; unfold reachBytes at this; omega, .cons (.v _ _) rfl .nil⟩
theorem mapM_get {α β : Type} {f : α → Option β} : ∀ {l : List α} {r : List β}, l.mapM f = some r → r.length = l.length ∧ ∀ (j : Nat) (x : α), l[j]? = some x → f x = r[j]?
  | [], r, h => by
    have : r = [] := by simpa using h.symm
    subst this; exact ⟨rfl, by simp⟩
  | a :: l, r, h => by
    rw [List.mapM_cons] at h
    cases ha : f a with
    | none => simp [ha] at h
    | some y =>
      cases hl : l.mapM f with
      | none => simp [ha, hl] at h
      | some ys =>
        simp [ha, hl] at h
        subst h
        obtain ⟨h1, h2⟩ := mapM_get hl
        refine ⟨by simp [h1], fun j x hx => ?_⟩
        cases j with
        | zero => simp at hx; subst hx; simpa using ha
        | succ j => simpa using h2 j x (by simpa using hx)
theorem spot_none {w : World} {a : Addr} {v : Value} (h : w.cell? a = some v) : a.spot = none ∧ a.block < w.heap.size := by
  unfold World.cell? at h
  split at h
  · rename_i c e f hh
    refine ⟨?_, (Array.getElem?_eq_some_iff.1 hh).1⟩
    cases hs : a.spot with
    | none => rfl
    | some s => rw [hs] at h; simp at h
  · cases h
theorem cells_get {w : World} {b : Nat} {a : Addr} {n : Nat} {cs : List Value} (h : w.cells? b a n = some cs) : cs.length = n ∧ ∀ j, j < n → w.cell? (a.add j) = cs[j]? := by
  unfold World.cells? at h
  split at h
  · obtain ⟨h1, h2⟩ := mapM_get h
    refine ⟨by simpa using h1, fun j hj => h2 j j (by simp [hj])⟩
  · cases h
theorem weightsAll_mem {H : Type} {P : Program} {e : TypeId} : ∀ {l : List (DataW H)} {j : Nat} {d : DataW H}, l[j]? = some d → ∀ n ∈ d.weights P e, n ∈ DataW.weightsAll P e l
  | [], _, _, h, _, _ => by simp at h
  | d0 :: l, 0, d, h, n, hn => by
    simp only [List.getElem?_cons_zero, Option.some.injEq] at h
    subst h
    simp only [DataW.weightsAll, List.mem_append]
    exact .inl hn
  | d0 :: l, j + 1, d, h, n, hn => by
    simp only [List.getElem?_cons_succ] at h
    simp only [DataW.weightsAll, List.mem_append]
    exact .inr (weightsAll_mem h n hn)
theorem dec_slice {el : TypeId} {α : Type} [Inhabited α] {e : α → List DV} {ok : α → Prop} {z : Nat} (ht : P.underlying t = some (.slice el)) (hc : P.cellsOf el = z) (hz : 0 < z) (hby : 0 < P.bytesOf el) (hd : Dec P el e ok) (hlen : ∀ a, (e a).length = z) :
    Dec P t (fun l : List α => [encL z e l]) (fun l => (∀ a ∈ l, ok a) ∧ l.length ≤ 140737488355328) := fun H enc w sp held fuel cs x h hw => by
  rcases DataW.trod_slice ht h with ⟨rfl, _⟩ | ⟨a, len, cap, elems, rest, n, rfl, rfl, hx, hb, hl, hm, hle, hel, _, _⟩
  · exact ⟨[], ⟨by simp, by simp⟩, .cons rel_none rfl .nil⟩
  · have hreach : len ≤ 140737488355328 := by
      have h1 := hw (((elems.map (·.1)).length + (rest.map (·.1)).length) * P.bytesOf el) (by rw [hx]; simp [DataW.weights, ht])
      have h2 : (elems.map (·.1)).length = len := by simpa using hle
      rw [h2] at h1
      have h3 : len * 1 ≤ (len + (rest.map (·.1)).length) * P.bytesOf el := Nat.mul_le_mul (by omega) hby
      unfold reachBytes at h1
      omega
    have each : ∀ i, ∃ (p : α × List Value), i < len → ok p.1 ∧ RC w (fun g => g < w.heap.size) (e p.1) p.2 ∧ p.2.length = z ∧ ∀ j, j < z → w.cell? ((a.add (i * z)).add j) = p.2[j]? := fun i => by
      by_cases hi : i < len
      · have := hel i hi
        rw [List.getElem?_eq_getElem (by omega), Option.bind_eq_some_iff, hc] at this
        obtain ⟨cs', h1, h2⟩ := this
        obtain ⟨y, h3, h4⟩ := hd H enc w sp held n cs' _ h2 fun m hm => hw m (by
          rw [hx]
          simp only [DataW.weights, ht]
          refine List.mem_cons_of_mem _ (List.mem_append_left _ (weightsAll_mem (j := i) (d := elems[i].1) ?_ m hm))
          rw [List.getElem?_map, List.getElem?_eq_getElem (by omega)]; rfl)
        obtain ⟨h5, h6⟩ := cells_get h1
        exact ⟨(y, cs'), fun _ => ⟨h3, h4, h5, h6⟩⟩
      · exact ⟨(default, []), fun h => absurd h hi⟩
    have hch := Classical.axiomOfChoice each
    obtain ⟨f, hf⟩ := hch
    have hlen' : ((List.range len).map fun i => (f i).1).length = len := by simp
    have hget : ∀ i, i < len → ((List.range len).map fun i => (f i).1).getD i default = (f i).1 := fun i hi => by
      rw [List.getD_eq_getElem?_getD, List.getElem?_map, List.getElem?_range hi]; rfl
    refine ⟨(List.range len).map fun i => (f i).1, ⟨fun y hy => ?_, by rw [hlen']; exact hreach⟩, .cons ?_ rfl .nil⟩
    · obtain ⟨i, hi, rfl⟩ := List.mem_map.1 hy
      exact (hf i (by simpa using hi)).1
    · rcases Nat.eq_zero_or_pos len with h0 | h0
      · subst h0; exact rel_none
      · have hsp : a.spot = none ∧ a.block < w.heap.size := by
          obtain ⟨_, _, k3, k4⟩ := hf 0 h0
          have := k4 0 hz
          rw [List.getElem?_eq_getElem (by omega), Nat.zero_mul] at this
          exact spot_none this
        obtain ⟨b, o, s⟩ := a
        obtain ⟨rfl, hbl⟩ := hsp
        show Rel _ _ _ (.sl z ((List.range len).map fun i => (f i).1).length fun i => e (((List.range len).map fun i => (f i).1).getD i default)) _
        rw [hlen']
        refine .sl noOwn z len _ b o cap (fun i j => (f i).2.getD j undef) h0 hl hm hbl (fun i _ => hlen _) (fun i j hi hj => ?_) (fun i j hi hj => ?_) fun i j d hi hdd => ?_
        · obtain ⟨_, _, k3, k4⟩ := hf i hi
          have := k4 j hj
          rw [Addr.add_lit, Addr.add_lit, Nat.add_assoc] at this
          rw [this, List.getD_eq_getElem?_getD, List.getElem?_eq_getElem (by omega)]; rfl
        · obtain ⟨_, k2, k3, _⟩ := hf i hi
          rw [List.getD_eq_getElem?_getD, List.getElem?_eq_getElem (by omega)]
          exact k2.one _ (List.getElem_mem _)
        · obtain ⟨_, k2, k3, _⟩ := hf i hi
          rw [hget i hi] at hdd
          have hj : j < (f i).2.length := by
            have := k2.len
            have h2 : j < (e (f i).1).length := (List.getElem?_eq_some_iff.1 hdd).1
            omega
          rw [List.getD_eq_getElem?_getD, List.getElem?_eq_getElem hj]
          exact k2.get j d _ hdd (List.getElem?_eq_getElem hj)
theorem dec_field {fs : Array Field} {H : Type} {enc : TypeId × Value → H} {w : World} {sp : Nat → Bool} {held : Bool} {fuel : Nat} {cs : List Value} {x : DataW H × List MemPlace} (ht : P.underlying t = some (.struct fs))
    (h : DataW.trod enc P w 0 sp held fuel t cs = some x) (hw : ∀ n ∈ x.1.weights P t, n ≤ reachBytes) (i : Nat) {nm : Field} {α : Type} {e : α → List DV} {ok : α → Prop} {s : Nat} (hf : fs[i]? = some nm) (hs : P.cellsOf nm.type = s) (hd : Dec P nm.type e ok) :
    ∃ a : α, ok a ∧ RC w (fun g => g < w.heap.size) (e a) ((cs.drop nm.offset).take s) := by
  obtain ⟨xs, n, rfl, hx, h1, h2, h3⟩ := DataW.trod_struct ht h
  have := h3 i nm hf
  have hi : i < fs.size := (Array.getElem?_eq_some_iff.1 hf).1
  rw [List.getElem?_eq_getElem (by omega), hs] at this
  refine hd H enc w sp held n _ _ this fun m hm => hw m ?_
  rw [hx]
  simp only [DataW.weights, ht]
  refine DataW.weights_mem_each (j := i) (t := nm.type) (d := xs[i].1) ?_ ?_ m hm
  · rw [List.getElem?_map, Array.getElem?_toList, hf]; rfl
  · rw [List.getElem?_map, List.getElem?_eq_getElem (by omega)]; rfl
/-! ## Arguments -/
theorem arg_struct {fs : Array Field} {α : Type} {e : α → List DV} {ok : α → Prop} {H : Type} {enc : TypeId × Value → H} {w : World} {r : Reach} {base : Nat} {sp : Nat → Bool} {held : Bool} {v : Value} {d : DataW H} {ps : List MemPlace}
    (ht : P.underlying t = some (.struct fs)) (hd : Dec P t e ok) (hv : Value.okWide P w r base t v) (h : DataW.Trod enc P w 0 sp held t v d ps) (hw : ∀ n ∈ d.weights P t, n ≤ reachBytes) : ∃ a : α, ok a ∧ Rel w (fun g => g < w.heap.size) noOwn (.agg (e a)) v := by
  obtain ⟨cs, rfl, _⟩ := WideShapes.okWide_struct ht hv
  obtain ⟨fuel, h⟩ := h
  obtain ⟨a, h1, h2⟩ := hd H enc w sp held fuel _ _ h hw
  exact ⟨a, h1, RC.agg h2⟩
theorem arg_one {α : Type} {e : α → DV} {ok : α → Prop} {H : Type} {enc : TypeId × Value → H} {w : World} {sp : Nat → Bool} {held : Bool} {v : Value} {d : DataW H} {ps : List MemPlace}
    (hd : Dec P t (fun a => [e a]) ok) (hv : v.cells = #[v]) (h : DataW.Trod enc P w 0 sp held t v d ps) (hw : ∀ n ∈ d.weights P t, n ≤ reachBytes) : ∃ a : α, ok a ∧ Rel w (fun g => g < w.heap.size) noOwn (e a) v := by
  obtain ⟨fuel, h⟩ := h
  rw [hv] at h
  obtain ⟨a, h1, h2⟩ := hd H enc w sp held fuel _ _ h hw
  exact ⟨a, h1, RC.single h2⟩
end
end Go.Sg
set_option linter.unusedVariables false
set_option linter.unusedSimpArgs false
namespace Go.Sg
open Go.RowKit
section
variable {P : Program} {t : TypeId} {H : Type} {enc : TypeId × Value → H} {w : World} {r : Reach} {base : Nat} {sp : Nat → Bool} {held : Bool} {v : Value} {d : DataW H} {ps : List MemPlace} {α : Type} {ok : α → Prop}
theorem arg_slice {e : α → DV} {el : TypeId} (ht : P.underlying t = some (.slice el)) (hd : Dec P t (fun a => [e a]) ok) (hv : Value.okWide P w r base t v) (h : DataW.Trod enc P w 0 sp held t v d ps) (hw : ∀ n ∈ d.weights P t, n ≤ reachBytes) : ∃ a : α, ok a ∧ Rel w (fun g => g < w.heap.size) noOwn (e a) v := by
  obtain ⟨a, l, c, rfl⟩ := WideShapes.okWide_slice ht hv
  exact arg_one hd (by simp [Value.cells]) h hw
end
end Go.Sg
set_option linter.unusedVariables false
set_option linter.unusedSimpArgs false
namespace Go.Sg
open Go.RowKit
open Go.Rv (FR)
def pur (fl : List Nat) (i : Nat) (o : Oper) : Bool := (pureOp o.op && o.dst.isSome) && !fl.contains i
theorem pur_spec {fl : List Nat} {i : Nat} {o : Oper} (h : pur fl i o = true) : pureOp o.op = true ∧ o.dst.isSome = true := by
  unfold pur at h; simp only [Bool.and_eq_true] at h; exact h.1
section
variable {P : Program} {nt : Nat} {ρ : Env} {ops : Array Oper}
theorem ow_litR {o : Oper} {K : Env → Prop} {t : TypeId} {n : Nat} {parts : Array (Nat × Operand)} {d : Nat} {e : TypeId} {z by_ : Nat} {zs : List Value} (hop : o.op = .buildSlice t n parts) (hg : o.guard = none) (hdst : o.dst = some d) (hd : d < nt)
    (ho : opsOk nt o = true) (hs : slE P t = some (e, z, by_)) (hz : zcOf P e = some zs) (hz0 : 0 < z) (hn0 : 0 < n) (hn : n * z ≤ 16777216) (hl : parts.toList.length = n) (hp : bsOk ρ z 0 parts.toList)
    (hK : K (set (kill d ρ) d (.row e z (bsL ρ parts.toList)))) : OW P nt ops o K ρ := by
  obtain ⟨hu, i, hi, rfl, rfl⟩ := slE_spec hs
  obtain ⟨i', zv, hi', hzv, rfl, _⟩ := zcOf_spec hz
  rw [hi] at hi'
  cases hi'
  refine ow_val hg fun I A a w hsim => ?_
  have hpart : ∀ (j : Nat) (p : Nat × Operand), parts.toList[j]? = some p → p.1 = j ∧ (a.eval p.2).cells.size = i.size ∧ (∀ u ∈ (a.eval p.2).cells.toList, u.oneCell' = true) ∧
      ∀ (r : Nat) (x : DV) (u : Value), (cellsD (un (ev ρ p.2)))[r]? = some x → (a.eval p.2).cells[r]? = some u → Rel w I noOwn x u := fun j p hj => by
    obtain ⟨h1, h2, h3, h4⟩ := bsOk_get hp j p hj
    have hx := hsim.opd p.2 (opsOk_mem ho (by
      simp only [hop, Op.operands]
      simp
      exact ⟨p.1, by have := List.mem_of_getElem? hj; simpa using this⟩)) h2
    obtain ⟨k1, k2, k3⟩ := cells_ok hx (.inl (by omega))
    exact ⟨by omega, by omega, k2, fun r x u hx hu => (k3 r x u hx hu).pure (allKL_get h4 hx)⟩
  let vparts : List (Nat × Value) := parts.toList.map fun p => (p.1, a.eval p.2)
  have hv : ∀ (j k : Nat) (v : Value), vparts[j]? = some (k, v) → ∃ p, parts.toList[j]? = some p ∧ p.1 = k ∧ a.eval p.2 = v := fun j k v h => by
    simp only [vparts, List.getElem?_map, Option.map_eq_some_iff] at h
    obtain ⟨p, hp, he⟩ := h
    simp at he
    exact ⟨p, hp, he.1, he.2⟩
  obtain ⟨zero, hzero⟩ : ∃ zero : Array Value, zero = (Array.range (n * i.size)).map (zv.cells[· % zv.cells.size]!) := ⟨_, rfl⟩
  have hzsz : zero.size = n * i.size := by simp [hzero]
  obtain ⟨out, o1, o2, o3⟩ := fill_spec (fun k => some (k * i.size, i.size)) vparts zero (fun j k v h => by
    obtain ⟨p, hpj, rfl, rfl⟩ := hv j k v h
    obtain ⟨h1, h2, _⟩ := hpart j p hpj
    have hjn : j < n := by
      rw [← hl]
      rcases Nat.lt_or_ge j parts.toList.length with h | h
      · exact h
      · rw [List.getElem?_eq_none h] at hpj; cases hpj
    refine ⟨p.1 * i.size, by rw [h2], ?_⟩
    rw [hzsz, h2, h1]
    have : (j + 1) * i.size ≤ n * i.size := Nat.mul_le_mul_right _ hjn
    rw [Nat.succ_mul] at this
    exact this)
  rw [hzsz] at o2
  have hout : ∀ (j : Nat) (p : Nat × Operand) (r : Nat), parts.toList[j]? = some p → r < i.size → out[j * i.size + r]? = (a.eval p.2).cells[r]? := fun j p r hj hr => by
    obtain ⟨h1, h2, _⟩ := hpart j p hj
    have hvj : vparts[j]? = some (p.1, a.eval p.2) := by simp only [vparts, List.getElem?_map, hj]; rfl
    rcases o3 (j * i.size + r) with ⟨j', k, v, off, k1, k2, k3, k4, k5⟩ | ⟨k1, _⟩
    · obtain ⟨p', hp', rfl, rfl⟩ := hv j' k v k1
      obtain ⟨h1', h2', _⟩ := hpart j' p' hp'
      simp only [Option.some.injEq, Prod.mk.injEq] at k2
      obtain ⟨rfl, _⟩ := k2
      have e1 := mul_range (z := i.size) (i := p'.1) hz0 k3 (by omega)
      have e2 := mul_range (z := i.size) (i := j) (q := j * i.size + r) hz0 (by omega) (by omega)
      have : j' = j := by omega
      subst this
      rw [hj] at hp'
      cases hp'
      rw [k5, h1]
      congr 1
      omega
    · exact absurd ⟨by rw [h1]; omega, by rw [h1, h2]; omega⟩ (k1 j p.1 _ (p.1 * i.size) hvj (by rw [h2]))
  have hgetp : ∀ m, m < n → ∃ p, parts.toList[m]? = some p ∧ (bsL ρ parts.toList)[m]? = some (cellsD (un (ev ρ p.2))) := fun m hm => by
    have h1 : parts.toList[m]? = some (parts.toList[m]'(by omega)) := List.getElem?_eq_getElem (by omega)
    exact ⟨_, h1, by simp only [bsL, List.getElem?_map, h1]; rfl⟩
  have hbl : (bsL ρ parts.toList).length = n := by simp only [bsL, List.length_map]; exact hl
  obtain ⟨A', k1, k2⟩ := hsim.newRow hd (e := e) (z := i.size) (c := n) (xs := bsL ρ parts.toList) (us := out) o2 (by
      unfold maxLen
      have : n * 1 ≤ n * i.size := Nat.mul_le_mul_left _ hz0
      omega) (by rw [hbl]; exact Nat.le_refl _) (fun m x hx => by
    have hm : m < n := by
      rw [← hbl]
      rcases Nat.lt_or_ge m (bsL ρ parts.toList).length with h | h
      · exact h
      · rw [List.getElem?_eq_none h] at hx; cases hx
    obtain ⟨p, hp1, hp2⟩ := hgetp m hm
    rw [hp2] at hx
    cases hx
    obtain ⟨_, h2, h3, h4⟩ := hpart m p hp1
    refine ⟨(bsOk_get hp m p hp1).2.2.1, fun r dv u hdv hu => ?_⟩
    have hr : r < i.size := by
      rw [← (bsOk_get hp m p hp1).2.2.1]
      rcases Nat.lt_or_ge r (cellsD (un (ev ρ p.2))).length with h | h
      · exact h
      · rw [List.getElem?_eq_none h] at hdv; cases hdv
    rw [hout m p r hp1 hr] at hu
    exact ⟨h3 u (by simpa using Array.mem_of_getElem? hu), h4 r dv u hdv hu⟩)
  refine ⟨.slice (some ⟨w.heap.size, 0, none⟩) n n, _, I, A', _, ?_, ?_, k2, hK⟩
  · have hne : n * i.size ≠ 0 := by
      have := Nat.mul_pos hn0 hz0
      omega
    have hmap : (parts.map fun p => (p.1, a.eval p.2)).toList = vparts := by simp [vparts]
    have h24 : ¬ (n * i.size > 2 ^ 24) := by
      have : (2 : Nat) ^ 24 = 16777216 := by decide
      omega
    simp only [execOp, hop, Instr.buildSlice, Sem.run_bind, run_underlying hu, Result.andThen_ok, run_sizeOf w hi, Program.cellsOf, hi, Option.map_some, Option.getD_some, h24, if_false, hne, zeroValue, run_typeInfo w hi, hzv, Sem.run_pure, Sem.run_ite]
    simp only [hmap]
    rw [← hzero, o1]
    simp [newRow]
  · rw [hdst]
    rw [hbl] at k1
    exact k1
def litR (P : Program) (ρ : Env) (d : Nat) (sl : Option (TypeId × Nat × Nat)) (n : Nat) (parts : List (Nat × Operand)) (K : Env → Prop) : Prop :=
  match sl with
  | some (e, z, _) => (zcOf P e).isSome = true ∧ 0 < z ∧ 0 < n ∧ n * z ≤ 16777216 ∧ parts.length = n ∧ bsOk ρ z 0 parts ∧ K (set (kill d ρ) d (.row e z (bsL ρ parts)))
  | none => False
def SettleG (z : Nat) (xs : List (List DV)) (k : DV → Prop) (_ : Tg k) : Prop := ∃ v, RWk (frz z xs) v ∧ isPl v = true ∧ k v
def settleK (d : Nat) (K : Env → Prop) (ρ : Env) : Prop :=
  match ρ d with
  | .row _ z xs => SettleG z xs (fun v => K (set (kill d ρ) d v)) ⟨⟩
  | _ => False
theorem ow_settle {o : Oper} {d : Nat} {K : Env → Prop} (hd : d < 100000) (h : OW P nt ops o (settleK d K) ρ) : OW P nt ops o K ρ := by
  intro ro ds I A a w hs hdf next Q' hn
  refine h ro ds I A a w hs hdf next Q' fun I' A' a' w' ρ' q1 q2 q3 q4 => ?_
  unfold settleK at q4
  split at q4
  · rename_i e z xs hrow
    obtain ⟨v, hv, hp, hK⟩ := q4
    obtain ⟨I2, A2, r1, r2⟩ := q1.frz hd hrow
    refine hn I2 A2 a' w' _ ?_ q2 (q3.trans r2) hK
    refine ⟨⟨fun t => ?_, r1.osim.inj, r1.osim.sep, r1.osim.imm⟩, r1.size, r1.bound, fun i hi => ?_, fun t ht => ?_⟩
    · have := r1.osim.own t
      simp only [set_apply] at this ⊢
      split
      · exact OwnRel.ofPure (by cases v <;> first | rfl | cases hp)
      · rename_i e1; rw [if_neg e1] at this; exact this
    · have := r1.slot i hi
      simp only [set_apply] at this ⊢
      split
      · rename_i e1
        rw [if_pos e1] at this
        exact .ofRel (hv _ _ _ _ (this.rel rfl))
      · rename_i e1; rw [if_neg e1] at this; exact this
    · have := r1.out t ht
      simp only [set_apply] at this ⊢
      rw [if_neg (by omega)] at this ⊢
      exact this
  · exact q4.elim
def effF (P : Program) (ρ : Env) (op : Op) (dst : Option Nat) (K : Env → Prop) : Prop :=
  match op, dst with
  | .buildSlice t (n + 1) parts, some d => litR P ρ d (slE P t) (n + 1) parts.toList K
  | .call ⟨.builtin .append, args, ts⟩, some d => effG P ρ (.call ⟨.builtin .append, args, ts⟩) (some d) (settleK d K)
  | op, dst => effG P ρ op dst K
theorem effF_ok (hnt : nt ≤ 100000) {o : Oper} {K : Env → Prop} (hg : o.guard = none) (ho : opsOk nt o = true) (hd : dstOk nt o = true) (h : effF P ρ o.op o.dst K) : OW P nt ops o K ρ := by
  unfold effF at h
  split at h
  · rename_i t n parts d hop hdst
    unfold litR at h
    split at h
    · rename_i e z by_ hs
      obtain ⟨q1, q2, q3, q4, q5, q6, q7⟩ := h
      obtain ⟨zs, hz⟩ := Option.isSome_iff_exists.1 q1
      have hdn : d < nt := by unfold dstOk at hd; rw [hdst] at hd; simpa using hd
      exact ow_litR hop hg hdst hdn ho hs hz q2 q3 q4 q5 q6 q7
    · exact h.elim
  · rename_i args ts d hop hdst
    have hdn : d < nt := by unfold dstOk at hd; rw [hdst] at hd; simpa using hd
    refine ow_settle (d := d) (by omega) (effG_ok hg ho hd ?_)
    rw [hop, hdst]
    exact h
  · exact effG_ok hg ho hd h
/-! ## Whatever order -/
def sEF (P : Program) (nt : Nat) (fl : List Nat) (l : List Oper) (i : Nat) (K : Env → Prop) (ρ : Env) : Prop :=
  match l[i]? with
  | none => K ρ
  | some o => if pur fl i o then ∃ d, effP P l ρ o d ∧ K (putD ρ o.dst d) else OW P nt l.toArray o K ρ
theorem sE_monoF {fl : List Nat} {l : List Oper} {i : Nat} {K K' : Env → Prop} (h : ∀ ρ, K ρ → K' ρ) (hh : sEF P nt fl l i K ρ) : sEF P nt fl l i K' ρ := by
  unfold sEF at *
  split
  · rename_i hi; rw [hi] at hh; exact h _ hh
  · rename_i o hi
    rw [hi] at hh
    simp only at hh
    split
    · rename_i hp; rw [if_pos hp] at hh; obtain ⟨d, h1, h2⟩ := hh; exact ⟨d, h1, h _ h2⟩
    · rename_i hp; rw [if_neg hp] at hh; exact hh.mono h
def anyEF (P : Program) (nt : Nat) (fl : List Nat) (l : List Oper) (k : Env → Prop) : Nat → Array Bool → Env → Prop
  | 0, listed, ρ => Region.ready .any l.toArray listed = [] ∧ k ρ
  | fuel + 1, listed, ρ => (Region.ready .any l.toArray listed = [] → k ρ) ∧ ∀ i ∈ Region.ready .any l.toArray listed, sEF P nt fl l i (anyEF P nt fl l k fuel (listed.setIfInBounds i true)) ρ
theorem any_soundF {ro : Option Nat} {ds : List Deferred} {fl : List Nat} {l : List Oper} {k : Env → Prop} {Q' : Exit → Act → World → Prop} (hr : regOk nt l = true) : ∀ (fuel : Nat) (listed : Array Bool) (ρ : Env) (I : Nat → Prop) (A : Own) (a : Act) (w : World),
    anyEF P nt fl l k fuel listed ρ → Sim nt w I A ρ a → a.defers = ds →
    (∀ I' A' a' w' ρ', Sim nt w' I' A' ρ' a' → a'.defers = ds → Ext w I A w' I' A' → k ρ' → Q' .normal a' w') → wpAnyIn (FR ro) 0 P .any l.toArray Q' fuel listed a w
  | 0, listed, ρ, I, A, a, w, h, hs, hd, hk => ⟨h.1, hk I A a w ρ hs hd (Ext.refl _ _ _) h.2⟩
  | fuel + 1, listed, ρ, I, A, a, w, h, hs, hd, hk => by
    refine ⟨fun h0 => hk I A a w ρ hs hd (Ext.refl _ _ _) (h.1 h0), fun i hi => ?_⟩
    have h2 := h.2 i hi
    have rec_ : ∀ I' A' a' w' ρ', Sim nt w' I' A' ρ' a' → a'.defers = ds → Ext w I A w' I' A' → anyEF P nt fl l k fuel (listed.setIfInBounds i true) ρ' → wpAnyIn (FR ro) 0 P .any l.toArray Q' fuel (listed.setIfInBounds i true) a' w' :=
      fun I' A' a' w' ρ' q1 q2 q3 q4 => any_soundF hr fuel _ ρ' I' A' a' w' q4 q1 q2 fun I2 A2 a2 w2 ρ2 k1 k2 k3 k4 => hk I2 A2 a2 w2 ρ2 k1 k2 (q3.trans k3) k4
    unfold wpOpIn
    unfold sEF at h2
    simp only [List.getElem?_toArray]
    split
    · rename_i ho
      rw [ho] at h2
      exact rec_ I A a w ρ hs hd (Ext.refl _ _ _) h2
    · rename_i o ho
      rw [ho] at h2
      have hOW : OW P nt l.toArray o (anyEF P nt fl l k fuel (listed.setIfInBounds i true)) ρ := by
        simp only at h2
        split at h2
        · rename_i hp
          obtain ⟨d, k1, k2⟩ := h2
          exact ow_effP (regOk_dst hr) (regOk_get hr ho).1 (regOk_get hr ho).2 (pur_spec hp).2 k1 k2
        · exact h2
      have := hOW ro ds I A a w hs hd (wpAnyIn (FR ro) 0 P .any l.toArray Q' fuel (listed.setIfInBounds i true)) Q' rec_
      split at this
      · rename_i hw; rw [if_pos hw]; exact this
      · rename_i hw; rw [if_neg hw]; exact this
theorem sE_putF {fl : List Nat} {l : List Oper} {j : Nat} {oi oj : Oper} {d : DV} (hj : l[j]? = some oj) (hpj : (pur fl j oj) = true) {ki : Nat} (hki : oi.dst = some ki) (hap : oi.apart l.toArray oj = true) {K : Env → Prop}
    (hy : effP P l ρ oi d) (h : sEF P nt fl l j K (putD ρ oi.dst d)) : sEF P nt fl l j (fun ρ' => effP P l ρ' oi d ∧ K (putD ρ' oi.dst d)) ρ := by
  obtain ⟨h1, h2, h3⟩ := Oper.apart_spec hap
  unfold sEF at h ⊢
  rw [hj] at h ⊢
  simp only [hpj, if_true] at h ⊢
  obtain ⟨u, k1, k2⟩ := h
  obtain ⟨kj, hkj⟩ := Option.isSome_iff_exists.1 (pur_spec hpj).2
  have hne : kj ≠ ki := fun e => h2 ki hki (by rw [hkj, e])
  have hdi : isOwn d = false := hy.1
  have hui : isOwn u = false := k1.1
  have hρi : isOwn (ρ ki) = false := hy.2.1 ki hki
  have hρj : isOwn (ρ kj) = false := by
    have := k1.2.1 kj hkj
    rw [hki, putD_some, set_apply, if_neg hne] at this
    exact this
  refine ⟨u, ?_, ?_, ?_⟩
  · have := effP_set (ρ := putD ρ oi.dst d) (k := ki) (u := ρ ki) hρi (by rw [hki, putD_some, set_apply, if_pos rfl]; exact hdi) (h1 ki hki) (fun e => hne (by rw [hkj] at e; cases e; rfl)) k1
    rw [hki, putD_some, set_back] at this
    exact this
  · rw [hkj, putD_some]
    exact effP_set hui hρj (h3 kj hkj) (fun e => hne (by rw [hki] at e; cases e; rfl)) hy
  · rw [hki, hkj] at k2
    rw [hki, hkj]
    have : putD (putD ρ (some kj) u) (some ki) d = putD (putD ρ (some ki) d) (some kj) u := by
      funext i
      simp only [putD_some, set_apply]
      by_cases e1 : i = ki
      · rw [if_pos e1, if_neg (by rw [e1]; exact fun e => hne e.symm), if_pos e1]
      · simp only [if_neg e1]
    rw [this]
    exact k2
def depsF (l : List Oper) (i : Nat) : List Nat :=
  (List.range l.length).foldl (fun acc j => match l[j]? with
    | some o => if o.after.any (fun e => Region.binds .any e && (e.on == i || acc.contains e.on)) then j :: acc else acc
    | none => acc) []
def freeEF (fl : List Nat) (l : List Oper) (listed : Array Bool) (i : Nat) : Bool :=
  match l[i]? with
  | none => false
  | some oi => (pur fl i oi && (depsF l i).all fun j => !listed.getD j true && match l[j]? with
      | some o => o.after.any (fun e => Region.binds .any e && (e.on == i || (depsF l i).contains e.on))
      | none => false) && (List.range l.length).all fun j =>
    j == i || listed.getD j true || (depsF l i).contains j || match l[j]? with
      | none => true
      | some oj => pur fl j oj && oi.apart l.toArray oj
theorem anyE_firstF {fl : List Nat} {l : List Oper} {k : Env → Prop} {i : Nat} {oi : Oper} {d : DV} (hi : l[i]? = some oi) (hpi : (pur fl i oi) = true) (D : Nat → Prop)
    (hD : ∀ j oj, D j → l[j]? = some oj → ∃ e ∈ oj.after, Region.binds .any e = true ∧ (e.on = i ∨ D e.on)) :
    ∀ (fuel : Nat) (listed : Array Bool) (ρ : Env), (∀ j, D j → listed.getD j true = false) →
      (∀ j oj, l[j]? = some oj → j ≠ i → listed.getD j true = false → ¬ D j → (pur fl j oj) = true ∧ oi.apart l.toArray oj = true) →
      i ∈ Region.ready .any l.toArray listed → effP P l ρ oi d → anyEF P nt fl l k fuel (listed.setIfInBounds i true) (putD ρ oi.dst d) → anyEF P nt fl l k (fuel + 1) listed ρ := by
  obtain ⟨ki, hki⟩ := Option.isSome_iff_exists.1 (pur_spec hpi).2
  have take : ∀ {K : Env → Prop} {ρ : Env}, effP P l ρ oi d → K (putD ρ oi.dst d) → sEF P nt fl l i K ρ := fun h1 h2 => by
    unfold sEF
    rw [hi]
    simp only [hpi, if_true]
    exact ⟨d, h1, h2⟩
  intro fuel
  induction fuel with
  | zero =>
    intro listed ρ _ _ hr hy H
    refine ⟨fun h => (by rw [h] at hr; cases hr), fun j hj => ?_⟩
    by_cases hji : j = i
    · subst hji; exact take hy H
    · have := ready_mono hj hji
      rw [H.1] at this
      cases this
  | succ fuel ih =>
    intro listed ρ hun0 hfree hr hy H
    refine ⟨fun h => (by rw [h] at hr; cases hr), fun j hj => ?_⟩
    by_cases hji : j = i
    · subst hji; exact take hy H
    · have h1 := H.2 j (ready_mono hj hji)
      obtain ⟨hjun, oj, hoj, hall⟩ := mem_ready.1 hj
      have hoj' : l[j]? = some oj := by simpa using hoj
      have hne : ∀ m, listed.getD m true = false → ∀ e ∈ oj.after, Region.binds .any e = true → e.on ≠ m := fun m h0 e he hb heq => by
        have h1 := hall e he hb
        rw [heq] at h1
        rcases Nat.lt_or_ge m listed.size with h' | h'
        · simp [h'] at h0 h1; rw [h0] at h1; cases h1
        · simp [Array.getElem?_eq_none h'] at h1
      have hnot : ¬ D j := fun hDj => by
        obtain ⟨e, he, hb, hon | hon⟩ := hD j oj hDj hoj'
        · exact hne i (mem_ready.1 hr).1 e he hb hon
        · exact hne e.on (hun0 _ hon) e he hb rfl
      obtain ⟨hpj, hap⟩ := hfree j oj hoj' hji hjun hnot
      have h2 := sE_putF hoj' hpj hki hap hy h1
      have hset : ∀ m, j ≠ m → (listed.setIfInBounds j true).getD m true = listed.getD m true := fun m h => getD_set_ne true h
      have hun' : ∀ m, D m → (listed.setIfInBounds j true).getD m true = false := fun m hm => by
        rw [hset m (fun e => hnot (e ▸ hm))]; exact hun0 m hm
      have hfree' : ∀ m om, l[m]? = some om → m ≠ i → (listed.setIfInBounds j true).getD m true = false → ¬ D m → (pur fl m om) = true ∧ oi.apart l.toArray om = true := fun m om hm hmi hun hno => by
        refine hfree m om hm hmi ?_ hno
        by_cases hjm : j = m
        · subst hjm; exact hjun
        · rw [hset m hjm] at hun; exact hun
      refine sE_monoF (fun ρ' h3 => ih (listed.setIfInBounds j true) ρ' hun' hfree' (ready_mono hr (Ne.symm hji)) h3.1 ?_) h2
      rw [Array.setIfInBounds_comm _ _ hji]
      exact h3.2
theorem freeE_specF {fl : List Nat} {l : List Oper} {listed : Array Bool} {i : Nat} {oi : Oper} (hi : l[i]? = some oi) (h : freeEF fl l listed i = true) : (pur fl i oi) = true ∧
    (∀ j oj, j ∈ depsF l i → l[j]? = some oj → ∃ e ∈ oj.after, Region.binds .any e = true ∧ (e.on = i ∨ e.on ∈ depsF l i)) ∧ (∀ j, j ∈ depsF l i → listed.getD j true = false) ∧
    ∀ j oj, l[j]? = some oj → j ≠ i → listed.getD j true = false → ¬ j ∈ depsF l i → (pur fl j oj) = true ∧ oi.apart l.toArray oj = true := by
  unfold freeEF at h
  rw [hi] at h
  generalize depsF l i = D at h ⊢
  simp only [Bool.and_eq_true] at h
  obtain ⟨⟨h1, h2⟩, h3⟩ := h
  rw [List.all_eq_true] at h2 h3
  refine ⟨h1, fun j oj hj hoj => ?_, fun j hj => ?_, fun j oj hj hne hun hno => ?_⟩
  · have := h2 j hj
    rw [hoj] at this
    simp only [Bool.and_eq_true, Array.any_eq_true', Bool.or_eq_true, beq_iff_eq] at this
    obtain ⟨_, e, he, hb, hon⟩ := this
    exact ⟨e, he, hb, hon.imp id fun h => by simpa using h⟩
  · have := h2 j hj
    simp only [Bool.and_eq_true, Bool.not_eq_true'] at this
    exact this.1
  · have hlt : j < l.length := by
      rcases Nat.lt_or_ge j l.length with h | h
      · exact h
      · rw [List.getElem?_eq_none h] at hj; cases hj
    have := h3 j (by simpa using hlt)
    rw [hj] at this
    simp only [Bool.or_eq_true, Bool.and_eq_true, beq_iff_eq] at this
    rcases this with ((h | h) | h) | h
    · exact absurd h hne
    · rw [hun] at h; cases h
    · exact absurd (by simpa using h) hno
    · exact h
def permE (fl : List Nat) (l : List Oper) : List Nat → Array Bool → Bool
  | [], listed => (Region.ready .any l.toArray listed).isEmpty
  | i :: r, listed => ((Region.ready .any l.toArray listed).contains i && freeEF fl l listed i || Region.ready .any l.toArray listed == [i]) && permE fl l r (listed.setIfInBounds i true)
def permW (P : Program) (nt : Nat) (fl : List Nat) (l : List Oper) (k : Env → Prop) : List Nat → Env → Prop
  | [], ρ => k ρ
  | i :: r, ρ => match l[i]? with
    | none => False
    | some o => if pur fl i o then ∃ d, effP P l ρ o d ∧ permW P nt fl l k r (putD ρ o.dst d) else OW P nt l.toArray o (permW P nt fl l k r) ρ
theorem anyE_perm {fl : List Nat} {l : List Oper} {k : Env → Prop} : ∀ (r : List Nat) (listed : Array Bool) (ρ : Env), permE fl l r listed = true → permW P nt fl l k r ρ → anyEF P nt fl l k r.length listed ρ
  | [], _, _, hB, h => ⟨by simpa [permE] using hB, h⟩
  | i :: r, listed, ρ, hB, h => by
    simp only [permE, Bool.and_eq_true, Bool.or_eq_true] at hB
    obtain ⟨hB1, hB2⟩ := hB
    unfold permW at h
    split at h
    · exact h.elim
    rename_i o h0
    rcases hB1 with ⟨hr, hf⟩ | hone
    · obtain ⟨hp, hD, hun, hfree⟩ := freeE_specF h0 hf
      rw [if_pos hp] at h
      obtain ⟨d, k1, k2⟩ := h
      exact anyE_firstF h0 hp (fun j => j ∈ depsF l i) hD r.length listed ρ hun hfree (by simpa using hr) k1 (anyE_perm r _ _ hB2 k2)
    · have hone : Region.ready .any l.toArray listed = [i] := by simpa using hone
      refine ⟨fun h => (by rw [hone] at h; cases h), fun j hj => ?_⟩
      rw [hone] at hj
      obtain rfl : j = i := by simpa using hj
      unfold sEF
      rw [h0]
      simp only
      split
      · rename_i hp
        rw [if_pos hp] at h
        obtain ⟨d, k1, k2⟩ := h
        exact ⟨d, k1, anyE_perm r _ _ hB2 k2⟩
      · rename_i hp
        rw [if_neg hp] at h
        exact h.mono fun ρ' h' => anyE_perm r _ _ hB2 h'
theorem aw_drawF {fl r : List Nat} {id : Nat} {l : List Oper} {Q : Exit → Env → Prop} (hm : P.follows .mixedOrders = true) (hr : regOk nt l = true) (hl : r.length = l.length) (hB : permE fl l r (Array.replicate l.length false) = true)
    (h : permW P nt fl l (Q .normal) r ρ) : AW P nt (.region id l.toArray true) Q ρ := by
  intro ro ds I A a w hs hd
  refine wpIn_region_any hm ?_
  have h1 := anyE_perm (P := P) (nt := nt) r (Array.replicate l.length false) ρ hB h
  rw [hl] at h1
  have hgr : Grow w I w.drew I := ⟨rfl, ⟨rfl, Nat.le_succ _⟩, rfl, Nat.le_refl _, fun _ _ => rfl, fun _ h => h, fun _ h => .inl h⟩
  have := any_soundF (ro := ro) (Q' := fun e a' w' => ∃ I' A' ρ', Sim nt w' I' A' ρ' a' ∧ a'.defers = ds ∧ Ext w I A w' I' A' ∧ Q e ρ') hr _ _ ρ I A a w.drew h1 (hs.grow hgr) hd
    fun I' A' a' w' ρ' q1 q2 q3 q4 => ⟨I', A', ρ', q1, q2, (hgr.ext hs.osim).trans q3, q4⟩
  simpa using this
/-! ## By reckoning -/
def opI (P : Program) (all : List Oper) (o : Oper) (f : Bool) (K : Env → Prop) (ρ : Env) : Prop :=
  match o.guard with
  | none => (match f, pureOp o.op && o.dst.isSome with
    | true, _ => effF P ρ o.op o.dst K
    | false, true => prG P ρ o.op o.dst K
    | false, false => effG P ρ o.op o.dst K)
  | some (j, want) => (match f with
    | true => False
    | false => gdG P ρ o.op o.dst (gAt all ρ j want) K)
def pwIX (P : Program) (all : List Oper) (k : Env → Prop) : List (Oper × Bool) → Env → Prop
  | [], ρ => k ρ
  | p :: r, ρ => opI P all p.1 p.2 (pwIX P all k r) ρ
def pwI (P : Program) (all : List Oper) (k : Env → Prop) (l : List (Oper × Bool)) (_ : Tg (all, k, l)) (ρ : Env) : Prop := pwIX P all k l ρ
def pickOps (fl : List Nat) (l : List Oper) : List Nat → Option (List (Oper × Bool))
  | [] => some []
  | i :: r => match l[i]?, pickOps fl l r with
    | some o, some q => (match fl.contains i with
      | true => some ((o, true) :: q)
      | false => some ((o, false) :: q))
    | _, _ => none
theorem pickOps_some {fl : List Nat} {l : List Oper} {i : Nat} {r : List Nat} {x : List (Oper × Bool)} (h : pickOps fl l (i :: r) = some x) : ∃ o q, l[i]? = some o ∧ pickOps fl l r = some q ∧ x = (o, fl.contains i) :: q := by
  unfold pickOps at h
  split at h
  · rename_i o q h1 h2
    split at h
    · rename_i hc; exact ⟨o, q, h1, h2, by rw [hc]; exact (Option.some.inj h).symm⟩
    · rename_i hc; exact ⟨o, q, h1, h2, by rw [hc]; exact (Option.some.inj h).symm⟩
  · cases h
theorem pwI_perm (hnt : nt ≤ 100000) {fl : List Nat} {all : List Oper} {k : Env → Prop} (hr : regOk nt all = true) (hgo : all.all gOk = true) : ∀ (r : List Nat) (l : List (Oper × Bool)) (ρ : Env), pickOps fl all r = some l → pwIX P all k l ρ → permW P nt fl all k r ρ
  | [], l, ρ, hl, h => by
    simp [pickOps] at hl; subst hl; exact h
  | i :: r, l, ρ, hl, h => by
    obtain ⟨o, q, hi, hq, rfl⟩ := pickOps_some hl
    · have hrec := fun ρ' => pwI_perm (k := k) hnt hr hgo r q ρ' hq
      obtain ⟨h1, h2⟩ := regOk_get hr hi
      unfold permW
      rw [hi]
      simp only
      unfold pwIX opI at h
      simp only at h
      split at h
      · rename_i hg
        split at h
        · rename_i hf
          rw [if_neg (by unfold pur; rw [hf]; simp)]
          exact (effF_ok hnt hg h1 h2 h).mono hrec
        · rename_i hf hp
          rw [if_pos (by unfold pur; rw [hf, hp]; rfl)]
          obtain ⟨d, k1, k2⟩ := prG_eff (all := all) hg h
          exact ⟨d, k1, hrec _ k2⟩
        · rename_i hf hp
          rw [if_neg (by unfold pur; rw [hp]; simp)]
          exact (effG_ok hg h1 h2 h).mono hrec
      · rename_i j want hg
        split at h
        · exact h.elim
        · rename_i hf
          have hgk := List.all_eq_true.1 hgo o (List.mem_of_getElem? hi)
          unfold gOk at hgk
          rw [hg] at hgk
          simp only [Option.isNone_some, Bool.false_or] at hgk
          obtain ⟨d, k1, k2⟩ := gdG_eff hg hgk h
          rw [if_pos (by unfold pur; rw [hf, hgk]; rfl)]
          exact ⟨d, k1, hrec _ k2⟩
theorem pwI_rw (hnt : nt ≤ 100000) {fl : List Nat} {all : List Oper} {k : Env → Prop} (hr : regOk nt all = true) (hgo : all.all gOk = true) : ∀ (os : List Oper) (i : Nat) (l : List (Oper × Bool)) (ρ : Env), (∀ j, os[j]? = all[i + j]?) → pickOps fl all (List.range' i os.length) = some l → pwIX P all k l ρ → RW P nt all.toArray k os ρ
  | [], i, l, ρ, _, hl, h => by
    simp [pickOps] at hl; subst hl; exact h
  | o :: os, i, l, ρ, ho, hl, h => by
    have hi : all[i]? = some o := by simpa using (ho 0).symm
    have ho' : ∀ j, os[j]? = all[i + 1 + j]? := fun j => by have := ho (j + 1); simpa [Nat.add_assoc, Nat.add_comm 1 j] using this
    rw [List.length_cons, List.range'_succ] at hl
    obtain ⟨o', q, hi', hq, rfl⟩ := pickOps_some hl
    · obtain rfl : o = o' := by rw [hi] at hi'; exact Option.some.inj hi'
      have hrec := fun ρ' => pwI_rw (k := k) hnt hr hgo os (i + 1) q ρ' ho' hq
      obtain ⟨h1, h2⟩ := regOk_get hr hi
      unfold RW
      unfold pwIX opI at h
      simp only at h
      split at h
      · rename_i hg
        split at h
        · exact (effF_ok hnt hg h1 h2 h).mono hrec
        · rename_i hf hp
          obtain ⟨d, k1, k2⟩ := prG_eff (all := all) hg h
          simp only [Bool.and_eq_true] at hp
          exact ow_effP (regOk_dst hr) h1 h2 hp.2 k1 (hrec _ k2)
        · exact (effG_ok hg h1 h2 h).mono hrec
      · rename_i j want hg
        split at h
        · exact h.elim
        · have hgk := List.all_eq_true.1 hgo o (List.mem_of_getElem? hi)
          unfold gOk at hgk
          rw [hg] at hgk
          simp only [Option.isNone_some, Bool.false_or] at hgk
          obtain ⟨d, k1, k2⟩ := gdG_eff hg hgk h
          simp only [Bool.and_eq_true] at hgk
          exact ow_effP (regOk_dst hr) h1 h2 hgk.2 k1 (hrec _ k2)
theorem aw_bnd {c : Code} {Q : Exit → Env → Prop} (h : nt ≤ 100000 → AW P nt c Q ρ) : AW P nt c Q ρ := fun ro ds I A a w hs hd => h hs.bound ro ds I A a w hs hd
theorem aw_claims {cl : List (Nat × Nat)} {c : Code} {Q : Exit → Env → Prop} (hc : (cl.all fun p => decide (p.1 < nt) && decide (p.2 < nt) && p.1 != p.2) = true)
    (h1 : AW P nt c (fun e ρ => match e with | .normal => clG cl (Q .normal) ρ | e => Q e ρ) ρ) : AW P nt c Q ρ := by
  intro ro ds I A a w hs hd
  refine wpIn_mono (h1 ro ds I A a w hs hd) ?_
  intro e a1 w1 ⟨I1, A1, ρ1, k1, k2, k3, k4⟩
  cases e with
  | normal =>
    obtain ⟨A2, ρ2, r1, r2, r3⟩ := Sim.claims cl k1 hc k4
    exact ⟨I1, A2, ρ2, r1, k2, k3.trans r2, r3⟩
  | exit i => exact ⟨I1, A1, ρ1, k1, k2, k3, k4⟩
  | goto l => exact ⟨I1, A1, ρ1, k1, k2, k3, k4⟩
  | ret => exact ⟨I1, A1, ρ1, k1, k2, k3, k4⟩
  | panic ch => exact ⟨I1, A1, ρ1, k1, k2, k3, k4⟩
  | outgrown => exact ⟨I1, A1, ρ1, k1, k2, k3, k4⟩
theorem aw_regI (L : List Nat) (cl : List (Nat × Nat)) (r fl : List Nat) {id : Nat} {l : List Oper} {Q : Exit → Env → Prop} (hm : P.follows .mixedOrders = true)
    (hr : (regOk2 nt l && decide (r.length = l.length) && permE fl l r (Array.replicate l.length false) && cl.all fun p => decide (p.1 < nt) && decide (p.2 < nt) && p.1 != p.2) = true)
    (h : ∀ q, pickOps fl l r = some q → pwI P l (clG cl (Q .normal)) q ⟨⟩ (keepC L ρ)) (hq : (pickOps fl l r).isSome = true) : AW P nt (.region id l.toArray true) Q ρ := by
  simp only [regOk2, Bool.and_eq_true, decide_eq_true_eq] at hr
  obtain ⟨⟨⟨⟨h1, h2⟩, h3⟩, h4⟩, h5⟩ := hr
  obtain ⟨q, hq⟩ := Option.isSome_iff_exists.1 hq
  refine aw_bnd fun hnt => ?_
  exact aw_claims h5 (aw_weaken (Le.keepC L ρ) (aw_drawF hm h1 h3 h4 (pwI_perm hnt h1 h2 r q _ hq (h q hq))))
theorem aw_regIp (L : List Nat) (cl : List (Nat × Nat)) (fl : List Nat) {id : Nat} {l : List Oper} {Q : Exit → Env → Prop}
    (hr : (regOk2 nt l && cl.all fun p => decide (p.1 < nt) && decide (p.2 < nt) && p.1 != p.2) = true)
    (h : ∀ q, pickOps fl l (List.range' 0 l.length) = some q → pwI P l (clG cl (Q .normal)) q ⟨⟩ (keepC L ρ)) (hq : (pickOps fl l (List.range' 0 l.length)).isSome = true) : AW P nt (.region id l.toArray false) Q ρ := by
  simp only [regOk2, Bool.and_eq_true] at hr
  obtain ⟨⟨h1, h2⟩, h5⟩ := hr
  obtain ⟨q, hq⟩ := Option.isSome_iff_exists.1 hq
  refine aw_bnd fun hnt => ?_
  exact aw_claims h5 (aw_weaken (Le.keepC L ρ) (aw_region (pwI_rw hnt h1 h2 l 0 q _ (by simp) hq (h q hq))))
end
@[congr] theorem SettleG_congr {z : Nat} {xs xs' : List (List DV)} {k : DV → Prop} {t : Tg k} (h : xs = xs') : SettleG z xs k t = SettleG z xs' k t := by rw [h]
@[congr] theorem pwI_congr {P : Program} {all : List Oper} {l : List (Oper × Bool)} {k : Env → Prop} {t : Tg (all, k, l)} {ρ ρ' : Env} (h : ρ = ρ') : pwI P all k l t ρ = pwI P all k l t ρ' := by rw [h]
section
variable {P : Program} {ρ : Env} (all : List Oper) (os : List (Oper × Bool)) (k : Env → Prop) (d : Option Tmp) (op : Op) (ty : TypeId) (pos : String) (af : Array Edge) (j : Nat) (want : Bool)
theorem pwI_nil : pwI P all k [] ⟨⟩ ρ = k ρ := rfl
theorem pwI_plain : pwI P all k ((⟨d, op, ty, pos, af, none⟩, false) :: os) ⟨⟩ ρ = (match pureOp op && d.isSome with
      | true => prG P ρ op d (pwI P all k os ⟨⟩)
      | false => effG P ρ op d (pwI P all k os ⟨⟩)) := by
  unfold pwI
  rw [pwIX]
  unfold opI
  simp only
  generalize (pureOp op && d.isSome) = b
  cases b <;> rfl
theorem pwI_eff : pwI P all k ((⟨d, op, ty, pos, af, none⟩, true) :: os) ⟨⟩ ρ = effF P ρ op d (pwI P all k os ⟨⟩) := rfl
theorem pwI_guard : pwI P all k ((⟨d, op, ty, pos, af, some (j, want)⟩, false) :: os) ⟨⟩ ρ = gdG P ρ op d (gAt all ρ j want) (pwI P all k os ⟨⟩) := rfl
variable (K : Env → Prop) (dd : Nat) (t : TypeId) (n : Nat) (parts : Array (Nat × Operand)) (x y : Operand)
theorem effF_lit : effF P ρ (.buildSlice t (n + 1) parts) (some dd) K = litR P ρ dd (slE P t) (n + 1) parts.toList K := rfl
theorem effF_lit0 : effF P ρ (.buildSlice t 0 parts) (some dd) K = effG P ρ (.buildSlice t 0 parts) (some dd) K := rfl
theorem effF_mk : effF P ρ (.makeSlice t x y) (some dd) K = effG P ρ (.makeSlice t x y) (some dd) K := rfl
theorem effF_asg : effF P ρ (.assign x) d K = effG P ρ (.assign x) d K := by cases d <;> rfl
theorem effF_app (args : Array Operand) (ts : Array TypeId) : effF P ρ (.call ⟨.builtin .append, args, ts⟩) (some dd) K = effG P ρ (.call ⟨.builtin .append, args, ts⟩) (some dd) (settleK dd K) := rfl
end
attribute [go_sem] pwI_nil pwI_plain pwI_eff pwI_guard effF_lit effF_lit0 effF_mk effF_asg effF_app litR settleK
end Go.Sg
set_option linter.unusedVariables false
set_option linter.unusedSimpArgs false
namespace Go.Sg
open Go.RowKit
open Go.Rv (FR)
section
variable {P : Program} {nt : Nat} {ρ : Env}
def opX (P : Program) (fl : List Nat) (l : List Oper) (i : Nat) (K : Env → Prop) (ρ : Env) : Prop :=
  match l[i]? with
  | none => False
  | some o => opI P l o (fl.contains i) K ρ
theorem opI_ow (hnt : nt ≤ 100000) {l : List Oper} {o : Oper} {i : Nat} {f : Bool} {K : Env → Prop} (hr : regOk nt l = true) (hgo : l.all gOk = true) (hi : l[i]? = some o) (h : opI P l o f K ρ) : OW P nt l.toArray o K ρ := by
  obtain ⟨h1, h2⟩ := regOk_get hr hi
  unfold opI at h
  split at h
  · rename_i hg
    split at h
    · exact effF_ok hnt hg h1 h2 h
    · rename_i hf hp
      obtain ⟨d, k1, k2⟩ := prG_eff (all := l) hg h
      simp only [Bool.and_eq_true] at hp
      exact ow_effP (regOk_dst hr) h1 h2 hp.2 k1 k2
    · exact effG_ok hg h1 h2 h
  · rename_i j want hg
    split at h
    · exact h.elim
    · have hgk := List.all_eq_true.1 hgo o (List.mem_of_getElem? hi)
      unfold gOk at hgk
      rw [hg] at hgk
      simp only [Option.isNone_some, Bool.false_or] at hgk
      obtain ⟨d, k1, k2⟩ := gdG_eff hg hgk h
      simp only [Bool.and_eq_true] at hgk
      exact ow_effP (regOk_dst hr) h1 h2 hgk.2 k1 k2
theorem opX_of {fl : List Nat} {l : List Oper} {i : Nat} {o : Oper} {f : Bool} {K : Env → Prop} (h : l[i]? = some o) (hf : fl.contains i = f) (hk : opI P l o f K ρ) : opX P fl l i K ρ := by
  unfold opX; rw [h, hf]; exact hk
def anyX (P : Program) (fl : List Nat) (l : List Oper) (k : Env → Prop) : Nat → Array Bool → Env → Prop
  | 0, listed, ρ => Region.ready .any l.toArray listed = [] ∧ ∃ ρ', Le ρ ρ' ∧ k ρ'
  | fuel + 1, listed, ρ => ∃ ρ', Le ρ ρ' ∧ (Region.ready .any l.toArray listed = [] → k ρ') ∧ ∀ i ∈ Region.ready .any l.toArray listed, opX P fl l i (anyX P fl l k fuel (listed.setIfInBounds i true)) ρ'
theorem anyX_sound {ro : Option Nat} {ds : List Deferred} {fl : List Nat} {l : List Oper} {k : Env → Prop} {Q' : Exit → Act → World → Prop} (hr : regOk nt l = true) (hgo : l.all gOk = true) : ∀ (fuel : Nat) (listed : Array Bool) (ρ : Env) (I : Nat → Prop) (A : Own) (a : Act) (w : World),
    anyX P fl l k fuel listed ρ → Sim nt w I A ρ a → a.defers = ds →
    (∀ I' A' a' w' ρ', Sim nt w' I' A' ρ' a' → a'.defers = ds → Ext w I A w' I' A' → k ρ' → Q' .normal a' w') → wpAnyIn (FR ro) 0 P .any l.toArray Q' fuel listed a w
  | 0, listed, ρ, I, A, a, w, h, hs, hd, hk => by
    obtain ⟨h1, ρ', hl, h2⟩ := h
    exact ⟨h1, hk I A a w ρ' (hs.weaken hl) hd (Ext.refl _ _ _) h2⟩
  | fuel + 1, listed, ρ, I, A, a, w, h, hs, hd, hk => by
    obtain ⟨ρ', hl, h1, h2⟩ := h
    have hs := hs.weaken hl
    refine ⟨fun h0 => hk I A a w ρ' hs hd (Ext.refl _ _ _) (h1 h0), fun i hi => ?_⟩
    have h2 := h2 i hi
    have rec_ : ∀ I' A' a' w' ρ'', Sim nt w' I' A' ρ'' a' → a'.defers = ds → Ext w I A w' I' A' → anyX P fl l k fuel (listed.setIfInBounds i true) ρ'' → wpAnyIn (FR ro) 0 P .any l.toArray Q' fuel (listed.setIfInBounds i true) a' w' :=
      fun I' A' a' w' ρ'' q1 q2 q3 q4 => anyX_sound hr hgo fuel _ ρ'' I' A' a' w' q4 q1 q2 fun I2 A2 a2 w2 ρ2 k1 k2 k3 k4 => hk I2 A2 a2 w2 ρ2 k1 k2 (q3.trans k3) k4
    unfold wpOpIn
    unfold opX at h2
    simp only [List.getElem?_toArray]
    split
    · rename_i ho
      rw [ho] at h2
      exact h2.elim
    · rename_i o ho
      rw [ho] at h2
      have := opI_ow hs.bound hr hgo ho h2 ro ds I A a w hs hd (wpAnyIn (FR ro) 0 P .any l.toArray Q' fuel (listed.setIfInBounds i true)) Q' rec_
      split at this
      · rename_i hw; rw [if_pos hw]; exact this
      · rename_i hw; rw [if_neg hw]; exact this
def clQ (cl : List (Nat × Nat)) (Q : Exit → Env → Prop) : Exit → Env → Prop
  | .normal, ρ => clG cl (Q .normal) ρ
  | e, ρ => Q e ρ
theorem aw_claimsQ {cl : List (Nat × Nat)} {c : Code} {Q : Exit → Env → Prop} (hc : (cl.all fun p => decide (p.1 < nt) && decide (p.2 < nt) && p.1 != p.2) = true) (h : AW P nt c (clQ cl Q) ρ) : AW P nt c Q ρ :=
  aw_claims hc (aw_mono h fun e ρ h => by cases e <;> exact h)
def backE (l : List Oper) : Bool := (List.range l.length).all fun i => match l[i]? with
  | some o => o.after.all fun e => !Region.binds .any e || decide (e.on < i)
  | none => true
theorem ready_ne {l : List Oper} {listed : Array Bool} (hb : backE l = true) (hsz : listed.size = l.length) (h : ∃ i, i < l.length ∧ listed.getD i true = false) : Region.ready .any l.toArray listed ≠ [] := by
  have key : ∀ i, i < l.length → listed.getD i true = false → ∃ j, j ∈ Region.ready .any l.toArray listed := by
    intro i
    induction i using Nat.strongRecOn with
    | _ i ih =>
      intro hi hun
      have ho : l[i]? = some l[i] := List.getElem?_eq_getElem hi
      by_cases hd : ∀ e ∈ l[i].after, Region.binds .any e = true → listed.getD e.on false = true
      · exact ⟨i, mem_ready.2 ⟨hun, l[i], by simp, hd⟩⟩
      · simp only [Classical.not_forall] at hd
        obtain ⟨e, he, hbi, hl⟩ := hd
        have hlt : e.on < i := by
          unfold backE at hb
          rw [List.all_eq_true] at hb
          have := hb i (by simpa using hi)
          rw [ho] at this
          have := Array.all_eq_true'.1 this e he
          rw [hbi] at this
          simpa using this
        refine ih e.on hlt (by omega) ?_
        have hs : e.on < listed.size := by omega
        simp [Array.getElem?_eq_getElem hs] at hl ⊢
        exact hl
  obtain ⟨i, hi, hun⟩ := h
  obtain ⟨j, hj⟩ := key i hi hun
  intro h0
  rw [h0] at hj
  cases hj
def allS (p : Nat → Prop) : List Nat → Prop
  | [] => True
  | i :: r => p i ∧ allS p r
theorem allS_mem {p : Nat → Prop} : ∀ {r : List Nat}, allS p r → ∀ i ∈ r, p i
  | [], _, i, h => by simp at h
  | j :: r, h, i, hi => by
    rcases List.mem_cons.1 hi with rfl | hi
    · exact h.1
    · exact allS_mem h.2 i hi
theorem aw_drawX (L fl : List Nat) (cl : List (Nat × Nat)) {id : Nat} {l : List Oper} {Q : Exit → Env → Prop} (hm : P.follows .mixedOrders = true) (hr : (regOk2 nt l && cl.all fun p => decide (p.1 < nt) && decide (p.2 < nt) && p.1 != p.2) = true)
    (h : ∀ Y : Nat → Array Bool → Env → Prop, (∀ (n : Nat) (listed : Array Bool) (L : List Nat) (rd : List Nat) (ρ : Env), (Region.ready .any l.toArray listed == rd) = true → rd.isEmpty = false → allS (fun i => opX P fl l i (Y n (listed.setIfInBounds i true)) (keepC L ρ)) rd → Y (n + 1) listed ρ) →
      (∀ (n : Nat) (listed : Array Bool) (L : List Nat) (ρ : Env), backE l = true → listed.size = l.length → (∃ i, i < l.length ∧ listed.getD i true = false) → (∀ (i : Nat) (o : Oper), listed.getD i true = false → l[i]? = some o → (∀ e ∈ o.after, Region.binds .any e = true → listed.getD e.on false = true) → opI P l o (fl.contains i) (Y n (listed.setIfInBounds i true)) (keepC L ρ)) → Y (n + 1) listed ρ) →
      (∀ (listed : Array Bool) (L : List Nat) (ρ : Env), (Region.ready .any l.toArray listed).isEmpty = true → clG cl (Q .normal) (keepC L ρ) → Y 0 listed ρ) → Y l.length (Array.replicate l.length false) (keepC L ρ)) : AW P nt (.region id l.toArray true) Q ρ := by
  simp only [regOk2, Bool.and_eq_true] at hr
  obtain ⟨⟨h1, h2⟩, h3⟩ := hr
  have hY := h (anyX P fl l (clG cl (Q .normal))) (fun n listed L rd ρ q1 q2 q3 => by
    have q1 : Region.ready .any l.toArray listed = rd := by simpa using q1
    refine ⟨_, Le.keepC L ρ, fun h0 => ?_, ?_⟩
    · rw [q1] at h0; rw [h0] at q2; cases q2
    · rw [q1]; exact allS_mem q3) (fun n listed L ρ p1 p2 p3 q2 => ⟨_, Le.keepC L ρ, fun h0 => absurd h0 (ready_ne p1 p2 p3), fun i hi => by
      obtain ⟨hun, o, ho, hdep⟩ := mem_ready.1 hi
      have ho' : l[i]? = some o := by simpa using ho
      refine opX_of ho' rfl (q2 i o hun ho' fun e he hb => ?_)
      exact hdep e he hb⟩) (fun listed L ρ q1 q2 => ⟨by simpa using q1, _, Le.keepC L ρ, q2⟩)
  refine aw_claimsQ h3 ?_
  refine aw_weaken (Le.keepC L ρ) ?_
  intro ro ds I A a w hs hd
  refine wpIn_region_any hm ?_
  have hgr : Grow w I w.drew I := ⟨rfl, ⟨rfl, Nat.le_succ _⟩, rfl, Nat.le_refl _, fun _ _ => rfl, fun _ h => h, fun _ h => .inl h⟩
  have := anyX_sound (ro := ro) (Q' := fun e a' w' => ∃ I' A' ρ', Sim nt w' I' A' ρ' a' ∧ a'.defers = ds ∧ Ext w I A w' I' A' ∧ clQ cl Q e ρ') h1 h2 _ _ (keepC L ρ) I A a w.drew hY (hs.grow hgr) hd
    fun I' A' a' w' ρ' q1 q2 q3 q4 => ⟨I', A', ρ', q1, q2, (hgr.ext hs.osim).trans q3, q4⟩
  simpa using this
end
section
variable {P : Program} {ρ : Env} (all : List Oper) (K : Env → Prop) (d : Option Tmp) (op : Op) (ty : TypeId) (pos : String) (af : Array Edge) (j : Nat) (want : Bool)
theorem opI_plain : opI P all ⟨d, op, ty, pos, af, none⟩ false K ρ = (match pureOp op && d.isSome with
      | true => prG P ρ op d K
      | false => effG P ρ op d K) := by
  unfold opI
  simp only
  generalize (pureOp op && d.isSome) = b
  cases b <;> rfl
theorem opI_eff : opI P all ⟨d, op, ty, pos, af, none⟩ true K ρ = effF P ρ op d K := rfl
theorem opI_guard : opI P all ⟨d, op, ty, pos, af, some (j, want)⟩ false K ρ = gdG P ρ op d (gAt all ρ j want) K := rfl
end
def selD (b : Bool) (x : DV) : DV := bif b then x else .any
theorem selD_true (x : DV) : selD true x = x := rfl
theorem selD_false (x : DV) : selD false x = .any := rfl
def sel2 (s b : Bool) (x y : DV) : DV := bif s then x else bif b then y else .any
theorem sel2_true (b : Bool) (x y : DV) : sel2 true b x y = x := rfl
theorem sel2_ft (x y : DV) : sel2 false true x y = y := rfl
theorem sel2_ff (x y : DV) : sel2 false false x y = .any := rfl
theorem allK_sel (p : Nat → Bool) (b : Bool) (x : DV) : allK p (selD b x) = (!b || allK p x) := by cases b <;> simp [selD, allK]
theorem allK_sel2 (p : Nat → Bool) (s b : Bool) (x y : DV) : allK p (sel2 s b x y) = ((!s || allK p x) && (s || !b || allK p y)) := by cases s <;> cases b <;> simp [sel2, allK]
def cB (b : Bool) : Nat := bif b then 0 else 1
attribute [go_sem] opI_plain opI_eff opI_guard selD_true selD_false sel2_true sel2_ft sel2_ff allK_sel allK_sel2 Bool.or_true
end Go.Sg
set_option linter.unusedVariables false
set_option linter.unusedSimpArgs false
namespace Go.Sg
open Go.RowKit
open Go.Rv (FR)
section
variable {P : Program} {nt : Nat} {ρ O : Env}
end
section
variable {P : Program} {nt : Nat} {ρ : Env} {Q : Exit → Env → Prop} {c : Code}
theorem aw_toBx (s : Nat) {cs ds : List DV} (hlt : (decide (s < 100000)) = true) (h : ρ s = .bx cs) (hw : RWkL cs ds) (k : AW P nt c Q (set ρ s (.bx ds))) : AW P nt c Q ρ :=
  fun ro ds I A a w hs hd => k ro ds I A a w ⟨⟨fun t => by
      rw [set_apply]; split
      · rename_i e
        subst e
        have ho := hs.osim.own t
        rw [h] at ho
        obtain ⟨g, c', us, et, h1, h2, h3, h4, h5⟩ := ho
        refine ⟨g, c', us, et, h1, h2, by rw [← hw.len]; exact h3, h4, fun j d u hdj hu => ?_⟩
        obtain ⟨d', q1, q2⟩ := hw.get j d hdj
        exact q2 _ _ _ _ (h5 j d' u q1 hu)
      · exact hs.osim.own t, hs.osim.inj, hs.osim.sep, hs.osim.imm⟩, hs.size, hs.bound, fun i hi => by
      rw [set_apply]; split
      · rename_i e
        subst e
        have := hs.slot i hi
        rw [h] at this
        exact this
      · exact hs.slot i hi, fun t ht => by
      have := of_decide_eq_true hlt
      rw [set_apply, if_neg (by omega)]; exact hs.out t ht⟩ hd
end
theorem setMapI (l : List Int) (i : Nat) (x : Int) : (l.map eI).set i [vi x] = (l.set i x).map eI := by rw [List.map_set]
theorem exRow {t z n : Nat} {xs : List (List DV)} : (∃ e ys, DV.row t z xs = .row e z ys ∧ n ≤ ys.length) = (n ≤ xs.length) := by
  apply propext; constructor
  · rintro ⟨_, _, h, h2⟩; cases h; exact h2
  · intro h; exact ⟨_, _, rfl, h⟩
theorem farNe {k d : Nat} (h : d < 100000) : (k + 100000 != d) = true := by simp; omega
theorem farEq {k d : Nat} (h : d < 100000) : (k + 100000 = d) = False := by simp; omega
theorem RWk.slW {z n : Nat} {f g : Nat → List DV} (h : ∀ i, i < n → RWkL (f i) (g i)) : RWk (.sl z n f) (.sl z n g) := fun w I A x hr => by
  cases hr with
  | sl0 _ _ _ b c => exact .sl0 A z g b c
  | sl _ _ _ _ b o c us hn hc hm hI hz hcell hone hrel =>
    refine .sl A z n g b o c us hn hc hm hI (fun i hi => by rw [← (h i hi).len]; exact hz i hi) hcell hone (fun i j d hi hd => ?_)
    obtain ⟨d', h1, h2⟩ := (h i hi).get j d hd
    exact h2 _ _ _ _ (hrel i j d' hi h1)
theorem RWk.aggL {cs ds : List DV} (h : RWkL cs ds) : RWk (.agg cs) (.agg ds) := fun w I A x hr => by
  cases hr with
  | agg _ _ vs hl hone hrel =>
    refine .agg A ds vs (by rw [← h.len]; exact hl) hone fun j d u hd hu => ?_
    obtain ⟨d', h1, h2⟩ := h.get j d hd
    exact h2 _ _ _ _ (hrel j d' u h1 hu)
def eLI (l : List Int) : List DV := [encI l]
theorem snocLI (l : List (List Int)) (x : List Int) : l.map eLI ++ [[.sl 1 x.length fun i => eI (x.getD i default)]] = (l ++ [x]).map eLI := by simp [eLI, encL]
attribute [go_sem] eLI snocLI
attribute [go_sem] setMapI exRow farNe farEq
end Go.Sg
set_option linter.unusedVariables false
set_option linter.unusedSimpArgs false
namespace Go.Sg
attribute [go_sem] i64id
def allTo {α : Type} [Inhabited α] (f : α → Bool) (l : List α) (i : Nat) : Prop := ∀ j, j < i → f (l.getD j default) = true
section
variable {α : Type} [Inhabited α] {f : α → Bool} {l : List α} {i n : Nat}
theorem allTo_0 (f : α → Bool) (l : List α) : allTo f l 0 := fun j h => absurd h (Nat.not_lt_zero _)
theorem allTo_s (h : allTo f l i) (g : f (l.getD i default) = true) : allTo f l (i + 1) := fun j hj => by
  rcases Nat.lt_or_eq_of_le (Nat.le_of_lt_succ hj) with q | q
  · exact h j q
  · rw [q]; exact g
theorem getD_mem (h : i < l.length) : l.getD i default ∈ l := by rw [List.getD_eq_getElem?_getD, List.getElem?_eq_getElem h]; exact List.getElem_mem h
theorem mem_getD {x : α} (h : x ∈ l) : ∃ i, i < l.length ∧ l.getD i default = x := by
  obtain ⟨i, hi, rfl⟩ := List.mem_iff_getElem.1 h
  exact ⟨i, hi, by rw [List.getD_eq_getElem?_getD, List.getElem?_eq_getElem hi]; rfl⟩
theorem all_t (h : allTo f l i) (g : l.length ≤ i) : l.all f = true := by
  rw [List.all_eq_true]; intro x hx
  obtain ⟨j, hj, rfl⟩ := mem_getD hx
  exact h j (Nat.lt_of_lt_of_le hj g)
theorem all_f (h : i < l.length) (g : f (l.getD i default) = false) : l.all f = false := by
  rw [← Bool.not_eq_true, List.all_eq_true]; intro q; rw [q _ (getD_mem h)] at g; cases g
theorem all_at (h : l.all f = true) (g : i < l.length) : f (l.getD i default) = true := (List.all_eq_true.1 h) _ (getD_mem g)
def rgTo (f : Nat → Bool) (i : Nat) : Prop := ∀ j, j < i → f j = true
theorem rgTo_0 (f : Nat → Bool) : rgTo f 0 := fun j h => absurd h (Nat.not_lt_zero _)
theorem rgTo_s {f : Nat → Bool} (h : rgTo f i) (g : f i = true) : rgTo f (i + 1) := fun j hj => by
  rcases Nat.lt_or_eq_of_le (Nat.le_of_lt_succ hj) with q | q
  · exact h j q
  · rw [q]; exact g
theorem rg_t {f : Nat → Bool} (h : rgTo f i) (g : n ≤ i) : (List.range n).all f = true := by
  rw [List.all_eq_true]; intro x hx; exact h x (Nat.lt_of_lt_of_le (List.mem_range.1 hx) g)
theorem rg_f {f : Nat → Bool} (h : i < n) (g : f i = false) : (List.range n).all f = false := by
  rw [← Bool.not_eq_true, List.all_eq_true]; intro q; rw [q _ (List.mem_range.2 h)] at g; cases g
theorem rg_at {f : Nat → Bool} (h : (List.range n).all f = true) (g : i < n) : f i = true := (List.all_eq_true.1 h) _ (List.mem_range.2 g)
end
end Go.Sg
set_option linter.unusedVariables false
set_option linter.unusedSimpArgs false
namespace Go.Sg
open Go.RowKit
open Go.Rv (FR)
abbrev nmD (k : Nat) (d : DV) : Prop := allK (fun t => t != k) d = true
def nmE (pv : List Nat) (ρ : Env) : Prop := ∀ k ∈ pv, ∀ s, s ≠ k → nmD k (ρ s)
section
variable {P : Program} {nt : Nat} {ρ : Env}
theorem nm_un {k : Nat} {d : DV} (h : nmD k d) : nmD k (un d) := by
  cases d <;> exact h
theorem nm_rd {k t : Nat} {d : DV} (ht : t ≠ k) (h : nmD k d) : nmD k (rd t d) := by
  cases d <;> first | exact h | (simp only [nmD, rd, allK, bne_iff_ne]; exact ht)
theorem nm_cv {k : Nat} (v : Value) : nmD k (cv v) := by
  cases v <;> first
    | rfl
    | (simp only [nmD, cv, allK]; rw [allKL_iff]; intro d hd; obtain ⟨x, _, rfl⟩ := List.mem_map.1 hd; rfl)
theorem nm_ev {k : Nat} {x : Operand} (hm : ∀ s, s ≠ k → nmD k (ρ s)) (h : x ≠ .tmp k) : nmD k (un (ev ρ x)) := by
  refine nm_un ?_
  cases x with
  | tmp t =>
    have ht : t ≠ k := fun e => h (by rw [e])
    exact nm_rd ht (hm t ht)
  | const v => exact nm_cv v
  | global g => rw [ev_global]; split <;> rfl
  | func f => rfl
theorem loadP_priv {k : Nat} {u : DV} {ld : Option (Option Nat)} {d : DV} (h : nmD k d) : loadP (set ρ k u) ld d = loadP ρ ld d := by
  unfold loadP
  cases ld with
  | none => rfl
  | some ld =>
    cases d <;> try rfl
    · rename_i s off
      have : s ≠ k := by simpa [nmD, allK] using h
      simp only [set_apply, if_neg this]
    · rename_i s z i off
      have : s ≠ k := by simpa [nmD, allK] using h
      simp only [set_apply, if_neg this]
theorem idxP_priv {k : Nat} {u : DV} {el : Option (Option Nat × Nat)} {d i : DV} (h : nmD k d) : idxP (set ρ k u) el d i = idxP ρ el d i := by
  unfold idxP
  cases d <;> try rfl
  rename_i s n
  have : s ≠ k := by simpa [nmD, allK] using h
  simp only [set_apply, if_neg this]
theorem subP_priv {k : Nat} {u : DV} {el : Option (Option Nat × Nat)} {t : Nat} {d : DV} {lo hi : Option DV} (h : nmD k d) : subP (set ρ k u) el t d lo hi = subP ρ el t d lo hi := by
  unfold subP
  split <;> try rfl
  split <;> try rfl
  rename_i s n _
  have : s ≠ k := by simpa [nmD, allK] using h
  simp only [set_apply, if_neg this]
theorem opQ_priv {k : Nat} {u : DV} (hm : ∀ s, s ≠ k → nmD k (ρ s)) {op : Op} (h : unread k op) : opQ P (set ρ k u) op = opQ P ρ op := by
  have hx : ∀ x ∈ op.operands, ev (set ρ k u) x = ev ρ x := fun x hx => ev_unread (h x hx)
  have hn : ∀ x ∈ op.operands, nmD k (un (ev ρ x)) := fun x hx => nm_ev hm (h x hx)
  cases op with
  | buildSlice t n parts =>
    have hp : ∀ p ∈ parts.toList, p.2 ≠ .tmp k := fun p hp => h p.2 (by simp [Op.operands]; exact ⟨p.1, by simpa using hp⟩)
    simp only [opQ, litP, bsOk_set hp, bsL_set hp]
  | build t parts =>
    have hp : ∀ p ∈ parts.toList, p.2 ≠ .tmp k := fun p hp => h p.2 (by simp [Op.operands]; exact ⟨p.1, by simpa using hp⟩)
    simp only [opQ, bldP, bldGo_set hp]
  | makeSlice t x y => simp only [opQ, hx x (by simp [Op.operands]), hx y (by simp [Op.operands])]
  | move x => simp only [opQ, opP, hx x (by simp [Op.operands])]
  | assign x => simp only [opQ, opP, hx x (by simp [Op.operands])]
  | pick c a b => simp only [opQ, opP, hx c (by simp [Op.operands]), hx a (by simp [Op.operands]), hx b (by simp [Op.operands])]
  | load t x => simp only [opQ, opP, hx x (by simp [Op.operands]), loadP_priv (hn x (by simp [Op.operands]))]
  | nilCheck x => simp only [opQ, opP, hx x (by simp [Op.operands])]
  | binOp op t x y t' => simp only [opQ, opP, hx x (by simp [Op.operands]), hx y (by simp [Op.operands])]
  | unOp op t x => simp only [opQ, opP, hx x (by simp [Op.operands])]
  | convert s t x => simp only [opQ, opP, hx x (by simp [Op.operands])]
  | fieldAddr s x f => simp only [opQ, opP, hx x (by simp [Op.operands])]
  | indexAddr t x i => simp only [opQ, opP, hx x (by simp [Op.operands]), hx i (by simp [Op.operands]), idxP_priv (hn x (by simp [Op.operands]))]
  | index t x i => simp only [opQ, opP, hx x (by simp [Op.operands]), hx i (by simp [Op.operands])]
  | slice t x lo hi mx =>
    cases mx with
    | some m => rfl
    | none =>
      have hlo : lo.map (fun y => un (ev (set ρ k u) y)) = lo.map fun y => un (ev ρ y) := by
        cases lo with
        | none => rfl
        | some y => simp [hx y (by simp [Op.operands])]
      have hhi : hi.map (fun y => un (ev (set ρ k u) y)) = hi.map fun y => un (ev ρ y) := by
        cases hi with
        | none => rfl
        | some y => simp [hx y (by simp [Op.operands])]
      have glo : (∀ y ∈ lo, gd (ev (set ρ k u) y)) = ∀ y ∈ lo, gd (ev ρ y) := by
        cases lo with
        | none => simp
        | some y => simp [hx y (by simp [Op.operands])]
      have ghi : (∀ y ∈ hi, gd (ev (set ρ k u) y)) = ∀ y ∈ hi, gd (ev ρ y) := by
        cases hi with
        | none => simp
        | some y => simp [hx y (by simp [Op.operands])]
      simp only [opQ, opP, hx x (by simp [Op.operands]), hlo, hhi, glo, ghi, subP_priv (hn x (by simp [Op.operands]))]
  | extract x i => simp only [opQ, opP, hx x (by simp [Op.operands])]
  | makeFunc fn first captured =>
    cases fn with
    | func f =>
      have h1 : ∀ x ∈ first.toList, ev (set ρ k u) x = ev ρ x := fun x hx' => hx x (by simp [Op.operands]; exact .inl (by simpa using hx'))
      have h2 : ∀ x ∈ captured.toList, ev (set ρ k u) x = ev ρ x := fun x hx' => hx x (by simp [Op.operands]; exact .inr (by simpa using hx'))
      have e1 : (first.toList.map fun x => un (ev (set ρ k u) x)) = first.toList.map fun x => un (ev ρ x) := List.map_congr_left fun x hx' => by rw [h1 x hx']
      have e2 : (captured.toList.map fun x => un (ev (set ρ k u) x)) = captured.toList.map fun x => un (ev ρ x) := List.map_congr_left fun x hx' => by rw [h2 x hx']
      have g1 : (∀ x ∈ first.toList, gd (ev (set ρ k u) x)) = ∀ x ∈ first.toList, gd (ev ρ x) := propext ⟨fun g x hx' => by rw [← h1 x hx']; exact g x hx', fun g x hx' => by rw [h1 x hx']; exact g x hx'⟩
      have g2 : (∀ x ∈ captured.toList, gd (ev (set ρ k u) x)) = ∀ x ∈ captured.toList, gd (ev ρ x) := propext ⟨fun g x hx' => by rw [← h2 x hx']; exact g x hx', fun g x hx' => by rw [h2 x hx']; exact g x hx'⟩
      simp only [opQ, opP, fnP, e1, e2, g1, g2]
    | _ => rfl
  | call c =>
    obtain ⟨cl, args, ts⟩ := c
    cases cl with
    | builtin b =>
      have hb : ∀ x ∈ args.toList, x ≠ .tmp k := fun x hx' => h x (by simp [Op.operands, Call.operands]; simpa using hx')
      simp only [opQ, opP, callP, bltP_set hb]
    | _ => rfl
  | _ => rfl
def prA (P : Program) (ρ : Env) (op : Op) (d : DV) : Prop :=
  match op with
  | .call ⟨.value f, args, _⟩ => gd (ev ρ f) ∧ gdL ρ args.toList ∧ ∃ g l, callee (un (ev ρ f)) (evL ρ args.toList) = some (g, l) ∧ hasBody P g = true ∧ ∀ O, PCall P O g l d
  | op => (opQ P ρ op).1 ∧ d = (opQ P ρ op).2
theorem prA_P {op : Op} {d : DV} (h : prA P ρ op d) : prP P ρ op d := by
  cases op with
  | call c =>
    obtain ⟨cl, args, ts⟩ := c
    cases cl with
    | value f =>
      obtain ⟨h1, h2, g, l, h3, h4, h5⟩ := h
      exact ⟨h1, h2, g, l, h3, h4, h5 ρ⟩
    | _ => exact h
  | _ => exact h
def Sep (ρ : Env) (k : Nat) (u : DV) : Prop := (isOwn u = false ∧ isOwn (ρ k) = false) ∨ ∀ s, s ≠ k → nmD k (ρ s)
theorem prA_set {k : Nat} {u : DV} (hk : Sep ρ k u) {op : Op} {d : DV} (h : unread k op) (hp : prA P ρ op d) : prA P (set ρ k u) op d := by
  have hq : opQ P (set ρ k u) op = opQ P ρ op := by
    rcases hk with ⟨h1, h2⟩ | h1
    · exact opQ_set h1 h2 h
    · exact opQ_priv h1 h
  have gen : (opQ P ρ op).1 ∧ d = (opQ P ρ op).2 → (opQ P (set ρ k u) op).1 ∧ d = (opQ P (set ρ k u) op).2 := by rw [hq]; exact id
  cases op with
  | call c =>
    obtain ⟨cl, args, ts⟩ := c
    cases cl with
    | value f =>
      obtain ⟨h1, h2, g, l, h3, h4, h5⟩ := hp
      have hf : ev (set ρ k u) f = ev ρ f := ev_unread (h f (by simp [Op.operands, Call.operands]))
      have ha : ∀ x ∈ args.toList, x ≠ .tmp k := fun x hx => h x (by simp [Op.operands, Call.operands]; exact .inr (by simpa using hx))
      exact ⟨by rw [hf]; exact h1, by rw [gdL_set ha]; exact h2, g, l, by rw [hf, evL_set ha]; exact h3, h4, h5⟩
    | _ => exact gen hp
  | _ => exact gen hp
def effA (P : Program) (all : List Oper) (ρ : Env) (o : Oper) (d : DV) : Prop :=
  isOwn d = false ∧ (∀ k, o.dst = some k → isOwn (ρ k) = false) ∧
  match o.guard with
  | none => prA P ρ o.op d
  | some (j, want) => ∃ g d', gAt all ρ j want = some g ∧ d = .cond g d' ∧ isPl d' = true ∧ (g = true → prA P ρ o.op d')
theorem effA_P {l : List Oper} {o : Oper} {d : DV} (h : effA P l ρ o d) : effP P l ρ o d := by
  obtain ⟨h1, h2, h3⟩ := h
  refine ⟨h1, h2, ?_⟩
  cases hg : o.guard with
  | none => rw [hg] at h3; exact prA_P h3
  | some jw =>
    obtain ⟨j, want⟩ := jw
    rw [hg] at h3
    obtain ⟨g, d', k1, k2, k3, k4⟩ := h3
    exact ⟨g, d', k1, k2, k3, fun q => prA_P (k4 q)⟩
theorem effA_set {l : List Oper} {o : Oper} {d u : DV} {k : Nat} (hk : Sep ρ k u) (hl : k ∉ o.looksAt l.toArray) (hne : o.dst ≠ some k) (h : effA P l ρ o d) : effA P l (set ρ k u) o d := by
  obtain ⟨h1, h2, h3⟩ := h
  refine ⟨h1, fun m hm => ?_, ?_⟩
  · have : m ≠ k := fun e => hne (by rw [hm, e])
    rw [set_apply, if_neg this]
    exact h2 m hm
  · cases hg : o.guard with
    | none => rw [hg] at h3; exact prA_set hk (looks_unread hl) h3
    | some jw =>
      obtain ⟨j, want⟩ := jw
      rw [hg] at h3
      obtain ⟨g, d', k1, k2, k3, k4⟩ := h3
      exact ⟨g, d', by rw [gAt_set (looks_guard hl hg)]; exact k1, k2, k3, fun hgt => prA_set hk (looks_unread hl) (k4 hgt)⟩
/-! ## Variables of the region's own -/
def pvOp (pv : List Nat) (o : Oper) : Option Nat :=
  match o.guard with
  | some _ => none
  | none => match o.op with
    | .alloc _ => (match o.dst with | some p => if pv.contains p then some p else none | none => none)
    | .store _ (.tmp p) _ => if pv.contains p && o.dst.isNone then some p else none
    | _ => none
def dstV (pv : List Nat) (o : Oper) : Option Nat := match pvOp pv o with | some p => some p | none => o.dst
theorem pvOp_spec {pv : List Nat} {o : Oper} {p : Nat} (h : pvOp pv o = some p) : o.guard = none ∧ p ∈ pv ∧ ((∃ t, o.op = .alloc t ∧ o.dst = some p) ∨ ∃ t x, o.op = .store t (.tmp p) x ∧ o.dst = none) := by
  unfold pvOp at h
  split at h
  · cases h
  · rename_i hg
    refine ⟨hg, ?_⟩
    split at h
    · rename_i t ht
      split at h
      · rename_i q hq
        split at h <;> cases h
        rename_i hc
        exact ⟨by simpa using hc, .inl ⟨t, ht, hq⟩⟩
      · cases h
    · rename_i t q x ht
      split at h <;> cases h
      rename_i hc
      simp only [Bool.and_eq_true] at hc
      exact ⟨by simpa using hc.1, .inr ⟨t, x, ht, by simpa using hc.2⟩⟩
    · cases h
def valV (P : Program) (l : List Oper) (pv : List Nat) (ρ : Env) (o : Oper) (d : DV) : Prop :=
  (∀ q ∈ pv, dstV pv o ≠ some q → nmD q d) ∧
  match pvOp pv o with
  | none => effA P l ρ o d
  | some p => match o.op with
    | .alloc t => ∃ zs, zcOf P t = some zs ∧ d = .bx (zs.map .v)
    | .store t _ x => ∃ n cs, ρ p = .bx cs ∧ szOf P t = some n ∧ 0 < n ∧ cs.length = n ∧ (cellsD (un (ev ρ x))).length = n ∧ gd (ev ρ x) ∧ d = .bx (cellsD (un (ev ρ x)))
    | _ => False
def isV (pv : List Nat) (o : Oper) : Bool := (pvOp pv o).isSome || (pureOp o.op && o.dst.isSome && pv.all fun q => o.dst != some q)
theorem isV_dst {pv : List Nat} {o : Oper} (h : isV pv o = true) : ∃ k, dstV pv o = some k := by
  unfold isV at h
  unfold dstV
  cases hp : pvOp pv o with
  | some p => exact ⟨p, rfl⟩
  | none =>
    rw [hp] at h
    simp only [Option.isSome_none, Bool.false_or, Bool.and_eq_true] at h
    exact Option.isSome_iff_exists.1 h.1.2
theorem valV_sep {l : List Oper} {pv : List Nat} {o : Oper} {d u : DV} {k : Nat} (hnm : nmE pv ρ) (hk : dstV pv o = some k) (h : valV P l pv ρ o d) (hu : isOwn u = false ∨ k ∈ pv) : Sep ρ k u := by
  unfold dstV at hk
  have h2 := h.2
  cases hp : pvOp pv o with
  | some p =>
    rw [hp] at hk
    cases hk
    exact .inr (hnm _ (pvOp_spec hp).2.1)
  | none =>
    rw [hp] at hk h2
    rcases hu with hu | hu
    · exact .inl ⟨hu, h2.2.1 k hk⟩
    · exact .inr (hnm k hu)
theorem valV_own {l : List Oper} {pv : List Nat} {o : Oper} {d : DV} {k : Nat} (hk : dstV pv o = some k) (h : valV P l pv ρ o d) : isOwn d = false ∨ k ∈ pv := by
  have h2 := h.2
  unfold dstV at hk
  cases hp : pvOp pv o with
  | some p =>
    rw [hp] at hk
    cases hk
    exact .inr (pvOp_spec hp).2.1
  | none => rw [hp] at h2; exact .inl h2.1
theorem valV_set {l : List Oper} {pv : List Nat} {o : Oper} {d u : DV} {k : Nat} (hk : Sep ρ k u) (hl : k ∉ o.looksAt l.toArray) (hne : dstV pv o ≠ some k) (h : valV P l pv ρ o d) : valV P l pv (set ρ k u) o d := by
  obtain ⟨h1, h2⟩ := h
  refine ⟨h1, ?_⟩
  unfold dstV at hne
  cases hp : pvOp pv o with
  | none => rw [hp] at h2 hne; exact effA_set hk hl hne h2
  | some p =>
    rw [hp] at h2 hne
    have hpk : p ≠ k := fun e => hne (by rw [e])
    simp only at h2 ⊢
    split at h2
    · exact h2
    · rename_i t ad x hop
      obtain ⟨n, cs, k1, k2, k3, k4, k5, k6, k7⟩ := h2
      have hx : ev (set ρ k u) x = ev ρ x := ev_unread (looks_unread hl x (by rw [hop]; simp [Op.operands]))
      exact ⟨n, cs, by rw [set_apply, if_neg hpk]; exact k1, k2, k3, k4, by rw [hx]; exact k5, by rw [hx]; exact k6, by rw [hx]; exact k7⟩
    · exact h2
theorem nmE_put {l : List Oper} {pv : List Nat} {o : Oper} {d : DV} {k : Nat} (hnm : nmE pv ρ) (hk : dstV pv o = some k) (h : valV P l pv ρ o d) : nmE pv (set ρ k d) := fun q hq s hs => by
  rw [set_apply]
  split
  · rename_i e
    subst e
    exact h.1 q hq (by rw [hk]; intro e; exact hs (Option.some.inj e))
  · exact hnm q hq s hs
/-! ## Whatever order -/
def sV (P : Program) (l : List Oper) (pv : List Nat) (i : Nat) (K : Env → Prop) (ρ : Env) : Prop :=
  match l[i]? with
  | none => K ρ
  | some o => ∃ d, valV P l pv ρ o d ∧ K (putD ρ (dstV pv o) d)
def anyV (P : Program) (l : List Oper) (pv : List Nat) (k : Env → Prop) : Nat → Array Bool → Env → Prop
  | 0, listed, ρ => Region.ready .any l.toArray listed = [] ∧ k ρ
  | fuel + 1, listed, ρ => (Region.ready .any l.toArray listed = [] → k ρ) ∧ ∀ i ∈ Region.ready .any l.toArray listed, sV P l pv i (anyV P l pv k fuel (listed.setIfInBounds i true)) ρ
def apV (l : List Oper) (pv : List Nat) (x y : Oper) : Bool :=
  match dstV pv x, dstV pv y with
  | some a, some b => !(y.looksAt l.toArray).contains a && a != b && !(x.looksAt l.toArray).contains b
  | _, _ => false
theorem sV_put {l : List Oper} {pv : List Nat} {j : Nat} {oi oj : Oper} {d : DV} (hj : l[j]? = some oj) (hap : apV l pv oi oj = true) {K : Env → Prop} (hnm : nmE pv ρ)
    (hy : valV P l pv ρ oi d) (h : sV P l pv j K (putD ρ (dstV pv oi) d)) : ∃ u kj, dstV pv oj = some kj ∧ valV P l pv ρ oj u ∧ valV P l pv (putD ρ (dstV pv oj) u) oi d ∧ K (putD (putD ρ (dstV pv oj) u) (dstV pv oi) d) := by
  unfold apV at hap
  split at hap
  · rename_i ki kj hki hkj
    simp only [Bool.and_eq_true, Bool.not_eq_true', bne_iff_ne, ne_eq] at hap
    obtain ⟨⟨h1, h2⟩, h3⟩ := hap
    have h1 : ki ∉ oj.looksAt l.toArray := fun q => by rw [List.contains_iff_mem.2 q] at h1; cases h1
    have h3 : kj ∉ oi.looksAt l.toArray := fun q => by rw [List.contains_iff_mem.2 q] at h3; cases h3
    unfold sV at h
    rw [hj, hki, putD_some] at h
    obtain ⟨u, k1, k2⟩ := h
    have hnm' := nmE_put hnm hki hy
    have hback : valV P l pv ρ oj u := by
      have hs : Sep (set ρ ki d) ki (ρ ki) := by
        have hy2 := hy.2
        cases hp : pvOp pv oi with
        | some p =>
          have : p = ki := by unfold dstV at hki; rw [hp] at hki; exact Option.some.inj hki
          subst this
          exact .inr fun s hs => by rw [set_apply, if_neg hs]; exact hnm _ (pvOp_spec hp).2.1 s hs
        | none =>
          rw [hp] at hy2
          unfold dstV at hki
          rw [hp] at hki
          exact .inl ⟨hy2.2.1 ki hki, by rw [set_apply, if_pos rfl]; exact hy2.1⟩
      have := valV_set (u := ρ ki) hs h1 (by rw [hkj]; intro e; exact h2 (Option.some.inj e).symm) k1
      rwa [set_back] at this
    refine ⟨u, kj, hkj, hback, ?_, ?_⟩
    · rw [hkj, putD_some]
      exact valV_set (valV_sep hnm hkj hback (valV_own hkj hback)) h3 (by rw [hki]; intro e; exact h2 (Option.some.inj e)) hy
    · rw [hki, hkj, putD_some, putD_some]
      rw [hkj, putD_some] at k2
      have : set (set ρ kj u) ki d = set (set ρ ki d) kj u := by
        funext i
        simp only [set_apply]
        by_cases e1 : i = ki
        · rw [if_pos e1, if_neg (by rw [e1]; exact h2), if_pos e1]
        · simp only [if_neg e1]
      rw [this]
      exact k2
  · cases hap
theorem anyV_first {l : List Oper} {pv : List Nat} {k : Env → Prop} {i : Nat} {oi : Oper} {d : DV} (hi : l[i]? = some oi) (hvi : isV pv oi = true) :
    ∀ (fuel : Nat) (listed : Array Bool) (ρ : Env),
      (∀ j oj, l[j]? = some oj → j ≠ i → listed.getD j true = false → (∀ e ∈ oj.after, Region.binds .any e = true → e.on ≠ i) → apV l pv oi oj = true) → nmE pv ρ →
      i ∈ Region.ready .any l.toArray listed → valV P l pv ρ oi d → anyV P l pv k fuel (listed.setIfInBounds i true) (putD ρ (dstV pv oi) d) → anyV P l pv k (fuel + 1) listed ρ := by
  obtain ⟨ki, hki⟩ := isV_dst hvi
  have take : ∀ {K : Env → Prop} {ρ : Env}, valV P l pv ρ oi d → K (putD ρ (dstV pv oi) d) → sV P l pv i K ρ := fun h1 h2 => by
    unfold sV
    rw [hi]
    exact ⟨d, h1, h2⟩
  intro fuel
  induction fuel with
  | zero =>
    intro listed ρ _ _ hr hy H
    refine ⟨fun h => (by rw [h] at hr; cases hr), fun j hj => ?_⟩
    by_cases hji : j = i
    · subst hji; exact take hy H
    · have := ready_mono hj hji
      rw [H.1] at this
      cases this
  | succ fuel ih =>
    intro listed ρ hfree hnm hr hy H
    refine ⟨fun h => (by rw [h] at hr; cases hr), fun j hj => ?_⟩
    by_cases hji : j = i
    · subst hji; exact take hy H
    · have h1 := H.2 j (ready_mono hj hji)
      obtain ⟨hjun, oj, hoj, hall⟩ := mem_ready.1 hj
      have hoj' : l[j]? = some oj := by simpa using hoj
      have hnot : ∀ e ∈ oj.after, Region.binds .any e = true → e.on ≠ i := fun e he hb heq => by
        have h1 := hall e he hb
        have h0 := (mem_ready.1 hr).1
        rw [heq] at h1
        rcases Nat.lt_or_ge i listed.size with h' | h'
        · simp [h'] at h0 h1; rw [h0] at h1; cases h1
        · simp [Array.getElem?_eq_none h'] at h1
      obtain ⟨u, kj, q1, q2, q3, q4⟩ := sV_put hoj' (hfree j oj hoj' hji hjun hnot) hnm hy h1
      have hfree' : ∀ m om, l[m]? = some om → m ≠ i → (listed.setIfInBounds j true).getD m true = false → (∀ e ∈ om.after, Region.binds .any e = true → e.on ≠ i) → apV l pv oi om = true := fun m om hm hmi hun hno => by
        refine hfree m om hm hmi ?_ hno
        by_cases hjm : j = m
        · subst hjm; exact hjun
        · rw [getD_set_ne true hjm] at hun; exact hun
      unfold sV
      rw [hoj']
      refine ⟨u, q2, ih (listed.setIfInBounds j true) _ hfree' ?_ (ready_mono hr (Ne.symm hji)) q3 ?_⟩
      · rw [q1, putD_some]; exact nmE_put hnm q1 q2
      · rw [Array.setIfInBounds_comm _ _ hji]
        exact q4
def freeV (l : List Oper) (pv : List Nat) (listed : Array Bool) (i : Nat) : Bool :=
  match l[i]? with
  | none => false
  | some oi => isV pv oi && (List.range l.length).all fun j =>
    j == i || listed.getD j true || match l[j]? with
      | none => true
      | some oj => oj.after.any (fun e => Region.binds .any e && e.on == i) || apV l pv oi oj
def permV (l : List Oper) (pv : List Nat) : List Nat → Array Bool → Bool
  | [], listed => (Region.ready .any l.toArray listed).isEmpty
  | i :: r, listed => (Region.ready .any l.toArray listed).contains i && freeV l pv listed i && permV l pv r (listed.setIfInBounds i true)
theorem freeV_spec {l : List Oper} {pv : List Nat} {listed : Array Bool} {i : Nat} {oi : Oper} (hi : l[i]? = some oi) (h : freeV l pv listed i = true) : isV pv oi = true ∧
    ∀ j oj, l[j]? = some oj → j ≠ i → listed.getD j true = false → (∀ e ∈ oj.after, Region.binds .any e = true → e.on ≠ i) → apV l pv oi oj = true := by
  unfold freeV at h
  rw [hi] at h
  simp only [Bool.and_eq_true, List.all_eq_true, List.mem_range, Bool.or_eq_true, beq_iff_eq] at h
  obtain ⟨h1, h2⟩ := h
  refine ⟨h1, fun j oj hj hne hun hno => ?_⟩
  have hlt : j < l.length := by
    rcases Nat.lt_or_ge j l.length with h | h
    · exact h
    · rw [List.getElem?_eq_none h] at hj; cases hj
  rcases h2 j hlt with (h3 | h3) | h3
  · exact absurd h3 hne
  · rw [hun] at h3; cases h3
  · rw [hj] at h3
    simp only [Bool.or_eq_true, Array.any_eq_true', Bool.and_eq_true, beq_iff_eq] at h3
    rcases h3 with ⟨e, he, hb, hon⟩ | h3
    · exact absurd hon (hno e he hb)
    · exact h3
def lexV (P : Program) (l : List Oper) (pv : List Nat) (k : Env → Prop) : List Oper → Env → Prop
  | [], ρ => k ρ
  | o :: os, ρ => ∃ d, valV P l pv ρ o d ∧ lexV P l pv k os (putD ρ (dstV pv o) d)
theorem anyV_perm {l : List Oper} {pv : List Nat} {k : Env → Prop} : ∀ (r : List Nat) (rs : List Oper) (listed : Array Bool) (ρ : Env), r.map (fun i => l[i]?) = rs.map some → permV l pv r listed = true → nmE pv ρ → lexV P l pv k rs ρ → anyV P l pv k r.length listed ρ
  | [], rs, _, _, hl, hB, _, h => by
    cases rs with
    | nil => exact ⟨by simpa [permV] using hB, h⟩
    | cons => simp at hl
  | i :: r, rs, listed, ρ, hl, hB, hnm, h => by
    cases rs with
    | nil => simp at hl
    | cons o rs =>
      simp only [List.map_cons, List.cons.injEq] at hl
      simp only [permV, Bool.and_eq_true] at hB
      obtain ⟨⟨hr, hf⟩, hB2⟩ := hB
      obtain ⟨hp, hfree⟩ := freeV_spec hl.1 hf
      obtain ⟨d, k1, k2⟩ := h
      obtain ⟨kd, hkd⟩ := isV_dst hp
      exact anyV_first hl.1 hp r.length listed ρ hfree hnm (by simpa using hr) k1 (anyV_perm r rs _ _ hl.2 hB2 (by rw [hkd, putD_some]; exact nmE_put hnm hkd k1) k2)
/-! ## Back to the elder form -/
theorem killS_nm {k : Nat} {d : DV} (h : nmD k d) : killS k d = d := by unfold killS; rw [if_pos h]
theorem anyV_E {l : List Oper} {pv : List Nat} {k : Env → Prop} (hr : regOk nt l = true) (hv : l.all (isV pv) = true) (hp : ∀ p ∈ pv, p < nt ∧ p < 100000) : ∀ (fuel : Nat) (listed : Array Bool) (ρ : Env), nmE pv ρ → anyV P l pv k fuel listed ρ → anyE P nt l k fuel listed ρ
  | 0, _, _, _, h => h
  | fuel + 1, listed, ρ, hnm, h => by
    refine ⟨h.1, fun i hi => ?_⟩
    have h2 := h.2 i hi
    unfold sV at h2
    unfold sE
    cases hl : l[i]? with
    | none => rw [hl] at h2; exact anyV_E hr hv hp fuel _ ρ hnm h2
    | some o =>
      rw [hl] at h2
      obtain ⟨d, k1, k2⟩ := h2
      have hvo := List.all_eq_true.1 hv o (List.mem_of_getElem? hl)
      obtain ⟨kd, hkd⟩ := isV_dst hvo
      have hrec : anyE P nt l k fuel (listed.setIfInBounds i true) (set ρ kd d) := by
        have := anyV_E hr hv hp fuel (listed.setIfInBounds i true) (putD ρ (dstV pv o) d) (by rw [hkd, putD_some]; exact nmE_put hnm hkd k1) k2
        rwa [hkd, putD_some] at this
      obtain ⟨ho1, ho2⟩ := regOk_get hr hl
      have k12 := k1.2
      simp only
      cases hpv : pvOp pv o with
      | none =>
        rw [hpv] at k12
        unfold isV at hvo
        rw [hpv] at hvo
        simp only [Option.isSome_none, Bool.false_or, Bool.and_eq_true] at hvo
        rw [if_pos (by rw [Bool.and_eq_true]; exact hvo.1)]
        have hd : o.dst = some kd := by unfold dstV at hkd; rw [hpv] at hkd; exact hkd
        exact ⟨d, effA_P k12, by rw [hd, putD_some]; exact hrec⟩
      | some p =>
        have hpk : p = kd := by unfold dstV at hkd; rw [hpv] at hkd; exact Option.some.inj hkd
        subst hpk
        obtain ⟨hg, hpm, hcase⟩ := pvOp_spec hpv
        obtain ⟨hp1, hp2⟩ := hp p hpm
        rw [hpv] at k12
        rcases hcase with ⟨t, hop, hdst⟩ | ⟨t, x, hop, hdst⟩
        · rw [if_neg (by rw [hop]; simp [pureOp])]
          simp only [hop] at k12
          obtain ⟨zs, hz, rfl⟩ := k12
          refine ow_alloc hop hg hdst hp1 hz ?_
          have : set (kill p ρ) p (.bx (zs.map .v)) = set ρ p (.bx (zs.map .v)) := by
            funext s
            rw [set_apply, set_apply]
            split
            · rfl
            · rename_i hs
              rw [kill_apply]
              split
              · exact killS_nm (hnm p hpm s hs)
              · rfl
          rw [this]
          exact hrec
        · rw [if_neg (by rw [hop]; simp [pureOp])]
          simp only [hop] at k12
          obtain ⟨n, cs, q1, q2, q3, q4, q5, q6, rfl⟩ := k12
          refine ow_store (s := p) (off := 0) (n := n) hop hg hdst ho1 (by rw [ev_tmp, q1]; rfl) q6 q2 q3 ?_
          rw [q1]
          refine ⟨q5, by omega, .inl hp2, ?_⟩
          rw [spl_eq (by omega), List.take_zero, List.nil_append, Nat.zero_add, List.drop_eq_nil_of_le (by omega), List.append_nil]
          exact hrec
/-! ## The walk that simp makes -/
def CallA (P : Program) (f : FuncId) (l : List DV) (k : DV → Prop) (_ : Tg k) : Prop := ∃ r, isOwn r = false ∧ (∀ O, PCall P O f l r) ∧ k r
@[congr] theorem CallA_congr {f : FuncId} {l l' : List DV} {k : DV → Prop} {t : Tg k} (h : l = l') : CallA P f l k t = CallA P f l' k t := by rw [h]
def pcA (P : Program) (d : Option Nat) (c : Option (FuncId × List DV)) (K : Env → Prop) (ρ : Env) : Prop :=
  match c, d with
  | some (fid, l), some k => hasBody P fid = true ∧ CallA P fid l (fun r => K (set ρ k r)) ⟨⟩
  | _, _ => False
def callV : Op → Option (Operand × List Operand)
  | .call ⟨.value f, args, _⟩ => some (f, args.toList)
  | _ => none
def pwVX (P : Program) (all : List Oper) (k : Env → Prop) : List Oper → Env → Prop
  | [], ρ => k ρ
  | o :: os, ρ => match o.guard with
    | none => (match callV o.op with
      | some (f, args) => dstFree ρ o.dst ∧ gd (ev ρ f) ∧ gdL ρ args ∧ pcA P o.dst (callee (un (ev ρ f)) (evL ρ args)) (pwVX P all k os) ρ
      | none => prG P ρ o.op o.dst (pwVX P all k os))
    | some (j, want) => (match callV o.op with
      | some _ => False
      | none => gdG P ρ o.op o.dst (gAt all ρ j want) (pwVX P all k os))
def pwV (P : Program) (all : List Oper) (k : Env → Prop) (l : List Oper) (_ : Tg (all, k, l)) (ρ : Env) : Prop := pwVX P all k l ρ
@[congr] theorem pwV_congr {all l : List Oper} {k : Env → Prop} {t : Tg (all, k, l)} {ρ ρ' : Env} (h : ρ = ρ') : pwV P all k l t ρ = pwV P all k l t ρ' := by rw [h]
section rules
variable (all os : List Oper) (k K : Env → Prop) (d : Option Tmp) (op : Op) (ty : TypeId) (pos : String) (af : Array Edge) (j : Nat) (want : Bool)
theorem pwV_nil : pwV P all k [] ⟨⟩ ρ = k ρ := rfl
theorem pwV_plain : pwV P all k (⟨d, op, ty, pos, af, none⟩ :: os) ⟨⟩ ρ = (match callV op with
      | some (f, args) => dstFree ρ d ∧ gd (ev ρ f) ∧ gdL ρ args ∧ pcA P d (callee (un (ev ρ f)) (evL ρ args)) (pwV P all k os ⟨⟩) ρ
      | none => prG P ρ op d (pwV P all k os ⟨⟩)) := rfl
theorem pwV_guard : pwV P all k (⟨d, op, ty, pos, af, some (j, want)⟩ :: os) ⟨⟩ ρ = (match callV op with
      | some _ => False
      | none => gdG P ρ op d (gAt all ρ j want) (pwV P all k os ⟨⟩)) := rfl
end rules
theorem prP_A {op : Op} {d : DV} (h : callV op = none) (hp : prP P ρ op d) : prA P ρ op d := by
  cases op with
  | call c =>
    obtain ⟨cl, args, ts⟩ := c
    cases cl with
    | value f => cases h
    | _ => exact hp
  | _ => exact hp
theorem effP_A {all : List Oper} {o : Oper} {d : DV} (h : callV o.op = none) (hp : effP P all ρ o d) : effA P all ρ o d := by
  obtain ⟨h1, h2, h3⟩ := hp
  refine ⟨h1, h2, ?_⟩
  cases hg : o.guard with
  | none => rw [hg] at h3; exact prP_A h h3
  | some jw =>
    obtain ⟨j, want⟩ := jw
    rw [hg] at h3
    obtain ⟨g, d', k1, k2, k3, k4⟩ := h3
    exact ⟨g, d', k1, k2, k3, fun q => prP_A h (k4 q)⟩
def nmF (pv S : List Nat) (ρ : Env) : Bool := pv.all fun p => S.all fun s => s == p || allK (fun t => t != p) (ρ s)
def alcT (P : Program) : List (Nat × TypeId × Nat) → (Env → Prop) → Env → Prop
  | [], K, ρ => K ρ
  | (p, t, _) :: r, K, ρ => match zcOf P t with
    | some zs => alcT P r K (set ρ p (.bx (zs.map .v)))
    | none => False
def stoT (P : Program) : List (Nat × TypeId × Nat) → (Env → Prop) → Env → Prop
  | [], K, ρ => K ρ
  | (p, t, x) :: r, K, ρ => match szOf P t, ρ p with
    | some n, .bx cs => 0 < n ∧ cs.length = n ∧ gd (ev ρ (.tmp x)) ∧ (cellsD (un (ev ρ (.tmp x)))).length = n ∧ stoT P r K (set ρ p (.bx (cellsD (un (ev ρ (.tmp x))))))
    | _, _ => False
def tailT (P : Program) (q : List (Nat × TypeId × Nat)) (K : Env → Prop) (ρ : Env) : Prop := alcT P q (stoT P q K) ρ
theorem alcT_nil {K : Env → Prop} : alcT P [] K ρ = K ρ := rfl
theorem alcT_cons {p : Nat} {t : TypeId} {x : Nat} {r : List (Nat × TypeId × Nat)} {K : Env → Prop} : alcT P ((p, t, x) :: r) K ρ = (match zcOf P t with
    | some zs => alcT P r K (set ρ p (.bx (zs.map .v)))
    | none => False) := rfl
theorem stoT_nil {K : Env → Prop} : stoT P [] K ρ = K ρ := rfl
theorem stoT_cons {p : Nat} {t : TypeId} {x : Nat} {r : List (Nat × TypeId × Nat)} {K : Env → Prop} : stoT P ((p, t, x) :: r) K ρ = (match szOf P t, ρ p with
    | some n, .bx cs => 0 < n ∧ cs.length = n ∧ gd (ev ρ (.tmp x)) ∧ (cellsD (un (ev ρ (.tmp x)))).length = n ∧ stoT P r K (set ρ p (.bx (cellsD (un (ev ρ (.tmp x))))))
    | _, _ => False) := rfl
def alOk (pv : List Nat) : List Oper → List (Nat × TypeId × Nat) → Bool
  | [], [] => true
  | a :: r, (p, t, x) :: q => a.guard.isNone && a.dst == some p && pv.contains p && (match a.op with | .alloc t' => t' == t | _ => false) && alOk pv r q
  | _, _ => false
def soOk (pv : List Nat) : List Oper → List (Nat × TypeId × Nat) → Bool
  | [], [] => true
  | b :: r, (p, t, x) :: q => b.guard.isNone && b.dst.isNone && pv.contains p && (match b.op with | .store t' (.tmp p') (.tmp y) => t' == t && p' == p && y == x && !pv.contains y | _ => false) && soOk pv r q
  | _, _ => false
theorem nm_cells {k : Nat} {d : DV} (h : nmD k d) : nmD k (.bx (cellsD d)) := by
  unfold nmD
  simp only [allK]
  cases d with
  | v x => cases x <;> rfl
  | agg cs => simpa [cellsD, nmD, allK] using h
  | any => rfl
  | sl z n f => rfl
  | tup cs => rfl
  | dp cs => rfl
  | bp s o => simpa [cellsD, nmD, allK, allKL] using h
  | own s n => simpa [cellsD, nmD, allK, allKL] using h
  | rp s z i o => simpa [cellsD, nmD, allK, allKL] using h
  | fn f a b => simpa [cellsD, nmD, allK, allKL] using h
  | iface t x => simpa [cellsD, nmD, allK, allKL] using h
  | cond g x => rfl
  | bx cs => rfl
  | row e z xs => rfl
  | mr s => rfl
  | ez => rfl
  | mo es => rfl
theorem alc_lex {l : List Oper} {pv : List Nat} {K K' : Env → Prop} {rest : List Oper} (hk : ∀ ρ', nmE pv ρ' → K' ρ' → lexV P l pv K rest ρ') : ∀ (as : List Oper) (q : List (Nat × TypeId × Nat)) (ρ : Env), alOk pv as q = true → nmE pv ρ → alcT P q K' ρ → lexV P l pv K (as ++ rest) ρ
  | [], [], ρ, _, hn, h => hk ρ hn h
  | [], _ :: _, _, hc, _, _ => by cases hc
  | _ :: _, [], _, hc, _, _ => by cases hc
  | a :: r, (p, t, x) :: q, ρ, hc, hnm, h => by
    simp only [alOk, Bool.and_eq_true, Option.isNone_iff_eq_none, beq_iff_eq] at hc
    obtain ⟨⟨⟨⟨ga, da⟩, hp⟩, oa⟩, hr⟩ := hc
    have hpm : p ∈ pv := by simpa using hp
    rw [alcT_cons] at h
    split at h
    · rename_i zs hzc
      split at oa
      · rename_i t' hopa
        have oa : t' = t := by simpa using oa
        subst oa
        have pva : pvOp pv a = some p := by unfold pvOp; rw [ga]; simp only [hopa, da]; rw [if_pos (by simpa using hpm)]
        have dva : dstV pv a = some p := by unfold dstV; rw [pva]
        have va : valV P l pv ρ a (.bx (zs.map .v)) := ⟨fun k _ _ => by unfold nmD; simp only [allK]; rw [allKL_iff]; intro d hd; obtain ⟨z, _, rfl⟩ := List.mem_map.1 hd; rfl, by rw [pva]; simp only [hopa]; exact ⟨zs, hzc, rfl⟩⟩
        refine ⟨_, va, ?_⟩
        rw [dva, putD_some]
        exact alc_lex hk r q _ hr (nmE_put hnm dva va) h
      · cases oa
    · cases h
theorem sto_lex {l : List Oper} {pv : List Nat} {K : Env → Prop} : ∀ (bs : List Oper) (q : List (Nat × TypeId × Nat)) (ρ : Env), soOk pv bs q = true → nmE pv ρ → stoT P q K ρ → lexV P l pv K bs ρ
  | [], [], ρ, _, hn, h => h
  | [], _ :: _, _, hc, _, _ => by cases hc
  | _ :: _, [], _, hc, _, _ => by cases hc
  | b :: r, (p, t, x) :: q, ρ, hc, hnm, h => by
    simp only [soOk, Bool.and_eq_true, Option.isNone_iff_eq_none, beq_iff_eq] at hc
    obtain ⟨⟨⟨⟨gb, db⟩, hp⟩, ob⟩, hr⟩ := hc
    have hpm : p ∈ pv := by simpa using hp
    rw [stoT_cons] at h
    split at h
    · rename_i n cs hsz hcs
      obtain ⟨h1, h2, h3, h4, h5⟩ := h
      split at ob
      · rename_i t2 p2 y hopb
        simp only [Bool.and_eq_true, beq_iff_eq, Bool.not_eq_true'] at ob
        obtain ⟨⟨⟨rfl, rfl⟩, rfl⟩, hyc⟩ := ob
        have hyk : ∀ k ∈ pv, (Operand.tmp y) ≠ .tmp k := fun k hk e => by
          cases e
          rw [List.contains_iff_mem.2 hk] at hyc
          cases hyc
        have pvb : pvOp pv b = some p2 := by unfold pvOp; rw [gb]; simp only [hopb, db]; rw [if_pos (by simpa using hpm)]
        have dvb : dstV pv b = some p2 := by unfold dstV; rw [pvb]
        have vb' : valV P l pv ρ b (.bx (cellsD (un (ev ρ (.tmp y))))) := by
          refine ⟨fun k hk hne => nm_cells (nm_ev (hnm k hk) (hyk k hk)), ?_⟩
          rw [pvb]
          simp only [hopb]
          exact ⟨n, cs, hcs, hsz, h1, h2, h4, h3, by first | rfl | trivial⟩
        refine ⟨_, vb', ?_⟩
        rw [dvb, putD_some]
        exact sto_lex r q _ hr (nmE_put hnm dvb vb') h5
      · cases ob
    · cases h
theorem prV_eff {all : List Oper} {o : Oper} {f : Operand} {args : List Operand} {K : Env → Prop} (hg : o.guard = none) (hc : callV o.op = some (f, args)) (h : dstFree ρ o.dst ∧ gd (ev ρ f) ∧ gdL ρ args ∧ pcA P o.dst (callee (un (ev ρ f)) (evL ρ args)) K ρ) : ∃ d, effA P all ρ o d ∧ K (putD ρ o.dst d) := by
  obtain ⟨h1, h2, h3, h4⟩ := h
  unfold pcA at h4
  split at h4
  · rename_i fid l kd hcal hdst
    obtain ⟨hb, r, k1, k2, k3⟩ := h4
    refine ⟨r, ⟨k1, fun k hk => ?_, ?_⟩, by rw [hdst, putD_some]; exact k3⟩
    · rw [hk] at h1; exact h1
    · rw [hg]
      unfold callV at hc
      split at hc <;> cases hc
      rename_i args' ts hop
      rw [hop]
      exact ⟨h2, h3, fid, l, hcal, hb, k2⟩
  · exact h4.elim
def lexN (P : Program) (l : List Oper) (k : Env → Prop) : List Oper → Env → Prop
  | [], ρ => k ρ
  | o :: os, ρ => ∃ d, effA P l ρ o d ∧ lexN P l k os (putD ρ o.dst d)
theorem pwV_N {all : List Oper} {k : Env → Prop} : ∀ (l : List Oper) (ρ : Env), (∀ o ∈ l, (pureOp o.op && o.dst.isSome) = true) → pwVX P all k l ρ → lexN P all k l ρ
  | [], ρ, _, h => h
  | o :: l, ρ, hp, h => by
    have hrec := fun ρ' => pwV_N (all := all) (k := k) l ρ' fun o' ho => hp o' (by simp [ho])
    unfold pwVX at h
    unfold lexN
    split at h
    · rename_i hg
      split at h
      · rename_i f args hc
        obtain ⟨d, k1, k2⟩ := prV_eff (all := all) hg hc h
        exact ⟨d, k1, hrec _ k2⟩
      · rename_i hc
        obtain ⟨d, k1, k2⟩ := prG_eff (all := all) hg h
        exact ⟨d, effP_A hc k1, hrec _ k2⟩
    · rename_i j want hg
      split at h
      · exact h.elim
      · rename_i hc
        obtain ⟨d, k1, k2⟩ := gdG_eff hg (hp o (by simp)) h
        exact ⟨d, effP_A hc k1, hrec _ k2⟩
def dstsOk (pv S : List Nat) : List Oper → List Nat → Bool
  | [], _ => true
  | o :: l, seen => (match o.dst with | some d => !seen.contains d && S.contains d && !pv.contains d | none => false) && (pvOp pv o).isNone && dstsOk pv S l ((o.dst.toList) ++ seen)
theorem lexN_keep {all : List Oper} {pv S : List Nat} {k : Env → Prop} : ∀ (l : List Oper) (seen : List Nat) (ρ : Env), dstsOk pv S l seen = true → lexN P all k l ρ → ∃ ρf, k ρf ∧ ∀ s ∈ seen, ρf s = ρ s
  | [], _, ρ, _, h => ⟨ρ, h, fun _ _ => rfl⟩
  | o :: l, seen, ρ, hd, h => by
    obtain ⟨d, _, h2⟩ := h
    simp only [dstsOk, Bool.and_eq_true] at hd
    obtain ⟨⟨h3, _⟩, h4⟩ := hd
    split at h3
    · rename_i q hq
      simp only [Bool.and_eq_true, Bool.not_eq_true'] at h3
      obtain ⟨ρf, k1, k2⟩ := lexN_keep l _ _ h4 h2
      refine ⟨ρf, k1, fun s hs => ?_⟩
      rw [k2 s (by simp [hs]), hq, putD_some, set_apply, if_neg]
      intro e
      subst e
      rw [List.contains_iff_mem.2 hs] at h3
      cases h3.1.1
    · cases h3
theorem lexN_V {all : List Oper} {pv S : List Nat} {q : List (Nat × TypeId × Nat)} {as bs : List Oper} {K : Env → Prop} (hal : alOk pv as q = true) (hso : soOk pv bs q = true) : ∀ (l : List Oper) (seen : List Nat) (ρ : Env), dstsOk pv S l seen = true → nmE pv ρ →
    lexN P all (fun ρ' => nmF pv S ρ' = true ∧ tailT P q K ρ') l ρ → lexV P all pv K (l ++ (as ++ bs)) ρ
  | [], _, ρ, _, hnm, h => alc_lex (fun ρ' hn hk => sto_lex bs q ρ' hso hn hk) as q ρ hal hnm h.2
  | o :: l, seen, ρ, hd, hnm, h => by
    obtain ⟨d, h1, h2⟩ := h
    have hd0 := hd
    simp only [dstsOk, Bool.and_eq_true] at hd
    obtain ⟨⟨h3, h5⟩, h4⟩ := hd
    have hpn : pvOp pv o = none := by simpa using h5
    split at h3
    · rename_i qd hq
      simp only [Bool.and_eq_true, Bool.not_eq_true'] at h3
      obtain ⟨ρf, k1, k2⟩ := lexN_keep (S := S) l _ _ h4 h2
      have hval : ρf qd = d := by rw [k2 qd (by simp [hq]), hq, putD_some, set_apply, if_pos rfl]
      have hnd : ∀ p ∈ pv, nmD p d := fun p hp => by
        have := k1.1
        unfold nmF at this
        rw [List.all_eq_true] at this
        have := List.all_eq_true.1 (this p hp) qd (List.contains_iff_mem.1 h3.1.2)
        rw [Bool.or_eq_true, hval] at this
        rcases this with e | e
        · have e : qd = p := by simpa using e
          subst e
          rw [List.contains_iff_mem.2 hp] at h3
          cases h3.2
        · exact e
      have hdv : dstV pv o = some qd := by unfold dstV; rw [hpn]; exact hq
      have hv : valV P all pv ρ o d := ⟨fun p hp _ => hnd p hp, by rw [hpn]; exact h1⟩
      refine ⟨d, hv, ?_⟩
      rw [hdv, putD_some]
      rw [hq, putD_some] at h2
      exact lexN_V hal hso l _ _ h4 (nmE_put hnm hdv hv) h2
    · cases h3
def chkV (nt : Nat) (l : List Oper) (pv S r : List Nat) (l1 as bs : List Oper) (q : List (Nat × TypeId × Nat)) : Bool :=
  regOk2 nt l && l.all (isV pv) && pv.all (fun p => decide (p < nt) && decide (p < 100000)) && permV l pv r (Array.replicate l.length false) && decide (r.length = l.length) && alOk pv as q && soOk pv bs q && dstsOk pv S l1 [] && l1.all (fun o => pureOp o.op && o.dst.isSome)
def ptA (l : List Oper) (r1 : List Nat) : List Oper := r1.filterMap fun i => l[i]?
theorem keepC_out : ∀ {L : List Nat} {ρ : Env} {s : Nat}, s < 100000 → s ∉ L → keepC L ρ s = .any
  | [], ρ, s, h, _ => by rw [keepC_nil]; unfold hi; rw [if_pos h]
  | l :: L, ρ, s, h, hn => by
    rw [keepC_cons, set_apply, if_neg (fun e => hn (by simp [e]))]
    exact keepC_out h fun q => hn (by simp [q])
theorem aw_regV (L pv S r1 : List Nat) (ra rb : List Nat) (q : List (Nat × TypeId × Nat)) {id : Nat} {l : List Oper} {Q : Exit → Env → Prop} (hm : P.follows .mixedOrders = true)
    (hr : (chkV nt l pv S (r1 ++ (ra ++ rb)) (ptA l r1) (ptA l ra) (ptA l rb) q) = true) (hl : (r1 ++ (ra ++ rb)).map (fun i => l[i]?) = (ptA l r1 ++ (ptA l ra ++ ptA l rb)).map some)
    (hn : nmF pv L (keepC L ρ) = true) {l1 : List Oper} (hl1 : ptA l r1 = l1) (h : pwV P l (fun ρ' => nmF pv S ρ' = true ∧ tailT P q (Q .normal) ρ') l1 ⟨⟩ (keepC L ρ)) : AW P nt (.region id l.toArray true) Q ρ := by
  subst hl1
  simp only [chkV, Bool.and_eq_true, beq_iff_eq, decide_eq_true_eq, List.all_eq_true, Bool.not_eq_true'] at hr
  obtain ⟨⟨⟨⟨⟨⟨⟨⟨h1, h2⟩, h3⟩, h4⟩, h5⟩, h6⟩, h6'⟩, h7⟩, h8⟩ := hr
  simp only [regOk2, Bool.and_eq_true] at h1
  refine aw_weaken (Le.keepC L ρ) fun ro ds I A a w hs hd => wpIn_region_any hm ?_
  have hnm : nmE pv (keepC L ρ) := fun p hp s hsp => by
    rcases Nat.lt_or_ge s 100000 with hlt | hge
    · by_cases hsL : s ∈ L
      · unfold nmF at hn
        have := List.all_eq_true.1 (List.all_eq_true.1 hn p hp) s hsL
        rw [Bool.or_eq_true] at this
        rcases this with e | e
        · exact absurd (by simpa using e) hsp
        · exact e
      · rw [keepC_out hlt hsL]; rfl
    · exact isOut_ne (hs.out s hge) (h3 p hp).2
  have hN := pwV_N (all := l) (ptA l r1) (keepC L ρ) (fun o ho => by rw [Bool.and_eq_true]; exact h8 o ho) h
  have hV := lexN_V (all := l) (S := S) h6 h6' (ptA l r1) [] (keepC L ρ) h7 hnm hN
  have hA := anyV_perm (P := P) (r1 ++ (ra ++ rb)) (ptA l r1 ++ (ptA l ra ++ ptA l rb)) (Array.replicate l.length false) (keepC L ρ) hl h4 hnm hV
  rw [h5] at hA
  have hE := anyV_E (nt := nt) h1.1 (List.all_eq_true.2 h2) h3 l.length _ _ hnm hA
  have hgr : Grow w I w.drew I := ⟨rfl, ⟨rfl, Nat.le_succ _⟩, rfl, Nat.le_refl _, fun _ _ => rfl, fun _ h => h, fun _ h => .inl h⟩
  have := any_sound (ro := ro) (Q' := fun e a' w' => ∃ I' A' ρ', Sim nt w' I' A' ρ' a' ∧ a'.defers = ds ∧ Ext w I A w' I' A' ∧ Q e ρ') h1.1 _ _ _ I A a w.drew hE (hs.grow hgr) hd
    fun I' A' a' w' ρ' q1 q2 q3 q4 => ⟨I', A', ρ', q1, q2, (hgr.ext hs.osim).trans q3, q4⟩
  simpa using this
end
attribute [go_sem] pwV_nil pwV_plain pwV_guard callV pcA tailT alcT_nil alcT_cons stoT_nil stoT_cons
end Go.Sg
set_option linter.unusedVariables false
set_option linter.unusedSimpArgs false
namespace Go.Sg
open Go.RowKit
open Go.Rv (FR)
section
variable {P : Program} {nt : Nat} {ρ : Env} {w : World} {I : Nat → Prop} {A : Own}
theorem Sim.frzB {a : Act} (hs : Sim nt w I A ρ a) {s : Nat} (hlt : s < 100000) {cs : List DV} (h : ρ s = .bx cs) (hp : allKL (fun _ => false) cs = true) :
    ∃ I' A', Sim nt w I' A' (set (kill s ρ) s (.dp cs)) a ∧ Ext w I A w I' A' := by
  have ho := hs.osim.own s
  have hsl := hs.slot s
  rw [h] at ho hsl
  obtain ⟨g, c, us, et, h1, h2, h3, h4, h5⟩ := ho
  have hd := hs.disown hlt
  have hm : ∀ g', I g' → (I g' ∨ g' = g) := fun g' hg => .inl hg
  have hmono : ∀ (B' : Own) d x, Rel w I B' d x → Rel w (fun g' => I g' ∨ g' = g) B' d x := fun B' d x hr => hr.mono fun g' hg => ⟨hm g' hg, fun _ => rfl⟩
  have hB : g < w.heap.size := (hs.osim.sep s g c h1).1
  refine ⟨fun g' => I g' ∨ g' = g, upd A s none, ⟨⟨fun t => ?_, hd.osim.inj, fun t g' c' hA => ⟨(hd.osim.sep t g' c' hA).1, fun hi => hi.elim (hd.osim.sep t g' c' hA).2 fun hb => ?_⟩, hs.osim.imm.step (fun g' hg => hg.elim (hs.osim.imm g') fun e => e ▸ hB) fun g' hg => ⟨.inl hg, rfl⟩⟩, hs.size, hs.bound, fun i hi => ?_, fun t ht => ?_⟩,
    ⟨rfl, ⟨rfl, Nat.le_refl _⟩, rfl, Nat.le_refl _, hm, fun g' hg hA => ⟨rfl, fun hi => hi.elim id fun hb => absurd h1 (by rw [← hb]; exact hA s c), fun t c' ht => ?_⟩, fun t g' c' hA _ ht => ⟨t, c', ht, ?_⟩, fun t ht => upd_ne A _ (by omega)⟩⟩
  · have := (hd.osim.own t).keep (I' := fun g' => I g' ∨ g' = g) (fun _ _ _ => rfl) hmono
    unfold set at this ⊢
    split
    · trivial
    · rename_i hne; rw [if_neg hne] at this; exact this
  · unfold upd at hA
    split at hA
    · cases hA
    · rename_i hne
      subst hb
      exact hne (hs.osim.inj t s g' c' c hA h1)
  · by_cases hi' : i = s
    · subst hi'
      obtain ⟨g', c', q1, q2⟩ := hsl hi
      rw [h1] at q1
      simp only [Option.some.injEq, Prod.mk.injEq] at q1
      obtain ⟨rfl, rfl⟩ := q1
      rw [set_apply, if_pos rfl, q2]
      have hcell : ∀ j, j < cs.length → us[j]? = some (us.getD j undef) := fun j hj => by
        rw [Array.getD_eq_getD_getElem?, Array.getElem?_eq_getElem (by omega)]; rfl
      refine .ofRel (.dp _ cs g 0 (fun j => us.getD j undef) (.inr rfl) (fun j hj => ?_) (fun j hj => ?_) fun j d hd => ?_)
      · rw [Nat.zero_add, show w.cell? ⟨g, j, none⟩ = us[j]? by simp [World.cell?, h2]]
        exact hcell j hj
      · exact h4 _ (by
          have := hcell j hj
          rw [← Array.getElem?_toList] at this
          exact List.mem_of_getElem? this)
      · have hj : j < cs.length := by
          rcases Nat.lt_or_ge j cs.length with h | h
          · exact h
          · rw [List.getElem?_eq_none h] at hd; cases hd
        exact (hmono _ _ _ (h5 j d _ hd (hcell j hj))).pure (allKL_get hp hd)
    · have := (hd.slot i hi).keep (I' := fun g' => I g' ∨ g' = g) hmono
      rw [set_apply, if_neg hi'] at this ⊢
      exact this
  · have := hd.out t ht
    rw [set_apply, if_neg (by omega)] at this ⊢
    exact this
  · unfold upd at ht
    split at ht
    · cases ht
    · exact hA t c' ht
  · unfold upd at hA
    split at hA
    · cases hA
    · exact hA
theorem aw_frzB (s : Nat) (hlt : (decide (s < 100000)) = true) {cs : List DV} {c : Code} {Q : Exit → Env → Prop} (h : ρ s = .bx cs) (hp : allKL (fun _ => false) cs = true) (k : AW P nt c Q (set (kill s ρ) s (.dp cs))) : AW P nt c Q ρ :=
  fun ro ds I A a w hw hd => by
    obtain ⟨I', A', h1, h2⟩ := hw.frzB (of_decide_eq_true hlt) h hp
    exact wpIn_mono (k ro ds I' A' a w h1 hd) fun _ _ _ ⟨I2, A2, ρ2, k1, k2, k3, k4⟩ => ⟨I2, A2, ρ2, k1, k2, h2.trans k3, k4⟩
theorem Sim.frzO {a : Act} (hs : Sim nt w I A ρ a) {s t j : Nat} (hlt : s < 100000) (hts : t ≠ s) (htl : t < 100000) {e : TypeId} {z : Nat} {xs : List (List DV)} {cs : List DV} (h : ρ s = .row e z xs) (hb : ρ t = .bx cs) (hj : cs[j]? = some (.own s xs.length)) :
    ∃ I' A', Sim nt w I' A' (set (set (kill s ρ) s (Sg.frz z xs)) t (.bx ((cs.map (killD s)).set j (Sg.frz z xs)))) a ∧ Ext w I A w I' A' := by
  have ho := hs.osim.own s
  have hot := hs.osim.own t
  have hsl := hs.slot s
  have hst := hs.slot t
  rw [h] at ho hsl
  rw [hb] at hot hst
  obtain ⟨B, c, h1, h2⟩ := ho
  have hd := hs.disown hlt
  have hm : ∀ g, I g → (I g ∨ B = some g) := fun g hg => .inl hg
  have hmono : ∀ (B' : Own) d x, Rel w I B' d x → Rel w (fun g => I g ∨ B = some g) B' d x := fun B' d x hr => hr.mono fun g hg => ⟨hm g hg, fun _ => rfl⟩
  have hB : ∀ g, B = some g → g < w.heap.size := fun g hg => (hs.osim.sep s g c (by rw [h1, hg])).1
  refine ⟨fun g => I g ∨ B = some g, upd A s none, ⟨⟨fun t' => ?_, hd.osim.inj, fun t' g c' hA => ⟨(hd.osim.sep t' g c' hA).1, fun hi => hi.elim (hd.osim.sep t' g c' hA).2 fun hb => ?_⟩, hs.osim.imm.step (fun g hg => hg.elim (hs.osim.imm g) (hB g)) fun g hg => ⟨.inl hg, rfl⟩⟩, hs.size, hs.bound, fun i hi => ?_, fun t' ht => ?_⟩,
    ⟨rfl, ⟨rfl, Nat.le_refl _⟩, rfl, Nat.le_refl _, hm, fun g hg hA => ⟨rfl, fun hi => hi.elim id fun hb => absurd h1 (by rw [hb]; exact hA s c), fun t' c' ht => ?_⟩, fun t' g c' hA _ ht => ⟨t', c', ht, ?_⟩, fun t' ht => upd_ne A _ (by omega)⟩⟩
  · by_cases e1 : t' = t
    · subst e1
      rw [set_apply, if_pos rfl]
      obtain ⟨g, c1, us, et, q1, q2, q3, q4, q5⟩ := hot
      refine ⟨g, c1, us, et, (upd_ne A _ hts).trans q1, q2, by rw [q3]; simp, q4, fun j' d u hd' hu => ?_⟩
      rw [List.getElem?_set] at hd'
      split at hd'
      · rename_i e2
        subst e2
        split at hd'
        · cases hd'
          have := q5 j _ u hj hu
          cases this with
          | own _ _ _ B' c' b hA' hbb =>
            rw [h1] at hA'
            simp only [Option.some.injEq, Prod.mk.injEq] at hA'
            obtain ⟨rfl, rfl⟩ := hA'
            exact h2.frz (fun g hg => .inr hg) hm hbb
        · cases hd'
      · rw [List.getElem?_map, Option.map_eq_some_iff] at hd'
        obtain ⟨d0, k1, k2⟩ := hd'
        subst k2
        have r0 := q5 j' d0 u k1 hu
        unfold killD
        split
        · rename_i hall
          refine hmono _ _ _ (r0.congrA (fun x => x != s) hall fun x hx => ?_)
          exact upd_ne A _ (by simpa using hx)
        · exact .any _ _
    · have := (hd.osim.own t').keep (I' := fun g => I g ∨ B = some g) (fun _ _ _ => rfl) hmono
      rw [set_apply, if_neg e1]
      unfold set at this ⊢
      split
      · trivial
      · rename_i hne; rw [if_neg hne] at this; exact this
  · unfold upd at hA
    split at hA
    · cases hA
    · rename_i hne
      exact hne (hs.osim.inj t' s g c' c hA (by rw [h1, hb]))
  · by_cases e1 : i = t
    · subst e1
      rw [set_apply, if_pos rfl]
      obtain ⟨g, c1, q1, q2⟩ := hst hi
      exact ⟨g, c1, (upd_ne A _ hts).trans q1, q2⟩
    · rw [set_apply, if_neg e1]
      by_cases hi' : i = s
      · subst hi'
        obtain ⟨B', c', q1, b, hb', q2⟩ := hsl hi
        rw [h1] at q1
        simp only [Option.some.injEq, Prod.mk.injEq] at q1
        obtain ⟨rfl, rfl⟩ := q1
        rw [set_apply, if_pos rfl, q2]
        exact h2.frz (fun g hg => .inr hg) hm hb'
      · have := (hd.slot i hi).keep (I' := fun g => I g ∨ B = some g) hmono
        rw [set_apply, if_neg hi'] at this ⊢
        exact this
  · have := hd.out t' ht
    rw [set_apply, if_neg (by omega), set_apply, if_neg (by omega)]
    rw [set_apply, if_neg (by omega)] at this
    exact this
  · unfold upd at ht
    split at ht
    · cases ht
    · exact hA t' c' ht
  · unfold upd at hA
    split at hA
    · cases hA
    · exact hA
theorem aw_frzO (s t j : Nat) (hlt : (decide (s < 100000) && decide (t < 100000) && t != s) = true) {e : TypeId} {z : Nat} {xs : List (List DV)} {cs : List DV} {c : Code} {Q : Exit → Env → Prop} (h : ρ s = .row e z xs) (hb : ρ t = .bx cs) (hj : cs[j]? = some (.own s xs.length))
    (k : AW P nt c Q (set (set (kill s ρ) s (Sg.frz z xs)) t (.bx ((cs.map (killD s)).set j (Sg.frz z xs))))) : AW P nt c Q ρ :=
  fun ro ds I A a w hw hd => by
    simp only [Bool.and_eq_true, decide_eq_true_eq, bne_iff_ne] at hlt
    obtain ⟨I', A', h1, h2⟩ := hw.frzO hlt.1.1 hlt.2 hlt.1.2 h hb hj
    exact wpIn_mono (k ro ds I' A' a w h1 hd) fun _ _ _ ⟨I2, A2, ρ2, k1, k2, k3, k4⟩ => ⟨I2, A2, ρ2, k1, k2, h2.trans k3, k4⟩
theorem pcall_wk1 {O : Env} {f : FuncId} {d d' r : DV} (h : RWk d d') (hc : PCall P O f [d'] r) : PCall P O f [d] r :=
  fun w I A vals h1 h2 h3 => hc w I A vals h1 h2 fun j x u hx hu => by
    cases j with
    | zero => simp at hx; subst hx; exact h _ _ _ _ (h3 0 d u rfl hu)
    | succ j => simp at hx
theorem run_append_roomS {w : World} {t ty e : TypeId} {i : TypeInfo} (ht : P.underlying t = some (.slice e)) (hi : P.info? e = some i)
    {g sLen sCap : Nat} {cur : Array Value} {e2 : TypeId} (hg : w.heap[g]? = some (.cells cur e2 (0, 0)))
    {a : Addr} {m c : Nat} {news : List Value} (hl : news.length = m * i.size) (hnews : ∀ j u, news[j]? = some u → w.cell? (a.add j) = some u) (h1 : ∀ u ∈ news, u.oneCell' = true)
    (hroom : sLen + m ≤ sCap) (hfit : sLen * i.size + news.length ≤ cur.size) :
    (Builtin.append_ #[t, t] ty #[.slice (some ⟨g, 0, none⟩) sLen sCap, .slice (some a) m c]).run P w =
      .ok (.slice (some ⟨g, 0, none⟩) (sLen + m) sCap) (w.setRow g (cur.toList.take (sLen * i.size) ++ news ++ cur.toList.drop (sLen * i.size + news.length)).toArray) := by
  have hf := run_firstCells_some (P := P) w i.size m a m c news hl hnews
  have hst := run_storeCells_at P g (sLen * i.size) e2 news 0 cur w hg (by simpa using hfit) h1
  simp only [Nat.add_zero] at hst
  simp [Builtin.append_, run_underlying ht, sizeOf, typeInfo, hi, Builtin.lenOf, hroom, hf, Addr.add_lit, hst]
theorem ow_appG1 {ops : Array Oper} {o : Oper} {K : Env → Prop} {t : TypeId} {x y : Operand} {d s n : Nat} {e : TypeId} {by_ : Nat} {xs : List (List DV)} (hop : o.op = .call ⟨.builtin .append, #[x, y], #[t, t]⟩) (hg : o.guard = none) (hdst : o.dst = some d) (hd : d < nt)
    (ho : opsOk nt o = true) (hx : ev ρ x = .own s n) (hρ : ρ s = .row e 1 xs) (hn : n < xs.length) (hy : gd (ev ρ y)) (hsl : slE P t = some (e, 1, by_))
    (hsrc : srcOk ρ 1 (un (ev ρ y))) {q : List DV} (hq : srcL ρ (un (ev ρ y)) = [q])
    (hK : K (set (set ρ s (.row e 1 (xs.set n q))) d (.own s (n + 1)))) : OW P nt ops o K ρ := by
  refine ow_val hg fun I A a w hsim => ?_
  have hxr := hsim.opd x (opsOk_mem ho (by simp [hop, Op.operands, Call.operands])) (by rw [hx]; trivial)
  rw [hx] at hxr
  have hxr : Rel w I A (.own s n) (a.eval x) := hxr
  have hyr := hsim.opd y (opsOk_mem ho (by simp [hop, Op.operands, Call.operands])) hy
  obtain ⟨b, m, c, hye, hsl', hsrc'⟩ := src_ok hsim hyr hsrc
  rw [hq] at hsl' hsrc'
  obtain rfl : m = 1 := by simpa using hsl'.symm
  generalize hxe : a.eval x = v at hxr
  have hown := hsim.osim.own s
  rw [hρ] at hown
  obtain ⟨B, cc, hA, hrow⟩ := hown
  obtain ⟨hu, i, hi, hz1, _⟩ := slE_spec hsl
  cases hxr with
  | own _ _ _ B' c' b' hA' hb' =>
    rw [hA] at hA'
    simp only [Option.some.injEq, Prod.mk.injEq] at hA'
    obtain ⟨rfl, rfl⟩ := hA'
    cases B with
    | none => obtain ⟨rfl, rfl⟩ := hrow; simp at hn
    | some g =>
      obtain rfl := baseOk_some hb'
      obtain ⟨us, q1, q2, q3, q4, q5⟩ := hrow
      rcases hsrc' with ⟨_, h⟩ | ⟨ad, news, rfl, h1, h2, h3, h4⟩
      · omega
      · obtain ⟨u0, rfl⟩ : ∃ u0, news = [u0] := by
          match news, h1 with
          | [u0], _ => exact ⟨u0, rfl⟩
        have hrun := run_append_roomS (P := P) (ty := o.type) hu hi q1 (sLen := n) (sCap := cc) (m := 1) (c := c) (news := [u0]) (by simp [hz1]) h2 h3 (by omega) (by rw [q2, hz1]; simp; omega)
        rw [hz1] at hrun
        simp only [Nat.mul_one, List.length_singleton] at hrun
        generalize hnew : (us.toList.take n ++ [u0] ++ us.toList.drop (n + 1)).toArray = new at hrun
        have hus : us.size = cc := by rw [q2]; omega
        have hI : ∀ {B : Own} {d : DV} {v : Value}, Rel w I B d v → Rel (w.setRow g new) I B d v := fun hr =>
          hr.mono fun g' hg' => ⟨hg', fun o => cell_of_heap (setRow_other w g g' _ (fun e => (hsim.osim.sep s g cc hA).2 (e ▸ hg'))) o⟩
        have hget : ∀ j, new[j]? = if j = n then some u0 else us[j]? := fun j => by
          subst hnew
          simp only [List.append_assoc, List.getElem?_toArray, List.getElem?_append, List.length_take, Array.length_toList, Nat.min_eq_left (show n ≤ us.size by omega), List.length_singleton]
          by_cases e1 : j < n
          · rw [if_pos e1, if_neg (by omega), List.getElem?_take, if_pos e1, Array.getElem?_toList]
          · rw [if_neg e1]
            by_cases e2 : j = n
            · subst e2; rw [if_pos rfl, if_pos (by omega)]; simp
            · rw [if_neg e2, if_neg (by omega), List.getElem?_drop, Array.getElem?_toList]; congr 1; omega
        refine ⟨.slice (some ⟨g, 0, none⟩) (n + 1) cc, w.setRow g new, I, A, _, ?_, ?_, Ext.turn hA new, hK⟩
        · simp only [execOp, hop, resolve, Sem.run_bind, Sem.run_pure, Result.andThen_ok, invoke, builtin, List.map_toArray, List.map_cons, List.map_nil, hxe, hye]
          rw [hrun]
          rfl
        · rw [hdst]
          refine (hsim.turn hA q1 (us := new) (v := .row e 1 (xs.set n q)) (fun v hv => ?_) ?_ fun _ => rfl).put hd (.ofRel (.own A s (n + 1) (some g) cc _ hA (baseOk_mk _))) trivial
          · rw [hρ] at hv
            obtain ⟨B2, c2, r1, b2, r2, r3⟩ := hv
            exact ⟨B2, c2, r1, b2, r2, by rw [r3, List.length_set]⟩
          · refine ⟨some g, cc, hA, new, setRow_heap w g us _ e _ q1, ?_, q3, by rw [List.length_set]; exact q4, fun k y hk => ?_⟩
            · subst hnew; simp; omega
            · by_cases e1 : n = k
              · subst e1
                rw [List.getElem?_set_self hn] at hk
                cases hk
                obtain ⟨r1, r2⟩ := h4 0 q (by simp)
                refine ⟨r1, fun j d' u hd' hu' => ?_⟩
                have hj : j < 1 := by
                  rw [← r1]
                  rcases Nat.lt_or_ge j q.length with h | h
                  · exact h
                  · rw [List.getElem?_eq_none h] at hd'; cases hd'
                obtain rfl : j = 0 := by omega
                rw [hget, if_pos (by omega)] at hu'
                cases hu'
                exact ⟨h3 u0 (by simp), hI (r2 0 d' u0 hd' (by simp))⟩
              · rw [List.getElem?_set_ne e1] at hk
                obtain ⟨r1, r2⟩ := q5 k y hk
                refine ⟨r1, fun j d' u hd' hu' => ?_⟩
                have hj : j < 1 := by
                  rw [← r1]
                  rcases Nat.lt_or_ge j y.length with h | h
                  · exact h
                  · rw [List.getElem?_eq_none h] at hd'; cases hd'
                rw [hget, if_neg (by omega)] at hu'
                exact ⟨(r2 j d' u hd' hu').1, hI (r2 j d' u hd' hu').2⟩
theorem Sim.ghost {a : Act} (hs : Sim nt w I A ρ a) {d : Nat} (hd : nt ≤ d) (hd2 : d < 100000) {B : Option Nat} {c : Nat} {v : DV}
    (hB : ∀ g, B = some g → g < w.heap.size ∧ ¬ I g ∧ ∀ s c', A s ≠ some (some g, c')) (ho : OwnRel w I (upd A d (some (B, c))) d v) :
    Sim nt w I (upd A d (some (B, c))) (set (kill d ρ) d v) a where
  osim := by
    have hA : ∀ t, t ≠ d → upd A d (some (B, c)) t = A t := fun t h => upd_ne A _ h
    refine ⟨fun s => ?_, fun s t g c1 c2 h1 h2 => ?_, fun s g c1 h1 => ?_, hs.osim.imm⟩
    · unfold set; split
      · rename_i h; rw [h]; exact ho
      · rename_i h; rw [kill_eq hd2 (hs.out s)]; exact (hs.osim.own s).reown h hA
    · unfold upd at h1 h2
      split at h1 <;> split at h2
      · simp_all
      · simp only [Option.some.injEq, Prod.mk.injEq] at h1
        exact absurd h2 ((hB g h1.1).2.2 t c2)
      · simp only [Option.some.injEq, Prod.mk.injEq] at h2
        exact absurd h1 ((hB g h2.1).2.2 s c1)
      · exact hs.osim.inj s t g c1 c2 h1 h2
    · unfold upd at h1
      split at h1
      · simp only [Option.some.injEq, Prod.mk.injEq] at h1
        exact ⟨(hB g h1.1).1, (hB g h1.1).2.1⟩
      · exact hs.osim.sep s g c1 h1
  size := hs.size
  bound := hs.bound
  slot := fun i hi => by
    unfold set
    rw [if_neg (by omega), kill_eq hd2 (hs.out i)]
    exact (hs.slot i hi).reown (by omega) fun t ht => upd_ne A _ ht
  out := fun s h => by
    unfold set
    rw [if_neg (by omega), kill_eq hd2 (hs.out s)]
    exact isOut_kill (hs.out s h)
theorem ow_mkG {ops : Array Oper} {o : Oper} {gh : Nat} {K : Env → Prop} {t : TypeId} {x y : Operand} {d : Nat} {e : TypeId} {z by_ : Nat} {zs : List Value} {k k' : IntKind} {n c : Int} (hop : o.op = .makeSlice t x y) (hg : o.guard = none) (hdst : o.dst = some d) (hd : d < nt) (hg1 : nt ≤ gh) (hg2 : gh < 100000)
    (ho : opsOk nt o = true) (hx : ev ρ x = .v (.int k n)) (hn0 : n = 0) (hy : ev ρ y = .v (.int k' c)) (hs : slE P t = some (e, z, by_)) (hz : zcOf P e = some zs) (hzl : zs.length = z) (h0 : 0 ≤ n) (h1 : n ≤ c) (h2 : c ≤ 9223372036854775807)
    (h3 : c * by_ ≤ 140737488355328) (hK : K (set (set (kill gh ρ) gh (.row e z (List.replicate c.toNat (zs.map .v)))) d (.own gh 0))) : OW P nt ops o K ρ := by
  obtain ⟨hu, i, hi, rfl, rfl⟩ := slE_spec hs
  obtain ⟨i', zv, hi', hzv, rfl, hone⟩ := zcOf_spec hz
  rw [hi] at hi'
  cases hi'
  refine ow_val hg fun I A a w hsim => ?_
  have hxr := hsim.opd x (opsOk_mem ho (by simp [hop, Op.operands])) (by rw [hx]; trivial)
  have hyr := hsim.opd y (opsOk_mem ho (by simp [hop, Op.operands])) (by rw [hy]; trivial)
  rw [hx] at hxr
  rw [hy] at hyr
  have hxe : a.eval x = .int k n := by
    have hxr : Rel w I A (.v (.int k n)) (a.eval x) := hxr
    generalize a.eval x = q at hxr ⊢
    cases hxr; rfl
  have hye : a.eval y = .int k' c := by
    have hyr : Rel w I A (.v (.int k' c)) (a.eval y) := hyr
    generalize a.eval y = q at hyr ⊢
    cases hyr; rfl
  have hwn : IntKind.i64.wrap n = n := IntWalk.i64_in n ⟨by omega, by omega⟩
  have hwc : IntKind.i64.wrap c = c := IntWalk.i64_in c ⟨by omega, by omega⟩
  have hzs : zv.cells.size = i.size := by simpa using hzl
  obtain ⟨us, husd⟩ : ∃ us : Array Value, us = (Array.range (c.toNat * i.size)).map (zv.cells[· % zv.cells.size]!) := ⟨_, rfl⟩
  have hus : us.size = c.toNat * i.size := by simp [husd]
  have hget : ∀ m r, m < c.toNat → r < i.size → us[m * i.size + r]? = zv.cells[r]? := fun m r hm hr => by
    have hlt : m * i.size + r < c.toNat * i.size := by
      have : (m + 1) * i.size ≤ c.toNat * i.size := Nat.mul_le_mul_right _ (by omega)
      rw [Nat.succ_mul] at this
      omega
    have e1 : (m * i.size + r) % zv.cells.size = r := by rw [hzs, Nat.mul_comm, Nat.mul_add_mod, Nat.mod_eq_of_lt hr]
    simp only [husd, Array.getElem?_map, Array.getElem?_range, hlt, if_true, Option.map_some, e1]
    rw [Array.getElem?_eq_getElem (by omega), getElem!_pos _ _ (by omega)]
  have hrun : (execOp a.eval o).run P w = .ok (.value (.slice (some ⟨w.heap.size, 0, none⟩) n.toNat c.toNat)) (w.alloc (.cells us e)) := by
    simp only [execOp, hop, hxe, hye, Instr.makeSlice, asInt, asIntOf, Sem.run_bind, run_underlying hu, Result.andThen_ok, Sem.run_pure, run_typeInfo w hi, hwn, hwc, run_askRoom, run_sizeOf w hi, Program.cellsOf, hi, Option.map_some, Option.getD_some]
    have hcond : (decide (c < 0) || decide ((i.bytes : Int) * c > 2 ^ 48) || decide (n < 0) || decide (n > c)) = false := by
      have hc48 : (i.bytes : Int) * c ≤ 140737488355328 := by rw [Int.mul_comm]; exact h3
      have e48 : (2 : Int) ^ 48 = 281474976710656 := by decide
      simp only [Bool.or_eq_false_iff, decide_eq_false_iff_not, e48]
      omega
    rw [hcond, if_neg (by simp)]
    simp only [Sem.run_bind, run_askRoom, Result.andThen_ok, run_sizeOf w hi, Program.cellsOf, hi, Option.map_some, Option.getD_some]
    by_cases hzero : c.toNat * i.size = 0
    · have he : us = #[] := by
        apply Array.eq_empty_of_size_eq_zero
        rw [hus, hzero]
      rw [if_pos hzero, he]
      simp [newRow, hzero, Array.range_zero']
    · rw [if_neg hzero]
      simp [zeroValue, run_typeInfo w hi, hzv, newRow, husd]
  have hb := hsim.bound
  have hgr := Grow.alloc hsim.osim (.cells us e)
  have hs1 := hsim.grow hgr
  have hrow : RowRel (w.alloc (.cells us e)) I e i.size (List.replicate c.toNat (zv.cells.toList.map .v)) (some w.heap.size) c.toNat := by
    refine ⟨us, heap_alloc_new w _, hus, by unfold maxLen; omega, by simp, fun m x hx => ?_⟩
    rw [List.getElem?_replicate] at hx
    split at hx <;> cases hx
    rename_i hm
    refine ⟨by simp [hzs], fun r dv u hd hu => ?_⟩
    simp only [List.getElem?_map, Option.map_eq_some_iff, Array.getElem?_toList] at hd
    obtain ⟨q, hq, rfl⟩ := hd
    have hr : r < i.size := by
      rw [← hzs]
      rcases Nat.lt_or_ge r zv.cells.size with h | h
      · exact h
      · rw [Array.getElem?_eq_none h] at hq; cases hq
    rw [hget m r hm hr, hq] at hu
    cases hu
    exact ⟨hone _ (by simpa using Array.mem_of_getElem? hq), .v _ _⟩
  have hs2 := hs1.ghost hg1 hg2 (B := some w.heap.size) (c := c.toNat) (v := .row e i.size (List.replicate c.toNat (zv.cells.toList.map .v))) (fun b hb' => by
    cases hb'
    refine ⟨by simp, fun hi => ?_, fun s c' hc => ?_⟩
    · have := hsim.osim.imm _ hi; omega
    · have := (hsim.osim.sep s _ c' hc).1; omega) ⟨_, _, upd_same _ _ _, hrow⟩
  subst hn0
  refine ⟨_, _, I, upd A gh (some (some w.heap.size, c.toNat)), _, hrun, ?_, ?_, hK⟩
  · rw [hdst]
    exact hs2.put hd (.ofRel (.own _ gh 0 (some w.heap.size) c.toNat _ (upd_same _ _ _) (baseOk_mk _))) trivial
  · refine ⟨rfl, ⟨rfl, Nat.le_refl _⟩, rfl, by simp, fun _ h => h, fun g hg hA => ⟨hgr.heap g hg, fun h => h, fun s c hc => ?_⟩, fun s g c hc hg hl' => ?_, fun s h => upd_ne A _ (by omega)⟩
    · rcases upd_eq_some hc with ⟨_, h⟩ | ⟨_, h⟩
      · simp only [Option.some.injEq, Prod.mk.injEq] at h; omega
      · exact hA s c h
    · rcases upd_eq_some hc with ⟨_, h⟩ | ⟨_, h⟩
      · simp only [Option.some.injEq, Prod.mk.injEq] at h; omega
      · exact ⟨s, c, hl', h⟩
end
end Go.Sg
set_option linter.unusedVariables false
set_option linter.unusedSimpArgs false
namespace Go.Sg
open Go.RowKit
open Go.Rv (FR)
def MEnd (O : Env) (w : World) (I : Nat → Prop) (A : Own) (B : Option Nat) (e : TypeId) (z : Nat) (R : List (List DV) → Prop) (en : Ending) (w' : World) : Prop :=
  ∃ (b : Option Addr) (I' : Nat → Prop) (ys : List (List DV)) (B' : Option Nat) (c' : Nat), en = .returned (.slice b ys.length c') ∧ BaseOk B' b ∧ OSim w' I' A O ∧ RowRel w' I' e z ys B' c' ∧ R ys ∧
    w'.os = w.os ∧ (w'.tape = w.tape ∧ w.drawn ≤ w'.drawn) ∧ w'.output = w.output ∧ w.heap.size ≤ w'.heap.size ∧ (∀ g, I g → I' g) ∧
    (∀ g, g < w.heap.size → (∀ s c, A s ≠ some (some g, c)) → B ≠ some g → w'.heap[g]? = w.heap[g]? ∧ (I' g → I g)) ∧
    ∀ g, B' = some g → (w.heap.size ≤ g ∨ B = some g) ∧ g < w'.heap.size ∧ ¬ I' g ∧ ∀ s c, A s ≠ some (some g, c)
def MCall (P : Program) (O : Env) (f : FuncId) (args : List DV) (j : Nat) (e : TypeId) (z : Nat) (xs : List (List DV)) (R : List (List DV) → Prop) : Prop :=
  ∀ (w : World) (I : Nat → Prop) (A : Own) (vals : Array Value) (B : Option Nat) (c : Nat) (b : Option Addr), OSim w I A O → vals.size = args.length →
    (∀ (i : Nat) (d : DV) (u : Value), args[i]? = some d → vals[i]? = some u → Rel w I A d u) → vals[j]? = some (.slice b xs.length c) → BaseOk B b → RowRel w I e z xs B c →
    (∀ g, B = some g → g < w.heap.size ∧ ¬ I g ∧ ∀ s c', A s ≠ some (some g, c')) → Calls P f vals w (MEnd O w I A B e z R)
def mretQ (P : Program) (fn : Func) (O : Env) (e : TypeId) (z : Nat) (R : List (List DV) → Prop) : Exit → Env → Prop
  | .ret, ρ | .normal, ρ => hi ρ = outer O ∧ ∃ t ys, fn.results.toList = [.tmp t] ∧ t < fn.ntmps ∧ (ρ t = .row e z ys ∨ ∃ s n xs, ρ t = .own s n ∧ s < 100000 ∧ ρ s = .row e z xs ∧ n ≤ xs.length ∧ ys = xs.take n) ∧ R ys
  | _, _ => False
theorem mcall_of_aw {P : Program} {f : FuncId} {fn : Func} {cd : Code} {O : Env} {args : List DV} {j g : Nat} {e : TypeId} {z : Nat} {xs : List (List DV)} {R : List (List DV) → Prop} (hf : P.funcs[f]? = some fn) (hb : fn.body = some cd)
    (hn : (decide (args.length ≤ fn.ntmps) && decide (fn.ntmps ≤ g) && decide (g < 100000) && decide (j < args.length)) = true) (hj : args[j]? = some .any)
    (h : AW P fn.ntmps cd (mretQ P fn O e z R) (set (set (entry O args) g (.row e z xs)) j (.own g xs.length))) : MCall P O f args j e z xs R := by
  intro w I A vals B c b hO hl hv hx hbb hrow hfree
  simp only [Bool.and_eq_true, decide_eq_true_eq] at hn
  obtain ⟨⟨⟨hn1, hg1⟩, hg2⟩, hn3⟩ := hn
  have hs0 := Sim.enter hO hl hn1 (by omega) hv
  have hfree' : ∀ g, B = some g → g < w.heap.size ∧ ¬ I g ∧ ∀ s c', ownIn A s ≠ some (some g, c') := fun g hg => by
    obtain ⟨q1, q2, q3⟩ := hfree g hg
    refine ⟨q1, q2, fun s c' hc => ?_⟩
    unfold ownIn at hc
    split at hc
    · cases hc
    · exact q3 _ _ hc
  have hjn : j < fn.ntmps := by omega
  have hget : ({ tmps := vals ++ Array.replicate (fn.ntmps - vals.size) undef, defers := [] } : Act).tmps.getD j undef = .slice b xs.length c := by
    have hjv : j < vals.size := by omega
    simp only [Array.getD_eq_getD_getElem?, Array.getElem?_append, if_pos hjv, hx]
    rfl
  have hs1 := hs0.ghost (d := g) hg1 hg2 (B := B) (c := c) (v := .row e z xs) hfree' ⟨B, c, upd_same _ _ _, hrow⟩
  have hkill : set (kill g (entry O args)) g (.row e z xs) = set (entry O args) g (.row e z xs) := by
    funext s
    simp only [set_apply]
    split
    · rfl
    · rw [kill_apply]
      split
      · rename_i hs
        rw [entry_apply]
        split
        · unfold killS; rw [if_pos (isOut_ne (isOut_sh _) (by omega))]
        · rw [outer_lo O hs]; rfl
      · rfl
  rw [hkill] at hs1
  have hs1 := hs1.put (d := j) (v := .own g xs.length) (x := .slice b xs.length c) hjn (.ofRel (.own _ g xs.length B c b (upd_same _ _ _) hbb)) trivial
  rw [put_same (by rw [hs0.size]; exact hjn) hget] at hs1
  refine calls_of_wp hf hb (wp_mono (wpIn_wide.1 (Go.Rv.FR_none ▸ h none [] I _ _ w hs1 rfl)) ?_)
  intro en a' w' ⟨I', A', ρ', k1, k2, k3, k4⟩
  have fin : (hi ρ' = outer O ∧ ∃ t ys, fn.results.toList = [.tmp t] ∧ t < fn.ntmps ∧ (ρ' t = .row e z ys ∨ ∃ s n xs, ρ' t = .own s n ∧ s < 100000 ∧ ρ' s = .row e z xs ∧ n ≤ xs.length ∧ ys = xs.take n) ∧ R ys) →
      ∃ v, (results fn a'.tmps).run P w' = .ok v w' ∧ MEnd O w I A B e z R (.returned v) w' := by
    rintro ⟨q0, t, ys, q1, q2, q3, q4⟩
    have hres : fn.results = #[.tmp t] := by apply Array.ext'; rw [q1]
    have hA' : ∀ s, A' (s + 100000) = A s := fun s => by rw [k3.outA _ (by omega), upd_ne _ _ (by omega), ownIn_hi]
    have hfun : (fun s => A' (s + 100000)) = A := funext hA'
    have hO' : OSim w' I' A O := ⟨fun s => by
      have := k1.osim.own (s + 100000)
      rw [out_of_hi q0] at this
      have := this.outof (s := s) rfl
      rwa [hfun] at this, hO.inj, fun s g c hA => k1.osim.sep (s + 100000) g c ((hA' s).trans hA), k1.osim.imm⟩
    have hblk : ∀ s g c', s < 100000 → A' s = some (some g, c') → (w.heap.size ≤ g ∨ B = some g) ∧ g < w'.heap.size ∧ ¬ I' g ∧ ∀ s c, A s ≠ some (some g, c) := fun s g c' hs hAs => by
      obtain ⟨r1, r2⟩ := k1.osim.sep s g c' hAs
      refine ⟨?_, r1, r2, fun s' c'' hc => ?_⟩
      · rcases Nat.lt_or_ge g w.heap.size with hlt | hge
        · obtain ⟨t', c2, ht', hAt⟩ := k3.loc s g c' hAs hlt hs
          rcases upd_eq_some hAt with ⟨_, h⟩ | ⟨_, h⟩
          · simp only [Option.some.injEq, Prod.mk.injEq] at h
            exact .inr h.1
          · unfold ownIn at h
            rw [if_pos ht'] at h
            cases h
        · exact .inl hge
      · have := k1.osim.inj s (s' + 100000) g c' c'' hAs ((hA' s').trans hc)
        omega
    have hrest : w'.os = w.os ∧ (w'.tape = w.tape ∧ w.drawn ≤ w'.drawn) ∧ w'.output = w.output ∧ w.heap.size ≤ w'.heap.size ∧ (∀ g, I g → I' g) ∧
        (∀ g, g < w.heap.size → (∀ s c, A s ≠ some (some g, c)) → B ≠ some g → w'.heap[g]? = w.heap[g]? ∧ (I' g → I g)) :=
      ⟨k3.os, k3.tape, k3.output, k3.size, k3.imm, fun g hg hA hB => by
        obtain ⟨e1, e2, _⟩ := k3.old g hg fun s c' hc => by
          rcases upd_eq_some hc with ⟨_, h⟩ | ⟨_, h⟩
          · simp only [Option.some.injEq, Prod.mk.injEq] at h
            exact hB h.1
          · unfold ownIn at h
            split at h
            · cases h
            · exact hA _ _ h
        exact ⟨e1, e2⟩⟩
    refine ⟨_, results_tmp hres _ P w', ?_⟩
    have hsl := k1.slot t q2
    have ho := k1.osim.own t
    have ht : t < 100000 := Nat.lt_of_lt_of_le q2 k1.bound
    rcases q3 with q3 | ⟨s, n, xs', q3, q5, q6, q7, rfl⟩
    · rw [q3] at hsl ho
      obtain ⟨B1, c1, hA1, b1, hb1, hx1⟩ := hsl
      obtain ⟨B2, c2, hA2, hr2⟩ := ho
      rw [hA1] at hA2
      simp only [Option.some.injEq, Prod.mk.injEq] at hA2
      obtain ⟨rfl, rfl⟩ := hA2
      exact ⟨b1, I', ys, B1, c1, by rw [hx1], hb1, hO', hr2, q4, hrest.1, hrest.2.1, hrest.2.2.1, hrest.2.2.2.1, hrest.2.2.2.2.1, hrest.2.2.2.2.2, fun g hg => hblk t g c1 ht (by rw [hA1, hg])⟩
    · have ho2 := k1.osim.own s
      rw [q3] at hsl
      rw [q6] at ho2
      obtain ⟨B2, c2, hA2, hr2⟩ := ho2
      generalize a'.tmps.getD t undef = x at hsl ⊢
      have hsl : Rel w' I' A' (.own s n) x := hsl
      cases hsl with
      | own _ _ _ B1 c1 b1 hA1 hb1 =>
        rw [hA1] at hA2
        simp only [Option.some.injEq, Prod.mk.injEq] at hA2
        obtain ⟨rfl, rfl⟩ := hA2
        have hlen : (xs'.take n).length = n := by rw [List.length_take]; omega
        refine ⟨b1, I', xs'.take n, B1, c1, by rw [hlen], hb1, hO', ?_, q4, hrest.1, hrest.2.1, hrest.2.2.1, hrest.2.2.2.1, hrest.2.2.2.2.1, hrest.2.2.2.2.2, fun g hg => hblk s g c1 q5 (by rw [hA1, hg])⟩
        unfold RowRel at hr2 ⊢
        cases B1 with
        | none => obtain ⟨rfl, rfl⟩ := hr2; exact ⟨by simp, rfl⟩
        | some g =>
          obtain ⟨us, p1, p2, p3, p4, p5⟩ := hr2
          refine ⟨us, p1, p2, p3, by rw [hlen]; omega, fun i x hx => ?_⟩
          rw [List.getElem?_take] at hx
          split at hx
          · exact p5 i x hx
          · cases hx
  cases en with
  | normal => exact ⟨k2, fin k4⟩
  | ret => exact ⟨k2, fin k4⟩
  | _ => exact k4.elim
section
variable {P : Program} {nt : Nat} {ρ : Env}
theorem zero_get (zc : Array Value) (m : Nat) (hz : 0 < zc.size) {k r : Nat} (hk : k < m) (hr : r < zc.size) : (Builtin.zeroCells zc m)[k * zc.size + r]? = zc[r]? := by
  have hlt : k * zc.size + r < m * zc.size := by
    have : (k + 1) * zc.size ≤ m * zc.size := Nat.mul_le_mul_right _ hk
    rw [Nat.succ_mul] at this
    omega
  have e1 : (k * zc.size + r) % zc.size = r := by rw [Nat.mul_comm, Nat.mul_add_mod, Nat.mod_eq_of_lt hr]
  unfold Builtin.zeroCells
  simp only [Array.getElem?_map, Array.getElem?_range, hlt, if_true, Option.map_some, e1]
  rw [Array.getElem?_eq_getElem hr, getElem!_pos zc r hr]
theorem zero_size (zc : Array Value) (m : Nat) : (Builtin.zeroCells zc m).size = m * zc.size := by unfold Builtin.zeroCells; simp
theorem aw_clearTail {id x y d1 d2 d3 : Nat} {t ty1 ty2 ty3 ty4 : TypeId} {p1 p2 p3 p4 : String} {a1 a2 a3 a4 : Array Edge} {Q : Exit → Env → Prop} {s n i : Nat} {e : TypeId} {z by_ : Nat} {zs : List Value} {xs : List (List DV)}
    (hck : (decide (x < nt) && decide (y < nt) && decide (d1 < nt) && decide (d2 < nt) && decide (d3 < nt) && d1 != d2 && d1 != d3 && d2 != d3 && d1 != y && decide (100000 ≤ s)) = true)
    (hx : ρ x = .own s n) (hy : ρ y = .v (.int .i64 i)) (hρ : ρ s = .row e z xs) (hlen : xs.length = n) (hin : i ≤ n) (hsl : slE P t = some (e, z, by_)) (hz : zcOf P e = some zs) (hz0 : 0 < z) (hzl : zs.length = z)
    (h : Q .normal (set (set (set (set ρ d1 (.own s n)) d2 (.v (.int .i64 i))) d3 .any) s (.row e z (xs.take i ++ List.replicate (n - i) (zs.map .v))))) :
    AW P nt (.region id [⟨some d1, .move (.tmp x), ty1, p1, a1, none⟩, ⟨some d2, .move (.tmp y), ty2, p2, a2, none⟩, ⟨some d3, .slice t (.tmp d1) (some (.tmp d2)) none none, ty3, p3, a3, none⟩, ⟨none, .call ⟨.builtin .clear, #[.tmp d3], #[t]⟩, ty4, p4, a4, none⟩].toArray false) Q ρ := by
  simp only [Bool.and_eq_true, decide_eq_true_eq, bne_iff_ne] at hck
  obtain ⟨⟨⟨⟨⟨⟨⟨⟨⟨c1, c2⟩, c3⟩, c4⟩, c5⟩, c6⟩, c7⟩, c8⟩, c9⟩, c10⟩ := hck
  obtain ⟨hu, ti, hi, hz1, _⟩ := slE_spec hsl
  obtain ⟨i', zv, hi', hzv, rfl, hone⟩ := zcOf_spec hz
  rw [hi] at hi'
  cases hi'
  have hzs : zv.cells.size = z := by simpa using hzl
  intro ro ds I A a w hs hd
  have hnt := hs.bound
  have hxs := hs.slot x c1
  have hys := hs.slot y c2
  rw [hx] at hxs
  rw [hy] at hys
  obtain ⟨v, hv⟩ : ∃ v, a.tmps.getD x undef = v := ⟨_, rfl⟩
  have hys' : a.tmps.getD y undef = .int .i64 i := by
    generalize a.tmps.getD y undef = q at hys
    have hys : Rel w I A (.v (.int .i64 i)) q := hys
    cases hys; rfl
  rw [hv] at hxs
  have hxs : Rel w I A (.own s n) v := hxs
  have hown := hs.osim.own s
  rw [hρ] at hown
  obtain ⟨B, c, hA, hrow⟩ := hown
  have hs1 := hs.put (d := d1) (v := .own s n) (x := v) c3 (.ofRel hxs) trivial
  have hs2 := hs1.put (d := d2) (v := .v (.int .i64 i)) (x := .int .i64 i) c4 (.ofRel (.v A _)) trivial
  refine wpIn_region_lit ?_
  refine wpListIn_step fun K1 hK1 => ?_
  rw [if_pos (by simp [Region.wanted])]
  refine wpIn_val (x := v) (w' := w) (by simp [execOp, Act.eval, ← hv]) (hK1 _ _ ?_)
  refine wpListIn_step fun K2 hK2 => ?_
  rw [if_pos (by simp [Region.wanted])]
  have hg1 : (a.put (some d1) v).tmps.getD y undef = .int .i64 i := by rw [getD_put a d1 y v (by rw [hs.size]; exact c3), if_neg (fun q => c9 q.symm)]; exact hys'
  refine wpIn_val (x := .int .i64 i) (w' := w) (by simp [execOp, Act.eval] at hg1 ⊢; simpa using hg1) (hK2 _ _ ?_)
  refine wpListIn_step fun K3 hK3 => ?_
  rw [if_pos (by simp [Region.wanted])]
  have e1 : ((a.put (some d1) v).put (some d2) (.int .i64 i)).eval (.tmp d1) = v := by
    show (((a.put (some d1) v).put (some d2) (.int .i64 i)).tmps.getD d1 undef) = v
    rw [getD_put _ d2 d1 _ (by rw [hs1.size]; exact c4), if_neg c6, getD_put a d1 d1 v (by rw [hs.size]; exact c3), if_pos rfl]
  have e2 : ((a.put (some d1) v).put (some d2) (.int .i64 i)).eval (.tmp d2) = .int .i64 i := by
    show (((a.put (some d1) v).put (some d2) (.int .i64 i)).tmps.getD d2 undef) = _
    rw [getD_put _ d2 d2 _ (by rw [hs1.size]; exact c4), if_pos rfl]
  cases hxs with
  | own _ _ _ B' c' b hA' hbb =>
    rw [hA] at hA'
    simp only [Option.some.injEq, Prod.mk.injEq] at hA'
    obtain ⟨rfl, rfl⟩ := hA'
    have hnc : n ≤ c := by
      cases B with
      | none => obtain ⟨rfl, rfl⟩ := hrow; simp at hlen; omega
      | some g => obtain ⟨us, _, _, _, h4, _⟩ := hrow; omega
    have hslice : (Instr.sliceAt t (.slice b n c) (some (.int .i64 i)) none none).run P w = .ok (.slice (if c = i then b else b.map (·.add (i * ti.size))) (n - i) (c - i)) w := by
      have hb := run_bounds (P := P) (w := w) (sl := true) (lv := some (.int .i64 i)) (hv := none) (l := i) (h := n) (n := n) (c := c) (.inr ⟨.i64, i, rfl, by omega, by simp⟩) (.inl ⟨rfl, rfl⟩) hin hnc
      simp only [Instr.sliceAt, Instr.slice, run_underlying hu, Sem.run_bind, Result.andThen_ok, hb, run_sizeOf w hi, Sem.run_pure]
      simp [Program.cellsOf, hi]
    obtain ⟨q, hq⟩ : ∃ q, (Value.slice (if c = i then b else b.map (·.add (i * ti.size))) (n - i) (c - i)) = q := ⟨_, rfl⟩
    have hs3 := hs2.put (d := d3) (v := .any) (x := q) c5 (.any _ _) trivial
    refine wpIn_val (x := q) (w' := w) (by simp only [execOp, Option.map_some, Option.map_none, e1, e2, Sem.run_bind, hslice, Result.andThen_ok, hq]; simp) (hK3 _ _ ?_)
    refine wpListIn_step fun K4 hK4 => ?_
    rw [if_pos (by simp [Region.wanted])]
    have e3 : (((a.put (some d1) (.slice b n c)).put (some d2) (.int .i64 i)).put (some d3) q).eval (.tmp d3) = q := by
      show ((((a.put (some d1) (.slice b n c)).put (some d2) (.int .i64 i)).put (some d3) q).tmps.getD d3 undef) = _
      rw [getD_put _ d3 d3 _ (by rw [hs2.size]; exact c5), if_pos rfl]
    have hρ3 : set (set (set ρ d1 (.own s n)) d2 (.v (.int .i64 i))) d3 .any s = .row e z xs := by
      rw [set_apply, if_neg (by omega), set_apply, if_neg (by omega), set_apply, if_neg (by omega), hρ]
    have hrunC : ∀ w', (Builtin.clear_ #[t] ty4 #[q]).run P w = .ok (.tuple #[]) w' → (execOp (((a.put (some d1) (.slice b n c)).put (some d2) (.int .i64 i)).put (some d3) q).eval ⟨none, .call ⟨.builtin .clear, #[.tmp d3], #[t]⟩, ty4, p4, a4, none⟩).run P w = .ok (.value (.tuple #[])) w' := fun w' hw => by
      simp only [execOp, resolve, Sem.run_bind, Sem.run_pure, Result.andThen_ok, invoke, builtin, List.map_toArray, List.map_cons, List.map_nil, e3]
      rw [hw]
      rfl
    rcases Nat.lt_or_ge i n with hlt | hge
    · cases B with
      | none => obtain ⟨rfl, rfl⟩ := hrow; simp at hlen; omega
      | some g =>
        obtain rfl := baseOk_some hbb
        obtain ⟨us, q1, q2, q3, q4, q5⟩ := hrow
        have hqv : q = .slice (some ⟨g, i * z, none⟩) (n - i) (c - i) := by
          rw [← hq, if_neg (by omega)]
          simp [Addr.add_lit, hz1]
        have hzl2 : (Builtin.zeroCells zv.cells (n - i)).toList.length = (n - i) * z := by rw [Array.length_toList, zero_size, hzs]
        have hfit : i * z + 0 + (Builtin.zeroCells zv.cells (n - i)).toList.length ≤ us.size := by
          rw [hzl2, q2]
          have : i * z + (n - i) * z = n * z := by rw [← Nat.add_mul]; congr 1; omega
          have : n * z ≤ c * z := Nat.mul_le_mul_right _ hnc
          omega
        have hzone : ∀ u ∈ (Builtin.zeroCells zv.cells (n - i)).toList, u.oneCell' = true := fun u hu => by
          obtain ⟨m, hm⟩ := List.getElem?_of_mem hu
          have hml : m < (n - i) * z := by
            rw [← hzl2]
            rcases Nat.lt_or_ge m (Builtin.zeroCells zv.cells (n - i)).toList.length with h | h
            · exact h
            · rw [List.getElem?_eq_none h] at hm; cases hm
          have hm2 := zero_get zv.cells (n - i) (by omega) (k := m / z) (r := m % z) (by rw [Nat.div_lt_iff_lt_mul hz0]; exact hml) (by rw [hzs]; exact Nat.mod_lt _ hz0)
          rw [hzs, show m / z * z + m % z = m by rw [Nat.mul_comm]; exact Nat.div_add_mod m z] at hm2
          rw [Array.getElem?_toList] at hm
          rw [hm] at hm2
          exact hone u (by
            have := Array.mem_of_getElem? hm2.symm
            simpa using this)
        have hst := run_storeCells_at P g (i * z) e (Builtin.zeroCells zv.cells (n - i)).toList 0 us w q1 hfit hzone
        generalize hnew : (us.toList.take (i * z + 0) ++ (Builtin.zeroCells zv.cells (n - i)).toList ++ us.toList.drop (i * z + 0 + (Builtin.zeroCells zv.cells (n - i)).toList.length)).toArray = new at hst
        have hcl : (Builtin.clear_ #[t] ty4 #[q]).run P w = .ok (.tuple #[]) (w.setRow g new) := by
          rw [hqv]
          obtain ⟨m, hm⟩ : ∃ m, n - i = m + 1 := ⟨n - i - 1, by omega⟩
          rw [hm] at hst ⊢
          simp [Builtin.clear_, run_underlying hu, zeroValue, run_typeInfo w hi, hzv, hst]
        have hI : ∀ {B : Own} {d : DV} {v : Value}, Rel w I B d v → Rel (w.setRow g new) I B d v := fun hr =>
          hr.mono fun g' hg' => ⟨hg', fun o => cell_of_heap (setRow_other w g g' _ (fun e => (hs.osim.sep s g c hA).2 (e ▸ hg'))) o⟩
        have hget : ∀ m, new[m]? = if m < i * z then us[m]? else if m < n * z then (Builtin.zeroCells zv.cells (n - i))[m - i * z]? else us[m]? := fun m => by
          have hnz : i * z + (n - i) * z = n * z := by rw [← Nat.add_mul]; congr 1; omega
          have husz : i * z ≤ us.size := by omega
          subst hnew
          simp only [Nat.add_zero, List.append_assoc, List.getElem?_toArray, List.getElem?_append, List.length_take, Array.length_toList, Nat.min_eq_left husz, zero_size, hzs]
          by_cases k1 : m < i * z
          · rw [if_pos k1, if_pos k1, List.getElem?_take, if_pos k1, Array.getElem?_toList]
          · rw [if_neg k1, if_neg k1]
            by_cases k2 : m < n * z
            · rw [if_pos (by omega), if_pos k2, Array.getElem?_toList]
            · rw [if_neg (by omega), if_neg k2, List.getElem?_drop, Array.getElem?_toList]; congr 1; omega
        refine wpIn_val (hrunC _ hcl) (hK4 _ _ ⟨I, A, _, ?_, hd, Ext.turn hA new, h⟩)
        show Sim nt (w.setRow g new) I A _ ((((a.put (some d1) (.slice (some ⟨g, 0, none⟩) n c)).put (some d2) (.int .i64 i)).put (some d3) q))
        refine hs3.turn hA q1 (us := new) (v := .row e z (xs.take i ++ List.replicate (n - i) (zv.cells.toList.map .v))) (fun v hv => ?_) ?_ fun _ => rfl
        · rw [hρ3] at hv
          obtain ⟨B2, c2, r1, b2, r2, r3⟩ := hv
          exact ⟨B2, c2, r1, b2, r2, by rw [r3]; simp [hlen]; omega⟩
        · refine ⟨some g, c, hA, new, setRow_heap w g us _ e _ q1, ?_, q3, by simp [hlen]; omega, fun k yv hk => ?_⟩
          · rw [← q2]; subst hnew; simp [zero_size, hzs] at hfit ⊢; omega
          · have hkz : ∀ j, j < z → k * z + j < (k + 1) * z := fun j hj => by rw [Nat.succ_mul]; omega
            by_cases hki : k < i
            · rw [List.getElem?_append_left (by simp [hlen]; omega), List.getElem?_take, if_pos hki] at hk
              obtain ⟨r1, r2⟩ := q5 k yv hk
              refine ⟨r1, fun j d' u hd' hu' => ?_⟩
              have hj : j < z := by
                rw [← r1]
                rcases Nat.lt_or_ge j yv.length with h | h
                · exact h
                · rw [List.getElem?_eq_none h] at hd'; cases hd'
              have : (k + 1) * z ≤ i * z := Nat.mul_le_mul_right _ hki
              rw [hget, if_pos (by have := hkz j hj; omega)] at hu'
              exact ⟨(r2 j d' u hd' hu').1, hI (r2 j d' u hd' hu').2⟩
            · rw [List.getElem?_append_right (by simp [hlen]; omega), List.getElem?_replicate] at hk
              split at hk <;> cases hk
              rename_i hkn
              have hlt2 : k < n := by simp [hlen] at hkn; omega
              refine ⟨by simp [hzs], fun j d' u hd' hu' => ?_⟩
              have hj : j < z := by
                rcases Nat.lt_or_ge j (zv.cells.toList.map DV.v).length with h | h
                · simpa [hzs] using h
                · rw [List.getElem?_eq_none h] at hd'; cases hd'
              have h1 : i * z ≤ k * z := Nat.mul_le_mul_right _ (by omega)
              have h2 : (k + 1) * z ≤ n * z := Nat.mul_le_mul_right _ hlt2
              have := hkz j hj
              rw [hget, if_neg (by omega), if_pos (by omega), show k * z + j - i * z = (k - i) * z + j by rw [Nat.sub_mul]; omega] at hu'
              have hm2 := zero_get zv.cells (n - i) (by omega) (k := k - i) (r := j) (by omega) (by rw [hzs]; exact hj)
              rw [hzs] at hm2
              rw [hm2] at hu'
              rw [List.getElem?_map, Array.getElem?_toList, hu'] at hd'
              cases hd'
              exact ⟨hone u (by simpa using Array.mem_of_getElem? hu'), .v _ _⟩
    · obtain rfl : i = n := by omega
      have hcl : (Builtin.clear_ #[t] ty4 #[q]).run P w = .ok (.tuple #[]) w := by
        rw [← hq, Nat.sub_self]
        generalize (if c = i then b else b.map (·.add (i * ti.size))) = bb
        cases bb <;> simp [Builtin.clear_, run_underlying hu]
      refine wpIn_val (hrunC _ hcl) (hK4 _ _ ⟨I, A, _, ?_, hd, Ext.refl _ _ _, h⟩)
      have : set (set (set (set ρ d1 (.own s i)) d2 (.v (.int .i64 i))) d3 .any) s (.row e z (xs.take i ++ List.replicate (i - i) (zv.cells.toList.map .v))) = set (set (set ρ d1 (.own s i)) d2 (.v (.int .i64 i))) d3 .any := by
        funext k
        rw [set_apply]
        split
        · rename_i ek
          rw [ek, hρ3, Nat.sub_self, List.replicate_zero, List.append_nil, List.take_of_length_le (by omega)]
        · rfl
      rw [this]
      exact hs3
end
end Go.Sg
