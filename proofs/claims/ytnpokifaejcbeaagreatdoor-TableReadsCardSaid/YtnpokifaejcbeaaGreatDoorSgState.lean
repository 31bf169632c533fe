/- The state of a walk as an environment of abstract values; the walk's rules for the forms of code that hold no operations. -/
import Derived.Test.YtnpokifaejcbeaaGreatDoorSgGl
set_option linter.unusedVariables false
set_option linter.unusedSimpArgs false
namespace Go.Sg
open Go.RowKit

def SlotRel (w : World) (I : Nat → Prop) (A : Own) (s : Nat) (d : DV) (x : Value) : Prop :=
  match d with
  | .bx _ => ∃ g c, A s = some (some g, c) ∧ x = .pointer (some ⟨g, 0, none⟩)
  | .row _ _ xs => ∃ B c, A s = some (B, c) ∧ ∃ b, BaseOk B b ∧ x = .slice b xs.length c
  | .cond g y => (g = true → Rel w I A y x) ∧ (g = false → x = undef)
  | .mo _ => ∃ g c, A s = some (some g, c) ∧ x = .map (some g)
  | d => Rel w I A d x

def RowRel (w : World) (I : Nat → Prop) (e : TypeId) (z : Nat) (xs : List (List DV)) (B : Option Nat) (c : Nat) : Prop :=
  match B with
  | none => xs = [] ∧ c = 0
  | some g => ∃ us, w.heap[g]? = some (.cells us e (0, 0)) ∧ us.size = c * z ∧ c ≤ maxLen ∧ xs.length ≤ c ∧
      ∀ (i : Nat) (x : List DV), xs[i]? = some x → x.length = z ∧ ∀ (j : Nat) (d : DV) (u : Value), x[j]? = some d → us[i * z + j]? = some u → u.oneCell' = true ∧ Rel w I noOwn d u

def OwnRel (w : World) (I : Nat → Prop) (A : Own) (s : Nat) (d : DV) : Prop :=
  match d with
  | .bx cs => ∃ g c us et, A s = some (some g, c) ∧ w.heap[g]? = some (.cells us et (0, 0)) ∧ us.size = cs.length ∧ (∀ u ∈ us.toList, u.oneCell' = true) ∧
      ∀ (j : Nat) (d : DV) (u : Value), cs[j]? = some d → us[j]? = some u → Rel w I A d u
  | .row e z xs => ∃ B c, A s = some (B, c) ∧ RowRel w I e z xs B c
  | .mo es => ∃ g c vs cl, A s = some (some g, c) ∧ w.heap[g]? = some (.map (List.toArray vs) cl) ∧ vs.map (fun (m : MapEntry) => (m.key, m.val)) = es
  | _ => True

/-- What is settled: it lies in memory; package variables are settled and hold what they hold. -/
structure Imm (w : World) (I : Nat → Prop) : Prop where
  lt : ∀ g, I g → g < w.heap.size
  glob : ∀ g us e, GT g = some (us, e) → I g ∧ w.heap[g]? = some (.cells us e (0, 0))
instance {w : World} {I : Nat → Prop} : CoeFun (Imm w I) (fun _ => ∀ g, I g → g < w.heap.size) := ⟨Imm.lt⟩
theorem Imm.step {w w' : World} {I I' : Nat → Prop} (h : Imm w I) (h1 : ∀ g, I' g → g < w'.heap.size) (h2 : ∀ g, I g → I' g ∧ w'.heap[g]? = w.heap[g]?) : Imm w' I' :=
  ⟨h1, fun g us e hg => ⟨(h2 g (h.glob g us e hg).1).1, (h2 g (h.glob g us e hg).1).2.trans (h.glob g us e hg).2⟩⟩

structure OSim (w : World) (I : Nat → Prop) (A : Own) (ρ : Env) : Prop where
  own : ∀ s, OwnRel w I A s (ρ s)
  inj : ∀ s t g c c', A s = some (some g, c) → A t = some (some g, c') → s = t
  sep : ∀ s g c, A s = some (some g, c) → g < w.heap.size ∧ ¬ I g
  imm : Imm w I

/-- All that a value mentions are keys of the caller's. -/
abbrev isOut (d : DV) : Prop := allK (fun t => decide (100000 ≤ t)) d = true

structure Sim (nt : Nat) (w : World) (I : Nat → Prop) (A : Own) (ρ : Env) (a : Act) : Prop where
  osim : OSim w I A ρ
  size : a.tmps.size = nt
  bound : nt ≤ 100000
  slot : ∀ i, i < nt → SlotRel w I A i (ρ i) (a.tmps.getD i undef)
  out : ∀ s, 100000 ≤ s → isOut (ρ s)

structure Ext (w : World) (I : Nat → Prop) (A : Own) (w' : World) (I' : Nat → Prop) (A' : Own) : Prop where
  os : w'.os = w.os
  tape : w'.tape = w.tape ∧ w.drawn ≤ w'.drawn
  output : w'.output = w.output
  size : w.heap.size ≤ w'.heap.size
  imm : ∀ g, I g → I' g
  old : ∀ g, g < w.heap.size → (∀ s c, A s ≠ some (some g, c)) → w'.heap[g]? = w.heap[g]? ∧ (I' g → I g) ∧ (∀ s c, A' s ≠ some (some g, c))
  loc : ∀ s g c, A' s = some (some g, c) → g < w.heap.size → s < 100000 → ∃ t c', t < 100000 ∧ A t = some (some g, c')
  outA : ∀ s, 100000 ≤ s → A' s = A s

theorem Ext.refl (w : World) (I : Nat → Prop) (A : Own) : Ext w I A w I A :=
  ⟨rfl, ⟨rfl, Nat.le_refl _⟩, rfl, Nat.le_refl _, fun _ h => h, fun g _ hA => ⟨rfl, fun h => h, hA⟩, fun s g c h _ hs => ⟨s, c, hs, h⟩, fun _ _ => rfl⟩

theorem Ext.trans {w w1 w2 : World} {I I1 I2 : Nat → Prop} {A A1 A2 : Own} (h : Ext w I A w1 I1 A1) (k : Ext w1 I1 A1 w2 I2 A2) : Ext w I A w2 I2 A2 where
  os := k.os.trans h.os
  tape := ⟨k.tape.1.trans h.tape.1, Nat.le_trans h.tape.2 k.tape.2⟩
  output := k.output.trans h.output
  size := Nat.le_trans h.size k.size
  imm := fun g hg => k.imm g (h.imm g hg)
  old := fun g hg hA => by
    obtain ⟨h1, h2, h3⟩ := h.old g hg hA
    obtain ⟨k1, k2, k3⟩ := k.old g (Nat.lt_of_lt_of_le hg h.size) h3
    exact ⟨k1.trans h1, fun x => h2 (k2 x), k3⟩
  loc := fun s g c hs hg hl => by
    obtain ⟨t, c', ht, hA⟩ := k.loc s g c hs (Nat.lt_of_lt_of_le hg h.size) hl
    exact h.loc t g c' hA hg ht
  outA := fun s hs => (k.outA s hs).trans (h.outA s hs)

/-- Settled blocks stand as they stood. -/
theorem Ext.keep {w w' : World} {I I' : Nat → Prop} {A A' : Own} {ρ : Env} (h : Ext w I A w' I' A') (hs : OSim w I A ρ) (g : Nat) (hg : I g) : I' g ∧ w'.heap[g]? = w.heap[g]? :=
  ⟨h.imm g hg, (h.old g (hs.imm g hg) fun s c e => (hs.sep s g c e).2 hg).1⟩

theorem cell_of_heap {w w' : World} {g : Nat} (h : w'.heap[g]? = w.heap[g]?) (o : Nat) : w'.cell? ⟨g, o, none⟩ = w.cell? ⟨g, o, none⟩ := by
  unfold World.cell?; rw [h]

theorem Ext.rel {w w' : World} {I I' : Nat → Prop} {A A' : Own} {ρ : Env} (h : Ext w I A w' I' A') (hs : OSim w I A ρ) {B : Own} {d : DV} {x : Value} (hr : Rel w I B d x) : Rel w' I' B d x :=
  hr.mono fun g hg => ⟨(h.keep hs g hg).1, fun o => cell_of_heap (h.keep hs g hg).2 o⟩

/-- What a piece of code does, said of the environment alone. -/
def AW (P : Program) (nt : Nat) (c : Code) (Q : Exit → Env → Prop) (ρ : Env) : Prop :=
  ∀ I A a w, Sim nt w I A ρ a → a.defers = [] →
    c.wp P (fun e a' w' => ∃ I' A' ρ', Sim nt w' I' A' ρ' a' ∧ a'.defers = [] ∧ Ext w I A w' I' A' ∧ Q e ρ') a w

section
variable {P : Program} {nt : Nat} {Q : Exit → Env → Prop} {ρ : Env}

theorem aw_mono {c : Code} {Q' : Exit → Env → Prop} (h : AW P nt c Q ρ) (hq : ∀ e ρ, Q e ρ → Q' e ρ) : AW P nt c Q' ρ :=
  fun I A a w hs hd => wp_mono (h I A a w hs hd) fun _ _ _ ⟨I', A', ρ', h1, h2, h3, h4⟩ => ⟨I', A', ρ', h1, h2, h3, hq _ _ h4⟩

theorem aw_skip (h : Q .normal ρ) : AW P nt .skip Q ρ := fun I A a w hs hd => wp_skip ⟨I, A, ρ, hs, hd, Ext.refl _ _ _, h⟩
theorem aw_exit {i : Nat} (h : Q (.exit i) ρ) : AW P nt (.exit i) Q ρ := fun I A a w hs hd => wp_exit ⟨I, A, ρ, hs, hd, Ext.refl _ _ _, h⟩
theorem aw_ret (h : Q .ret ρ) : AW P nt .ret Q ρ := fun I A a w hs hd => wp_ret ⟨I, A, ρ, hs, hd, Ext.refl _ _ _, h⟩

/-- What follows in a sequence, behind a variable. -/
def thenQ (K : Env → Prop) (Q : Exit → Env → Prop) : Exit → Env → Prop
  | .normal, ρ => K ρ
  | e, ρ => Q e ρ

theorem aw_seq {x y : Code} (h : ∀ K : Env → Prop, (∀ ρ, AW P nt y Q ρ → K ρ) → AW P nt x (thenQ K Q) ρ) : AW P nt (.seq x y) Q ρ := by
  intro I A a w hs hd
  refine wp_seq (wp_mono (h (fun ρ => AW P nt y Q ρ) (fun _ h => h) I A a w hs hd) ?_)
  intro e a1 w1 ⟨I1, A1, ρ1, h1, h2, h3, h4⟩
  cases e with
  | normal => exact wp_mono (h4 I1 A1 a1 w1 h1 h2) fun _ _ _ ⟨I', A', ρ', k1, k2, k3, k4⟩ => ⟨I', A', ρ', k1, k2, h3.trans k3, k4⟩
  | exit i => exact ⟨I1, A1, ρ1, h1, h2, h3, h4⟩
  | goto l => exact ⟨I1, A1, ρ1, h1, h2, h3, h4⟩
  | ret => exact ⟨I1, A1, ρ1, h1, h2, h3, h4⟩
  | panic ch => exact ⟨I1, A1, ρ1, h1, h2, h3, h4⟩
  | outgrown => exact ⟨I1, A1, ρ1, h1, h2, h3, h4⟩

def blockQ (id : Nat) (Q : Exit → Env → Prop) : Exit → Env → Prop
  | .exit id', ρ => if id' = id then Q .normal ρ else Q (.exit id') ρ
  | e, ρ => Q e ρ

theorem aw_block {id : Nat} {c : Code} (h : AW P nt c (blockQ id Q) ρ) : AW P nt (.block id c) Q ρ := by
  intro I A a w hs hd
  refine wp_block (wp_mono (h I A a w hs hd) ?_)
  intro e a1 w1 ⟨I1, A1, ρ1, h1, h2, h3, h4⟩
  cases e with
  | exit i =>
    simp only [Exit.inBlock, blockQ] at *
    split <;> rename_i hi
    · rw [if_pos hi] at h4; exact ⟨I1, A1, ρ1, h1, h2, h3, h4⟩
    · rw [if_neg hi] at h4; exact ⟨I1, A1, ρ1, h1, h2, h3, h4⟩
  | normal => exact ⟨I1, A1, ρ1, h1, h2, h3, h4⟩
  | goto l => exact ⟨I1, A1, ρ1, h1, h2, h3, h4⟩
  | ret => exact ⟨I1, A1, ρ1, h1, h2, h3, h4⟩
  | panic ch => exact ⟨I1, A1, ρ1, h1, h2, h3, h4⟩
  | outgrown => exact ⟨I1, A1, ρ1, h1, h2, h3, h4⟩

/-- A loop: an invariant that bears a number, which every round lowers. -/
theorem aw_loop {c : Code} (J : Nat → Env → Prop) (n₀ : Nat) (h₀ : J n₀ ρ)
    (round : ∀ n ρ, J n ρ → ∀ K : Env → Prop, (∀ m ρ', m < n → J m ρ' → K ρ') → AW P nt c (thenQ K Q) ρ) : AW P nt (.loop c) Q ρ := by
  intro I A a w hs hd
  refine wp_loop_ghost (fun n a' w' => ∃ I' A' ρ', Sim nt w' I' A' ρ' a' ∧ a'.defers = [] ∧ Ext w I A w' I' A' ∧ J n ρ') n₀ ⟨I, A, ρ, hs, hd, Ext.refl _ _ _, h₀⟩ ?_
  intro n a1 w1 ⟨I1, A1, ρ1, h1, h2, h3, h4⟩
  refine wp_mono (round n ρ1 h4 (fun ρ => ∃ m, m < n ∧ J m ρ) (fun m ρ' hm hj => ⟨m, hm, hj⟩) I1 A1 a1 w1 h1 h2) ?_
  intro e a2 w2 ⟨I2, A2, ρ2, k1, k2, k3, k4⟩
  cases e with
  | normal => obtain ⟨m, hm, hj⟩ := k4; exact ⟨m, hm, I2, A2, ρ2, k1, k2, h3.trans k3, hj⟩
  | exit i => exact ⟨I2, A2, ρ2, k1, k2, h3.trans k3, k4⟩
  | goto l => exact ⟨I2, A2, ρ2, k1, k2, h3.trans k3, k4⟩
  | ret => exact ⟨I2, A2, ρ2, k1, k2, h3.trans k3, k4⟩
  | panic ch => exact ⟨I2, A2, ρ2, k1, k2, h3.trans k3, k4⟩
  | outgrown => exact ⟨I2, A2, ρ2, k1, k2, h3.trans k3, k4⟩

/-! ## Reading an operand -/

def rd (t : Nat) : DV → DV
  | .bx _ => .bp t 0
  | .row _ _ xs => .own t xs.length
  | .mo _ => .mr t
  | d => d

/-- A constant; a struct's or array's cells one by one. -/
def cv : Value → DV
  | .agg cs => .agg (cs.toList.map .v)
  | v => .v v

def ev (ρ : Env) : Operand → DV
  | .tmp t => rd t (ρ t)
  | .const v => cv v
  | .global g => match GT g with
    | some (us, _) => .dp (us.toList.map .v)
    | none => .v (.pointer (some ⟨g, 0, none⟩))
  | .func f => .fn f [] []

theorem ev_tmp (ρ : Env) (t : Tmp) : ev ρ (.tmp t) = rd t (ρ t) := rfl
theorem ev_const (ρ : Env) (v : Value) : ev ρ (.const v) = cv v := rfl
theorem ev_global (ρ : Env) (g : Nat) : ev ρ (.global g) = match GT g with
    | some (us, _) => .dp (us.toList.map .v)
    | none => .v (.pointer (some ⟨g, 0, none⟩)) := rfl
theorem ev_func (ρ : Env) (f : FuncId) : ev ρ (.func f) = .fn f [] [] := rfl

/-- What an operand's abstract value says of its value. -/
def ERel (w : World) (I : Nat → Prop) (A : Own) (d : DV) (x : Value) : Prop :=
  match d with
  | .cond g y => (g = true → Rel w I A y x) ∧ (g = false → x = undef)
  | d => Rel w I A d x

def opdOk (nt : Nat) : Operand → Bool
  | .tmp t => decide (t < nt)
  | .const (.agg cs) => cs.toList.all (·.oneCell')
  | .global g => match GT g with
    | some (us, _) => us.toList.all (·.oneCell')
    | none => true
  | _ => true

theorem Sim.evRel {w : World} {I : Nat → Prop} {A : Own} {a : Act} (h : Sim nt w I A ρ a) (o : Operand) (ho : opdOk nt o = true) : ERel w I A (ev ρ o) (a.eval o) := by
  cases o with
  | tmp t =>
    have ht : t < nt := by simpa [opdOk] using ho
    have hs := h.slot t ht
    simp only [ev_tmp, Act.eval]
    generalize a.tmps.getD t undef = x at *
    cases hd : ρ t with
    | bx cs =>
      rw [hd] at hs
      obtain ⟨g, c, h1, rfl⟩ := hs
      exact .bp A t 0 g c h1
    | row e z xs =>
      rw [hd] at hs
      obtain ⟨B, c, h1, b, hb, rfl⟩ := hs
      exact .own A t _ B c b h1 hb
    | cond g y => rw [hd] at hs; exact hs
    | any => rw [hd] at hs; exact hs
    | v y => rw [hd] at hs; exact hs
    | sl z n f => rw [hd] at hs; exact hs
    | agg cs => rw [hd] at hs; exact hs
    | tup cs => rw [hd] at hs; exact hs
    | dp cs => rw [hd] at hs; exact hs
    | bp s o => rw [hd] at hs; exact hs
    | own s n => rw [hd] at hs; exact hs
    | rp s z i o => rw [hd] at hs; exact hs
    | fn f b c => rw [hd] at hs; exact hs
    | iface t' y => rw [hd] at hs; exact hs
    | mr s => rw [hd] at hs; exact hs
    | ez => rw [hd] at hs; exact hs
    | mo es =>
      rw [hd] at hs
      obtain ⟨g, c, h1, rfl⟩ := hs
      exact .mr A t g c h1
  | const v =>
    cases v with
    | agg cs =>
      have ho : cs.toList.all (·.oneCell') = true := ho
      rw [List.all_eq_true] at ho
      refine Rel.agg A _ cs (by simp) ho fun j d u hd hu => ?_
      rw [List.getElem?_map, Option.map_eq_some_iff] at hd
      obtain ⟨y, hy, rfl⟩ := hd
      rw [Array.getElem?_toList, hu] at hy
      cases hy
      exact .v A _
    | _ => exact .v A _
  | global g =>
    simp only [opdOk] at ho
    rw [ev_global]
    cases hg : GT g with
    | none => exact .v A _
    | some p =>
      obtain ⟨us, e⟩ := p
      rw [hg] at ho
      rw [List.all_eq_true] at ho
      obtain ⟨h1, h2⟩ := h.osim.imm.glob g us e hg
      have hc : ∀ j, j < us.size → w.cell? ⟨g, 0 + j, none⟩ = some (us.getD j undef) := fun j hj => by
        rw [Nat.zero_add, show w.cell? ⟨g, j, none⟩ = us[j]? by simp [World.cell?, h2], Array.getElem?_eq_getElem hj, Array.getD_eq_getD_getElem?, Array.getElem?_eq_getElem hj]
        rfl
      refine .dp A _ g 0 (fun j => us.getD j undef) h1 (fun j hj => hc j (by simpa using hj)) (fun j hj => ?_) fun j d hd => ?_
      · have hj' : j < us.size := by simpa using hj
        have : us.getD j undef ∈ us.toList := by
          rw [Array.getD_eq_getD_getElem?, Array.getElem?_eq_getElem hj']
          exact Array.mem_toList_iff.2 (Array.getElem_mem hj')
        exact ho _ this
      · rw [List.getElem?_map, Option.map_eq_some_iff] at hd
        obtain ⟨y, hy, rfl⟩ := hd
        rw [Array.getElem?_toList] at hy
        have : us.getD j undef = y := by rw [Array.getD_eq_getD_getElem?, hy]; rfl
        rw [this]
        exact .v _ _
  | func f => exact .fn A f [] [] #[] #[] rfl rfl (by simp) (by simp)

theorem aw_cond {x : Operand} {c d : Code} (b : Bool) (ho : opdOk nt x = true) (hx : ev ρ x = .v (.bool b)) (ht : b = true → AW P nt c Q ρ) (hf : b = false → AW P nt d Q ρ) : AW P nt (.cond x c d) Q ρ := by
  intro I A a w hs hd
  have he := hs.evRel x ho
  rw [hx] at he
  have hv : a.eval x = .bool b := by
    generalize a.eval x = y at he ⊢
    cases he; rfl
  exact wp_cond_split hv (fun h => ht h I A a w hs hd) (fun h => hf h I A a w hs hd)

/-! ## Weaker environments -/

/-- d' says no more than d. -/
def Wk (d d' : DV) : Prop :=
  ∀ w I A s x, (SlotRel w I A s d x → SlotRel w I A s d' x) ∧ (OwnRel w I A s d → OwnRel w I A s d') ∧ (isOut d → isOut d')

theorem Wk.refl (d : DV) : Wk d d := fun _ _ _ _ _ => ⟨fun h => h, fun h => h, fun h => h⟩
theorem Wk.any (d : DV) : Wk d .any := fun _ _ A _ x => ⟨fun _ => .any A x, fun _ => trivial, fun _ => rfl⟩
theorem Wk.trans {d e f : DV} (h : Wk d e) (k : Wk e f) : Wk d f := fun w I A s x => ⟨fun r => (k w I A s x).1 ((h w I A s x).1 r), fun r => (k w I A s x).2.1 ((h w I A s x).2.1 r), fun r => (k w I A s x).2.2 ((h w I A s x).2.2 r)⟩
theorem Wk.nil (z c : Nat) (b : Option Addr) (f : Nat → List DV) : Wk (.v (.slice b 0 c)) (.sl z 0 f) := fun _ _ A _ x => ⟨fun h => by
  have h : Rel _ _ A (.v (.slice b 0 c)) x := h
  cases h; exact Rel.sl0 A z f b c, fun _ => trivial, fun _ => rfl⟩
theorem Wk.sl (z n : Nat) (f g : Nat → List DV) (h : ∀ i, i < n → f i = g i) : Wk (.sl z n f) (.sl z n g) := fun _ _ A _ x => ⟨fun hr => by
  have hr : Rel _ _ A (.sl z n f) x := hr
  cases hr with
  | sl0 _ _ _ b c => exact .sl0 A z g b c
  | sl _ _ _ _ b o c us hn hc hm hI hz hcell hone hrel =>
    exact Rel.sl A z n g b o c us hn hc hm hI (fun i hi => by rw [← h i hi]; exact hz i hi) hcell hone (fun i j d hi hd => hrel i j d hi (by rw [h i hi]; exact hd)), fun _ => trivial, fun _ => rfl⟩

def Le (ρ ρ' : Env) : Prop := ∀ s, Wk (ρ s) (ρ' s)
theorem Le.refl (ρ : Env) : Le ρ ρ := fun s => Wk.refl _
theorem Le.trans {ρ ρ1 ρ2 : Env} (h : Le ρ ρ1) (k : Le ρ1 ρ2) : Le ρ ρ2 := fun s => (h s).trans (k s)

theorem Sim.weaken {w : World} {I : Nat → Prop} {A : Own} {a : Act} {ρ ρ' : Env} (h : Sim nt w I A ρ a) (hl : Le ρ ρ') : Sim nt w I A ρ' a where
  osim := ⟨fun s => (hl s w I A s undef).2.1 (h.osim.own s), h.osim.inj, h.osim.sep, h.osim.imm⟩
  size := h.size
  bound := h.bound
  slot := fun i hi => (hl i w I A i _).1 (h.slot i hi)
  out := fun s hs => (hl s w I A s undef).2.2 (h.out s hs)

theorem aw_weaken {c : Code} {ρ ρ' : Env} (hl : Le ρ ρ') (h : AW P nt c Q ρ') : AW P nt c Q ρ := fun I A a w hs hd => h I A a w (hs.weaken hl) hd

/-! ## The environment's own words -/

def set (ρ : Env) (d : Nat) (x : DV) : Env := fun i => if i = d then x else ρ i
def putD (ρ : Env) (d : Option Nat) (x : DV) : Env := match d with | some d => set ρ d x | none => ρ
theorem set_apply (ρ : Env) (d : Nat) (x : DV) (i : Nat) : set ρ d x i = if i = d then x else ρ i := rfl
theorem putD_some (ρ : Env) (d : Nat) (x : DV) : putD ρ (some d) x = set ρ d x := rfl
theorem putD_none (ρ : Env) (x : DV) : putD ρ none x = ρ := rfl
/-- The caller's environment, seen from within. -/
def outer (O : Env) : Env := fun i => if i < 100000 then .any else ren (· + 100000) (O (i - 100000))
theorem outer_lo (O : Env) {i : Nat} (h : i < 100000) : outer O i = .any := if_pos h
theorem outer_hi (O : Env) (i : Nat) : outer O (i + 100000) = ren (· + 100000) (O i) := by
  unfold outer; rw [if_neg (by omega), Nat.add_sub_cancel]
theorem outer_hi' (O : Env) (i : Nat) : outer O (100000 + i) = ren (· + 100000) (O i) := by
  rw [Nat.add_comm, outer_hi]
/-- Only the slots of L are kept. -/
def keep (L : List Nat) (ρ : Env) : Env := fun i => if i < 100000 then (if i ∈ L then ρ i else .any) else ρ i
theorem Le.keep (L : List Nat) (ρ : Env) : Le ρ (keep L ρ) := fun s => by
  unfold Sg.keep
  split
  · split
    · exact Wk.refl _
    · exact Wk.any _
  · exact Wk.refl _

theorem Le.set {ρ ρ' : Env} (h : Le ρ ρ') (d : Nat) {x x' : DV} (hx : Wk x x') : Le (set ρ d x) (set ρ' d x') := fun s => by
  unfold Sg.set; split
  · exact hx
  · exact h s
theorem Le.drop {ρ ρ' : Env} (h : Le ρ ρ') (d : Nat) (x : DV) (ha : ρ' d = .any) : Le (Sg.set ρ d x) ρ' := fun s => by
  unfold Sg.set; split
  · rename_i e; rw [e, ha]; exact Wk.any _
  · exact h s

end
end Go.Sg
