/- Several texts as one. -/
import Derived.Test.YtnpokifaejcbeaaGreatDoorSgApp
import Derived.LoopN
import Derived.DeepKeys4
import Derived.MapKept
import Derived.Lib.AppendZeros
/- Closed code is run on a heap of its own numbers: values, heap, and how they stand for the model's, wherever its blocks lie. -/
set_option linter.unusedVariables false
set_option linter.unusedSimpArgs false
namespace Go.Rv
open Go.RowKit Go.Sg

/-! ## A tree of numbers -/

inductive Tr (α : Type) where
  | e
  | n (v : Option α) (l r : Tr α)

def Tr.get {α : Type} : Tr α → Nat → Option α
  | .e, _ => none
  | .n v _ _, 0 => v
  | .n _ l r, k + 1 => bif k % 2 == 0 then l.get (k / 2) else r.get (k / 2)

def Tr.mkL {α : Type} (v : Option α) (s r : Tr α) : Tr α := match s with
  | .e => .n v .e r
  | .n a b c => .n v (.n a b c) r
def Tr.mkR {α : Type} (v : Option α) (l s : Tr α) : Tr α := match s with
  | .e => .n v l .e
  | .n a b c => .n v l (.n a b c)
theorem Tr.mkL_eq {α : Type} (v : Option α) (s r : Tr α) : Tr.mkL v s r = .n v s r := by cases s <;> rfl
theorem Tr.mkR_eq {α : Type} (v : Option α) (l s : Tr α) : Tr.mkR v l s = .n v l s := by cases s <;> rfl

def Tr.put {α : Type} : Nat → Tr α → Nat → Option α → Tr α
  | 0, t, _, _ => t
  | _ + 1, .e, 0, x => .n x .e .e
  | f + 1, .e, k + 1, x => bif k % 2 == 0 then .mkL none (Tr.put f .e (k / 2) x) .e else .mkR none .e (Tr.put f .e (k / 2) x)
  | _ + 1, .n _ l r, 0, x => .n x l r
  | f + 1, .n v l r, k + 1, x => bif k % 2 == 0 then .mkL v (Tr.put f l (k / 2) x) r else .mkR v l (Tr.put f r (k / 2) x)

theorem Tr.get_e {α : Type} (k : Nat) : (Tr.e : Tr α).get k = none := by cases k <;> rfl

theorem Tr.get_put {α : Type} : ∀ (f : Nat) (t : Tr α) (k : Nat) (x : Option α) (j : Nat), k + 1 < 2 ^ f → (Tr.put f t k x).get j = if j = k then x else t.get j
  | 0, t, k, x, j, h => by simp at h
  | f + 1, t, k, x, j, h => by
    have key : ∀ (v : Option α) (l r : Tr α) (k : Nat), k + 1 + 1 < 2 ^ (f + 1) → ∀ j, ((bif k % 2 == 0 then Tr.mkL v (Tr.put f l (k / 2) x) r else Tr.mkR v l (Tr.put f r (k / 2) x)) : Tr α).get j = if j = k + 1 then x else (Tr.n v l r).get j := by
      intro v l r k hk j
      have hp : 2 ^ (f + 1) = 2 * 2 ^ f := by rw [Nat.pow_succ, Nat.mul_comm]
      have hk' : k / 2 + 1 < 2 ^ f := by omega
      cases hc : k % 2 == 0 with
      | true =>
        simp only [cond_true, Tr.mkL_eq]
        have hc' : k % 2 = 0 := by simpa using hc
        cases j with
        | zero => simp [Tr.get]
        | succ j =>
          simp only [Tr.get]
          cases hj : j % 2 == 0 with
          | true =>
            have hj' : j % 2 = 0 := by simpa using hj
            simp only [cond_true, Tr.get_put f l (k / 2) x (j / 2) hk']
            by_cases e : j = k
            · subst e; simp
            · rw [if_neg (by omega), if_neg (by omega)]
          | false =>
            have hj' : j % 2 ≠ 0 := by simpa using hj
            rw [if_neg (by intro e; simp at e; subst e; exact hj' hc')]; rfl
      | false =>
        simp only [cond_false, Tr.mkR_eq]
        have hc' : k % 2 ≠ 0 := by simpa using hc
        cases j with
        | zero => simp [Tr.get]
        | succ j =>
          simp only [Tr.get]
          cases hj : j % 2 == 0 with
          | true =>
            have hj' : j % 2 = 0 := by simpa using hj
            rw [if_neg (by intro e; simp at e; subst e; exact hc' hj')]; rfl
          | false =>
            have hj' : j % 2 ≠ 0 := by simpa using hj
            simp only [cond_false, Tr.get_put f r (k / 2) x (j / 2) hk']
            by_cases e : j = k
            · subst e; simp
            · rw [if_neg (by omega), if_neg (by omega)]
    cases t with
    | e =>
      cases k with
      | zero =>
        cases j with
        | zero => simp [Tr.put, Tr.get]
        | succ j => simp [Tr.put, Tr.get, Tr.get_e]
      | succ k =>
        have := key none .e .e k h j
        simp only [Tr.put]
        rw [this]
        cases j with
        | zero => simp [Tr.get]
        | succ j => simp [Tr.get, Tr.get_e]
    | n v l r =>
      cases k with
      | zero =>
        cases j with
        | zero => simp [Tr.put, Tr.get]
        | succ j => simp [Tr.put, Tr.get]
      | succ k => exact key v l r k h j

def ub : Nat := 1000000
/-- Set; nothing is done beyond the bound. -/
def Tr.set {α : Type} (t : Tr α) (k : Nat) (x : Option α) : Tr α := Tr.put 22 t k x
theorem Tr.get_set {α : Type} {t : Tr α} {k : Nat} {x : Option α} (h : k < ub) (j : Nat) : (t.set k x).get j = if j = k then x else t.get j :=
  Tr.get_put 22 t k x j (by unfold ub at h; omega)

/-! ## Values -/

inductive RV where
  | und
  | nov
  | bool (b : Bool)
  | int (k : IntKind) (n : Int)
  | str (s : ByteArray)
  | nilp
  | ptr (b off : Nat)
  | gp (g off : Nat)
  | yl (b : Nat)
  | nils
  | em
  | sl (b off len z : Nat) (cap : Option Nat) (full : Bool)
  | nilm
  | mp (b : Nat)
  | nilf
  | nili
  | fn (f : FuncId) (first captured : List RV)
  | agg (cs : List RV)
  | tup (cs : List RV)

instance : Inhabited RV := ⟨.und⟩

/-- A block: cells; or a map, its keys as they are; a string's walk; the record of a range over a function. -/
inductive Blk where
  | cells (e : TypeId) (cs : List RV)
  | map (es : List (Value × RV × Nat)) (clock : Nat)
  | it (s : ByteArray) (pos : Nat)
  | lp (st : LoopState) (pe : Option Code) (t : Tr RV) (nt : Nat) (ps : List Tmp) (asg body : Code)

/-- Where a number's block lies, and how many cells it has. -/
abbrev Emb := Nat → Option (Nat × Nat)

inductive Rr (E : Emb) : RV → Value → Prop
  | und (x : Value) : Rr E .und x
  | nov : Rr E .nov undef
  | bool (b : Bool) : Rr E (.bool b) (.bool b)
  | int (k : IntKind) (n : Int) : Rr E (.int k n) (.int k n)
  | str (s : ByteArray) : Rr E (.str s) (.string s)
  | nilp : Rr E .nilp (.pointer none)
  | ptr (b off g s : Nat) (h : E b = some (g, s)) : Rr E (.ptr b off) (.pointer (some ⟨g, off, none⟩))
  | gp (g off : Nat) : Rr E (.gp g off) (.pointer (some ⟨g, off, none⟩))
  | yl (b g s : Nat) (h : E b = some (g, s)) : Rr E (.yl b) (.func (.yield g) #[] #[])
  | nils : Rr E .nils (.slice none 0 0)
  | em (b : Option Addr) (c : Nat) : Rr E .em (.slice b 0 c)
  | sl (b off len z : Nat) (cap : Option Nat) (full : Bool) (g s c : Nat) (h : E b = some (g, s)) (hl : len ≤ c) (hm : c ≤ maxLen) (hs : off + c * z ≤ s) (hf : full = true → off + c * z = s) (hc : ∀ k, cap = some k → c = k) :
      Rr E (.sl b off len z cap full) (.slice (some ⟨g, off, none⟩) len c)
  | nilm : Rr E .nilm (.map none)
  | mp (b g s : Nat) (h : E b = some (g, s)) : Rr E (.mp b) (.map (some g))
  | nilf : Rr E .nilf .nilFunc
  | nili : Rr E .nili .nilIface
  | fn (f : FuncId) (fs cs : List RV) (us vs : Array Value) (hf : fs.length = us.size) (hc : cs.length = vs.size) (hfr : ∀ (j : Nat) (d : RV) (u : Value), fs[j]? = some d → us[j]? = some u → Rr E d u)
      (hcr : ∀ (j : Nat) (d : RV) (u : Value), cs[j]? = some d → vs[j]? = some u → Rr E d u) : Rr E (.fn f fs cs) (.func (.func f) us vs)
  | agg (cs : List RV) (vs : Array Value) (hl : cs.length = vs.size) (hone : ∀ u ∈ vs.toList, u.oneCell' = true) (hrel : ∀ (j : Nat) (d : RV) (u : Value), cs[j]? = some d → vs[j]? = some u → Rr E d u) : Rr E (.agg cs) (.agg vs)
  | tup (cs : List RV) (vs : Array Value) (hl : cs.length = vs.size) (hrel : ∀ (j : Nat) (d : RV) (u : Value), cs[j]? = some d → vs[j]? = some u → Rr E d u) : Rr E (.tup cs) (.tuple vs)

theorem Rr.mono {E E' : Emb} (hE : ∀ b p, E b = some p → E' b = some p) {v : RV} {x : Value} (h : Rr E v x) : Rr E' v x := by
  induction h with
  | und x => exact .und x
  | nov => exact .nov
  | bool b => exact .bool b
  | int k n => exact .int k n
  | str s => exact .str s
  | nilp => exact .nilp
  | ptr b off g s h => exact .ptr b off g s (hE _ _ h)
  | gp g off => exact .gp g off
  | yl b g s h => exact .yl b g s (hE _ _ h)
  | nils => exact .nils
  | em b c => exact .em b c
  | sl b off len z cap full g s c h hl hm hs hf hc => exact .sl b off len z cap full g s c (hE _ _ h) hl hm hs hf hc
  | nilm => exact .nilm
  | mp b g s h => exact .mp b g s (hE _ _ h)
  | nilf => exact .nilf
  | nili => exact .nili
  | fn f fs cs us vs hf hc hfr hcr ih1 ih2 => exact .fn f fs cs us vs hf hc ih1 ih2
  | agg cs vs hl hone hrel ih => exact .agg cs vs hl hone ih
  | tup cs vs hl hrel ih => exact .tup cs vs hl ih

/-! ## The heap -/

def BR (E : Emb) (w : World) (k : Blk) (g s : Nat) : Prop :=
  match k with
  | .cells e cs => ∃ us, w.heap[g]? = some (.cells us e (0, 0)) ∧ us.size = s ∧ cs.length ≤ s ∧ ∀ (j : Nat) (v : RV) (u : Value), cs[j]? = some v → us[j]? = some u → u.oneCell' = true ∧ Rr E v u
  | .map es clock => ∃ vs : List MapEntry, w.heap[g]? = some (.map vs.toArray clock) ∧ es.length = vs.length ∧ ∀ (j : Nat) (e : Value × RV × Nat) (m : MapEntry), es[j]? = some e → vs[j]? = some m → m.key = e.1 ∧ Rr E e.2.1 m.val ∧ m.born = e.2.2
  | .it s' pos => w.heap[g]? = some (.stringIter s' pos)
  | .lp st pe t nt ps asg body => ∃ r : Loop, w.heap[g]? = some (.loop r) ∧ r.state = st ∧ r.pending = pe ∧ r.params.toList = ps ∧ r.assign = asg ∧ r.body = body ∧ r.tmps.size = nt ∧ ∀ i, i < nt → Rr E ((t.get i).getD .nov) (r.tmps.getD i undef)

theorem BR.mono {E E' : Emb} (hE : ∀ b p, E b = some p → E' b = some p) {w w' : World} {k : Blk} {g s : Nat} (h : BR E w k g s) (hw : w'.heap[g]? = w.heap[g]?) : BR E' w' k g s := by
  cases k with
  | cells e cs =>
    obtain ⟨us, h1, h2, h3, h5⟩ := h
    exact ⟨us, hw.trans h1, h2, h3, fun j v u hv hu => ⟨(h5 j v u hv hu).1, (h5 j v u hv hu).2.mono hE⟩⟩
  | map es clock =>
    obtain ⟨vs, h1, h2, h3⟩ := h
    exact ⟨vs, hw.trans h1, h2, fun j e m he hm => ⟨(h3 j e m he hm).1, (h3 j e m he hm).2.1.mono hE, (h3 j e m he hm).2.2⟩⟩
  | it s' pos => exact hw.trans h
  | lp st pe t nt ps asg body =>
    obtain ⟨r, h1, h2, h3, h4, h5, h6, h7, h8⟩ := h
    exact ⟨r, hw.trans h1, h2, h3, h4, h5, h6, h7, fun i hi => (h8 i hi).mono hE⟩

abbrev Hp := Nat → Option Blk

/-- Numbers below are kept for package variables, which lie where their number says. -/
def NG : Nat := 1024

/-- The heap h, new numbers n up to m, stands for part of the world. -/
structure HS (E : Emb) (h : Hp) (n m : Nat) (w : World) : Prop where
  blk : ∀ b k, h b = some k → ∃ g s, E b = some (g, s) ∧ BR E w k g s
  inj : ∀ b c g s s', h b ≠ none → h c ≠ none → E b = some (g, s) → E c = some (g, s') → b = c
  old : ∀ b g s, E b = some (g, s) → g < w.heap.size
  free : ∀ b, n ≤ b → b < m → E b = none
  top : ∀ b, m ≤ b → h b = none
  ng : NG ≤ n
  glob : ∀ b, b < NG → h b ≠ none → ∃ s, E b = some (b, s)

/-- What a run leaves alone; numbers below lo are not written. -/
structure RX (lo : Nat) (E : Emb) (h : Hp) (n : Nat) (w : World) (E' : Emb) (h' : Hp) (n' : Nat) (w' : World) : Prop where
  os : w'.os = w.os
  tape : w'.tape = w.tape ∧ w.drawn ≤ w'.drawn
  output : w'.output = w.output
  size : w.heap.size ≤ w'.heap.size
  nn : n ≤ n'
  emb : ∀ b, b < n ∨ n' ≤ b → E' b = E b
  frame : ∀ g, g < w.heap.size → (∀ b s, h b ≠ none → E b ≠ some (g, s)) → w'.heap[g]? = w.heap[g]? ∧ ∀ b s, h' b ≠ none → E' b ≠ some (g, s)
  keep : ∀ b, b < lo → h' b = h b ∧ ∀ g s, h b ≠ none → E b = some (g, s) → w'.heap[g]? = w.heap[g]?
  beyond : ∀ b, n' ≤ b → h' b = h b

theorem RX.refl (lo : Nat) (E : Emb) (h : Hp) (n : Nat) (w : World) : RX lo E h n w E h n w :=
  ⟨rfl, ⟨rfl, Nat.le_refl _⟩, rfl, Nat.le_refl _, Nat.le_refl _, fun _ _ => rfl, fun _ _ hf => ⟨rfl, hf⟩, fun _ _ => ⟨rfl, fun _ _ _ _ => rfl⟩, fun _ _ => rfl⟩

theorem HS.up {lo : Nat} {E E' : Emb} {h h' : Hp} {n n' m : Nat} {w w' : World} (hs : HS E h n m w) (hx : RX lo E h n w E' h' n' w') (hm : n' ≤ m) : ∀ b p, E b = some p → E' b = some p := fun b p hb => by
  rw [hx.emb b]; exact hb
  rcases Nat.lt_or_ge b n with h1 | h1
  · exact .inl h1
  · refine .inr (Nat.le_trans hm ?_)
    rcases Nat.lt_or_ge b m with h2 | h2
    · rw [hs.free b h1 h2] at hb; cases hb
    · exact h2

theorem RX.trans {lo : Nat} {E E1 E2 : Emb} {h h1 h2 : Hp} {n n1 n2 m : Nat} {w w1 w2 : World} (x : RX lo E h n w E1 h1 n1 w1) (y : RX lo E1 h1 n1 w1 E2 h2 n2 w2) (hs : HS E h n m w) (hm : n1 ≤ m) (hlo : lo ≤ n) : RX lo E h n w E2 h2 n2 w2 where
  os := y.os.trans x.os
  tape := ⟨y.tape.1.trans x.tape.1, Nat.le_trans x.tape.2 y.tape.2⟩
  output := y.output.trans x.output
  size := Nat.le_trans x.size y.size
  nn := Nat.le_trans x.nn y.nn
  emb := fun b hb => by
    have h1 := x.nn; have h2 := y.nn
    rw [y.emb b (by omega), x.emb b (by omega)]
  frame := fun g hg hf => by
    obtain ⟨a1, a2⟩ := x.frame g hg hf
    obtain ⟨b1, b2⟩ := y.frame g (Nat.lt_of_lt_of_le hg x.size) a2
    exact ⟨b1.trans a1, b2⟩
  keep := fun b hb => by
    obtain ⟨a1, a2⟩ := x.keep b hb
    obtain ⟨b1, b2⟩ := y.keep b hb
    refine ⟨b1.trans a1, fun g s hn he => ?_⟩
    have hn1 : h1 b ≠ none := by rw [a1]; exact hn
    have he1 : E1 b = some (g, s) := by rw [x.emb b (.inl (by omega))]; exact he
    exact (b2 g s hn1 he1).trans (a2 g s hn he)
  beyond := fun b hb => (y.beyond b hb).trans (x.beyond b (Nat.le_trans y.nn hb))

/-- The slots of an activation. -/
structure SS (nt : Nat) (E : Emb) (t : Tr RV) (a : Act) : Prop where
  size : a.tmps.size = nt
  slot : ∀ i, i < nt → Rr E ((t.get i).getD .nov) (a.tmps.getD i undef)

theorem SS.mono {nt : Nat} {E E' : Emb} {t : Tr RV} {a : Act} (h : SS nt E t a) (hE : ∀ b p, E b = some p → E' b = some p) : SS nt E' t a := ⟨h.size, fun i hi => (h.slot i hi).mono hE⟩

theorem SS.put {nt : Nat} {E : Emb} {t : Tr RV} {a : Act} (h : SS nt E t a) {d : Nat} (hd : d < nt) (hu : d < ub) {v : RV} {x : Value} (hr : Rr E v x) : SS nt E (t.set d (some v)) (a.put (some d) x) where
  size := by unfold Act.put; simp [h.size]
  slot := fun i hi => by
    rw [Tr.get_set hu, getD_put a d i x (by rw [h.size]; exact hd)]
    split
    · exact hr
    · exact h.slot i hi

/-! ## New blocks -/

def updE (E : Emb) (b : Nat) (p : Option (Nat × Nat)) : Emb := fun c => if c = b then p else E c
theorem updE_same (E : Emb) (b : Nat) (p : Option (Nat × Nat)) : updE E b p b = p := if_pos rfl
theorem updE_ne (E : Emb) {b c : Nat} (p : Option (Nat × Nat)) (h : c ≠ b) : updE E b p c = E c := if_neg h
def updH (h : Hp) (b : Nat) (k : Option Blk) : Hp := fun c => if c = b then k else h c
theorem updH_same (h : Hp) (b : Nat) (k : Option Blk) : updH h b k b = k := if_pos rfl
theorem updH_ne (h : Hp) {b c : Nat} (k : Option Blk) (hn : c ≠ b) : updH h b k c = h c := if_neg hn
theorem get_set_fun {t : Tr Blk} {k : Nat} {x : Option Blk} (h : k < ub) : (t.set k x).get = updH t.get k x := funext fun j => Tr.get_set h j

section
variable {lo : Nat} {E : Emb} {h : Hp} {n m : Nat} {w : World}

/-- One new block. -/
theorem HS.new (hs : HS E h n m w) (hm : n < m) (hlo : lo ≤ n) {w' : World} {o : Obj} (h1 : w'.heap = w.heap.push o) (h2 : w'.os = w.os) (h3 : w'.tape = w.tape ∧ w.drawn ≤ w'.drawn) (h4 : w'.output = w.output) {k : Blk} {s : Nat}
    (hb : BR (updE E n (some (w.heap.size, s))) w' k w.heap.size s) :
    HS (updE E n (some (w.heap.size, s))) (updH h n (some k)) (n + 1) m w' ∧ RX lo E h n w (updE E n (some (w.heap.size, s))) (updH h n (some k)) (n + 1) w' ∧ ∀ b p, E b = some p → updE E n (some (w.heap.size, s)) b = some p := by
  have hfr : E n = none := hs.free n (Nat.le_refl _) hm
  have hup : ∀ b p, E b = some p → updE E n (some (w.heap.size, s)) b = some p := fun b p hp => by
    rw [updE_ne]; exact hp
    intro e; subst e; rw [hfr] at hp; cases hp
  have hold : ∀ g, g < w.heap.size → w'.heap[g]? = w.heap[g]? := fun g hg => by rw [h1, Array.getElem?_push, if_neg (by omega)]
  have hsz : w'.heap.size = w.heap.size + 1 := by rw [h1, Array.size_push]
  refine ⟨⟨fun b k' hk => ?_, fun b c g s1 s2 hb1 hc1 he1 he2 => ?_, fun b g s1 he => ?_, fun b hb1 hb2 => ?_, fun b hb => by rw [updH_ne _ _ (by omega)]; exact hs.top b hb, Nat.le_succ_of_le hs.ng, fun b hb hn => by
    have := hs.ng
    rw [updH_ne _ _ (by omega)] at hn
    rw [updE_ne _ _ (by omega)]
    exact hs.glob b hb hn⟩, ⟨h2, h3, h4, by omega, by omega, fun b hb => updE_ne _ _ (by omega), fun g hg hf => ⟨hold g hg, fun b s1 hb1 he => ?_⟩, fun b hb => ⟨updH_ne _ _ (by omega), fun g s1 _ he => hold g (hs.old b g s1 he)⟩, fun b hb => updH_ne _ _ (by omega)⟩, hup⟩
  · by_cases e : b = n
    · subst e
      rw [updH_same] at hk
      cases hk
      exact ⟨_, _, updE_same _ _ _, hb⟩
    · rw [updH_ne _ _ e] at hk
      obtain ⟨g, s1, q1, q2⟩ := hs.blk b k' hk
      exact ⟨g, s1, hup _ _ q1, q2.mono hup (hold g (hs.old b g s1 q1))⟩
  · have cases2 : ∀ c s2, updE E n (some (w.heap.size, s)) c = some (g, s2) → (c = n ∧ g = w.heap.size) ∨ (c ≠ n ∧ E c = some (g, s2)) := fun c s2 he => by
      by_cases e : c = n
      · subst e; rw [updE_same] at he; cases he; exact .inl ⟨rfl, rfl⟩
      · rw [updE_ne _ _ e] at he; exact .inr ⟨e, he⟩
    rcases cases2 b s1 he1 with ⟨e1, e2⟩ | ⟨e1, e2⟩ <;> rcases cases2 c s2 he2 with ⟨e3, e4⟩ | ⟨e3, e4⟩
    · rw [e1, e3]
    · have := hs.old c g s2 e4; omega
    · have := hs.old b g s1 e2; omega
    · rw [updH_ne _ _ e1] at hb1
      rw [updH_ne _ _ e3] at hc1
      exact hs.inj b c g s1 s2 hb1 hc1 e2 e4
  · by_cases e : b = n
    · subst e; rw [updE_same] at he; cases he; omega
    · rw [updE_ne _ _ e] at he; have := hs.old b g s1 he; omega
  · rw [updE_ne _ _ (by omega)]; exact hs.free b (by omega) hb2
  · by_cases e : b = n
    · subst e; rw [updE_same] at he; cases he; omega
    · rw [updE_ne _ _ e] at he
      rw [updH_ne _ _ e] at hb1
      exact hf b s1 hb1 he

/-- A block's contents turned. -/
theorem HS.turn (hs : HS E h n m w) {b g s : Nat} (hlo : lo ≤ b) (hbn : b < n) (hb : h b ≠ none) (he : E b = some (g, s)) {w' : World} (hsz : w'.heap.size = w.heap.size) (hoth : ∀ g', g' ≠ g → w'.heap[g']? = w.heap[g']?) (h2 : w'.os = w.os) (h3 : w'.tape = w.tape ∧ w.drawn ≤ w'.drawn) (h4 : w'.output = w.output)
    {k : Blk} (hk : BR E w' k g s) : HS E (updH h b (some k)) n m w' ∧ RX lo E h n w E (updH h b (some k)) n w' := by
  have hlive : ∀ c, updH h b (some k) c ≠ none → h c ≠ none := fun c hc => by
    by_cases e : c = b
    · subst e; exact hb
    · rwa [updH_ne _ _ e] at hc
  refine ⟨⟨fun c k' hk' => ?_, fun c d g1 s1 s2 hc hd => hs.inj c d g1 s1 s2 (hlive c hc) (hlive d hd), fun c g1 s1 hc => by rw [hsz]; exact hs.old c g1 s1 hc, hs.free, fun c hc => by
    by_cases e : c = b
    · subst e; exact absurd (hs.top c hc) hb
    · rw [updH_ne _ _ e]; exact hs.top c hc, hs.ng, fun c hc hn => hs.glob c hc (hlive c hn)⟩,
    ⟨h2, h3, h4, by omega, Nat.le_refl _, fun _ _ => rfl, fun g1 hg1 hf => ⟨hoth g1 fun e => ?_, fun c s1 hc => hf c s1 (hlive c hc)⟩, fun c hc => ⟨updH_ne _ _ (by omega), fun g1 s1 hc1 he1 => hoth g1 fun e => ?_⟩, fun c hc => updH_ne _ _ (by omega)⟩⟩
  · by_cases e : c = b
    · subst e
      rw [updH_same] at hk'
      cases hk'
      exact ⟨g, s, he, hk⟩
    · rw [updH_ne _ _ e] at hk'
      obtain ⟨g1, s1, q1, q2⟩ := hs.blk c k' hk'
      refine ⟨g1, s1, q1, q2.mono (fun _ _ h => h) (hoth g1 fun e2 => ?_)⟩
      subst e2
      exact e (hs.inj c b g1 s1 s (by rw [hk']; simp) hb q1 he)
  · subst e; exact hf b s hb he
  · subst e
    have := hs.inj c b g1 s1 s hc1 hb he1 he
    omega

/-- A block gives way to a new number: where it lay, or in new memory. -/
theorem HS.regrow (hs : HS E h n m w) (hm : n < m) (hln : lo ≤ n) {b g s : Nat} (hlo : lo ≤ b) (hbn : b < n) (hb : h b ≠ none) (he : E b = some (g, s)) {w' : World} (h2 : w'.os = w.os) (h3 : w'.tape = w.tape ∧ w.drawn ≤ w'.drawn) (h4 : w'.output = w.output)
    (hsz : w.heap.size ≤ w'.heap.size) (hoth : ∀ g', g' < w.heap.size → g' ≠ g → w'.heap[g']? = w.heap[g']?) {g2 s2 : Nat} (hat : g2 = g ∨ g2 = w.heap.size) (hlt : g2 < w'.heap.size) {k : Blk} (hk : BR (updE E n (some (g2, s2))) w' k g2 s2) :
    HS (updE E n (some (g2, s2))) (updH (updH h b none) n (some k)) (n + 1) m w' ∧ RX lo E h n w (updE E n (some (g2, s2))) (updH (updH h b none) n (some k)) (n + 1) w' ∧ ∀ b p, E b = some p → updE E n (some (g2, s2)) b = some p := by
  have hfr : E n = none := hs.free n (Nat.le_refl _) hm
  have hup : ∀ b p, E b = some p → updE E n (some (g2, s2)) b = some p := fun b p hp => by
    rw [updE_ne]; exact hp
    intro e; subst e; rw [hfr] at hp; cases hp
  have hgb : g < w.heap.size := hs.old b g s he
  have hlive : ∀ c, c ≠ n → updH (updH h b none) n (some k) c ≠ none → c ≠ b ∧ h c ≠ none := fun c hcn hc => by
    rw [updH_ne _ _ hcn] at hc
    by_cases e : c = b
    · subst e; rw [updH_same] at hc; exact absurd rfl hc
    · rw [updH_ne _ _ e] at hc; exact ⟨e, hc⟩
  have hne : ∀ c g1 s1, c ≠ b → h c ≠ none → E c = some (g1, s1) → g1 ≠ g ∧ g1 ≠ g2 := fun c g1 s1 hcb hc hec => by
    have h1 : g1 ≠ g := fun e => hcb (hs.inj c b g1 s1 s hc hb hec (by rw [e]; exact he))
    refine ⟨h1, fun e => ?_⟩
    have := hs.old c g1 s1 hec
    rcases hat with h | h <;> omega
  refine ⟨⟨fun c k' hk' => ?_, fun c d g1 s1 s3 hc hd he1 he2 => ?_, fun c g1 s1 hc => ?_, fun c hc1 hc2 => ?_, fun c hc => by rw [updH_ne _ _ (by omega), updH_ne _ _ (by omega)]; exact hs.top c hc, Nat.le_succ_of_le hs.ng, fun c hc hn => by
      have := hs.ng
      obtain ⟨s1, hs1⟩ := hs.glob c hc (hlive c (by omega) hn).2
      exact ⟨s1, hup _ _ hs1⟩⟩,
    ⟨h2, h3, h4, hsz, by omega, fun c hc => updE_ne _ _ (by omega), fun g1 hg1 hf => ⟨hoth g1 hg1 fun e => ?_, fun c s1 hc hec => ?_⟩, fun c hc => ⟨?_, fun g1 s1 hc1 he1 => hoth g1 (hs.old c g1 s1 he1) (hne c g1 s1 (by omega) hc1 he1).1⟩, fun c hc => ?_⟩, hup⟩
  · by_cases e : c = n
    · subst e
      rw [updH_same] at hk'
      cases hk'
      exact ⟨g2, s2, updE_same _ _ _, hk⟩
    · obtain ⟨e1, e2⟩ := hlive c e (by rw [hk']; simp)
      rw [updH_ne _ _ e, updH_ne _ _ e1] at hk'
      obtain ⟨g1, s1, q1, q2⟩ := hs.blk c k' hk'
      exact ⟨g1, s1, hup _ _ q1, q2.mono hup (hoth g1 (hs.old c g1 s1 q1) (hne c g1 s1 e1 e2 q1).1)⟩
  · by_cases e1 : c = n <;> by_cases e2 : d = n
    · rw [e1, e2]
    · subst e1
      rw [updE_same] at he1; cases he1
      rw [updE_ne _ _ e2] at he2
      obtain ⟨q1, q2⟩ := hlive d e2 hd
      exact absurd rfl (hne d _ _ q1 q2 he2).2
    · subst e2
      rw [updE_same] at he2; cases he2
      rw [updE_ne _ _ e1] at he1
      obtain ⟨q1, q2⟩ := hlive c e1 hc
      exact absurd rfl (hne c _ _ q1 q2 he1).2
    · rw [updE_ne _ _ e1] at he1
      rw [updE_ne _ _ e2] at he2
      exact hs.inj c d g1 s1 s3 (hlive c e1 hc).2 (hlive d e2 hd).2 he1 he2
  · by_cases e : c = n
    · subst e; rw [updE_same] at hc; cases hc; exact hlt
    · rw [updE_ne _ _ e] at hc
      exact Nat.lt_of_lt_of_le (hs.old c g1 s1 hc) hsz
  · rw [updE_ne _ _ (by omega)]; exact hs.free c (by omega) hc2
  · subst e; exact hf b s hb he
  · by_cases e : c = n
    · subst e
      rw [updE_same] at hec; cases hec
      rcases hat with h | h
      · subst h; exact hf b s hb he
      · omega
    · rw [updE_ne _ _ e] at hec
      exact hf c s1 (hlive c e hc).2 hec
  · rw [updH_ne _ _ (by omega), updH_ne _ _ (by omega)]
  · rw [updH_ne _ _ (by omega), updH_ne _ _ (by omega)]

/-- Blocks that are forgotten. -/
theorem HS.sub (hs : HS E h n m w) {h' : Hp} (hsub : ∀ b, h' b ≠ none → h' b = h b) : HS E h' n m w where
  blk := fun b k hk => hs.blk b k (by rw [← hsub b (by rw [hk]; simp)]; exact hk)
  inj := fun b c g s s' hb hc => hs.inj b c g s s' (by rw [← hsub b hb]; exact hb) (by rw [← hsub c hc]; exact hc)
  old := hs.old
  free := hs.free
  top := fun b hb => by
    cases hk : h' b with
    | none => rfl
    | some k => have := hsub b (by rw [hk]; simp); rw [hk, hs.top b hb] at this; cases this
  ng := hs.ng
  glob := fun b hb hn => hs.glob b hb (by rw [← hsub b hn]; exact hn)

theorem HS.none_of (hs : HS E h n m w) {b : Nat} (hb : n ≤ b) : h b = none := by
  rcases Nat.lt_or_ge b m with h1 | h1
  · cases hk : h b with
    | none => rfl
    | some k =>
      obtain ⟨g, s, he, _⟩ := hs.blk b k hk
      rw [hs.free b hb h1] at he
      cases he
  · exact hs.top b h1

theorem HS.congr (hs : HS E h n m w) {h' : Hp} (he : ∀ b, h' b = h b) : HS E h' n m w := hs.sub fun b _ => he b

/-- A step that looks at a part of the heap only is a step on the whole. -/
theorem HS.side {ne l : Nat} {hm h2 : Hp} {E' : Emb} {nn n' : Nat} {w' : World} (hs : HS E h ne m w) (hsub : ∀ b, hm b ≠ none → hm b = h b) (htop : ∀ b, nn ≤ b → hm b = none) (hx : RX l E hm nn w E' h2 n' w') (hl : l ≤ nn) (hs' : HS E' h2 n' n' w') (hne : n' ≤ ne) (hnm : ne ≤ m) (hfr : ∀ b, nn ≤ b → b < n' → E b = none)
    {H' : Hp} (h1 : ∀ b, hm b ≠ none ∨ (nn ≤ b ∧ b < n') → H' b = h2 b) (h0 : ∀ b, hm b = none → b < nn ∨ n' ≤ b → H' b = h b) :
    HS E' H' ne m w' ∧ (∀ {lo : Nat} {E0 : Emb} {hh : Hp} {n0 : Nat} {w0 : World}, RX lo E0 hh n0 w0 E h ne w → lo ≤ l → lo ≤ n0 → n0 ≤ nn → RX lo E0 hh n0 w0 E' H' ne w') := by
  have hnn := hx.nn
  -- beside what is seen
  have hside : ∀ b g s, hm b = none → h b ≠ none → E b = some (g, s) → w'.heap[g]? = w.heap[g]? ∧ ∀ c s2, h2 c ≠ none → E' c ≠ some (g, s2) := fun b g s hlm hl he =>
    hx.frame g (hs.old b g s he) fun c s2 hc hec => by
      have := hs.inj c b g s2 s (by rw [← hsub c hc]; exact hc) hl hec he
      subst this
      exact hc hlm
  have hE : ∀ b, b < nn ∨ n' ≤ b → E' b = E b := hx.emb
  have hup : ∀ b p, E b = some p → E' b = some p := fun b p he => by
    rw [hE b]; exact he
    rcases Nat.lt_or_ge b nn with h3 | h3
    · exact .inl h3
    · rcases Nat.lt_or_ge b n' with h4 | h4
      · rw [hfr b h3 h4] at he; cases he
      · exact .inr h4
  have hin : ∀ b, (hm b ≠ none ∨ (nn ≤ b ∧ b < n')) ∨ (hm b = none ∧ (b < nn ∨ n' ≤ b)) := fun b => by
    by_cases e : hm b = none
    · rcases Nat.lt_or_ge b nn with h3 | h3
      · exact .inr ⟨e, .inl h3⟩
      · rcases Nat.lt_or_ge b n' with h4 | h4
        · exact .inl (.inr ⟨h3, h4⟩)
        · exact .inr ⟨e, .inr h4⟩
    · exact .inl (.inl e)
  have hhi : ∀ b, n' ≤ b → hm b = none := fun b hb => htop b (by omega)
  refine ⟨⟨fun b k hk => ?_, fun b c g s s' hb hc he1 he2 => ?_, hs'.old, fun b hb1 hb2 => ?_, fun b hb => ?_, hs.ng, fun b hb hn => ?_⟩, fun {lo E0 hh n0 w0} hr hll hlo hn0 => ⟨hx.os.trans hr.os, ⟨hx.tape.1.trans hr.tape.1, Nat.le_trans hr.tape.2 hx.tape.2⟩, hx.output.trans hr.output, Nat.le_trans hr.size hx.size, hr.nn, fun b hb => ?_, fun g hg hf => ?_, fun b hb => ⟨?_, fun g s hl he => ?_⟩, fun b hb => ?_⟩⟩
  · rcases hin b with q | ⟨q0, q⟩
    · rw [h1 b q] at hk
      exact hs'.blk b k hk
    · rw [h0 b q0 q] at hk
      obtain ⟨g, s, e1, e2⟩ := hs.blk b k hk
      exact ⟨g, s, hup _ _ e1, e2.mono hup (hside b g s q0 (by rw [hk]; simp) e1).1⟩
  · rcases hin b with q | ⟨q0, q⟩ <;> rcases hin c with r | ⟨r0, r⟩
    · rw [h1 b q] at hb
      rw [h1 c r] at hc
      exact hs'.inj b c g s s' hb hc he1 he2
    · rw [h1 b q] at hb
      rw [h0 c r0 r] at hc
      rw [hE c r] at he2
      exact absurd he1 ((hside c g s' r0 hc he2).2 b s hb)
    · rw [h0 b q0 q] at hb
      rw [h1 c r] at hc
      rw [hE b q] at he1
      exact absurd he2 ((hside b g s q0 hb he1).2 c s' hc)
    · rw [h0 b q0 q] at hb
      rw [h0 c r0 r] at hc
      rw [hE b q] at he1
      rw [hE c r] at he2
      exact hs.inj b c g s s' hb hc he1 he2
  · rw [hE b (.inr (by omega))]; exact hs.free b hb1 hb2
  · rw [h0 b (hhi b (by omega)) (.inr (by omega))]; exact hs.top b hb
  · rcases hin b with q | ⟨q0, q⟩
    · rw [h1 b q] at hn
      exact hs'.glob b hb hn
    · rw [h0 b q0 q] at hn
      obtain ⟨s1, hs1⟩ := hs.glob b hb hn
      exact ⟨s1, hup _ _ hs1⟩
  · rw [hE b (by omega)]; exact hr.emb b hb
  · obtain ⟨a1, a2⟩ := hr.frame g hg hf
    obtain ⟨b1, b2⟩ := hx.frame g (Nat.lt_of_lt_of_le hg hr.size) fun b s hb => a2 b s (by rw [← hsub b hb]; exact hb)
    refine ⟨b1.trans a1, fun b s hb => ?_⟩
    rcases hin b with q | ⟨q0, q⟩
    · rw [h1 b q] at hb; exact b2 b s hb
    · rw [h0 b q0 q] at hb; rw [hE b q]; exact a2 b s hb
  · by_cases e : hm b = none
    · rw [h0 b e (.inl (by omega))]; exact (hr.keep b hb).1
    · rw [h1 b (.inl e), (hx.keep b (by omega)).1, hsub b e]; exact (hr.keep b hb).1
  · have hl1 : h b ≠ none := by rw [(hr.keep b hb).1]; exact hl
    have he1 : E b = some (g, s) := by rw [hr.emb b (.inl (by omega))]; exact he
    refine Eq.trans ?_ ((hr.keep b hb).2 g s hl he)
    by_cases e : hm b = none
    · exact (hside b g s e hl1 he1).1
    · exact (hx.keep b (by omega)).2 g s e he1
  · rw [h0 b (hhi b (by omega)) (.inr (by omega))]; exact hr.beyond b hb
end
end Go.Rv

/- Maps on the own heap: keys, and what a look-up finds. -/
set_option linter.unusedVariables false
set_option linter.unusedSimpArgs false
namespace Go.Rv
open Go.RowKit Go.Sg

/-! ## Keys are compared -/

def vEq1 : Value → Value → Option Bool
  | .int k a, .int k' b => some (decide (k = k') && a == b)
  | .bool a, .bool b => some (a == b)
  | .string a, .string b => some (a.data.toList == b.data.toList)
  | _, _ => none
def vEqL : List Value → List Value → Option Bool
  | [], [] => some true
  | a :: as, b :: bs => (match vEq1 a b, vEqL as bs with
    | some x, some y => some (x && y)
    | _, _ => none)
  | _, _ => none
def vEq : Value → Value → Option Bool
  | .agg a, .agg b => vEqL a.toList b.toList
  | a, b => vEq1 a b
theorem vEq1_ok {a b : Value} {r : Bool} (h : vEq1 a b = some r) : r = true ↔ a = b := by
  unfold vEq1 at h
  split at h <;> cases h
  · simp
  · simp
  · rename_i x y
    rw [beq_iff_eq]
    constructor
    · intro e
      cases x; cases y
      simp at e
      rw [e]
    · intro e; cases e; rfl
theorem vEqL_ok : ∀ {a b : List Value} {r : Bool}, vEqL a b = some r → (r = true ↔ a = b)
  | [], [], r, h => by cases h; simp
  | a :: as, b :: bs, r, h => by
    unfold vEqL at h
    split at h <;> cases h
    rename_i x y h1 h2
    have i1 := vEq1_ok h1
    have i2 := vEqL_ok h2
    simp [i1, i2]
  | [], _ :: _, r, h => by cases h
  | _ :: _, [], r, h => by cases h
theorem vEq_ok {a b : Value} {r : Bool} (h : vEq a b = some r) : r = true ↔ a = b := by
  unfold vEq at h
  split at h
  · rename_i x y
    rw [vEqL_ok h]
    constructor
    · intro e; rw [Array.toList_inj.1 e]
    · intro e; cases e; rfl
  · exact vEq1_ok h

/-- A key that the model looks up without a doubt. -/
def goodB (P : Program) (k : TypeId) (v : Value) : Bool :=
  match P.underlying k with
  | some .bool => (match v with | .bool _ => true | _ => false)
  | some (.int q) => (match v with | .int q' _ => decide (q' = q) | _ => false)
  | some .string => (match v with | .string _ => true | _ => false)
  | some (.array _ _) => (keyOf P k v).isSome && P.keyTypeAt 8 k && P.tiled 8 k
  | some (.struct _) => (keyOf P k v).isSome && P.keyTypeAt 8 k && P.tiled 8 k
  | _ => false

section
variable {P : Program} {k : TypeId}

structure KeyRun (P : Program) (k : TypeId) : Prop where
  check : ∀ (w : World) (em : Bool) {v : Value}, goodB P k v = true → (Instr.checkKey em 10000 k v).run P w = .ok () w
  find : ∀ (w : World) {x : Value}, goodB P k x = true → ∀ es : List MapEntry, (∀ e ∈ es, goodB P k e.key = true) →
    ((Instr.findKey k x es).run P w = .ok none w ∧ ∀ e ∈ es, e.key ≠ x) ∨ ∃ j e, (Instr.findKey k x es).run P w = .ok (some (j, e.val)) w ∧ es[j]? = some e ∧ e.key = x
  stays : ∀ (w : World) {v : Value}, goodB P k v = true → (Instr.keyThatStays v v).run P w = .ok v w

theorem keyRun_plain {d : TypeDesc} (hd : P.underlying k = some d) (hg : ∀ v, goodB P k v = true → MapKept.IsKey d v) : KeyRun P k where
  check := fun w em v hv => MapKept.run_checkKey hd (hg v hv) em 9999
  find := fun w x hx es hes => by
    rcases MapKept.findNow_spec (hg x hx) es 0 (fun e he => hg _ (hes e he)) with ⟨h1, h2⟩ | ⟨j, e, h1, h2, h3⟩
    · exact .inl ⟨MapKept.run_findKey hd h1, h2⟩
    · exact .inr ⟨j, e, by rw [MapKept.run_findKey hd h1, Nat.zero_add], h2, h3⟩
  stays := fun w v hv => MapKept.run_keyThatStays (hg v hv)

theorem keyRun_deep (hw : (match P.underlying k with | some (.array _ _) | some (.struct _) => true | _ => false) = true) (hk : P.keyTypeAt 8 k = true) (ht : P.tiled 8 k = true)
    (hg : ∀ v, goodB P k v = true → ∃ l, keyOf P k v = some l) : KeyRun P k where
  check := fun w em v hv => by obtain ⟨l, hl⟩ := hg v hv; exact (deep_law (m := 8) (by omega) hk ht hw).check w em hl
  find := fun w x hx es hes => by
    obtain ⟨l, hl⟩ := hg x hx
    exact (deep_law (m := 8) (by omega) hk ht hw).find w hl es fun e he => hg _ (hes e he)
  stays := fun w v hv => by obtain ⟨l, hl⟩ := hg v hv; exact (deep_law (m := 8) (by omega) hk ht hw).stays w hl

theorem keyRun_of {v : Value} (h : goodB P k v = true) : KeyRun P k := by
  cases hu : P.underlying k with
  | none => simp [goodB, hu] at h
  | some d =>
    cases d with
    | bool => exact keyRun_plain hu fun v hv => by cases v <;> simp [goodB, hu] at hv <;> trivial
    | int q => exact keyRun_plain hu fun v hv => by cases v <;> simp [goodB, hu] at hv; exact hv
    | string => exact keyRun_plain hu fun v hv => by cases v <;> simp [goodB, hu] at hv <;> trivial
    | array n e =>
      simp [goodB, hu] at h
      exact keyRun_deep (by simp [hu]) h.1.2 h.2 fun v hv => by simp [goodB, hu] at hv; exact Option.isSome_iff_exists.1 hv.1.1
    | struct fs =>
      simp [goodB, hu] at h
      exact keyRun_deep (by simp [hu]) h.1.2 h.2 fun v hv => by simp [goodB, hu] at hv; exact Option.isSome_iff_exists.1 hv.1.1
    | _ => simp [goodB, hu] at h

/-! ## What a look-up finds -/

def findM (x : Value) : List (Value × RV × Nat) → Nat → Option (List (Nat × RV × Nat))
  | [], _ => some []
  | e :: es, i => (match vEq e.1 x, findM x es (i + 1) with
    | some true, some l => some ((i, e.2) :: l)
    | some false, some l => some l
    | _, _ => none)
def findR (P : Program) (k : TypeId) (x : Value) (es : List (Value × RV × Nat)) : Option (Option (Nat × RV × Nat)) :=
  bif goodB P k x && es.all (fun e => goodB P k e.1) then (match findM x es 0 with
    | some [] => some none
    | some [p] => some (some p)
    | _ => none) else none

theorem findM_ok {x : Value} : ∀ {es : List (Value × RV × Nat)} {i : Nat} {l : List (Nat × RV × Nat)}, findM x es i = some l → ∀ (j : Nat) (e : Value × RV × Nat), es[j]? = some e → (e.1 = x ↔ (i + j, e.2) ∈ l)
  | [], i, l, h, j, e, he => by simp at he
  | a :: es, i, l, h, j, e, he => by
    have hlow : ∀ {es : List (Value × RV × Nat)} {i : Nat} {l : List (Nat × RV × Nat)}, findM x es i = some l → ∀ p ∈ l, i ≤ p.1 := by
      intro es
      induction es with
      | nil => intro i l h p hp; cases h; cases hp
      | cons a es ih =>
        intro i l h p hp
        unfold findM at h
        split at h <;> cases h
        · rcases List.mem_cons.1 hp with rfl | hp
          · exact Nat.le_refl _
          · exact Nat.le_of_succ_le (ih ‹_› p hp)
        · exact Nat.le_of_succ_le (ih ‹_› p hp)
    unfold findM at h
    split at h <;> cases h
    · rename_i l' h1 h2
      have hx := (vEq_ok h1).1 rfl
      cases j with
      | zero => simp at he; subst he; simp [hx]
      | succ j =>
        have := findM_ok h2 j e (by simpa using he)
        rw [this, show i + 1 + j = i + (j + 1) by omega]
        constructor
        · exact fun hm => List.mem_cons_of_mem _ hm
        · intro hm
          rcases List.mem_cons.1 hm with hm | hm
          · have := congrArg Prod.fst hm; simp at this
          · exact hm
    · rename_i h1 h2
      cases j with
      | zero =>
        simp at he; subst he
        have hne : ¬ a.1 = x := fun e => by have := (vEq_ok h1).2 e; cases this
        simp only [hne, false_iff]
        intro hm
        have := hlow h2 _ hm
        simp at this
        omega
      | succ j =>
        have := findM_ok h2 j e (by simpa using he)
        rw [this, show i + 1 + j = i + (j + 1) by omega]

theorem findM_mem {x : Value} : ∀ {es : List (Value × RV × Nat)} {i : Nat} {l : List (Nat × RV × Nat)}, findM x es i = some l → ∀ p ∈ l, ∃ (j : Nat) (e : Value × RV × Nat), es[j]? = some e ∧ e.1 = x
  | [], i, l, h, p, hp => by cases h; cases hp
  | a :: es, i, l, h, p, hp => by
    unfold findM at h
    split at h <;> cases h
    · rename_i l' h1 h2
      rcases List.mem_cons.1 hp with rfl | hp
      · exact ⟨0, a, rfl, (vEq_ok h1).1 rfl⟩
      · obtain ⟨j, e, he, hx⟩ := findM_mem h2 p hp
        exact ⟨j + 1, e, by simpa using he, hx⟩
    · rename_i h1 h2
      obtain ⟨j, e, he, hx⟩ := findM_mem h2 p hp
      exact ⟨j + 1, e, by simpa using he, hx⟩

/-- Entries stand for entries. -/
def ER (E : Emb) (es : List (Value × RV × Nat)) (vs : List MapEntry) : Prop := es.length = vs.length ∧ ∀ (j : Nat) (e : Value × RV × Nat) (m : MapEntry), es[j]? = some e → vs[j]? = some m → m.key = e.1 ∧ Rr E e.2.1 m.val ∧ m.born = e.2.2

theorem findR_ok {E : Emb} {x : Value} {es : List (Value × RV × Nat)} {r : Option (Nat × RV × Nat)} (h : findR P k x es = some r) {vs : List MapEntry} (hr : ER E es vs) (w : World) :
    (∀ em, (Instr.checkKey em 10000 k x).run P w = .ok () w) ∧ (Instr.keyThatStays x x).run P w = .ok x w ∧
    (match r with
    | none => (Instr.findKey k x vs).run P w = .ok none w
    | some (j, d, c) => ∃ m, (Instr.findKey k x vs).run P w = .ok (some (j, m.val)) w ∧ vs[j]? = some m ∧ m.key = x ∧ Rr E d m.val ∧ m.born = c) := by
  unfold findR at h
  obtain ⟨h1, h2⟩ : (goodB P k x && es.all (fun e => goodB P k e.1)) = true ∧ (match findM x es 0 with | some [] => some none | some [p] => some (some p) | _ => none) = some r := by
    cases hc : (goodB P k x && es.all (fun e => goodB P k e.1)) with
    | true => rw [hc] at h; exact ⟨rfl, h⟩
    | false => rw [hc] at h; cases h
  rw [Bool.and_eq_true, List.all_eq_true] at h1
  have K := keyRun_of h1.1
  have hat : ∀ (j : Nat) (m : MapEntry), vs[j]? = some m → ∃ e, es[j]? = some e ∧ m.key = e.1 ∧ Rr E e.2.1 m.val ∧ m.born = e.2.2 := fun j m hm => by
    have hj := (List.getElem?_eq_some_iff.1 hm).1
    have he : es[j]? = some (es[j]'(by rw [hr.1]; exact hj)) := List.getElem?_eq_getElem _
    exact ⟨_, he, hr.2 j _ m he hm⟩
  have hgood : ∀ m ∈ vs, goodB P k m.key = true := fun m hm => by
    obtain ⟨j, hj⟩ := List.getElem?_of_mem hm
    obtain ⟨e, he, hk, _⟩ := hat j m hj
    rw [hk]; exact h1.2 e (List.mem_of_getElem? he)
  refine ⟨fun em => K.check w em h1.1, K.stays w h1.1, ?_⟩
  cases hm : findM x es 0 with
  | none => rw [hm] at h2; cases h2
  | some l =>
    rw [hm] at h2
    have hf := findM_ok hm
    rcases K.find w h1.1 vs hgood with ⟨q1, q2⟩ | ⟨j, m, q1, q2, q3⟩
    · match l, h2 with
      | [], h2 => cases h2; exact q1
      | [p], h2 =>
        exfalso
        obtain ⟨j, e, he, hx⟩ := findM_mem hm p (by simp)
        have hj := (List.getElem?_eq_some_iff.1 he).1
        have hv : vs[j]? = some (vs[j]'(by rw [← hr.1]; exact hj)) := List.getElem?_eq_getElem _
        obtain ⟨k1, _⟩ := hr.2 j e _ he hv
        exact q2 _ (List.mem_of_getElem? hv) (k1.trans hx)
    · obtain ⟨e, he, hk, hv, hb⟩ := hat j m q2
      have hin := (hf j e he).1 (by rw [← hk]; exact q3)
      rw [Nat.zero_add] at hin
      match l, h2 with
      | [], h2 => cases hin
      | [p], h2 =>
        cases h2
        rw [List.mem_singleton] at hin
        subst hin
        exact ⟨m, q1, q2, q3, hv, hb⟩
end
end Go.Rv

/- What operations that make no memory give on values with numbers. -/
set_option linter.unusedVariables false
set_option linter.unusedSimpArgs false
namespace Go.Rv
open Go.RowKit Go.Sg

abbrev noI : Nat → Prop := fun _ => False

def toD1 : RV → DV
  | .bool b => .v (.bool b)
  | .int k n => .v (.int k n)
  | .str s => .v (.string s)
  | _ => .any
def toD : RV → DV
  | .agg cs => .agg (cs.map toD1)
  | v => toD1 v

section
variable {E : Emb} {w : World}
theorem Rr.toD1 {v : RV} {x : Value} (h : Rr E v x) : Rel w noI noOwn (Rv.toD1 v) x := by
  cases h <;> first | exact .v _ _ | exact .any _ _
theorem Rr.toD {v : RV} {x : Value} (h : Rr E v x) : Rel w noI noOwn (Rv.toD v) x := by
  cases h with
  | agg cs vs hl hone hrel =>
    refine .agg _ _ vs (by rw [List.length_map]; exact hl) hone fun j d u hd hu => ?_
    rw [List.getElem?_map, Option.map_eq_some_iff] at hd
    obtain ⟨d0, hd0, rfl⟩ := hd
    exact (hrel j d0 u hd0 hu).toD1
  | _ => first | exact .v _ _ | exact .any _ _
end

def ofD : DV → Option RV
  | .v (.bool b) => some (.bool b)
  | .v (.int k n) => some (.int k n)
  | .v (.string s) => some (.str s)
  | _ => none
theorem ofD_ok {E : Emb} {w : World} {d : DV} {v : RV} {x : Value} (h : ofD d = some v) (hr : Rel w noI noOwn d x) : Rr E v x := by
  unfold ofD at h
  split at h <;> cases h <;> cases hr
  · exact .bool _
  · exact .int _ _
  · exact .str _

/-! ## Operators -/

def binRI (op : BinOp) (k : IntKind) (a : Int) (k' : IntKind) (b : Int) : Option RV :=
  match op with
  | .add => bif decide (k = k') then some (.int k (k.wrap (a + b))) else none
  | .sub => bif decide (k = k') then some (.int k (k.wrap (a - b))) else none
  | .mul => bif decide (k = k') then some (.int k (k.wrap (a * b))) else none
  | .quo => bif decide (k = k') && !decide (b = 0) then some (.int k (k.wrap (a.tdiv b))) else none
  | .rem => bif decide (k = k') && !decide (b = 0) then some (.int k (a.tmod b)) else none
  | .and => bif decide (k = k') then some (.int k (k.wrap (BitVec.ofInt k.bits a &&& BitVec.ofInt k.bits b).toNat)) else none
  | .or => bif decide (k = k') then some (.int k (k.wrap (BitVec.ofInt k.bits a ||| BitVec.ofInt k.bits b).toNat)) else none
  | .xor => bif decide (k = k') then some (.int k (k.wrap (BitVec.ofInt k.bits a ^^^ BitVec.ofInt k.bits b).toNat)) else none
  | .andNot => bif decide (k = k') then some (.int k (k.wrap (BitVec.ofInt k.bits a &&& ~~~ BitVec.ofInt k.bits b).toNat)) else none
  | .shl => bif decide (0 ≤ b) then some (.int k (k.wrap (a * 2 ^ (min b.toNat k.bits)))) else none
  | .shr => bif decide (0 ≤ b) then some (.int k (a.fdiv (2 ^ (min b.toNat k.bits)))) else none
  | .eql => bif decide (k = k') then some (.bool (a == b)) else none
  | .neq => bif decide (k = k') then some (.bool (a != b)) else none
  | .lss => bif decide (k = k') then some (.bool (decide (a < b))) else none
  | .leq => bif decide (k = k') then some (.bool (decide (a ≤ b))) else none
  | .gtr => bif decide (k = k') then some (.bool (decide (b < a))) else none
  | .geq => bif decide (k = k') then some (.bool (decide (b ≤ a))) else none
theorem bif_some {α : Type} {c : Bool} {x y : α} (h : (bif c then some x else none) = some y) : c = true ∧ x = y := by
  cases c with
  | true => exact ⟨rfl, Option.some.inj h⟩
  | false => cases h
theorem bif_opt {α : Type} {c : Bool} {x : Option α} {y : α} (h : (bif c then x else none) = some y) : c = true ∧ x = some y := by
  cases c with
  | true => exact ⟨rfl, h⟩
  | false => cases h
theorem binRI_ok {op : BinOp} {k k' : IntKind} {a b : Int} {v : RV} (h : binRI op k a k' b = some v) : (binI op k a k' b).1 ∧ ofD (binI op k a k' b).2 = some v := by
  cases op <;> (unfold binRI at h; obtain ⟨h1, rfl⟩ := bif_some h; simp at h1; simp only [binI, ofD, and_true]; exact h1)

def binRS (op : BinOp) (a b : ByteArray) : Option RV :=
  match op with
  | .add => bif decide (a.size + b.size ≤ maxLen) then some (.str (a ++ b)) else none
  | .eql => some (.bool (a.toList == b.toList))
  | .neq => some (.bool !(a.toList == b.toList))
  | .lss => some (.bool (Op.bytesLess a.toList b.toList))
  | .leq => some (.bool (Op.bytesLess a.toList b.toList || a.toList == b.toList))
  | .gtr => some (.bool !(Op.bytesLess a.toList b.toList || a.toList == b.toList))
  | .geq => some (.bool !(Op.bytesLess a.toList b.toList))
  | _ => none
theorem binRS_ok {op : BinOp} {a b : ByteArray} {v : RV} (h : binRS op a b = some v) : (binS op a b).1 ∧ ofD (binS op a b).2 = some v := by
  cases op <;> unfold binRS at h <;> first
    | (cases h; done)
    | (cases h; exact ⟨trivial, rfl⟩)
    | (obtain ⟨h1, rfl⟩ := bif_some h; simp at h1; exact ⟨h1, rfl⟩)

def eqR : List Nat → List RV → List RV → Option Bool
  | [], [], [] => some true
  | 1 :: ks, .int k a :: cs, .int k' b :: ds => bif decide (k = k') then (eqR ks cs ds).map fun r => (a == b) && r else none
  | 2 :: ks, .bool a :: cs, .bool b :: ds => (eqR ks cs ds).map fun r => (a == b) && r
  | 3 :: ks, .str a :: cs, .str b :: ds => (eqR ks cs ds).map fun r => (a == b) && r
  | _, _, _ => none
theorem eqR_ok : ∀ {ks : List Nat} {cs ds : List RV} {r : Bool}, eqR ks cs ds = some r → (eqL ks (cs.map toD1) (ds.map toD1)).1 ∧ (eqL ks (cs.map toD1) (ds.map toD1)).2 = r := by
  intro ks cs ds
  fun_induction eqR ks cs ds with
  | case1 => intro r h; cases h; exact ⟨trivial, rfl⟩
  | case2 ks k a cs k' b ds hk ih =>
    intro r h
    rw [Option.map_eq_some_iff] at h
    obtain ⟨q, hq, rfl⟩ := h
    obtain ⟨i1, i2⟩ := ih hq
    simp only [List.map_cons, toD1, eqL]
    exact ⟨⟨of_decide_eq_true hk, i1⟩, by rw [i2]⟩
  | case3 => intro r h; cases h
  | case4 ks a cs b ds ih =>
    intro r h
    rw [Option.map_eq_some_iff] at h
    obtain ⟨q, hq, rfl⟩ := h
    obtain ⟨i1, i2⟩ := ih hq
    simp only [List.map_cons, toD1, eqL]
    exact ⟨i1, by rw [i2]⟩
  | case5 ks a cs b ds ih =>
    intro r h
    rw [Option.map_eq_some_iff] at h
    obtain ⟨q, hq, rfl⟩ := h
    obtain ⟨i1, i2⟩ := ih hq
    simp only [List.map_cons, toD1, eqL]
    exact ⟨i1, by rw [i2]⟩
  | case6 => intro r h; cases h

/-- The two values, not nil's own comparisons. -/
def binR (P : Program) (t : TypeId) (op : BinOp) (x y : RV) : Option RV :=
  match x, y with
  | .int k a, .int k' b => binRI op k a k' b
  | .str a, .str b => binRS op a b
  | .bool a, .bool b => bif tk P t == 3 then (match op with
    | .eql => some (.bool (a == b))
    | .neq => some (.bool !(a == b))
    | _ => none) else none
  | .agg cs, .agg ds => match esOf P t with
    | some ks => (match op with
      | .eql => (eqR ks cs ds).map .bool
      | .neq => (eqR ks cs ds).map fun b => .bool !b
      | _ => none)
    | none => none
  | _, _ => none
theorem binR_ok {P : Program} {t : TypeId} {op : BinOp} {x y : RV} {v : RV} (h : binR P t op x y = some v) : (binP (esOf P t) (tk P t) op (toD x) (toD y)).1 ∧ ofD (binP (esOf P t) (tk P t) op (toD x) (toD y)).2 = some v := by
  unfold binR at h
  split at h
  · exact binRI_ok h
  · exact binRS_ok h
  · obtain ⟨h1, h2⟩ := bif_opt h
    have h1 : tk P t = 3 := by simpa using h1
    cases op <;> first | (cases h2; done) | (cases h2; exact ⟨h1, rfl⟩)
  · rename_i cs ds
    simp only [toD, binP]
    split at h
    · rename_i ks hks
      rw [hks]
      split at h
      · rw [Option.map_eq_some_iff] at h
        obtain ⟨r, hr, rfl⟩ := h
        obtain ⟨i1, i2⟩ := eqR_ok hr
        exact ⟨i1, by simp only [binA, i2]; rfl⟩
      · rw [Option.map_eq_some_iff] at h
        obtain ⟨r, hr, rfl⟩ := h
        obtain ⟨i1, i2⟩ := eqR_ok hr
        exact ⟨i1, by simp only [binA, i2]; rfl⟩
      · cases h
    · cases h
  · cases h

/-! ## nil -/

def nilEq (P : Program) (t : TypeId) (x y : RV) : Option Bool :=
  match P.underlying t, x, y with
  | some (.slice _), .nils, .nils => some true
  | some (.slice _), .sl .., .nils => some false
  | some (.slice _), .nils, .sl .. => some false
  | some (.pointer _), .nilp, .nilp => some true
  | some (.pointer _), .ptr .., .nilp => some false
  | some (.pointer _), .nilp, .ptr .. => some false
  | some (.map _ _), .nilm, .nilm => some true
  | some (.map _ _), .mp .., .nilm => some false
  | some (.map _ _), .nilm, .mp .. => some false
  | some (.func _ _ _), .nilf, .nilf => some true
  | some (.func _ _ _), .fn .., .nilf => some false
  | some (.func _ _ _), .nilf, .fn .. => some false
  | _, _, _ => none
def nilR (P : Program) (t : TypeId) (op : BinOp) (x y : RV) : Option RV :=
  match op with
  | .eql => (nilEq P t x y).map .bool
  | .neq => (nilEq P t x y).map fun b => .bool !b
  | _ => none
theorem nilEq_ok {P : Program} {E : Emb} {w : World} {t : TypeId} {x y : RV} {u v : Value} {b : Bool} (hx : Rr E x u) (hy : Rr E y v) (h : nilEq P t x y = some b) : (Op.equal t u v).run P w = .ok b w ∧ (∀ op xo yo, eqGuard op t xo yo u v = (pure () : Sem Unit)) ∧ binOp .eql t u v = (do pure (.bool (← Op.equal t u v))) ∧ binOp .neq t u v = (do pure (.bool (!(← Op.equal t u v)))) := by
  have e : Op.equal t u v = Op.equalIn (9999 + 1) t u v := rfl
  rw [e]
  unfold nilEq at h
  split at h <;> try cases h
  all_goals
    rename_i hu
    cases hx
    cases hy
    refine ⟨?_, fun op xo yo => by cases op <;> rfl, rfl, rfl⟩
    unfold Op.equalIn
    simp [run_underlying hu]
theorem run_nilR {P : Program} {E : Emb} {w : World} {t : TypeId} {op : BinOp} {x y : RV} {u v : Value} {r : RV} (hx : Rr E x u) (hy : Rr E y v) (h : nilR P t op x y = some r) (xo yo : Operand) : ∃ q, (eqGuard op t xo yo u v >>= fun _ => binOp op t u v).run P w = .ok q w ∧ Rr E r q := by
  unfold nilR at h
  split at h
  · rw [Option.map_eq_some_iff] at h
    obtain ⟨b, hb, rfl⟩ := h
    obtain ⟨h1, h2, h3, _⟩ := nilEq_ok (w := w) hx hy hb
    exact ⟨.bool b, by rw [h2, h3]; simp [h1], .bool _⟩
  · rw [Option.map_eq_some_iff] at h
    obtain ⟨b, hb, rfl⟩ := h
    obtain ⟨h1, h2, _, h3⟩ := nilEq_ok (w := w) hx hy hb
    exact ⟨.bool !b, by rw [h2, h3]; simp [h1], .bool _⟩
  · cases h

/-! ## Operands -/

def cv1 : Value → RV
  | .bool b => .bool b
  | .int k n => .int k n
  | .string s => .str s
  | .pointer none => .nilp
  | .slice none 0 0 => .nils
  | .map none => .nilm
  | .nilFunc => .nilf
  | .nilIface => .nili
  | _ => .und
def cvR : Value → RV
  | .agg cs => .agg (cs.toList.map cv1)
  | v => cv1 v
theorem cv1_ok (E : Emb) (x : Value) : Rr E (cv1 x) x := by
  unfold cv1
  split <;> first | exact .bool _ | exact .int _ _ | exact .str _ | exact .nilp | exact .nils | exact .nilm | exact .nilf | exact .nili | exact .und _

theorem cvR_ok (E : Emb) (x : Value) (hx : ∀ cs, x ≠ .agg cs) : Rr E (cvR x) x := by
  have := cv1_ok E x
  cases x <;> first | exact this | exact absurd rfl (hx _)

def evR (t : Tr RV) : Operand → RV
  | .tmp i => (t.get i).getD .nov
  | .const v => cvR v
  | .global g => .gp g 0
  | .func f => .fn f [] []

section
variable {P : Program} {nt : Nat} {E : Emb} {t : Tr RV} {a : Act} {w : World} {h : Hp} {n m : Nat}

theorem opd_of (o : Operand) (ho : opdOk nt o = true) (hs : ∀ i, o = .tmp i → Rr E ((t.get i).getD .nov) (a.tmps.getD i undef)) : Rr E (evR t o) (a.eval o) := by
  cases o with
  | tmp i => exact hs i rfl
  | const v =>
    by_cases hv : ∃ cs, v = .agg cs
    · obtain ⟨cs, rfl⟩ := hv
      have ho : cs.toList.all (·.oneCell') = true := ho
      rw [List.all_eq_true] at ho
      refine Rr.agg _ cs (by simp) ho fun j d u hd hu => ?_
      rw [List.getElem?_map, Option.map_eq_some_iff] at hd
      obtain ⟨y, hy, rfl⟩ := hd
      rw [Array.getElem?_toList, hu] at hy
      cases hy
      exact cv1_ok E u
    · exact cvR_ok E v fun cs h => hv ⟨cs, h⟩
  | global g => exact .gp g 0
  | func f => exact .fn f [] [] #[] #[] rfl rfl (by simp) (by simp)

theorem SS.opd (hs : SS nt E t a) (o : Operand) (ho : opdOk nt o = true) : Rr E (evR t o) (a.eval o) := opd_of o ho fun i hi => hs.slot i (by subst hi; simpa [opdOk] using ho)

/-! ## Reading memory -/

def cutR (ld : Option Nat) (off : Nat) (cs : List RV) : Option RV :=
  match ld with
  | none => cs[off]?
  | some k => bif decide (off + k ≤ cs.length) then some (.agg ((cs.drop off).take k)) else none
/-- The block and the offset that a pointer names. -/
def ptrR : RV → Option (Nat × Nat)
  | .ptr b off => some (b, off)
  | .gp g off => bif decide (g < NG) then some (g, off) else none
  | _ => none
theorem ptrR_ok {x : RV} {b off : Nat} (hp : ptrR x = some (b, off)) {hs : HS E h n m w} (hb : h b ≠ none) {u : Value} (hx : Rr E x u) : ∃ g s, E b = some (g, s) ∧ u = .pointer (some ⟨g, off, none⟩) := by
  unfold ptrR at hp
  split at hp <;> try cases hp
  · cases hx with
    | ptr _ _ g s hE => exact ⟨g, s, hE, rfl⟩
  · obtain ⟨h1, h2⟩ := bif_some hp
    cases h2
    cases hx
    obtain ⟨s, hE⟩ := hs.glob _ (of_decide_eq_true h1) hb
    exact ⟨_, s, hE, rfl⟩
def loadR (P : Program) (h : Hp) (t : TypeId) (x : RV) : Option RV :=
  match ptrR x with
  | some (b, off) => match h b with
    | some (.cells _ cs) => (match ldOf P t with
      | some ld => cutR ld off cs
      | none => none)
    | _ => none
  | none => none

theorem run_loadR (hs : HS E h n m w) {t : TypeId} {x : RV} {u : Value} (hx : Rr E x u) {v : RV} (hl : loadR P h t x = some v) : ∃ y, (Instr.loadAt t u).run P w = .ok y w ∧ Rr E v y := by
  unfold loadR at hl
  split at hl <;> try cases hl
  rename_i b off hpt
  split at hl <;> try cases hl
  rename_i e cs hb
  split at hl <;> try cases hl
  rename_i ld hld
  obtain ⟨g, s, hE, us, hg, hsz, hlen, hrel⟩ := hs.blk b _ hb
  obtain ⟨g', s', hE', rfl⟩ := ptrR_ok hpt (hs := hs) (by rw [hb]; simp) hx
  · rw [hE] at hE'
    cases hE'
    unfold cutR at hl
    unfold ldOf at hld
    have hcell : ∀ j, j < cs.length → w.cell? ⟨g, j, none⟩ = some (us.getD j undef) := fun j hj => by
      unfold World.cell?; simp only [hg]; simp [Array.getElem?_eq_getElem (show j < us.size by omega)]
    cases ld with
    | none =>
      simp only at hl
      have hlt : off < cs.length := by
        rcases Nat.lt_or_ge off cs.length with h | h
        · exact h
        · rw [List.getElem?_eq_none h] at hl; cases hl
      refine ⟨us.getD off undef, ?_, (hrel off v _ hl (by simp [Array.getElem?_eq_getElem (show off < us.size by omega)])).2⟩
      have h2 := hcell off hlt
      split at hld <;> simp at hld
      rename_i i d n1 n2 hi hu
      cases d <;> first
        | exact absurd rfl (n1 _)
        | exact absurd rfl (n2 _ _)
        | simp [Instr.loadAt, Instr.sureAddr, loadVar, isAgg, run_underlying hu, h2]
    | some k =>
      obtain ⟨h1, rfl⟩ := bif_some hl
      have h1 : off + k ≤ cs.length := of_decide_eq_true h1
      have key : (loadCells ⟨g, off, none⟩ k).run P w = .ok ((List.range k).map fun j => us.getD (off + j) undef).toArray w :=
        run_loadCells w _ k (fun j => us.getD (off + j) undef) fun j hj => by
          rw [Addr.add_lit]
          exact hcell (off + j) (by omega)
      refine ⟨.agg ((List.range k).map fun j => us.getD (off + j) undef).toArray, ?_, ?_⟩
      · split at hld <;> simp at hld
        · rename_i i fs hi hu
          subst hld
          simp [Instr.loadAt, Instr.sureAddr, loadVar, isAgg, run_underlying hu, run_sizeOf w hi, Program.cellsOf, hi, key]
        · rename_i i m' e' hi hu
          subst hld
          simp [Instr.loadAt, Instr.sureAddr, loadVar, isAgg, run_underlying hu, run_sizeOf w hi, Program.cellsOf, hi, key]
      · have hkl : ((cs.drop off).take k).length = k := by simp; omega
        refine .agg _ _ (by simp; omega) (fun u hu => ?_) fun j d u hd hu => ?_
        · simp at hu
          obtain ⟨j, hj, rfl⟩ := hu
          rw [Array.getElem?_eq_getElem (show off + j < us.size by omega)]
          exact (hrel (off + j) _ _ (List.getElem?_eq_getElem (by omega)) (Array.getElem?_eq_getElem (show off + j < us.size by omega))).1
        · have hj : j < k := by
            rcases Nat.lt_or_ge j k with h | h
            · exact h
            · rw [List.getElem?_eq_none (by omega)] at hd; cases hd
          rw [List.getElem?_take, if_pos hj, List.getElem?_drop] at hd
          simp only [List.getElem?_toArray, List.getElem?_map, List.getElem?_range hj, Option.map_some, Option.some.injEq] at hu
          subst hu
          exact (hrel _ d _ hd (by simp [Array.getElem?_eq_getElem (show off + j < us.size by omega)])).2

def fldR (P : Program) (s f : Nat) (x : RV) : Option RV :=
  match x with
  | .ptr b off => (fldOf P s f).map fun o => .ptr b (off + o)
  | .gp b off => (fldOf P s f).map fun o => .gp b (off + o)
  | _ => none
theorem run_fldR {s f : Nat} {x : RV} {u : Value} (hx : Rr E x u) {v : RV} (h : fldR P s f x = some v) : ∃ y, (Instr.fieldAt s u f).run P w = .ok y w ∧ Rr E v y := by
  unfold fldR at h
  split at h <;> try cases h
  rename_i b off
  rw [Option.map_eq_some_iff] at h
  obtain ⟨o, ho, rfl⟩ := h
  cases hx with
  | ptr _ _ g s' hE =>
    obtain ⟨y, h1, h2⟩ := run_fieldAt (P := P) (w := w) (I := noI) (A := fun i => if i = 0 then some (some g, 0) else none) (s := s) (f := f) (d := .bp 0 off) (.bp _ 0 off g 0 (by simp)) (by rw [ho]; exact trivial)
    rw [ho] at h2
    simp only [fldP] at h2
    generalize hA : (fun i => if i = 0 then some (some g, 0) else none : Own) = A at h2
    cases h2 with
    | bp _ _ _ g2 c2 h2 =>
      subst hA
      simp at h2
      obtain ⟨rfl, _⟩ := h2
      exact ⟨_, h1, .ptr b _ g s' hE⟩
  rename_i g off
  rw [Option.map_eq_some_iff] at h
  obtain ⟨o, ho, rfl⟩ := h
  cases hx with
  | gp _ _ =>
    obtain ⟨y, h1, h2⟩ := run_fieldAt (P := P) (w := w) (I := noI) (A := fun i => if i = 0 then some (some g, 0) else none) (s := s) (f := f) (d := .bp 0 off) (.bp _ 0 off g 0 (by simp)) (by rw [ho]; exact trivial)
    rw [ho] at h2
    simp only [fldP] at h2
    generalize hA : (fun i => if i = 0 then some (some g, 0) else none : Own) = A at h2
    cases h2 with
    | bp _ _ _ g2 c2 h2 =>
      subst hA
      simp at h2
      obtain ⟨rfl, _⟩ := h2
      exact ⟨_, h1, .gp _ _⟩

def idxR (P : Program) (t : TypeId) (x i : RV) : Option RV :=
  match x, i with
  | .sl b off len _ _ _, .int _ k => (match elOf P t with
    | some (none, z) => bif decide (0 ≤ k) && decide (k.toNat < len) then some (.ptr b (off + k.toNat * z)) else none
    | _ => none)
  | .ptr b off, .int _ k => (match elOf P t with
    | some (some l, z) => bif decide (0 ≤ k) && decide (k.toNat < l) then some (.ptr b (off + k.toNat * z)) else none
    | _ => none)
  | .gp b off, .int _ k => (match elOf P t with
    | some (some l, z) => bif decide (0 ≤ k) && decide (k.toNat < l) then some (.gp b (off + k.toNat * z)) else none
    | _ => none)
  | _, _ => none
theorem run_idxR {t : TypeId} {x i : RV} {u q : Value} (hx : Rr E x u) (hi : Rr E i q) {v : RV} (h : idxR P t x i = some v) : ∃ y, (Instr.indexAt t u q).run P w = .ok y w ∧ Rr E v y := by
  unfold idxR at h
  split at h
  · rename_i b off len z0 cap full kk k
    split at h <;> try cases h
    rename_i z hel
    obtain ⟨h1, rfl⟩ := bif_some h
    simp only [Bool.and_eq_true, decide_eq_true_eq] at h1
    cases hi
    cases hx with
    | sl _ _ _ _ _ _ g s c hE hl hm hs' hf hc =>
      unfold elOf at hel
      split at hel <;> simp at hel
      rename_i e' hu
      obtain ⟨i, hi, hz⟩ := hel
      refine ⟨_, ?_, .ptr b _ g s hE⟩
      simp [Instr.indexAt, asIntOf, run_underlying hu, h1.1, (show k < (len : Int) by omega), run_sizeOf w hi, Program.cellsOf, hi, hz, Addr.add_lit]
  · rename_i b off kk k
    split at h <;> try cases h
    rename_i l z hel
    obtain ⟨h1, rfl⟩ := bif_some h
    simp only [Bool.and_eq_true, decide_eq_true_eq] at h1
    cases hi
    cases hx with
    | ptr _ _ g s hE =>
      unfold elOf at hel
      split at hel <;> simp at hel
      rename_i m' e' hu
      obtain ⟨i, hi, rfl, hz⟩ := hel
      refine ⟨_, ?_, .ptr b _ g s hE⟩
      simp [Instr.indexAt, Instr.sureAddr, asIntOf, run_underlying hu, h1.1, (show k < (m' : Int) by omega), run_sizeOf w hi, Program.cellsOf, hi, hz, Addr.add_lit]
  · rename_i b off kk k
    split at h <;> try cases h
    rename_i l z hel
    obtain ⟨h1, rfl⟩ := bif_some h
    simp only [Bool.and_eq_true, decide_eq_true_eq] at h1
    cases hi
    cases hx with
    | gp _ _ =>
      unfold elOf at hel
      split at hel <;> simp at hel
      rename_i m' e' hu
      obtain ⟨i, hi, rfl, hz⟩ := hel
      refine ⟨_, ?_, .gp b _⟩
      simp [Instr.indexAt, Instr.sureAddr, asIntOf, run_underlying hu, h1.1, (show k < (m' : Int) by omega), run_sizeOf w hi, Program.cellsOf, hi, hz, Addr.add_lit]
  · cases h

/-- An array's element. -/
def atA (P : Program) (t : TypeId) (cs : List RV) (k : Int) : Option RV :=
  match P.underlying t with
  | some (.array n e) => (match P.info? e, eqKs P 40 e, P.underlying e with
    | some i, some a, some d => bif decide (0 ≤ k) && decide (k.toNat < n) && decide (i.size = a.length) && decide (k.toNat * i.size + a.length ≤ cs.length) then
        (match d with
        | .struct _ => some (.agg ((cs.drop (k.toNat * i.size)).take a.length))
        | _ => bif decide (a.length = 1) then cs[k.toNat * i.size]? else none) else none
    | _, _, _ => none)
  | _ => none
theorem run_atA {t : TypeId} {cs : List RV} {u : Value} {kk : IntKind} {k : Int} (hx : Rr E (.agg cs) u) {v : RV} (h : atA P t cs k = some v) : ∃ y, (Instr.index t u (.int kk k)).run P w = .ok y w ∧ Rr E v y := by
  unfold atA at h
  split at h <;> try cases h
  rename_i n e hu
  split at h <;> try cases h
  rename_i i a d hi ha hd
  obtain ⟨h1, h2⟩ := bif_opt h
  simp only [Bool.and_eq_true, decide_eq_true_eq] at h1
  obtain ⟨⟨⟨q1, q2⟩, q3⟩, q4⟩ := h1
  cases hx with
  | agg _ vs hl hone hrel =>
    have hp := run_part (P := P) (w := w) (X := vs) (off := k.toNat * i.size) ha hi q3 (by omega)
    refine ⟨_, by simp [Instr.index, asIntOf, run_underlying hu, q1, show k < (n : Int) by omega, run_sizeOf w hi, Program.cellsOf, hi]; exact hp, ?_⟩
    have hat : ∀ j, j < a.length → ((vs.toList.drop (k.toNat * i.size)).take a.length)[j]? = vs[k.toNat * i.size + j]? := fun j hj => by
      rw [List.getElem?_take, if_pos hj, List.getElem?_drop, Array.getElem?_toList]
    split at h2
    · rename_i fs
      cases h2
      unfold vOf
      rw [hd]
      refine .agg _ _ (by simp; omega) (fun x hx => hone x ?_) fun j d' u' hd' hu' => ?_
      · exact List.mem_of_mem_drop (List.mem_of_mem_take (by simpa using hx))
      · have hj : j < a.length := by
          have := (List.getElem?_eq_some_iff.1 hd').1
          simp at this; omega
        rw [List.getElem?_take, if_pos hj, List.getElem?_drop] at hd'
        have hu2 : ((vs.toList.drop (k.toNat * i.size)).take a.length)[j]? = some u' := by simpa using hu'
        rw [hat j hj] at hu2
        exact hrel _ d' u' hd' hu2
    · rename_i hns
      obtain ⟨r1, r2⟩ := bif_opt h2
      have r1 := of_decide_eq_true r1
      have hvo : vOf P e ((vs.toList.drop (k.toNat * i.size)).take a.length) = ((vs.toList.drop (k.toNat * i.size)).take a.length).headD undef := by
        unfold vOf
        rw [hd]
        split
        · rename_i fs he; cases he; exact absurd rfl (hns fs)
        · rfl
      rw [hvo]
      have hlt : k.toNat * i.size < vs.size := by omega
      have h0 := hat 0 (by omega)
      rw [Nat.add_zero, Array.getElem?_eq_getElem hlt] at h0
      have : ((vs.toList.drop (k.toNat * i.size)).take a.length).headD undef = vs[k.toNat * i.size] := by
        cases hq : (vs.toList.drop (k.toNat * i.size)).take a.length with
        | nil => rw [hq] at h0; cases h0
        | cons x l => rw [hq] at h0; exact Option.some.inj h0
      rw [this]
      exact hrel _ v _ r2 (Array.getElem?_eq_getElem hlt)

/-- A string's byte; an array's element. -/
def atR (P : Program) (t : TypeId) (x i : RV) : Option RV :=
  match x, i with
  | .agg cs, .int _ k => atA P t cs k
  | .str s, .int _ k => bif (tk P t == 1) && decide (0 ≤ k) && decide (k < s.size) then some (.int .u8 (s.data.getD k.toNat 0).toNat) else none
  | _, _ => none
theorem run_atR {t : TypeId} {x i : RV} {u q : Value} (hx : Rr E x u) (hi : Rr E i q) {v : RV} (h : atR P t x i = some v) : ∃ y, (Instr.index t u q).run P w = .ok y w ∧ Rr E v y := by
  unfold atR at h
  split at h <;> try cases h
  · rename_i cs kk k
    cases hi
    exact run_atA hx h
  rename_i s kk k
  obtain ⟨h1, rfl⟩ := bif_some h
  simp only [Bool.and_eq_true, decide_eq_true_eq, beq_iff_eq] at h1
  obtain ⟨y, h2, h3⟩ := run_atP (P := P) (w := w) (I := noI) (A := noOwn) (t := t) (el := none) (ld := none) (d := .v (.string s)) (e := .v (.int kk k)) (u := u) (v := q) (by cases hx; exact .v _ _) (by cases hi; exact .v _ _) ⟨h1.1.1, h1.1.2, h1.2⟩
  exact ⟨y, h2, ofD_ok (d := .v (.int .u8 (s.data.getD k.toNat 0).toNat)) rfl h3⟩

/-- A bound, if one is written. -/
def bdR (o : Option RV) (d : Nat) : Option Nat := match o with
  | none => some d
  | some (.int _ k) => bif decide (0 ≤ k) then some k.toNat else none
  | some _ => none
theorem bdR_ok {o : Option RV} {ov : Option Value} {d l : Nat} (h : bdR o d = some l) (ho : ∀ e, o = some e → ∃ v, ov = some v ∧ Rr E e v) (hn : o = none → ov = none) : bnd ov l d := by
  unfold bdR at h
  split at h
  · cases h; exact .inl ⟨hn rfl, rfl⟩
  · rename_i k i
    obtain ⟨h1, rfl⟩ := bif_some h
    obtain ⟨v, rfl, hv⟩ := ho _ rfl
    cases hv
    exact .inr ⟨_, _, rfl, of_decide_eq_true h1, rfl⟩
  · cases h

def subR (P : Program) (t : TypeId) (x : RV) (lo hi : Option RV) : Option RV :=
  match x with
  | .str s => (match bdR lo 0, bdR hi s.size with
    | some l, some h => bif (tk P t == 1) && decide (l ≤ h) && decide (h ≤ s.size) then some (.str (s.extract l h)) else none
    | _, _ => none)
  | .sl b off len z cap full => (match elOf P t, bdR lo 0, bdR hi len with
    | some (none, z'), some l, some h => bif decide (z' = z) && decide (l ≤ h) then
        (bif decide (l < len) && decide (h ≤ len) then some (.sl b (off + l * z) (h - l) z (cap.map (· - l)) full)
         else match cap with
          | some c => bif decide (l < c) && decide (h ≤ c) then some (.sl b (off + l * z) (h - l) z (some (c - l)) full) else bif decide (l = h) && decide (h ≤ c) then some .em else none
          | none => bif decide (l = h) && decide (h ≤ len) then some .em else none) else none
    | _, _, _ => none)
  | .nils => (match elOf P t, bdR lo 0, bdR hi 0 with
    | some (none, _), some 0, some 0 => some .nils
    | _, _, _ => none)
  | .em => (match elOf P t, bdR lo 0, bdR hi 0 with
    | some (none, _), some 0, some 0 => some .em
    | _, _, _ => none)
  | _ => none

theorem run_subR {t : TypeId} {x : RV} {u : Value} {lo hi : Option RV} {lv hv : Option Value} (hx : Rr E x u) (hlo : ∀ e, lo = some e → ∃ v, lv = some v ∧ Rr E e v) (hlo' : lo = none → lv = none)
    (hhi : ∀ e, hi = some e → ∃ v, hv = some v ∧ Rr E e v) (hhi' : hi = none → hv = none) {v : RV} (h : subR P t x lo hi = some v) : ∃ y, (Instr.sliceAt t u lv hv none).run P w = .ok y w ∧ Rr E v y := by
  have key : ∀ {z : Nat}, elOf P t = some (none, z) → ∀ (b : Option Addr) (len c l h : Nat), bnd lv l 0 → bnd hv h len → l ≤ h → h ≤ c →
      (Instr.sliceAt t (.slice b len c) lv hv none).run P w = .ok (.slice (if c = l then b else b.map (·.add (l * z))) (h - l) (c - l)) w := fun {z} hel b len c l h h1 h2 h3 h4 => by
    unfold elOf at hel
    split at hel <;> simp at hel
    rename_i e hu'
    obtain ⟨i, hi, hz⟩ := hel
    simp [Instr.sliceAt, Instr.slice, run_underlying hu', run_bounds (P := P) (w := w) (sl := true) h1 h2 h3 h4, run_sizeOf w hi, Program.cellsOf, hi, hz]
  unfold subR at h
  split at h
  · rename_i s
    split at h <;> try cases h
    rename_i l hh e1 e2
    obtain ⟨h1, rfl⟩ := bif_some h
    simp only [Bool.and_eq_true, decide_eq_true_eq, beq_iff_eq] at h1
    cases hx
    exact ⟨_, run_sub_str h1.1.1 (bdR_ok e1 hlo hlo') (bdR_ok e2 hhi hhi') h1.1.2 h1.2, .str _⟩
  · rename_i b off len z cap full
    split at h <;> try cases h
    rename_i z' l hh hel e1 e2
    obtain ⟨h1, h2⟩ := bif_opt h
    simp only [Bool.and_eq_true, decide_eq_true_eq] at h1
    obtain ⟨rfl, h1⟩ := h1
    cases hx with
    | sl _ _ _ _ _ _ g s c hE hl hm hs' hf hc =>
      have mk : ∀ (cap' : Option Nat), l < c → hh ≤ c → (∀ k, cap' = some k → c - l = k) → ∃ y, (Instr.sliceAt t (.slice (some ⟨g, off, none⟩) len c) lv hv none).run P w = .ok y w ∧ Rr E (.sl b (off + l * z') (hh - l) z' cap' full) y := fun cap' h3 h4 h5 => by
        refine ⟨_, key hel _ len c l hh (bdR_ok e1 hlo hlo') (bdR_ok e2 hhi hhi') h1 h4, ?_⟩
        rw [if_neg (by omega)]
        simp only [Option.map_some, Addr.add_lit]
        have hmul : l * z' + (c - l) * z' = c * z' := by rw [← Nat.add_mul]; congr 1; omega
        exact .sl b _ _ z' cap' full g s (c - l) hE (by omega) (by omega) (by omega) (fun hft => by have := hf hft; omega) h5
      have me : l = hh → hh ≤ c → ∃ y, (Instr.sliceAt t (.slice (some ⟨g, off, none⟩) len c) lv hv none).run P w = .ok y w ∧ Rr E .em y := fun h3 h4 => by
        refine ⟨_, key hel _ len c l hh (bdR_ok e1 hlo hlo') (bdR_ok e2 hhi hhi') h1 h4, ?_⟩
        subst h3
        rw [Nat.sub_self]
        exact .em _ _
      cases hcd : decide (l < len) && decide (hh ≤ len) with
      | true =>
        rw [hcd] at h2
        simp only [Bool.and_eq_true, decide_eq_true_eq] at hcd
        obtain rfl := Option.some.inj h2
        refine mk _ (by omega) (by omega) fun k hk => ?_
        rw [Option.map_eq_some_iff] at hk
        obtain ⟨k', hk', rfl⟩ := hk
        rw [hc k' hk']
      | false =>
        rw [hcd] at h2
        simp only [cond_false] at h2
        split at h2
        · rename_i c'
          have hcc := hc c' rfl
          subst hcc
          cases hcd2 : decide (l < c) && decide (hh ≤ c) with
          | true =>
            rw [hcd2] at h2
            simp only [Bool.and_eq_true, decide_eq_true_eq] at hcd2
            obtain rfl := Option.some.inj h2
            exact mk _ hcd2.1 hcd2.2 fun k hk => by cases hk; rfl
          | false =>
            rw [hcd2] at h2
            simp only [cond_false] at h2
            obtain ⟨h3, rfl⟩ := bif_some h2
            simp only [Bool.and_eq_true, decide_eq_true_eq] at h3
            exact me h3.1 h3.2
        · obtain ⟨h3, rfl⟩ := bif_some h2
          simp only [Bool.and_eq_true, decide_eq_true_eq] at h3
          exact me h3.1 (by omega)
  · split at h <;> try cases h
    rename_i z hel e1 e2
    cases hx
    refine ⟨_, key hel none 0 0 0 0 (bdR_ok e1 hlo hlo') (bdR_ok e2 hhi hhi') (Nat.le_refl _) (Nat.le_refl _), ?_⟩
    simp only [if_pos, Nat.sub_zero]
    exact .nils
  · split at h <;> try cases h
    rename_i z hel e1 e2
    cases hx with
    | em b c =>
      refine ⟨_, key hel b 0 c 0 0 (bdR_ok e1 hlo hlo') (bdR_ok e2 hhi hhi') (Nat.le_refl _) (Nat.zero_le _), ?_⟩
      simp only [Nat.sub_zero]
      exact .em _ _
  · cases h

/-- A part of an array that lies in memory. -/
def subA (P : Program) (h : Hp) (t : TypeId) (x : RV) (lo hi : Option RV) : Option RV :=
  match x with
  | .ptr b off => (match h b, elOf P t with
    | some (.cells _ cs), some (some k, z) => (match bdR lo 0, bdR hi k with
      | some l, some h => bif decide (l ≤ h) && (decide (h ≤ k) && (decide (l < k) && (decide (off + k * z ≤ cs.length) && decide (k ≤ maxLen)))) then some (.sl b (off + l * z) (h - l) z (some (k - l)) false) else none
      | _, _ => none)
    | _, _ => none)
  | _ => none
theorem run_subA (hs : HS E h n m w) {t : TypeId} {x : RV} {u : Value} {lo hi : Option RV} {lv hv : Option Value} (hx : Rr E x u) (hlo : ∀ e, lo = some e → ∃ v, lv = some v ∧ Rr E e v) (hlo' : lo = none → lv = none)
    (hhi : ∀ e, hi = some e → ∃ v, hv = some v ∧ Rr E e v) (hhi' : hi = none → hv = none) {v : RV} (hr : subA P h t x lo hi = some v) : ∃ y, (Instr.sliceAt t u lv hv none).run P w = .ok y w ∧ Rr E v y := by
  unfold subA at hr
  split at hr <;> try cases hr
  rename_i b off
  split at hr <;> try cases hr
  rename_i e cs k z hb hel
  split at hr <;> try cases hr
  rename_i l hh e1 e2
  obtain ⟨h1, rfl⟩ := bif_some hr
  simp only [Bool.and_eq_true, decide_eq_true_eq] at h1
  obtain ⟨h1, h2, h3, h4, h5⟩ := h1
  obtain ⟨g, s, hE, us, hg, hus, hlen, hrel⟩ := hs.blk b _ hb
  cases hx with
  | ptr _ _ g2 s2 hE2 =>
    rw [hE] at hE2
    cases hE2
    unfold elOf at hel
    split at hel <;> simp at hel
    rename_i k' e' hu
    obtain ⟨i, hi, rfl, hz⟩ := hel
    refine ⟨.slice (some ⟨g, off + l * z, none⟩) (hh - l) (k' - l), ?_, ?_⟩
    · simp [Instr.sliceAt, Instr.sureAddr, run_underlying hu, run_bounds (P := P) (w := w) (sl := false) (bdR_ok e1 hlo hlo') (bdR_ok e2 hhi hhi') h1 h2, run_sizeOf w hi, Program.cellsOf, hi, hz, show ¬ k' = l by omega, Addr.add_lit]
    · have hmul : l * z + (k' - l) * z = k' * z := by rw [← Nat.add_mul]; congr 1; omega
      exact .sl b _ _ z _ false g s (k' - l) hE (by omega) (by omega) (by omega) (fun h => by cases h) (fun q hq => by cases hq; rfl)

def sub3R (P : Program) (t : TypeId) (x : RV) (lo hi mx : Option RV) : Option RV :=
  match elOf P t, bdR lo 0, hi, bdR hi 0, mx, bdR mx 0 with
  | some (none, z'), some l, some _, some h, some _, some m => (match x with
    | .sl b off len z cap _ => bif decide (z' = z) && decide (l ≤ h) && decide (h ≤ m) && (decide (m ≤ len) || (match cap with | some c => decide (m ≤ c) | none => false)) then
        (bif decide (l < m) || decide (l = 0) then some (.sl b (off + l * z) (h - l) z (some (m - l)) false) else some .em) else none
    | .nils => bif decide (l = 0) && decide (h = 0) && decide (m = 0) then some .nils else none
    | .em => bif decide (l = 0) && decide (h = 0) && decide (m = 0) then some .em else none
    | _ => none)
  | _, _, _, _, _, _ => none

theorem run_bounds3 {lv : Option Value} {l h m n c : Nat} {k k' : IntKind} {i i' : Int} (hl : bnd lv l 0) (hh : 0 ≤ i ∧ i.toNat = h) (hm : 0 ≤ i' ∧ i'.toNat = m) (h1 : l ≤ h) (h2 : h ≤ m) (h3 : m ≤ c) :
    (Instr.sliceBounds true n c lv (some (.int k i)) (some (.int k' i'))).run P w = .ok (l, h, m) w := by
  have b1 : (Instr.sliceBound (.int k' i') c .slice3Acap).run P w = .ok m w := by
    simp [Instr.sliceBound, asIntOf, hm.1, show i' ≤ (c : Int) by omega, hm.2]
  have b2 : (Instr.sliceBound (.int k i) m .slice3B).run P w = .ok h w := by
    simp [Instr.sliceBound, asIntOf, hh.1, show i ≤ (m : Int) by omega, hh.2]
  rcases hl with ⟨rfl, rfl⟩ | ⟨k2, i2, rfl, hi2, rfl⟩
  · simp [Instr.sliceBounds, b1, b2]
  · have b3 : (Instr.sliceBound (.int k2 i2) h .slice3C).run P w = .ok i2.toNat w := by
      simp [Instr.sliceBound, asIntOf, hi2, show i2 ≤ (h : Int) by omega]
    simp [Instr.sliceBounds, b1, b2, b3]

theorem run_sub3R {t : TypeId} {x : RV} {u : Value} {lo hi mx : Option RV} {lv hv mv : Option Value} (hx : Rr E x u) (hlo : ∀ e, lo = some e → ∃ v, lv = some v ∧ Rr E e v) (hlo' : lo = none → lv = none)
    (hhi : ∀ e, hi = some e → ∃ v, hv = some v ∧ Rr E e v) (hmx : ∀ e, mx = some e → ∃ v, mv = some v ∧ Rr E e v) {v : RV} (h : sub3R P t x lo hi mx = some v) : ∃ y, (Instr.sliceAt t u lv hv mv).run P w = .ok y w ∧ Rr E v y := by
  have inv : ∀ {o : RV} {l : Nat}, bdR (some o) 0 = some l → ∀ {v : Value}, Rr E o v → ∃ k i, v = .int k i ∧ 0 ≤ i ∧ i.toNat = l := fun {o l} hb {v} hr => by
    cases o <;> simp only [bdR] at hb <;> try cases hb
    obtain ⟨h1, rfl⟩ := bif_some hb
    cases hr
    exact ⟨_, _, rfl, of_decide_eq_true h1, rfl⟩
  unfold sub3R at h
  split at h <;> try cases h
  rename_i z' l hi0 hh mx0 m hel e1 e2 e3
  have hbl := bdR_ok e1 hlo hlo'
  obtain ⟨vh, rfl, rh⟩ := hhi _ rfl
  obtain ⟨vm, rfl, rm⟩ := hmx _ rfl
  obtain ⟨kh, ih, rfl, ph⟩ := inv e2 rh
  obtain ⟨km, im, rfl, pm⟩ := inv e3 rm
  have key : ∀ (b : Option Addr) (len c : Nat), l ≤ hh → hh ≤ m → m ≤ c →
      (Instr.sliceAt t (.slice b len c) lv (some (.int kh ih)) (some (.int km im))).run P w = .ok (.slice (if m = l then b else b.map (·.add (l * z'))) (hh - l) (m - l)) w := fun b len c h1 h2 h3 => by
    unfold elOf at hel
    split at hel <;> simp at hel
    rename_i e hu'
    obtain ⟨i, hi, hz⟩ := hel
    simp [Instr.sliceAt, Instr.slice, run_underlying hu', run_bounds3 (P := P) (w := w) (n := len) hbl ph pm h1 h2 h3, run_sizeOf w hi, Program.cellsOf, hi, hz]
  split at h <;> try cases h
  · rename_i b off len z cap full
    obtain ⟨h1, h2⟩ := bif_opt h
    simp only [Bool.and_eq_true, decide_eq_true_eq] at h1
    obtain ⟨⟨⟨rfl, q1⟩, q2⟩, q3⟩ := h1
    cases hx with
    | sl _ _ _ _ _ _ g s c hE hl hm hs' hf hc =>
      have hmc : m ≤ c := by
        rw [Bool.or_eq_true] at q3
        rcases q3 with q | q
        · have := of_decide_eq_true q; omega
        · cases cap with
          | none => cases q
          | some c' => have := of_decide_eq_true q; have := hc c' rfl; omega
      refine ⟨_, key _ len c q1 q2 hmc, ?_⟩
      have hmul : l * z' + (m - l) * z' = m * z' := by rw [← Nat.add_mul]; congr 1; omega
      have hmul2 : m * z' ≤ c * z' := Nat.mul_le_mul_right _ hmc
      cases hd : decide (l < m) || decide (l = 0) with
      | true =>
        rw [hd] at h2
        cases h2
        have he : (if m = l then some (⟨g, off, none⟩ : Addr) else (some (⟨g, off, none⟩ : Addr)).map (·.add (l * z'))) = some ⟨g, off + l * z', none⟩ := by
          rw [Bool.or_eq_true, decide_eq_true_eq, decide_eq_true_eq] at hd
          split
          · have : l = 0 := by omega
            subst this; simp
          · simp [Addr.add_lit]
        rw [he]
        exact .sl b _ _ z' (some (m - l)) false g s (m - l) hE (by omega) (by omega) (by omega) (fun h => by cases h) (fun k hk => by cases hk; rfl)
      | false =>
        rw [hd] at h2
        cases h2
        rw [Bool.or_eq_false_iff, decide_eq_false_iff_not, decide_eq_false_iff_not] at hd
        rw [show hh - l = 0 by omega]
        exact .em _ _
  · obtain ⟨h1, rfl⟩ := bif_some h
    simp only [Bool.and_eq_true, decide_eq_true_eq] at h1
    obtain ⟨⟨rfl, rfl⟩, rfl⟩ := h1
    cases hx
    exact ⟨_, key none 0 0 (Nat.le_refl _) (Nat.le_refl _) (Nat.le_refl _), by simpa using Rr.nils⟩
  · obtain ⟨h1, rfl⟩ := bif_some h
    simp only [Bool.and_eq_true, decide_eq_true_eq] at h1
    obtain ⟨⟨rfl, rfl⟩, rfl⟩ := h1
    cases hx with
    | em b c => exact ⟨_, key b 0 c (Nat.le_refl _) (Nat.le_refl _) (Nat.zero_le _), .em _ _⟩

def lenR (P : Program) (h : Hp) (t : TypeId) (x : RV) : Option RV :=
  match x with
  | .str s => bif tk P t == 1 then some (.int .i64 s.size) else none
  | .sl _ _ n _ _ _ => bif tk P t == 2 then some (.int .i64 n) else none
  | .nils => bif tk P t == 2 then some (.int .i64 0) else none
  | .em => bif tk P t == 2 then some (.int .i64 0) else none
  | _ => none
theorem run_lenR {t ty : TypeId} {x : RV} {u : Value} (hx : Rr E x u) {v : RV} (hl : lenR P h t x = some v) : ∃ y, (Builtin.len_ #[t] ty #[u]).run P w = .ok y w ∧ Rr E v y := by
  unfold lenR at hl
  split at hl <;> try cases hl
  all_goals
    obtain ⟨h1, rfl⟩ := bif_some hl
    have h1 := eq_of_beq h1
  · cases hx; exact ⟨_, by simp [Builtin.len_, run_underlying (tk_string h1)]; rfl, .int _ _⟩
  · obtain ⟨e, he⟩ := tk_slice h1
    cases hx; exact ⟨_, by simp [Builtin.len_, run_underlying he]; rfl, .int _ _⟩
  · obtain ⟨e, he⟩ := tk_slice h1
    cases hx; exact ⟨_, by simp [Builtin.len_, run_underlying he]; rfl, .int _ _⟩
  · obtain ⟨e, he⟩ := tk_slice h1
    cases hx; exact ⟨_, by simp [Builtin.len_, run_underlying he]; rfl, .int _ _⟩

def capR (P : Program) (t : TypeId) (x : RV) : Option RV :=
  match x with
  | .sl _ _ _ _ (some c) _ => bif tk P t == 2 then some (.int .i64 c) else none
  | .nils => bif tk P t == 2 then some (.int .i64 0) else none
  | _ => none
theorem run_capR {t ty : TypeId} {x : RV} {u : Value} (hx : Rr E x u) {v : RV} (hl : capR P t x = some v) : ∃ y, (Builtin.cap_ #[t] ty #[u]).run P w = .ok y w ∧ Rr E v y := by
  unfold capR at hl
  split at hl <;> try cases hl
  all_goals
    obtain ⟨h1, rfl⟩ := bif_some hl
    have h1 := eq_of_beq h1
    obtain ⟨e, he⟩ := tk_slice h1
  · cases hx with
    | sl _ _ _ _ _ _ g s c hE hl hm hs hf hc =>
      obtain rfl := hc _ rfl
      exact ⟨_, by simp [Builtin.cap_, run_underlying he]; rfl, .int _ _⟩
  · cases hx; exact ⟨_, by simp [Builtin.cap_, run_underlying he]; rfl, .int _ _⟩

/-! ## Maps -/

def keyV1 : RV → Option Value
  | .bool b => some (.bool b)
  | .int k n => some (.int k n)
  | .str s => some (.string s)
  | _ => none
def keyL : List RV → Option (List Value)
  | [] => some []
  | c :: cs => (match keyV1 c, keyL cs with
    | some a, some l => some (a :: l)
    | _, _ => none)
def keyV : RV → Option Value
  | .agg cs => (match keyL cs with
    | some l => some (.agg l.toArray)
    | none => none)
  | v => keyV1 v
theorem keyV1_ok {d : RV} {x v : Value} (h : keyV1 d = some v) (hr : Rr E d x) : x = v := by
  cases d <;> cases h <;> cases hr <;> rfl
theorem keyL_ok : ∀ {cs : List RV} {l vs : List Value}, keyL cs = some l → cs.length = vs.length → (∀ (j : Nat) (d : RV) (u : Value), cs[j]? = some d → vs[j]? = some u → Rr E d u) → vs = l
  | [], l, vs, h, hl, hr => by cases h; exact List.eq_nil_of_length_eq_zero hl.symm
  | c :: cs, l, [], h, hl, hr => by simp at hl
  | c :: cs, l, v :: vs, h, hl, hr => by
    unfold keyL at h
    split at h <;> cases h
    rename_i a l' h1 h2
    have e2 := keyL_ok (vs := vs) h2 (by simpa using hl) fun j d u hd hu => hr (j + 1) d u (by simpa using hd) (by simpa using hu)
    rw [keyV1_ok h1 (hr 0 c v rfl rfl), e2]
theorem keyV_ok {d : RV} {x v : Value} (h : keyV d = some v) (hr : Rr E d x) : x = v := by
  unfold keyV at h
  split at h
  · split at h <;> cases h
    rename_i cs l hl
    cases hr with
    | agg _ vs hl2 hone hrel =>
      have := keyL_ok (E := E) (vs := vs.toList) hl (by simpa using hl2) fun j d u hd hu => hrel j d u hd (by simpa using hu)
      congr 1
      apply Array.ext'
      simpa using this
  · exact keyV1_ok h hr

def entR (h : Hp) : RV → Option (List (Value × RV × Nat))
  | .nilm => some []
  | .mp b => (match h b with
    | some (.map es _) => some es
    | _ => none)
  | _ => none
def zvR : Value → Option RV
  | .agg cs => bif cs.toList.all (·.oneCell') then some (.agg (cs.toList.map cv1)) else none
  | v => some (cv1 v)
theorem zvR_ok (E : Emb) {z : Value} {d : RV} (h : zvR z = some d) : Rr E d z := by
  unfold zvR at h
  split at h
  · rename_i cs
    obtain ⟨h1, rfl⟩ := bif_some h
    refine .agg _ _ (by simp) (fun u hu => List.all_eq_true.1 h1 u hu) fun j d u hd hu => ?_
    rw [List.getElem?_map, Array.getElem?_toList, hu] at hd
    cases hd
    exact cv1_ok E u
  · cases h; exact cv1_ok E z

def lookR (P : Program) (h : Hp) (t : TypeId) (x k : RV) (ok : Bool) : Option RV :=
  match P.underlying t with
  | some (.map kt e) => (match entR h x, keyV k with
    | some es, some kv => (match findR P kt kv es with
      | some (some (_, d, _)) => some (bif ok then .tup [d, .bool true] else d)
      | some none => (match P.info? e with
        | some i => (match i.zero with
          | some z => (match zvR z with
            | some d => some (bif ok then .tup [d, .bool false] else d)
            | none => none)
          | none => none)
        | none => none)
      | none => none)
    | _, _ => none)
  | _ => none

theorem run_lookR (hs : HS E h n m w) {t : TypeId} {x k : RV} {ok : Bool} {u q : Value} (hx : Rr E x u) (hk : Rr E k q) {v : RV} (hl : lookR P h t x k ok = some v) : ∃ y, (Instr.lookup t u q ok).run P w = .ok y w ∧ Rr E v y := by
  unfold lookR at hl
  split at hl <;> try cases hl
  rename_i kt e hu
  split at hl <;> try cases hl
  rename_i es kv hent hkv
  obtain rfl := keyV_ok hkv hk
  -- the map's entries
  obtain ⟨vs, hvs, hget⟩ : ∃ vs : List MapEntry, ER E es vs ∧ ((u = .map none ∧ vs = []) ∨ ∃ r cl, u = .map (some r) ∧ w.heap[r]? = some (.map vs.toArray cl)) := by
    unfold entR at hent
    split at hent <;> try cases hent
    · cases hx; exact ⟨[], ⟨rfl, fun j e m he => by simp at he⟩, .inl ⟨rfl, rfl⟩⟩
    · split at hent <;> cases hent
      rename_i b es' cl hb
      cases hx with
      | mp _ g s hE =>
        obtain ⟨g2, s2, hE2, vs, h1, h2, h3⟩ := hs.blk b _ hb
        rw [hE] at hE2; cases hE2
        exact ⟨vs, ⟨h2, h3⟩, .inr ⟨_, _, rfl, h1⟩⟩
  have pairOk : ∀ {d : RV} {y : Value} {b : Bool}, Rr E d y → Rr E (bif ok then .tup [d, .bool b] else d) (if ok then .tuple #[y, .bool b] else y) := fun {d y b} hd => by
    cases ok with
    | false => exact hd
    | true =>
      refine .tup _ _ rfl fun j d' u' h1 h2 => ?_
      rcases j with _ | _ | j
      · simp at h1 h2; subst h1; subst h2; exact hd
      · simp at h1 h2; subst h1; subst h2; exact .bool _
      · simp at h1
  split at hl
  · rename_i j d c hf
    cases hl
    obtain ⟨c1, c2, mm, c3, c4, c5, c6, c7⟩ := findR_ok hf hvs w
    refine ⟨_, ?_, pairOk c6⟩
    rcases hget with ⟨rfl, rfl⟩ | ⟨r, cl, rfl, hg⟩
    · simp at c4
    · simp [Instr.lookup, run_underlying hu, MapKept.run_getObj_map hg, c1, c3]
  · rename_i hf
    split at hl <;> try cases hl
    rename_i i hi
    split at hl <;> try cases hl
    rename_i z hz
    split at hl <;> try cases hl
    rename_i d hd
    obtain ⟨c1, c2, c3⟩ := findR_ok hf hvs w
    refine ⟨_, ?_, pairOk (zvR_ok E hd)⟩
    rcases hget with ⟨rfl, rfl⟩ | ⟨r, cl, rfl, hg⟩
    · simp [Instr.lookup, run_underlying hu, c1, c3, zeroValue, typeInfo, hi, hz]
    · simp [Instr.lookup, run_underlying hu, MapKept.run_getObj_map hg, c1, c3, zeroValue, typeInfo, hi, hz]
  · cases hl

def mlenR (P : Program) (h : Hp) (t : TypeId) (x : RV) : Option RV :=
  match P.underlying t with
  | some (.map _ _) => (match entR h x with
    | some es => some (.int .i64 es.length)
    | none => none)
  | _ => none
theorem run_mlenR (hs : HS E h n m w) {t ty : TypeId} {x : RV} {u : Value} (hx : Rr E x u) {v : RV} (hl : mlenR P h t x = some v) : ∃ y, (Builtin.len_ #[t] ty #[u]).run P w = .ok y w ∧ Rr E v y := by
  unfold mlenR at hl
  split at hl <;> try cases hl
  rename_i kt e hu
  split at hl <;> cases hl
  rename_i es hent
  unfold entR at hent
  split at hent <;> try cases hent
  · cases hx; exact ⟨_, by simp [Builtin.len_, run_underlying hu]; rfl, .int _ _⟩
  · split at hent <;> cases hent
    rename_i b _ cl hb
    cases hx with
    | mp _ g s hE =>
      obtain ⟨g2, s2, hE2, vs, h1, h2, h3⟩ := hs.blk b _ hb
      rw [hE] at hE2; cases hE2
      exact ⟨goInt vs.length, by simp [Builtin.len_, run_underlying hu, MapKept.run_getObj_map h1], by rw [h2]; exact .int _ _⟩

/-! ## The operations that make no memory -/

def gW (want : Bool) : RV → Option Bool
  | .bool b => some (b == want)
  | .nov => some false
  | _ => none

def puR (P : Program) (t : Tr RV) (h : Hp) (op : Op) : Option RV :=
  match op with
  | .move x => some (evR t x)
  | .assign x => some (evR t x)
  | .pick c x y => (match evR t c with
    | .bool b => some (bif b then evR t x else evR t y)
    | _ => none)
  | .load ty x => loadR P h ty (evR t x)
  | .nilCheck x => (match evR t x with
    | .ptr b o => some (.ptr b o)
    | .gp b o => some (.gp b o)
    | .yl b => some (.yl b)
    | .fn f a b => some (.fn f a b)
    | _ => none)
  | .binOp op ty x y _ => (match binR P ty op (evR t x) (evR t y) with
    | some v => some v
    | none => nilR P ty op (evR t x) (evR t y))
  | .unOp op _ x => (match op, evR t x with
    | .not, .bool b => some (.bool !b)
    | .neg, .int k n => some (.int k (k.wrap (0 - n)))
    | _, _ => none)
  | .convert s ty x => (match ikOf P ty, evR t x with
    | some k, .int _ n => bif (P.underlying s).isSome then some (.int k (k.wrap n)) else none
    | _, _ => none)
  | .fieldAddr s x f => fldR P s f (evR t x)
  | .indexAddr ty x i => idxR P ty (evR t x) (evR t i)
  | .index ty x i => atR P ty (evR t x) (evR t i)
  | .slice ty x lo hi none => (match subA P h ty (evR t x) (lo.map (evR t)) (hi.map (evR t)) with
    | some v => some v
    | none => subR P ty (evR t x) (lo.map (evR t)) (hi.map (evR t)))
  | .slice ty x lo hi (some mx) => sub3R P ty (evR t x) (lo.map (evR t)) (hi.map (evR t)) (some (evR t mx))
  | .lookup ty x k ok => lookR P h ty (evR t x) (evR t k) ok
  | .extract x i => (match evR t x with
    | .tup cs => cs[i]?
    | _ => none)
  | .makeFunc (.func f) first captured => some (.fn f (first.toList.map (evR t)) (captured.toList.map (evR t)))
  | .call ⟨.builtin b, args, ts⟩ => (match b, args.toList, ts.toList with
    | .len, [x], [ty] => (match lenR P h ty (evR t x) with
      | some v => some v
      | none => mlenR P h ty (evR t x))
    | .cap, [x], [ty] => capR P ty (evR t x)
    | .max, [x, y], _ => (match evR t x, evR t y with
      | .int k p, .int k' q => bif decide (k = k') then some (.int k (if q > p then q else p)) else none
      | _, _ => none)
    | .min, [x, y], _ => (match evR t x, evR t y with
      | .int k p, .int k' q => bif decide (k = k') then some (.int k (if q < p then q else p)) else none
      | _, _ => none)
    | _, _, _ => none)
  | _ => none

/-- The operands' values. -/
def OpdOk (E : Emb) (t : Tr RV) (a : Act) (o : Oper) : Prop := ∀ x ∈ o.op.operands, Rr E (evR t x) (a.eval x)
theorem SS.opds (hs : SS nt E t a) {o : Oper} (hok : opsOk nt o = true) : OpdOk E t a o := fun x hx => hs.opd x (opsOk_mem hok hx)

theorem puR_ok (hh : HS E h n m w) (o : Oper) (hop : OpdOk E t a o) {v : RV} (hv : puR P t h o.op = some v) :
    ∃ y, (execOp a.eval o).run P w = .ok (.value y) w ∧ Rr E v y := by
  unfold OpdOk at hop
  cases ho : o.op with
  | move x =>
    rw [ho] at hv hop
    cases hv
    exact ⟨a.eval x, by simp [execOp, ho], hop x (by simp [Op.operands])⟩
  | assign x =>
    rw [ho] at hv hop
    cases hv
    exact ⟨a.eval x, by simp [execOp, ho], hop x (by simp [Op.operands])⟩
  | pick c x y =>
    rw [ho] at hv hop
    have hc := hop c (by simp [Op.operands])
    have hx := hop x (by simp [Op.operands])
    have hy := hop y (by simp [Op.operands])
    simp only [puR] at hv
    split at hv <;> try cases hv
    rename_i b hb
    rw [hb] at hc
    generalize hq : a.eval c = q at hc
    cases hc
    cases b with
    | true => exact ⟨a.eval x, by simp [execOp, ho, hq, asBool], hx⟩
    | false => exact ⟨a.eval y, by simp [execOp, ho, hq, asBool], hy⟩
  | load ty x =>
    rw [ho] at hv hop
    obtain ⟨y, h1, h2⟩ := run_loadR hh (hop x (by simp [Op.operands])) hv
    exact ⟨y, by simp [execOp, ho, h1], h2⟩
  | nilCheck x =>
    rw [ho] at hv hop
    have hx := hop x (by simp [Op.operands])
    simp only [puR] at hv
    unfold execOp
    simp only [ho]
    generalize a.eval x = u at *
    split at hv <;> try cases hv
    · rename_i b off hb
      rw [hb] at hx
      cases hx with
      | ptr _ _ g s hE => exact ⟨_, by simp, .ptr _ _ g s hE⟩
    · rename_i b off hb
      rw [hb] at hx
      cases hx with
      | gp _ _ => exact ⟨_, by simp, .gp _ _⟩
    · rename_i b hb
      rw [hb] at hx
      cases hx with
      | yl _ g s hE => exact ⟨_, by simp, .yl _ g s hE⟩
    · rename_i f fs cs hb
      rw [hb] at hx
      cases hx with
      | fn _ _ _ us vs hf hc hfr hcr => exact ⟨_, by simp, .fn _ _ _ us vs hf hc hfr hcr⟩
  | binOp op ty x y t' =>
    rw [ho] at hv hop
    simp only [puR] at hv
    cases hbr : binR P ty op (evR t x) (evR t y) with
    | none =>
      rw [hbr] at hv
      obtain ⟨r, h3, h4⟩ := run_nilR (P := P) (w := w) (hop x (by simp [Op.operands])) (hop y (by simp [Op.operands])) hv x y
      exact ⟨r, by simp only [execOp, ho, Sem.run_bind] at h3 ⊢; rw [h3]; rfl, h4⟩
    | some v' =>
    rw [hbr] at hv
    obtain rfl : v' = v := Option.some.inj hv
    obtain ⟨h1, h2⟩ := binR_ok hbr
    obtain ⟨r, h3, h4⟩ := run_binP (P := P) (w := w) (I := noI) (A := noOwn) op ty x y (hop x (by simp [Op.operands])).toD (hop y (by simp [Op.operands])).toD h1
    exact ⟨r, by simp only [execOp, ho, Sem.run_bind] at h3 ⊢; rw [h3]; rfl, ofD_ok h2 h4⟩
  | unOp op ty x =>
    rw [ho] at hv hop
    have hx := hop x (by simp [Op.operands])
    simp only [puR] at hv
    split at hv <;> try cases hv
    · rename_i b hb
      rw [hb] at hx
      generalize hq : a.eval x = q at hx
      cases hx
      exact ⟨_, by simp [execOp, ho, hq, Op.unary], .bool _⟩
    · rename_i k n hb
      rw [hb] at hx
      generalize hq : a.eval x = q at hx
      cases hx
      exact ⟨_, by simp [execOp, ho, hq, Op.unary, Op.intArith], .int _ _⟩
  | convert s ty x =>
    rw [ho] at hv hop
    have hx := hop x (by simp [Op.operands])
    simp only [puR] at hv
    split at hv <;> try cases hv
    rename_i k k' n hk hb
    obtain ⟨h1, rfl⟩ := bif_some hv
    rw [hb] at hx
    obtain ⟨r, h3, h4⟩ := run_convP (P := P) (w := w) (I := noI) (A := noOwn) (s := s) (t := ty) (d := .v (.int k' n)) (u := a.eval x) h1 (hx.toD (w := w)) (by rw [hk]; exact trivial)
    rw [hk] at h4
    exact ⟨r, by simp [execOp, ho, h3], ofD_ok (d := .v (.int k (k.wrap n))) rfl h4⟩
  | fieldAddr s x f =>
    rw [ho] at hv hop
    obtain ⟨y, h1, h2⟩ := run_fldR (w := w) (hop x (by simp [Op.operands])) hv
    exact ⟨y, by simp [execOp, ho, h1], h2⟩
  | indexAddr ty x i =>
    rw [ho] at hv hop
    obtain ⟨y, h1, h2⟩ := run_idxR (w := w) (hop x (by simp [Op.operands])) (hop i (by simp [Op.operands])) hv
    exact ⟨y, by simp [execOp, ho, h1], h2⟩
  | index ty x i =>
    rw [ho] at hv hop
    obtain ⟨y, h1, h2⟩ := run_atR (w := w) (hop x (by simp [Op.operands])) (hop i (by simp [Op.operands])) hv
    exact ⟨y, by simp [execOp, ho, h1], h2⟩
  | slice ty x lo hi mx =>
    rw [ho] at hv hop
    cases mx with
    | some m =>
      obtain ⟨y, h1, h2⟩ := run_sub3R (P := P) (w := w) (t := ty) (lo := lo.map (evR t)) (hi := hi.map (evR t)) (mx := some (evR t m)) (lv := lo.map a.eval) (hv := hi.map a.eval) (mv := some (a.eval m)) (hop x (by simp [Op.operands]))
        (fun e he => by
          obtain ⟨y, hy, rfl⟩ := Option.map_eq_some_iff.1 he
          exact ⟨_, by rw [hy]; rfl, hop y (by simp [Op.operands, hy])⟩)
        (fun he => by simpa using he)
        (fun e he => by
          obtain ⟨y, hy, rfl⟩ := Option.map_eq_some_iff.1 he
          exact ⟨_, by rw [hy]; rfl, hop y (by simp [Op.operands, hy])⟩)
        (fun e he => by cases he; exact ⟨_, rfl, hop m (by simp [Op.operands])⟩) hv
      exact ⟨y, by simp [execOp, ho, h1], h2⟩
    | none =>
      simp only [puR] at hv
      split at hv
      · rename_i v' hsa
        cases hv
        obtain ⟨y, h1, h2⟩ := run_subA (P := P) (w := w) hh (t := ty) (lo := lo.map (evR t)) (hi := hi.map (evR t)) (lv := lo.map a.eval) (hv := hi.map a.eval) (hop x (by simp [Op.operands]))
          (fun e he => by
            obtain ⟨y, hy, rfl⟩ := Option.map_eq_some_iff.1 he
            exact ⟨_, by rw [hy]; rfl, hop y (by simp [Op.operands, hy])⟩)
          (fun he => by simpa using he)
          (fun e he => by
            obtain ⟨y, hy, rfl⟩ := Option.map_eq_some_iff.1 he
            exact ⟨_, by rw [hy]; rfl, hop y (by simp [Op.operands, hy])⟩)
          (fun he => by simpa using he) hsa
        exact ⟨y, by simp [execOp, ho, h1], h2⟩
      obtain ⟨y, h1, h2⟩ := run_subR (P := P) (w := w) (t := ty) (lo := lo.map (evR t)) (hi := hi.map (evR t)) (lv := lo.map a.eval) (hv := hi.map a.eval) (hop x (by simp [Op.operands]))
        (fun e he => by
          obtain ⟨y, hy, rfl⟩ := Option.map_eq_some_iff.1 he
          exact ⟨_, by rw [hy]; rfl, hop y (by simp [Op.operands, hy])⟩)
        (fun he => by simpa using he)
        (fun e he => by
          obtain ⟨y, hy, rfl⟩ := Option.map_eq_some_iff.1 he
          exact ⟨_, by rw [hy]; rfl, hop y (by simp [Op.operands, hy])⟩)
        (fun he => by simpa using he) hv
      exact ⟨y, by simp [execOp, ho, h1], h2⟩
  | lookup ty x k ok =>
    rw [ho] at hv hop
    obtain ⟨y, h1, h2⟩ := run_lookR hh (hop x (by simp [Op.operands])) (hop k (by simp [Op.operands])) hv
    exact ⟨y, by simp [execOp, ho, h1], h2⟩
  | extract x i =>
    rw [ho] at hv hop
    have hx := hop x (by simp [Op.operands])
    simp only [puR] at hv
    split at hv <;> try cases hv
    rename_i cs hb
    rw [hb] at hx
    generalize hq : a.eval x = q at hx
    cases hx with
    | tup _ vs hl hrel =>
      have hi : i < cs.length := by
        rcases Nat.lt_or_ge i cs.length with h | h
        · exact h
        · rw [List.getElem?_eq_none h] at hv; cases hv
      have hvs : vs[i]? = some (vs[i]'(by omega)) := Array.getElem?_eq_getElem (by omega)
      exact ⟨vs[i]'(by omega), by simp [execOp, ho, hq, Instr.extract, hvs], hrel i _ _ hv hvs⟩
  | makeFunc fn first captured =>
    rw [ho] at hv hop
    cases fn with
    | func f =>
      cases hv
      refine ⟨.func (.func f) (first.map a.eval) (captured.map a.eval), by simp [execOp, ho, Instr.makeFunc], ?_⟩
      refine .fn f _ _ _ _ (by simp) (by simp) (fun j d u hd hu => ?_) fun j d u hd hu => ?_
      · simp only [List.getElem?_map, Option.map_eq_some_iff, Array.getElem?_toList, Array.getElem?_map] at hd hu
        obtain ⟨x, hx, rfl⟩ := hd
        rw [hx] at hu
        simp at hu
        subst hu
        exact hop x (by simp [Op.operands]; exact .inl (Array.mem_of_getElem? hx))
      · simp only [List.getElem?_map, Option.map_eq_some_iff, Array.getElem?_toList, Array.getElem?_map] at hd hu
        obtain ⟨x, hx, rfl⟩ := hd
        rw [hx] at hu
        simp at hu
        subst hu
        exact hop x (by simp [Op.operands]; exact .inr (Array.mem_of_getElem? hx))
    | _ => cases hv
  | call c =>
    rw [ho] at hv hop
    obtain ⟨callee, args, ts⟩ := c
    cases callee with
    | builtin b =>
      simp only [puR] at hv
      split at hv
      · rename_i x ty hargs hts
        obtain rfl : args = #[x] := by apply Array.ext'; simpa using hargs
        obtain rfl : ts = #[ty] := by apply Array.ext'; simpa using hts
        split at hv
        · rename_i v' hv'
          cases hv
          obtain ⟨r, h1, h2⟩ := run_lenR (P := P) (w := w) (t := ty) (ty := o.type) (hop x (by simp [Op.operands, Call.operands])) hv'
          exact ⟨r, by simp [execOp, ho, resolve, invoke, builtin, h1], h2⟩
        · obtain ⟨r, h1, h2⟩ := run_mlenR (ty := o.type) hh (hop x (by simp [Op.operands, Call.operands])) hv
          exact ⟨r, by simp [execOp, ho, resolve, invoke, builtin, h1], h2⟩
      · rename_i x ty hargs hts
        obtain rfl : args = #[x] := by apply Array.ext'; simpa using hargs
        obtain rfl : ts = #[ty] := by apply Array.ext'; simpa using hts
        obtain ⟨r, h1, h2⟩ := run_capR (P := P) (w := w) (t := ty) (ty := o.type) (hop x (by simp [Op.operands, Call.operands])) hv
        exact ⟨r, by simp [execOp, ho, resolve, invoke, builtin, h1], h2⟩
      · rename_i x y hargs
        obtain rfl : args = #[x, y] := by apply Array.ext'; simpa using hargs
        have hx := hop x (by simp [Op.operands, Call.operands])
        have hy := hop y (by simp [Op.operands, Call.operands])
        split at hv <;> try cases hv
        rename_i k p k' q e1 e2
        obtain ⟨h1, rfl⟩ := bif_some hv
        rw [e1] at hx
        rw [e2] at hy
        obtain ⟨r, h2, h3⟩ := run_maxI (P := P) (w := w) (I := noI) (A := noOwn) (ts := ts) (t := o.type) (d := .v (.int k p)) (e := .v (.int k' q)) (hx.toD (w := w)) (hy.toD (w := w)) (show k = k' from of_decide_eq_true h1)
        exact ⟨r, by simp [execOp, ho, resolve, invoke, builtin, h2], ofD_ok (d := .v (.int k (if q > p then q else p))) rfl h3⟩
      · rename_i x y hargs
        obtain rfl : args = #[x, y] := by apply Array.ext'; simpa using hargs
        have hx := hop x (by simp [Op.operands, Call.operands])
        have hy := hop y (by simp [Op.operands, Call.operands])
        split at hv <;> try cases hv
        rename_i k p k' q e1 e2
        obtain ⟨h1, rfl⟩ := bif_some hv
        rw [e1] at hx
        rw [e2] at hy
        obtain ⟨r, h2, h3⟩ := run_minI (P := P) (w := w) (I := noI) (A := noOwn) (ts := ts) (t := o.type) (d := .v (.int k p)) (e := .v (.int k' q)) (hx.toD (w := w)) (hy.toD (w := w)) (show k = k' from of_decide_eq_true h1)
        exact ⟨r, by simp [execOp, ho, resolve, invoke, builtin, h2], ofD_ok (d := .v (.int k (if q < p then q else p))) rfl h3⟩
      · cases hv
    | _ => cases hv
  | _ => rw [ho] at hv; cases hv
end
end Go.Rv

/- What operations that make or turn memory do to the heap of numbers. -/
set_option linter.unusedVariables false
set_option linter.unusedSimpArgs false
namespace Go.Rv
open Go.RowKit Go.Sg

/-- A value's cells. -/
def cellsO : RV → Option (List RV)
  | .und => none
  | .nov => none
  | .tup _ => none
  | .agg cs => some cs
  | v => some [v]

/-- Cells that stand for the model's. -/
def CR (E : Emb) (cs : List RV) (us : Array Value) : Prop :=
  cs.length = us.size ∧ (∀ u ∈ us.toList, u.oneCell' = true) ∧ ∀ (j : Nat) (d : RV) (u : Value), cs[j]? = some d → us[j]? = some u → Rr E d u
theorem CR.mono {E E' : Emb} (hE : ∀ b p, E b = some p → E' b = some p) {cs : List RV} {us : Array Value} (h : CR E cs us) : CR E' cs us := ⟨h.1, h.2.1, fun j d u hd hu => (h.2.2 j d u hd hu).mono hE⟩

theorem CR.one {E : Emb} {v : RV} {x : Value} (hr : Rr E v x) (h1 : x.cells = #[x]) (h2 : x.oneCell' = true) : CR E [v] x.cells := by
  rw [h1]
  refine ⟨rfl, fun u hu => ?_, fun j d u hd hu => ?_⟩
  · simp at hu; subst hu; exact h2
  · cases j with
    | succ j => simp at hd
    | zero => simp at hd hu; subst hd; subst hu; exact hr

theorem cells_okR {E : Emb} {v : RV} {x : Value} {cs : List RV} (h : cellsO v = some cs) (hr : Rr E v x) : CR E cs x.cells := by
  have hr0 := hr
  cases hr with
  | agg cs' vs hl hone hrel =>
    cases h
    exact ⟨hl, hone, hrel⟩
  | und x => cases h
  | nov => cases h
  | tup cs' vs hl hrel => cases h
  | _ => cases h; exact CR.one hr0 rfl rfl

theorem zc_ok (E : Emb) {zs : List Value} {us : Array Value} (h : us.toList = zs) (h1 : ∀ u ∈ zs, u.oneCell' = true) : CR E (zs.map cv1) us := by
  refine ⟨by simp [← h], by rw [h]; exact h1, fun j d u hd hu => ?_⟩
  rw [List.getElem?_map, Option.map_eq_some_iff] at hd
  obtain ⟨y, hy, rfl⟩ := hd
  rw [← h, Array.getElem?_toList, hu] at hy
  cases hy
  exact cv1_ok E _

/-- Cells laid over others. -/
def splR (off : Nat) (cs old : List RV) : List RV :=
  match cs with
  | [c] => old.set off c
  | cs => old.take off ++ cs ++ old.drop (off + cs.length)
theorem splR_eq {off : Nat} {cs old : List RV} (h : off + cs.length ≤ old.length) : splR off cs old = old.take off ++ cs ++ old.drop (off + cs.length) := by
  unfold splR
  split
  · rw [List.set_eq_take_append_cons_drop, if_pos (by simp at h; omega)]
    simp
  · rfl
theorem splR_len {off : Nat} {cs old : List RV} (h : off + cs.length ≤ old.length) : (splR off cs old).length = old.length := by
  rw [splR_eq h]; simp; omega
theorem splR_get {off : Nat} {cs old : List RV} (h : off + cs.length ≤ old.length) (j : Nat) : (splR off cs old)[j]? = if off ≤ j ∧ j < off + cs.length then cs[j - off]? else old[j]? := by
  rw [splR_eq h, List.append_assoc, List.getElem?_append, List.getElem?_append]
  simp only [List.length_take, Nat.min_eq_left (show off ≤ old.length by omega)]
  by_cases h1 : j < off
  · rw [if_pos h1, if_neg (by omega), List.getElem?_take, if_pos h1]
  · rw [if_neg h1]
    by_cases h2 : j < off + cs.length
    · rw [if_pos (by omega), if_pos (by omega)]
    · rw [if_neg (by omega), if_neg (by omega), List.getElem?_drop]
      congr 1
      omega

/-- The same, in the model's cells. -/
def splV (off : Nat) (vs us : Array Value) : Array Value := (us.toList.take off ++ vs.toList ++ us.toList.drop (off + vs.size)).toArray
theorem splV_get {off : Nat} {vs us : Array Value} (h : off + vs.size ≤ us.size) (j : Nat) : (splV off vs us)[j]? = if off ≤ j ∧ j < off + vs.size then vs[j - off]? else us[j]? := by
  unfold splV
  rw [List.getElem?_toArray, List.append_assoc, List.getElem?_append, List.getElem?_append]
  simp only [List.length_take, Array.length_toList, Nat.min_eq_left (show off ≤ us.size by omega)]
  by_cases h1 : j < off
  · rw [if_pos h1, if_neg (by omega), List.getElem?_take, if_pos h1, Array.getElem?_toList]
  · rw [if_neg h1]
    by_cases h2 : j < off + vs.size
    · rw [if_pos (by omega), if_pos (by omega), Array.getElem?_toList]
    · rw [if_neg (by omega), if_neg (by omega), List.getElem?_drop, Array.getElem?_toList]
      congr 1
      omega
theorem splV_size {off : Nat} {vs us : Array Value} (h : off + vs.size ≤ us.size) : (splV off vs us).size = us.size := by
  unfold splV; simp; omega

/-- Cells that stand for the first of the model's. -/
def CR' (E : Emb) (cs : List RV) (us : Array Value) : Prop :=
  cs.length ≤ us.size ∧ ∀ (j : Nat) (d : RV) (u : Value), cs[j]? = some d → us[j]? = some u → u.oneCell' = true ∧ Rr E d u
theorem CR.spl {E : Emb} {off : Nat} {cs old : List RV} {vs us : Array Value} (hc : CR E cs vs) (ho : CR' E old us) (h : off + cs.length ≤ old.length) : CR' E (splR off cs old) (splV off vs us) := by
  obtain ⟨c1, c2, c3⟩ := hc
  obtain ⟨o1, o3⟩ := ho
  have hle : off + vs.size ≤ us.size := by omega
  refine ⟨by rw [splR_len h, splV_size hle]; exact o1, fun j d u hd hu => ?_⟩
  rw [splR_get h, c1] at hd
  rw [splV_get hle] at hu
  split at hd
  · rename_i hj; rw [if_pos hj] at hu; exact ⟨c2 u (by simpa using Array.mem_of_getElem? hu), c3 _ d u hd hu⟩
  · rename_i hj; rw [if_neg hj] at hu; exact o3 _ d u hd hu
theorem CR'.mono {E E' : Emb} (hE : ∀ b p, E b = some p → E' b = some p) {cs : List RV} {us : Array Value} (h : CR' E cs us) : CR' E' cs us := ⟨h.1, fun j d u hd hu => ⟨(h.2 j d u hd hu).1, (h.2 j d u hd hu).2.mono hE⟩⟩

/-- A literal's parts. -/
def fillR (place : Nat → Option (Nat × Nat)) (cs : List RV) : List (Nat × RV) → Option (List RV)
  | [] => some cs
  | p :: l => match place p.1, cellsO p.2 with
    | some (off, s), some vs => bif decide (vs.length = s) && decide (off + s ≤ cs.length) then fillR place (splR off vs cs) l else none
    | _, _ => none

theorem fillR_ok {E : Emb} (place place' : Nat → Option (Nat × Nat)) (hp : ∀ i p, place i = some p → place' i = some p) : ∀ (l : List (Nat × RV)) (lv : List (Nat × Value)) (cs : List RV) (us : Array Value) (out : List RV), fillR place cs l = some out → l.length = lv.length →
    (∀ (j : Nat) (p : Nat × RV) (q : Nat × Value), l[j]? = some p → lv[j]? = some q → p.1 = q.1 ∧ Rr E p.2 q.2) → CR E cs us → ∃ o, Instr.fill place' us lv = some o ∧ CR E out o
  | [], [], cs, us, out, h, _, _, hc => ⟨us, rfl, by cases h; exact hc⟩
  | p :: l, q :: lv, cs, us, out, h, hl, hr, hc => by
    unfold fillR at h
    split at h <;> try cases h
    rename_i off s vs e1 e2
    obtain ⟨h1, h2⟩ := bif_opt h
    simp only [Bool.and_eq_true, decide_eq_true_eq] at h1
    obtain ⟨h3, h4⟩ := hr 0 p q (by simp) (by simp)
    have hv := cells_okR e2 h4
    obtain ⟨f1, f2⟩ := foldl_set off q.2.cells.toList us 0 (by have := hv.1; have := hc.1; simp; omega)
    simp only [Nat.add_zero, Array.length_toList] at f1 f2
    have hzip : (q.2.cells.zipIdx.foldl (fun cs (p : Value × Nat) => cs.setIfInBounds (off + p.2) p.1) us) = (q.2.cells.toList.zipIdx 0).foldl (fun cs (p : Value × Nat) => cs.setIfInBounds (off + p.2) p.1) us := by
      rw [← Array.foldl_toList, Array.toList_zipIdx]
    generalize hnew : (q.2.cells.toList.zipIdx 0).foldl (fun cs (p : Value × Nat) => cs.setIfInBounds (off + p.2) p.1) us = us' at *
    have hle : off + vs.length ≤ cs.length := by omega
    have hc' : CR E (splR off vs cs) us' := by
      refine ⟨by rw [splR_len hle, f1]; exact hc.1, fun u hu => ?_, fun j d u hd hu => ?_⟩
      · obtain ⟨j, hj⟩ := List.getElem?_of_mem hu
        rw [Array.getElem?_toList, f2] at hj
        split at hj
        · exact hv.2.1 u (List.mem_of_getElem? hj)
        · exact hc.2.1 u (by simpa using Array.mem_of_getElem? hj)
      · rw [splR_get hle, hv.1] at hd
        rw [f2] at hu
        split at hd
        · rename_i hj; rw [if_pos hj, Array.getElem?_toList] at hu; exact hv.2.2 _ d u hd hu
        · rename_i hj; rw [if_neg hj] at hu; exact hc.2.2 _ d u hd hu
    obtain ⟨o, o1, o2⟩ := fillR_ok place place' hp l lv _ us' out h2 (by simpa using hl) (fun j p' q' hp' hq' => hr (j + 1) p' q' (by simpa using hp') (by simpa using hq')) hc'
    refine ⟨o, ?_, o2⟩
    unfold Instr.fill
    rw [← h3, hp _ _ e1]
    simp only
    rw [if_neg (by have := hv.1; have := hc.1; simp; omega), hzip]
    exact o1
  | [], _ :: _, _, _, _, _, hl, _, _ => by simp at hl
  | _ :: _, [], _, _, _, _, hl, _, _ => by simp at hl

/-- So many rows of zeros. -/
def zerosR (c : Nat) (zs : List RV) : List RV := (List.replicate c zs).flatten
theorem zerosR_len (c : Nat) (zs : List RV) : (zerosR c zs).length = c * zs.length := by unfold zerosR; simp
theorem zerosR_get : ∀ (c : Nat) (zs : List RV) (j : Nat), j < c * zs.length → (zerosR c zs)[j]? = zs[j % zs.length]?
  | 0, zs, j, h => by simp at h
  | c + 1, zs, j, h => by
    unfold zerosR
    rw [List.replicate_succ, List.flatten_cons, List.getElem?_append]
    split
    · rename_i h1; rw [Nat.mod_eq_of_lt h1]
    · rename_i h1
      have h' : j < c * zs.length + zs.length := by rw [← Nat.succ_mul]; exact h
      have := zerosR_get c zs (j - zs.length) (by omega)
      unfold zerosR at this
      rw [this]
      congr 1
      exact (Nat.mod_eq_sub_mod (by omega)).symm
theorem zerosR_ok (E : Emb) {zc : Array Value} (h1 : ∀ u ∈ zc.toList, u.oneCell' = true) (c : Nat) : CR E (zerosR c (zc.toList.map cv1)) ((Array.range (c * zc.size)).map (zc[· % zc.size]!)) := by
  have hidx : ∀ j, j < c * zc.size → j % zc.size < zc.size := fun j hj => Nat.mod_lt _ (by
    rcases Nat.eq_zero_or_pos zc.size with h | h
    · rw [h] at hj; simp at hj
    · exact h)
  refine ⟨by rw [zerosR_len]; simp, fun u hu => ?_, fun j d u hd hu => ?_⟩
  · simp only [Array.toList_map, List.mem_map] at hu
    obtain ⟨j, hj, rfl⟩ := hu
    have hj : j < c * zc.size := by simpa using hj
    rw [getElem!_pos zc _ (hidx j hj)]
    exact h1 _ (by simp)
  · simp only [Array.getElem?_map, Option.map_eq_some_iff] at hu
    obtain ⟨q, hq, rfl⟩ := hu
    have hj : j < c * zc.size := by
      rcases Nat.lt_or_ge j (c * zc.size) with h | h
      · exact h
      · rw [Array.getElem?_eq_none (by simpa using h)] at hq; cases hq
    rw [Array.getElem?_range, if_pos hj] at hq
    cases hq
    rw [zerosR_get _ _ _ (by simpa using hj)] at hd
    rw [getElem!_pos zc _ (hidx j hj)]
    rw [List.getElem?_map, Option.map_eq_some_iff] at hd
    obtain ⟨y, hy, rfl⟩ := hd
    simp only [List.length_map, Array.length_toList, Array.getElem?_toList] at hy
    rw [Array.getElem?_eq_getElem (hidx j hj)] at hy
    cases hy
    exact cv1_ok E _

/-- What an append's second operand holds: so many elements, their cells. -/
def srcR (h : Hp) (z : Nat) (x : RV) : Option (Nat × List RV) :=
  match x with
  | .nils => some (0, [])
  | .em => some (0, [])
  | .sl b off len _ _ _ => match h b with
    | some (.cells _ cs) => bif decide (off + len * z ≤ cs.length) then some (len, (cs.drop off).take (len * z)) else none
    | _ => none
  | _ => none

/-- A step that makes or turns memory: the value (none: no value is given), the heap, the next number. -/
abbrev Mv := Option RV × Tr Blk × Nat

def appR (P : Program) (lo : Nat) (h : Tr Blk) (n : Nat) (t t2 : TypeId) (x y : RV) : Option Mv :=
  match slE P t with
  | none => none
  | some (e, z, by_) => match zcOf P e with
    | none => none
    | some zs => bif decide (zs.length = z) && decide (0 < z) && decide (n < ub) then
      (match x, y with
      | .nils, .int _ k => bif decide (tk P t2 = 4) && decide (0 < k) && decide (k ≤ 4611686018427387904) && decide (k.toNat * by_ ≤ 140737488355328) then
          some (some (.sl n 0 k.toNat z none true), h.set n (some (.cells e (zerosR k.toNat (zs.map cv1)))), n + 1) else none
      | x, y => bif decide (t2 = t) then (match srcR h.get z y with
        | none => none
        | some (0, _) => (match x with
          | .nils => some (some .nils, h, n)
          | .sl b off len z' cap full => some (some (.sl b off len z' cap full), h, n)
          | _ => none)
        | some (m + 1, news) => (match x with
          | .nils => bif decide (m + 1 ≤ 4611686018427387904) && decide ((m + 1) * by_ ≤ 140737488355328) then
              some (some (.sl n 0 (m + 1) z none true), h.set n (some (.cells e news)), n + 1) else none
          | .sl b off len z' cap full => (match h.get b with
            | some (.cells e' cs) => bif decide (e' = e) && decide (z' = z) && decide (len + (m + 1) ≤ 4611686018427387904) && decide ((len + (m + 1)) * by_ ≤ 140737488355328) && decide (off + len * z ≤ cs.length) then
                (match cap with
                | some c => bif decide (len + (m + 1) ≤ c) then
                    (bif decide (lo ≤ b) && decide (b < n) && decide (off + (len + (m + 1)) * z ≤ cs.length) then some (some (.sl b off (len + (m + 1)) z (some c) full), h.set b (some (.cells e (splR (off + len * z) news cs))), n) else none)
                  else some (some (.sl n 0 (len + (m + 1)) z none true), h.set n (some (.cells e ((cs.drop off).take (len * z) ++ news))), n + 1)
                | none => bif full && decide (off = 0) && decide (lo ≤ b) && decide (b < n) then
                    some (some (.sl n 0 (len + (m + 1)) z none true), (h.set b none).set n (some (.cells e (cs.take (len * z) ++ news))), n + 1) else none) else none
            | _ => none)
          | _ => none)) else none) else none

/-- Maps are made and turned. -/
def mkmOk (P : Program) (ty : TypeId) : Option RV → Bool
  | none => true
  | some (.int _ _) => (match P.underlying ty with
    | some (.map _ _) => true
    | _ => false)
  | some _ => false
def updR (P : Program) (lo : Nat) (h : Tr Blk) (n : Nat) (ty : TypeId) (m k x : RV) : Option Mv :=
  match P.underlying ty, m, keyV k with
  | some (.map kt _), .mp b, some kv => (match h.get b with
    | some (.map es c) => bif decide (lo ≤ b) && decide (b < n) && decide (b < ub) then (match findR P kt kv es with
      | some none => some (none, h.set b (some (.map (es ++ [(kv, x, c)]) (c + 1))), n)
      | some (some (j, _, c0)) => some (none, h.set b (some (.map (es.set j (kv, x, c0)) c)), n)
      | none => none) else none
    | _ => none)
  | _, _, _ => none
def delR (P : Program) (lo : Nat) (h : Tr Blk) (n : Nat) (ty : TypeId) (m k : RV) : Option Mv :=
  match P.underlying ty, m, keyV k with
  | some (.map kt _), .mp b, some kv => (match h.get b with
    | some (.map es c) => bif decide (lo ≤ b) && decide (b < n) && decide (b < ub) then (match findR P kt kv es with
      | some none => some (some (.tup []), h.set b (some (.map es c)), n)
      | some (some (j, _, _)) => some (some (.tup []), h.set b (some (.map (es.eraseIdx j) c)), n)
      | none => none) else none
    | _ => none)
  | _, _, _ => none

def mvR (P : Program) (lo : Nat) (t : Tr RV) (h : Tr Blk) (n : Nat) (op : Op) : Option Mv :=
  match op with
  | .range ty x => (match evR t x with
    | .str s => bif (tk P ty == 1) && decide (n < ub) then some (some (.ptr n 0), h.set n (some (.it s 0)), n + 1) else none
    | _ => none)
  | .next x true => (match evR t x with
    | .ptr b 0 => (match h.get b with
      | some (.it s pos) => bif decide (lo ≤ b) && decide (b < n) && decide (b < ub) then
          (bif decide (pos < s.size) then some (some (.tup [.bool true, .int .i64 pos, .int .i32 (Utf8.decode s pos).1]), h.set b (some (.it s (pos + (Utf8.decode s pos).2))), n)
           else some (some (.tup [.bool false]), h, n)) else none
      | _ => none)
    | _ => none)
  | .makeMap ty hint => bif mkmOk P ty (hint.map (evR t)) && decide (n < ub) then some (some (.mp n), h.set n (some (.map [] 0)), n + 1) else none
  | .mapUpdate ty m k x => updR P lo h n ty (evR t m) (evR t k) (evR t x)
  | .insert ty m k x => updR P lo h n ty (evR t m) (evR t k) (evR t x)
  | .call ⟨.builtin .delete, args, ts⟩ => (match args.toList, ts.toList with
    | [m, k], t1 :: _ => delR P lo h n t1 (evR t m) (evR t k)
    | _, _ => none)
  | .alloc ty => (match zcOf P ty with
    | some zs => bif decide (n < ub) then some (some (.ptr n 0), h.set n (some (.cells ty (zs.map cv1))), n + 1) else none
    | none => none)
  | .box ty x => (match cellsO (evR t x) with
    | some cs => bif decide (n < ub) then some (some (.ptr n 0), h.set n (some (.cells ty cs)), n + 1) else none
    | none => none)
  | .build ty parts => (match zcOf P ty with
    | some zs => bif bldOk P ty then (fillR (plOf P ty) (zs.map cv1) (parts.toList.map fun p => (p.1, evR t p.2))).map fun cs => (some (.agg cs), h, n)
      else (match elOf P ty with
      | some (some _, z) => (fillR (fun i => some (i * z, z)) (zs.map cv1) (parts.toList.map fun p => (p.1, evR t p.2))).map fun cs => (some (.agg cs), h, n)
      | _ => none)
    | none => none)
  | .buildSlice ty k parts => (match slE P ty with
    | some (e, z, _) => (match zcOf P e with
      | some zs => bif decide (zs.length = z) && decide (k * z ≤ 16777216) && decide (k ≤ 16777216) && decide (n < ub) then
          (fillR (fun i => some (i * z, z)) (zerosR k (zs.map cv1)) (parts.toList.map fun p => (p.1, evR t p.2))).map fun cs => (some (.sl n 0 k z (some k) true), h.set n (some (.cells e cs)), n + 1) else none
      | none => none)
    | none => none)
  | .makeSlice ty x y => (match slE P ty, evR t x, evR t y with
    | some (e, z, by_), .int _ l, .int _ c => (match zcOf P e with
      | some zs => bif decide (zs.length = z) && decide (0 ≤ l) && decide (l ≤ c) && decide (c ≤ 4611686018427387904) && decide (c * by_ ≤ 140737488355328) && decide (n < ub) then
          some (some (.sl n 0 l.toNat z (some c.toNat) true), h.set n (some (.cells e (zerosR c.toNat (zs.map cv1)))), n + 1) else none
      | none => none)
    | _, _, _ => none)
  | .store ty ad x => (match szOf P ty, evR t ad, cellsO (evR t x) with
    | some s, .ptr b off, some vs => (match h.get b with
      | some (.cells e cs) => bif decide (vs.length = s) && decide (off + s ≤ cs.length) && decide (lo ≤ b) && decide (b < n) && decide (b < ub) then some (none, h.set b (some (.cells e (splR off vs cs))), n) else none
      | _ => none)
    | _, _, _ => none)
  | .call ⟨.builtin .append, args, ts⟩ => (match args.toList, ts.toList with
    | [x, y], [t1, t2] => appR P lo h n t1 t2 (evR t x) (evR t y)
    | _, _ => none)
  | _ => none

/-- Numbers below lo keep their blocks; so do those not reached yet. -/
structure KH (lo : Nat) (h h' : Tr Blk) (n n' : Nat) : Prop where
  nn : n ≤ n'
  kp : ∀ b, b < lo ∨ n' ≤ b → h'.get b = h.get b
theorem KH.refl (lo : Nat) (h : Tr Blk) (n : Nat) : KH lo h h n n := ⟨Nat.le_refl _, fun _ _ => rfl⟩
theorem KH.trans {lo : Nat} {h h1 h2 : Tr Blk} {n n1 n2 : Nat} (x : KH lo h h1 n n1) (y : KH lo h1 h2 n1 n2) : KH lo h h2 n n2 := ⟨Nat.le_trans x.nn y.nn, fun b hb => (y.kp b hb).trans (x.kp b (hb.imp id fun q => Nat.le_trans y.nn q))⟩
theorem KH.new {lo : Nat} {h : Tr Blk} {n : Nat} (hlo : lo ≤ n) (hub : n < ub) (k : Option Blk) : KH lo h (h.set n k) n (n + 1) := ⟨by omega, fun b hb => by rw [Tr.get_set hub, if_neg (by omega)]⟩
theorem KH.turn {lo : Nat} {h : Tr Blk} {n b : Nat} (hlo : lo ≤ b) (hb : b < n) (hub : b < ub) (k : Option Blk) : KH lo h (h.set b k) n n := ⟨Nat.le_refl _, fun c hc => by rw [Tr.get_set hub, if_neg (by omega)]⟩

/-- What such a step means. -/
def MOk (P : Program) (lo : Nat) (t : Tr RV) (h : Tr Blk) (n : Nat) (o : Oper) (r : Mv) : Prop :=
  KH lo h r.2.1 n r.2.2 ∧ ∀ (m : Nat) (E : Emb) (a : Act) (w : World), r.2.2 ≤ m → OpdOk E t a o → HS E h.get n m w → ∃ E' w', HS E' r.2.1.get r.2.2 m w' ∧ RX lo E h.get n w E' r.2.1.get r.2.2 w' ∧
    (match r.1 with
    | some v => ∃ y, (execOp a.eval o).run P w = .ok (.value y) w' ∧ Rr E' v y
    | none => (execOp a.eval o).run P w = .ok .skip w')

section
variable {P : Program} {lo : Nat} {t : Tr RV} {h : Tr Blk} {n : Nat} {o : Oper} {r : Mv}

theorem CR.br {E : Emb} {w : World} {e : TypeId} {cs : List RV} {us : Array Value} {g : Nat} (hc : CR' E cs us) (hg : w.heap[g]? = some (.cells us e (0, 0))) : BR E w (.cells e cs) g us.size := ⟨us, hg, rfl, hc.1, hc.2⟩
theorem CR.toCR' {E : Emb} {cs : List RV} {us : Array Value} (h : CR E cs us) : CR' E cs us := ⟨Nat.le_of_eq h.1, fun j d u hd hu => ⟨h.2.1 u (by simpa using Array.mem_of_getElem? hu), h.2.2 j d u hd hu⟩⟩

/-- One more block of cells. -/
theorem new_ok {E : Emb} {m : Nat} {w : World} (hs : HS E h.get n m w) (hm : n + 1 ≤ m) (hlo : lo ≤ n) (hub : n < ub) (e : TypeId) {cs : List RV} {us : Array Value} {w' : World} (h1 : w'.heap = w.heap.push (.cells us e)) (h2 : w'.os = w.os) (h3 : w'.tape = w.tape ∧ w.drawn ≤ w'.drawn) (h4 : w'.output = w.output)
    (hc : CR' (updE E n (some (w.heap.size, us.size))) cs us) :
    HS (updE E n (some (w.heap.size, us.size))) (h.set n (some (.cells e cs))).get (n + 1) m w' ∧ RX lo E h.get n w (updE E n (some (w.heap.size, us.size))) (h.set n (some (.cells e cs))).get (n + 1) w' := by
  rw [get_set_fun hub]
  obtain ⟨q1, q2, q3⟩ := hs.new (lo := lo) (by omega) hlo h1 h2 h3 h4 (k := .cells e cs) (s := us.size) (CR.br hc (by rw [h1]; simp))
  exact ⟨q1, q2⟩

theorem mv_alloc {ty : TypeId} (hop : o.op = .alloc ty) (hlo : lo ≤ n) (hr : mvR P lo t h n o.op = some r) : MOk P lo t h n o r := by
  rw [hop] at hr
  simp only [mvR] at hr
  split at hr <;> try cases hr
  rename_i zs hz
  obtain ⟨hub, rfl⟩ := bif_some hr
  have hub := of_decide_eq_true hub
  refine ⟨KH.new hlo hub _, fun m E a w hm hs hh => ?_⟩
  obtain ⟨i, z, h1, h2, h3, h4⟩ := zcOf_spec hz
  obtain ⟨q1, q2⟩ := new_ok (us := z.cells) (cs := zs.map cv1) hh hm hlo hub ty (w' := w.alloc (.cells z.cells ty)) rfl rfl ⟨rfl, Nat.le_refl _⟩ rfl (zc_ok _ h3 h4).toCR'
  exact ⟨_, _, q1, q2, .pointer (some ⟨w.heap.size, 0, none⟩), by simp [execOp, hop, Instr.alloc, zeroValue, typeInfo, h1, h2, newVar, newRow], .ptr n 0 w.heap.size _ (updE_same _ _ _)⟩

theorem up_of {E : Emb} {m : Nat} {w : World} (hh : HS E h.get n m w) {E' : Emb} {h' : Hp} {n' : Nat} {w' : World} (hx : RX lo E h.get n w E' h' n' w') (hm : n' ≤ m) : ∀ b p, E b = some p → E' b = some p := hh.up hx hm

theorem updE_up {E : Emb} {m : Nat} {w : World} (hh : HS E h.get n m w) (hm : n < m) (p : Option (Nat × Nat)) : ∀ b q, E b = some q → updE E n p b = some q := fun b q hq => by
  rw [updE_ne]; exact hq
  intro e; subst e; rw [hh.free b (Nat.le_refl _) hm] at hq; cases hq

theorem mv_box {ty : TypeId} {x : Operand} (hop : o.op = .box ty x) (hlo : lo ≤ n) (hr : mvR P lo t h n o.op = some r) : MOk P lo t h n o r := by
  rw [hop] at hr
  simp only [mvR] at hr
  split at hr <;> try cases hr
  rename_i cs hc
  obtain ⟨hub, rfl⟩ := bif_some hr
  have hub := of_decide_eq_true hub
  refine ⟨KH.new hlo hub _, fun m E a w hm hs hh => ?_⟩
  have hm : n + 1 ≤ m := hm
  have hx := hs x (by simp [hop, Op.operands])
  obtain ⟨q1, q2⟩ := new_ok (us := (a.eval x).cells) (cs := cs) hh hm hlo hub ty (w' := w.alloc (.cells (a.eval x).cells ty)) rfl rfl ⟨rfl, Nat.le_refl _⟩ rfl ((cells_okR hc hx).mono (updE_up hh (by omega) _)).toCR'
  exact ⟨_, _, q1, q2, .pointer (some ⟨w.heap.size, 0, none⟩), by simp [execOp, hop, Instr.box, newVar, newRow], .ptr n 0 w.heap.size _ (updE_same _ _ _)⟩

theorem parts_rel {E : Emb} {a : Act} {parts : Array (Nat × Operand)} (ho : ∀ p ∈ parts.toList, Rr E (evR t p.2) (a.eval p.2)) : ∀ (j : Nat) (p : Nat × RV) (q : Nat × Value), (parts.toList.map fun p => (p.1, evR t p.2))[j]? = some p → (parts.toList.map fun p => (p.1, a.eval p.2))[j]? = some q → p.1 = q.1 ∧ Rr E p.2 q.2 := fun j p q hp hq => by
  simp only [List.getElem?_map, Option.map_eq_some_iff] at hp hq
  obtain ⟨x, hx, rfl⟩ := hp
  obtain ⟨y, hy, rfl⟩ := hq
  rw [hx] at hy
  cases hy
  exact ⟨rfl, ho x (List.mem_of_getElem? hx)⟩

theorem mv_build {ty : TypeId} {parts : Array (Nat × Operand)} (hop : o.op = .build ty parts) (hr : mvR P lo t h n o.op = some r) : MOk P lo t h n o r := by
  rw [hop] at hr
  simp only [mvR] at hr
  split at hr <;> try cases hr
  rename_i zs hz
  cases hb : bldOk P ty with
  | false =>
    rw [hb] at hr
    simp only [cond_false] at hr
    split at hr <;> try cases hr
    rename_i k z hel
    rw [Option.map_eq_some_iff] at hr
    obtain ⟨cs, hcs, rfl⟩ := hr
    refine ⟨KH.refl _ _ _, fun m E a w hm hs hh => ⟨E, w, hh, RX.refl _ _ _ _ _, ?_⟩⟩
    have ho : ∀ p ∈ parts.toList, Rr E (evR t p.2) (a.eval p.2) := fun p hp => hs p.2 (by
      simp only [hop, Op.operands]
      simp
      exact ⟨p.1, by simpa using hp⟩)
    obtain ⟨i, zv, hi, hzv, hzc, hone⟩ := zcOf_spec hz
    obtain ⟨out, o1, o2⟩ := fillR_ok (E := E) (fun i => some (i * z, z)) (fun i => some (i * z, z)) (fun _ _ h => h) _ (parts.toList.map fun p => (p.1, a.eval p.2)) _ zv.cells cs hcs (by simp) (parts_rel ho) (zc_ok E hzc hone)
    refine ⟨.agg out, ?_, .agg _ _ o2.1 o2.2.1 o2.2.2⟩
    have hm : (parts.map fun (i, x) => (i, a.eval x)).toList = parts.toList.map fun p => (p.1, a.eval p.2) := by simp
    unfold elOf at hel
    split at hel <;> simp at hel
    rename_i m' e' hu
    obtain ⟨i2, hi2, _, hz2⟩ := hel
    unfold execOp
    simp only [hop]
    unfold Instr.build
    simp [zeroValue, run_typeInfo w hi, hzv, run_underlying hu, run_sizeOf w hi2, Program.cellsOf, hi2, hz2, hm, o1]
  | true =>
  rw [hb] at hr
  simp only [cond_true] at hr
  rw [Option.map_eq_some_iff] at hr
  obtain ⟨cs, hcs, rfl⟩ := hr
  refine ⟨KH.refl _ _ _, fun m E a w hm hs hh => ⟨E, w, hh, RX.refl _ _ _ _ _, ?_⟩⟩
  have ho : ∀ p ∈ parts.toList, Rr E (evR t p.2) (a.eval p.2) := fun p hp => hs p.2 (by
    simp only [hop, Op.operands]
    simp
    exact ⟨p.1, by simpa using hp⟩)
  obtain ⟨i, zv, hi, hzv, hzc, hone⟩ := zcOf_spec hz
  have h1' := hb
  unfold bldOk at h1'
  split at h1'
  · rename_i fs hu
    rw [List.all_eq_true] at h1'
    let places : Array (Nat × Nat) := fs.map fun f => (f.offset, P.cellsOf f.type)
    have hpl : ∀ k p, plOf P ty k = some p → places[k]? = some p := fun k p hk => by
      unfold plOf at hk
      rw [hu] at hk
      simp only at hk
      split at hk <;> try cases hk
      rename_i f hf
      split at hk <;> try cases hk
      rename_i x hx
      simp only [places, Array.getElem?_map, hf, Option.map_some, Program.cellsOf, hx, Option.getD_some]
    have hrunp : (fs.mapM fun f => (do pure (f.offset, ← sizeOf f.type) : Sem (Nat × Nat))).run P w = .ok places w := by
      have := run_mapMβ (P := P) (w := w) (fun f : Field => (do pure (f.offset, ← sizeOf f.type) : Sem (Nat × Nat))) fs.toList places.toList (by simp [places]) (fun j f v hf hv => by
        have hf' : f ∈ fs.toList := List.mem_of_getElem? hf
        obtain ⟨x, hx⟩ := Option.isSome_iff_exists.1 (h1' f hf')
        have : v = (f.offset, P.cellsOf f.type) := by
          simp only [places, Array.toList_map, List.getElem?_map, hf, Option.map_some, Option.some.injEq] at hv
          exact hv.symm
        subst this
        simp [run_sizeOf w hx, Program.cellsOf, hx])
      have e : fs = fs.toList.toArray := by simp
      rw [e, List.mapM_toArray, Sem.run_map, this]
      show Result.ok places.toList.toArray w = Result.ok places w
      rw [Array.toArray_toList]
    obtain ⟨out, o1, o2⟩ := fillR_ok (E := E) (plOf P ty) (fun k => places[k]?) hpl _ (parts.toList.map fun p => (p.1, a.eval p.2)) _ zv.cells cs hcs (by simp) (parts_rel ho) (zc_ok E hzc hone)
    refine ⟨.agg out, ?_, .agg _ _ o2.1 o2.2.1 o2.2.2⟩
    have hm : (parts.map fun (i, x) => (i, a.eval x)).toList = parts.toList.map fun p => (p.1, a.eval p.2) := by simp
    have e2 : (fun f : Field => (do pure (f.offset, ← sizeOf f.type) : Sem (Nat × Nat))) = fun f => Prod.mk f.offset <$> sizeOf f.type := by funext f; simp
    rw [e2] at hrunp
    unfold execOp
    simp only [hop]
    unfold Instr.build
    simp [zeroValue, run_typeInfo w hi, hzv, run_underlying hu, hrunp, hm, o1]
  · cases h1'

theorem mv_lit {ty : TypeId} {k : Nat} {parts : Array (Nat × Operand)} (hop : o.op = .buildSlice ty k parts) (hlo : lo ≤ n) (hr : mvR P lo t h n o.op = some r) : MOk P lo t h n o r := by
  rw [hop] at hr
  simp only [mvR] at hr
  split at hr <;> try cases hr
  rename_i e z by_ hsl
  split at hr <;> try cases hr
  rename_i zs hz
  obtain ⟨hb, hr⟩ := bif_opt hr
  simp only [Bool.and_eq_true, decide_eq_true_eq] at hb
  obtain ⟨⟨⟨hzl, h24⟩, hk24⟩, hub⟩ := hb
  rw [Option.map_eq_some_iff] at hr
  obtain ⟨cs, hcs, rfl⟩ := hr
  obtain ⟨hu, i, hi, rfl, rfl⟩ := slE_spec hsl
  obtain ⟨i', zv, hi', hzv, rfl, hone⟩ := zcOf_spec hz
  rw [hi] at hi'
  cases hi'
  have hzs : zv.cells.size = i.size := by simpa using hzl
  refine ⟨KH.new hlo hub _, fun m E a w hm hs hh => ?_⟩
  have hm : n + 1 ≤ m := hm
  have ho : ∀ p ∈ parts.toList, Rr E (evR t p.2) (a.eval p.2) := fun p hp => hs p.2 (by
    simp only [hop, Op.operands]
    simp
    exact ⟨p.1, by simpa using hp⟩)
  obtain ⟨out, o1, o2⟩ := fillR_ok (E := E) (fun i' => some (i' * i.size, i.size)) (fun i' => some (i' * i.size, i.size)) (fun _ _ h => h) _ (parts.toList.map fun p => (p.1, a.eval p.2)) _ _ cs hcs (by simp) (parts_rel ho) (zerosR_ok E hone k)
  have hlen := hcs
  have hosz : out.size = k * i.size := by
    have : ∀ (l : List (Nat × RV)) (c0 c1 : List RV), fillR (fun i' => some (i' * i.size, i.size)) c0 l = some c1 → c1.length = c0.length := fun l => by
      induction l with
      | nil => intro c0 c1 h; cases h; rfl
      | cons p l ih =>
        intro c0 c1 h
        unfold fillR at h
        split at h <;> try cases h
        rename_i off s vs e1 e2
        obtain ⟨h1, h2⟩ := bif_opt h
        simp only [Bool.and_eq_true, decide_eq_true_eq] at h1
        rw [ih _ _ h2, splR_len (by omega)]
    have := this _ _ _ hcs
    rw [zerosR_len] at this
    rw [← o2.1, this]
    simp [hzs]
  obtain ⟨q1, q2⟩ := new_ok (us := out) (cs := cs) hh hm hlo hub e (w' := w.alloc (.cells out e)) rfl rfl ⟨rfl, Nat.le_refl _⟩ rfl (o2.mono (updE_up hh (by omega) _)).toCR'
  refine ⟨_, _, q1, q2, .slice (some ⟨w.heap.size, 0, none⟩) k k, ?_, .sl n 0 k _ _ true w.heap.size out.size k (updE_same _ _ _) (Nat.le_refl _) (by unfold maxLen; omega) (by omega) (fun _ => by omega) (fun _ h => by cases h; rfl)⟩
  have hmap : (parts.map fun p => (p.1, a.eval p.2)).toList = parts.toList.map fun p => (p.1, a.eval p.2) := by simp
  have h24' : ¬ (k * i.size > 2 ^ 24) := by
    have : (2 : Nat) ^ 24 = 16777216 := by decide
    omega
  have hzero : (if k * i.size = 0 then #[] else zv.cells) = (if k * i.size = 0 then #[] else zv.cells) := rfl
  by_cases h0 : k * i.size = 0
  · have e0 : (Array.range (k * zv.cells.size)).map (zv.cells[· % zv.cells.size]!) = #[] := by rw [hzs, h0]; simp [Array.range_zero']
    rw [e0] at o1
    simp only [execOp, hop, Instr.buildSlice, Sem.run_bind, run_underlying hu, Result.andThen_ok, run_sizeOf w hi, Program.cellsOf, hi, Option.map_some, Option.getD_some, h24', if_false, h0, if_true, Sem.run_pure, Sem.run_ite]
    simp only [hmap, Array.range_zero']
    simp [o1, newRow]
  · rw [hzs] at o1
    simp only [execOp, hop, Instr.buildSlice, Sem.run_bind, run_underlying hu, Result.andThen_ok, run_sizeOf w hi, Program.cellsOf, hi, Option.map_some, Option.getD_some, h24', if_false, h0, zeroValue, run_typeInfo w hi, hzv, Sem.run_pure, Sem.run_ite]
    simp only [hmap, hzs]
    rw [o1]
    simp [newRow]

theorem mv_make {ty : TypeId} {x y : Operand} (hop : o.op = .makeSlice ty x y) (hlo : lo ≤ n) (hr : mvR P lo t h n o.op = some r) : MOk P lo t h n o r := by
  rw [hop] at hr
  simp only [mvR] at hr
  split at hr <;> try cases hr
  rename_i e z by_ k l k' c hsl hx hy
  split at hr <;> try cases hr
  rename_i zs hz
  obtain ⟨hb, rfl⟩ := bif_some hr
  simp only [Bool.and_eq_true, decide_eq_true_eq] at hb
  obtain ⟨⟨⟨⟨⟨hzl, h0⟩, h1⟩, h2⟩, h3⟩, hub⟩ := hb
  obtain ⟨hu, i, hi, rfl, rfl⟩ := slE_spec hsl
  obtain ⟨i', zv, hi', hzv, rfl, hone⟩ := zcOf_spec hz
  rw [hi] at hi'
  cases hi'
  refine ⟨KH.new hlo hub _, fun m E a w hm hs hh => ?_⟩
  have hm : n + 1 ≤ m := hm
  have hxr := hs x (by simp [hop, Op.operands])
  have hyr := hs y (by simp [hop, Op.operands])
  rw [hx] at hxr
  rw [hy] at hyr
  have hxe : a.eval x = .int k l := by
    generalize a.eval x = q at hxr ⊢
    cases hxr; rfl
  have hye : a.eval y = .int k' c := by
    generalize a.eval y = q at hyr ⊢
    cases hyr; rfl
  have hwn : IntKind.i64.wrap l = l := IntWalk.i64_in l ⟨by omega, by omega⟩
  have hwc : IntKind.i64.wrap c = c := IntWalk.i64_in c ⟨by omega, by omega⟩
  have hzs : zv.cells.size = i.size := by simpa using hzl
  obtain ⟨us, husd⟩ : ∃ us : Array Value, us = (Array.range (c.toNat * i.size)).map (zv.cells[· % zv.cells.size]!) := ⟨_, rfl⟩
  have hus : us.size = c.toNat * i.size := by simp [husd]
  have hrun : (execOp a.eval o).run P w = .ok (.value (.slice (some ⟨w.heap.size, 0, none⟩) l.toNat c.toNat)) (w.alloc (.cells us e)) := by
    simp only [execOp, hop, hxe, hye, Instr.makeSlice, asInt, asIntOf, Sem.run_bind, run_underlying hu, Result.andThen_ok, Sem.run_pure, run_typeInfo w hi, hwn, hwc, run_askRoom, run_sizeOf w hi, Program.cellsOf, hi, Option.map_some, Option.getD_some]
    have hcond : (decide (c < 0) || decide ((i.bytes : Int) * c > 2 ^ 48) || decide (l < 0) || decide (l > c)) = false := by
      have hc48 : (i.bytes : Int) * c ≤ 140737488355328 := by rw [Int.mul_comm]; exact h3
      have e48 : (2 : Int) ^ 48 = 281474976710656 := by decide
      simp only [Bool.or_eq_false_iff, decide_eq_false_iff_not, e48]
      omega
    rw [hcond, if_neg (by simp)]
    simp only [Sem.run_bind, run_askRoom, Result.andThen_ok, run_sizeOf w hi, Program.cellsOf, hi, Option.map_some, Option.getD_some]
    by_cases hzero : c.toNat * i.size = 0
    · have he : us = #[] := by
        apply Array.eq_empty_of_size_eq_zero
        rw [hus, hzero]
      rw [if_pos hzero, he]
      simp [newRow, hzero, Array.range_zero']
    · rw [if_neg hzero]
      simp [zeroValue, run_typeInfo w hi, hzv, newRow, husd]
  have hcr := zerosR_ok (updE E n (some (w.heap.size, us.size))) hone c.toNat
  have hus2 : (Array.range (c.toNat * zv.cells.size)).map (zv.cells[· % zv.cells.size]!) = us := by rw [husd, hzs]
  rw [hus2] at hcr
  obtain ⟨q1, q2⟩ := new_ok (us := us) hh hm hlo hub e (w' := w.alloc (.cells us e)) rfl rfl ⟨rfl, Nat.le_refl _⟩ rfl hcr.toCR'
  exact ⟨_, _, q1, q2, _, hrun, .sl n 0 l.toNat _ _ true w.heap.size us.size c.toNat (updE_same _ _ _) (by omega) (by unfold maxLen; omega) (by omega) (fun _ => by omega) (fun _ h => by cases h; rfl)⟩

theorem mv_store {ty : TypeId} {ad x : Operand} (hop : o.op = .store ty ad x) (hr : mvR P lo t h n o.op = some r) : MOk P lo t h n o r := by
  rw [hop] at hr
  simp only [mvR] at hr
  split at hr <;> try cases hr
  rename_i s b off vs hsz had hvs
  split at hr <;> try cases hr
  rename_i e cs hb
  obtain ⟨hc, rfl⟩ := bif_some hr
  simp only [Bool.and_eq_true, decide_eq_true_eq] at hc
  obtain ⟨⟨⟨⟨h1, h2⟩, h3⟩, h4⟩, h5⟩ := hc
  refine ⟨KH.turn h3 h4 h5 _, fun m E a w hm hs hh => ?_⟩
  have hxr := hs x (by simp [hop, Op.operands])
  have har := hs ad (by simp [hop, Op.operands])
  rw [had] at har
  generalize hav : a.eval ad = av at har
  cases har with
  | ptr _ _ g s' hE =>
    obtain ⟨g2, s2, hE2, us, hg, hus, hlen, hrel⟩ := hh.blk b _ hb
    rw [hE] at hE2
    cases hE2
    have hcr := cells_okR hvs hxr
    have hrun := run_storeAt (P := P) (w := w) hsz (x := a.eval x) (by rw [← hcr.1]; exact h1) hg (o := off) (by omega) hcr.2.1
    have e1 : (us.toList.take off ++ (a.eval x).cells.toList ++ us.toList.drop (off + s)).toArray = splV off (a.eval x).cells us := by unfold splV; rw [← hcr.1, h1]
    rw [e1] at hrun
    have hsp := hcr.spl (off := off) (old := cs) (us := us) ⟨by omega, hrel⟩ (by omega)
    have hspsz : (splV off (a.eval x).cells us).size = us.size := splV_size (by rw [← hcr.1]; omega)
    obtain ⟨q1, q2⟩ := hh.turn (lo := lo) (b := b) (g := g) (s := s') h3 h4 (by rw [hb]; simp) hE (w' := w.setRow g (splV off (a.eval x).cells us)) (by simp [World.setRow]) (fun g' hg' => setRow_other w g g' _ hg') rfl ⟨rfl, Nat.le_refl _⟩ rfl
      (k := .cells e (splR off vs cs)) ⟨_, setRow_heap w g us _ e _ hg, hspsz.trans hus, by have := hsp.1; omega, hsp.2⟩
    rw [get_set_fun h5]
    exact ⟨E, _, q1, q2, by simp only [execOp, hop, Sem.run_bind, hav, hrun, Result.andThen_ok, Sem.run_pure]⟩

/-! ## Maps -/

theorem mv_map {ty : TypeId} {hint : Option Operand} (hop : o.op = .makeMap ty hint) (hlo : lo ≤ n) (hr : mvR P lo t h n o.op = some r) : MOk P lo t h n o r := by
  rw [hop] at hr
  simp only [mvR] at hr
  obtain ⟨hc, rfl⟩ := bif_some hr
  rw [Bool.and_eq_true, decide_eq_true_eq] at hc
  obtain ⟨hmk, hub⟩ := hc
  refine ⟨KH.new hlo hub _, fun m E a w hm hs hh => ?_⟩
  have hm : n + 1 ≤ m := hm
  obtain ⟨q1, q2, q3⟩ := hh.new (lo := lo) (by omega) hlo (w' := w.alloc (.map #[] 0)) rfl rfl ⟨rfl, Nat.le_refl _⟩ rfl (k := .map [] 0) (s := 0) ⟨[], by rw [show (w.alloc (.map #[] 0)).heap = w.heap.push (.map #[] 0) from rfl]; simp, rfl, fun j e m he => by simp at he⟩
  rw [get_set_fun hub]
  refine ⟨_, _, q1, q2, .map (some w.heap.size), ?_, .mp n w.heap.size 0 (updE_same _ _ _)⟩
  cases hint with
  | none => simp [execOp, hop, Instr.makeMap, newObj, Sem.run]
  | some x =>
    have hx := hs x (by simp [hop, Op.operands])
    simp only [Option.map_some] at hmk
    generalize evR t x = ex at hmk hx
    cases ex with
    | int kk q =>
      generalize hq : a.eval x = qv at hx
      cases hx
      unfold mkmOk at hmk
      simp only at hmk
      split at hmk <;> try cases hmk
      rename_i hu
      simp [execOp, hop, Instr.makeMap, hq, run_underlying hu, asInt, asIntOf, newObj, Sem.run]
    | _ => cases hmk

theorem map_turn {E : Emb} {m : Nat} {w : World} (hh : HS E h.get n m w) {b g s c c' : Nat} {es es' : List (Value × RV × Nat)} {vs vs' : List MapEntry} (hb : h.get b = some (.map es c)) (hE : E b = some (g, s)) (hg : w.heap[g]? = some (.map vs.toArray c))
    (h3 : lo ≤ b) (h4 : b < n) (h5 : b < ub) (hr : ER E es' vs') :
    HS E (h.set b (some (.map es' c'))).get n m { w with heap := w.heap.setIfInBounds g (.map vs'.toArray c') } ∧ RX lo E h.get n w E (h.set b (some (.map es' c'))).get n { w with heap := w.heap.setIfInBounds g (.map vs'.toArray c') } := by
  rw [get_set_fun h5]
  have hs := MapKept.heap_set (o' := .map vs'.toArray c') hg
  exact hh.turn (lo := lo) (b := b) (g := g) (s := s) h3 h4 (by rw [hb]; simp) hE (w' := { w with heap := w.heap.setIfInBounds g (.map vs'.toArray c') }) (by simp) (fun g' hg' => hs.2 g' hg') rfl ⟨rfl, Nat.le_refl _⟩ rfl (k := .map es' c') ⟨vs', hs.1, hr.1, hr.2⟩

theorem ER.app {E : Emb} {es : List (Value × RV × Nat)} {vs : List MapEntry} (h : ER E es vs) {e : Value × RV × Nat} {m : MapEntry} (h1 : m.key = e.1) (h2 : Rr E e.2.1 m.val) (h3 : m.born = e.2.2) : ER E (es ++ [e]) (vs ++ [m]) := by
  refine ⟨by simp [h.1], fun j a b ha hb => ?_⟩
  rw [List.getElem?_append] at ha hb
  rw [h.1] at ha
  split at ha
  · rename_i hj
    rw [if_pos hj] at hb
    exact h.2 j a b ha hb
  · rename_i hj
    rw [if_neg hj] at hb
    rcases hk : j - vs.length with _ | q
    · rw [hk] at ha hb; simp at ha hb; subst ha; subst hb; exact ⟨h1, h2, h3⟩
    · rw [hk] at ha; simp at ha
theorem ER.set {E : Emb} {es : List (Value × RV × Nat)} {vs : List MapEntry} (h : ER E es vs) {j : Nat} {m : MapEntry} (hm : vs[j]? = some m) {e : Value × RV × Nat} {f : MapEntry → MapEntry} (h1 : (f m).key = e.1) (h2 : Rr E e.2.1 (f m).val) (h3 : (f m).born = e.2.2) : ER E (es.set j e) (vs.modify j f) := by
  refine ⟨by simp [h.1], fun i a b ha hb => ?_⟩
  rw [List.getElem?_set] at ha
  rw [List.getElem?_modify] at hb
  by_cases hij : j = i
  · subst hij
    rw [if_pos rfl] at ha
    rw [hm] at hb
    split at ha <;> cases ha
    simp at hb
    subst hb
    exact ⟨h1, h2, h3⟩
  · rw [if_neg hij] at ha
    simp [hij] at hb
    exact h.2 i a b ha hb
theorem ER.erase {E : Emb} {es : List (Value × RV × Nat)} {vs : List MapEntry} (h : ER E es vs) (j : Nat) : ER E (es.eraseIdx j) (vs.eraseIdx j) := by
  refine ⟨by simp [List.length_eraseIdx, h.1], fun i a b ha hb => ?_⟩
  rw [List.getElem?_eraseIdx] at ha hb
  split at ha
  · rename_i hi; rw [if_pos hi] at hb; exact h.2 _ a b ha hb
  · rename_i hi; rw [if_neg hi] at hb; exact h.2 _ a b ha hb

theorem mp_inv {E : Emb} {b : Nat} {v : Value} (h : Rr E (.mp b) v) : ∃ g s, v = .map (some g) ∧ E b = some (g, s) := by
  cases h with
  | mp _ g s hE => exact ⟨g, s, rfl, hE⟩

theorem mv_upd {ty : TypeId} {mo k x : Operand} (hop : o.op = .mapUpdate ty mo k x ∨ o.op = .insert ty mo k x) (hr : updR P lo h n ty (evR t mo) (evR t k) (evR t x) = some r) : MOk P lo t h n o r := by
  have hopd : ∀ y ∈ [mo, k, x], y ∈ o.op.operands := fun y hy => by
    rcases hop with hop | hop <;> rw [hop] <;> simp [Op.operands] at hy ⊢ <;> exact hy
  have hex : ∀ (a : Act), execOp a.eval o = (Instr.mapUpdate ty (a.eval mo) (a.eval k) (a.eval x) >>= fun _ => pure .skip) := fun a => by
    rcases hop with hop | hop <;> simp only [execOp, hop]
  unfold updR at hr
  split at hr <;> try cases hr
  rename_i kt et b kv hu hmo hkv
  split at hr <;> try cases hr
  rename_i es c hb
  obtain ⟨hc, hr⟩ := bif_opt hr
  simp only [Bool.and_eq_true, decide_eq_true_eq] at hc
  obtain ⟨⟨h3, h4⟩, h5⟩ := hc
  split at hr <;> cases hr
  all_goals
    rename_i hf
    refine ⟨KH.turn h3 h4 h5 _, fun m E a w hm hs hh => ?_⟩
    have hmr := hs mo (hopd _ (by simp))
    have hkr := hs k (hopd _ (by simp))
    have hxr := hs x (hopd _ (by simp))
    rw [hmo] at hmr
    generalize hmv : a.eval mo = mv at hmr
    obtain rfl := keyV_ok hkv hkr
    obtain ⟨g, s, rfl, hE⟩ := mp_inv hmr
    obtain ⟨g2, s2, hE2, vs, hg, hlen, hrel⟩ := hh.blk b _ hb
    rw [hE] at hE2; cases hE2
    have hER : ER E es vs := ⟨hlen, hrel⟩
    obtain ⟨c1, c2, c3⟩ := findR_ok hf hER w
  · obtain ⟨q1, q2⟩ := map_turn (lo := lo) (c' := c + 1) hh hb hE hg h3 h4 h5 (hER.app (e := (a.eval k, evR t x, c)) (m := ⟨a.eval k, a.eval x, c⟩) rfl hxr rfl)
    exact ⟨E, _, q1, q2, by simp [hex, hmv, Instr.mapUpdate, run_underlying hu, MapKept.run_getObj_map hg, c1, c3, MapKept.run_setObj_map _ hg]⟩
  · obtain ⟨mm, c3, c4, c5, c6, c7⟩ := c3
    rename_i j d c0
    obtain ⟨q1, q2⟩ := map_turn (lo := lo) (c' := c) hh hb hE hg h3 h4 h5 (hER.set c4 (e := (a.eval k, evR t x, c0)) (f := fun e => { e with key := a.eval k, val := a.eval x }) rfl hxr c7)
    have hj : vs.toArray[j]? = some mm := by simpa using c4
    refine ⟨E, _, q1, q2, ?_⟩
    simp [hex, hmv, Instr.mapUpdate, run_underlying hu, MapKept.run_getObj_map hg, c1, c3, c4, c5, c2, MapKept.run_setObj_map _ hg]

theorem mv_del {args : Array Operand} {ts : Array TypeId} {mo k : Operand} {t1 : TypeId} {tl : List TypeId} (hop : o.op = .call ⟨.builtin .delete, args, ts⟩) (hargs : args.toList = [mo, k]) (hts : ts.toList = t1 :: tl) (hr : delR P lo h n t1 (evR t mo) (evR t k) = some r) : MOk P lo t h n o r := by
  obtain rfl : args = #[mo, k] := by apply Array.ext'; simpa using hargs
  have h0 : ts[0]? = some t1 := by rw [← Array.getElem?_toList, hts]; rfl
  unfold delR at hr
  split at hr <;> try cases hr
  rename_i kt et b kv hu hmo hkv
  split at hr <;> try cases hr
  rename_i es c hb
  obtain ⟨hc, hr⟩ := bif_opt hr
  simp only [Bool.and_eq_true, decide_eq_true_eq] at hc
  obtain ⟨⟨h3, h4⟩, h5⟩ := hc
  split at hr <;> cases hr
  all_goals
    rename_i hf
    refine ⟨KH.turn h3 h4 h5 _, fun m E a w hm hs hh => ?_⟩
    have hmr := hs mo (by simp [hop, Op.operands, Call.operands])
    have hkr := hs k (by simp [hop, Op.operands, Call.operands])
    rw [hmo] at hmr
    generalize hmv : a.eval mo = mv at hmr
    obtain rfl := keyV_ok hkv hkr
    obtain ⟨g, s, rfl, hE⟩ := mp_inv hmr
    obtain ⟨g2, s2, hE2, vs, hg, hlen, hrel⟩ := hh.blk b _ hb
    rw [hE] at hE2; cases hE2
    have hER : ER E es vs := ⟨hlen, hrel⟩
    obtain ⟨c1, c2, c3⟩ := findR_ok hf hER w
  · obtain ⟨q1, q2⟩ := map_turn (lo := lo) (c' := c) hh hb hE hg h3 h4 h5 hER
    exact ⟨E, _, q1, q2, .tuple #[], by simp [execOp, hop, hmv, resolve, invoke, builtin, Builtin.delete_, h0, run_underlying hu, MapKept.run_getObj_map hg, c1, c3, MapKept.run_setObj_map _ hg], .tup [] #[] rfl fun j d u hd => by simp at hd⟩
  · obtain ⟨mm, c3, c4, c5, c6, c7⟩ := c3
    rename_i j d c0
    obtain ⟨q1, q2⟩ := map_turn (lo := lo) (c' := c) hh hb hE hg h3 h4 h5 (hER.erase j)
    have e1 : vs.toArray.eraseIdxIfInBounds j = (vs.eraseIdx j).toArray := by simp
    exact ⟨E, _, q1, q2, .tuple #[], by simp [execOp, hop, hmv, resolve, invoke, builtin, Builtin.delete_, h0, run_underlying hu, MapKept.run_getObj_map hg, c1, c3, MapKept.run_setObj_map _ hg], .tup [] #[] rfl fun j d u hd => by simp at hd⟩

theorem mv_range {ty : TypeId} {x : Operand} (hop : o.op = .range ty x) (hlo : lo ≤ n) (hr : mvR P lo t h n o.op = some r) : MOk P lo t h n o r := by
  rw [hop] at hr
  simp only [mvR] at hr
  split at hr <;> try cases hr
  rename_i s hs0
  obtain ⟨hc, rfl⟩ := bif_some hr
  rw [Bool.and_eq_true, decide_eq_true_eq, beq_iff_eq] at hc
  obtain ⟨hty, hub⟩ := hc
  refine ⟨KH.new hlo hub _, fun m E a w hm hs hh => ?_⟩
  have hm : n + 1 ≤ m := hm
  have hx := hs x (by simp [hop, Op.operands])
  rw [hs0] at hx
  generalize hq : a.eval x = q at hx
  cases hx
  obtain ⟨q1, q2, q3⟩ := hh.new (lo := lo) (by omega) hlo (w' := w.alloc (.stringIter s 0)) rfl rfl ⟨rfl, Nat.le_refl _⟩ rfl (k := .it s 0) (s := 0) (show (w.heap.push (.stringIter s 0))[w.heap.size]? = _ by simp)
  rw [get_set_fun hub]
  exact ⟨_, _, q1, q2, .pointer (some ⟨w.heap.size, 0, none⟩), by simp [execOp, hop, hq, Instr.range, run_underlying (tk_string hty), newObj, Sem.run], .ptr n 0 w.heap.size 0 (updE_same _ _ _)⟩

theorem mv_next {x : Operand} (hop : o.op = .next x true) (hr : mvR P lo t h n o.op = some r) : MOk P lo t h n o r := by
  rw [hop] at hr
  simp only [mvR] at hr
  split at hr <;> try cases hr
  rename_i b hx0
  split at hr <;> try cases hr
  rename_i s pos hb
  obtain ⟨hc, hr⟩ := bif_opt hr
  simp only [Bool.and_eq_true, decide_eq_true_eq] at hc
  obtain ⟨⟨h3, h4⟩, h5⟩ := hc
  have common : ∀ {E : Emb} {m : Nat} {a : Act} {w : World}, OpdOk E t a o → HS E h.get n m w → ∃ g s', a.eval x = .pointer (some ⟨g, 0, none⟩) ∧ E b = some (g, s') ∧ w.heap[g]? = some (.stringIter s pos) := fun {E m a w} hs hh => by
    have hx := hs x (by simp [hop, Op.operands])
    rw [hx0] at hx
    generalize a.eval x = q at hx
    cases hx with
    | ptr _ _ g s' hE =>
      obtain ⟨g2, s2, hE2, hg⟩ := hh.blk b _ hb
      rw [hE] at hE2; cases hE2
      exact ⟨g, s', rfl, hE, hg⟩
  have hobj : ∀ {w : World} {g : Nat}, w.heap[g]? = some (.stringIter s pos) → (getObj g).run P w = .ok (.stringIter s pos) w := fun {w g} hg => by simp [getObj, Sem.run, hg]
  cases hp : decide (pos < s.size) with
  | true =>
    rw [hp] at hr
    obtain rfl := Option.some.inj hr
    have hp := of_decide_eq_true hp
    refine ⟨KH.turn h3 h4 h5 _, fun m E a w hm hs hh => ?_⟩
    obtain ⟨g, s', hav, hE, hg⟩ := common hs hh
    have hset : (setObj g (.stringIter s (pos + (Utf8.decode s pos).2))).run P w = .ok () { w with heap := w.heap.setIfInBounds g (.stringIter s (pos + (Utf8.decode s pos).2)) } := by simp [setObj, Sem.run, hg]
    have hs2 := MapKept.heap_set (o' := .stringIter s (pos + (Utf8.decode s pos).2)) hg
    obtain ⟨q1, q2⟩ := hh.turn (lo := lo) (b := b) (g := g) (s := s') h3 h4 (by rw [hb]; simp) hE (w' := { w with heap := w.heap.setIfInBounds g (.stringIter s (pos + (Utf8.decode s pos).2)) }) (by simp) (fun g' hg' => hs2.2 g' hg') rfl ⟨rfl, Nat.le_refl _⟩ rfl (k := .it s (pos + (Utf8.decode s pos).2)) hs2.1
    rw [get_set_fun h5]
    refine ⟨E, _, q1, q2, .tuple #[.bool true, goInt pos, .int .i32 (Utf8.decode s pos).1], by simp [execOp, hop, hav, Instr.next, hobj hg, hp, hset], ?_⟩
    refine .tup _ _ rfl fun j d u hd hu => ?_
    rcases j with _ | _ | _ | j
    · simp at hd hu; subst hd; subst hu; exact .bool _
    · simp at hd hu; subst hd; subst hu; exact .int _ _
    · simp at hd hu; subst hd; subst hu; exact .int _ _
    · simp at hd
  | false =>
    rw [hp] at hr
    obtain rfl := Option.some.inj hr
    have hp := of_decide_eq_false hp
    refine ⟨KH.refl _ _ _, fun m E a w hm hs hh => ?_⟩
    obtain ⟨g, s', hav, hE, hg⟩ := common hs hh
    refine ⟨E, w, hh, RX.refl _ _ _ _ _, .tuple #[.bool false], by simp [execOp, hop, hav, Instr.next, hobj hg, hp], ?_⟩
    refine .tup _ _ rfl fun j d u hd hu => ?_
    rcases j with _ | j
    · simp at hd hu; subst hd; subst hu; exact .bool _
    · simp at hd
end
end Go.Rv
