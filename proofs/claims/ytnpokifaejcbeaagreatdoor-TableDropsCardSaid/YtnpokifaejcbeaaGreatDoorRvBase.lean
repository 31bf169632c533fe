/- Closed code is run on a heap of its own numbers: values, heap, and how they stand for the model's, wherever its blocks lie. -/
import Derived.Test.YtnpokifaejcbeaaGreatDoorSgApp
import Derived.LoopN
set_option linter.unusedVariables false
set_option linter.unusedSimpArgs false
namespace Go.Rv
open Go.RowKit Go.Sg

/-! ## A tree of numbers -/

inductive Tr (α : Type) where
  | e
  | n (v : Option α) (l r : Tr α)

def Tr.get {α : Type} : Tr α → Nat → Option α
  | .e, _ => none
  | .n v _ _, 0 => v
  | .n _ l r, k + 1 => bif k % 2 == 0 then l.get (k / 2) else r.get (k / 2)

def Tr.mkL {α : Type} (v : Option α) (s r : Tr α) : Tr α := match s with
  | .e => .n v .e r
  | .n a b c => .n v (.n a b c) r
def Tr.mkR {α : Type} (v : Option α) (l s : Tr α) : Tr α := match s with
  | .e => .n v l .e
  | .n a b c => .n v l (.n a b c)
theorem Tr.mkL_eq {α : Type} (v : Option α) (s r : Tr α) : Tr.mkL v s r = .n v s r := by cases s <;> rfl
theorem Tr.mkR_eq {α : Type} (v : Option α) (l s : Tr α) : Tr.mkR v l s = .n v l s := by cases s <;> rfl

def Tr.put {α : Type} : Nat → Tr α → Nat → Option α → Tr α
  | 0, t, _, _ => t
  | _ + 1, .e, 0, x => .n x .e .e
  | f + 1, .e, k + 1, x => bif k % 2 == 0 then .mkL none (Tr.put f .e (k / 2) x) .e else .mkR none .e (Tr.put f .e (k / 2) x)
  | _ + 1, .n _ l r, 0, x => .n x l r
  | f + 1, .n v l r, k + 1, x => bif k % 2 == 0 then .mkL v (Tr.put f l (k / 2) x) r else .mkR v l (Tr.put f r (k / 2) x)

theorem Tr.get_e {α : Type} (k : Nat) : (Tr.e : Tr α).get k = none := by cases k <;> rfl

theorem Tr.get_put {α : Type} : ∀ (f : Nat) (t : Tr α) (k : Nat) (x : Option α) (j : Nat), k + 1 < 2 ^ f → (Tr.put f t k x).get j = if j = k then x else t.get j
  | 0, t, k, x, j, h => by simp at h
  | f + 1, t, k, x, j, h => by
    have key : ∀ (v : Option α) (l r : Tr α) (k : Nat), k + 1 + 1 < 2 ^ (f + 1) → ∀ j, ((bif k % 2 == 0 then Tr.mkL v (Tr.put f l (k / 2) x) r else Tr.mkR v l (Tr.put f r (k / 2) x)) : Tr α).get j = if j = k + 1 then x else (Tr.n v l r).get j := by
      intro v l r k hk j
      have hp : 2 ^ (f + 1) = 2 * 2 ^ f := by rw [Nat.pow_succ, Nat.mul_comm]
      have hk' : k / 2 + 1 < 2 ^ f := by omega
      cases hc : k % 2 == 0 with
      | true =>
        simp only [cond_true, Tr.mkL_eq]
        have hc' : k % 2 = 0 := by simpa using hc
        cases j with
        | zero => simp [Tr.get]
        | succ j =>
          simp only [Tr.get]
          cases hj : j % 2 == 0 with
          | true =>
            have hj' : j % 2 = 0 := by simpa using hj
            simp only [cond_true, Tr.get_put f l (k / 2) x (j / 2) hk']
            by_cases e : j = k
            · subst e; simp
            · rw [if_neg (by omega), if_neg (by omega)]
          | false =>
            have hj' : j % 2 ≠ 0 := by simpa using hj
            rw [if_neg (by intro e; simp at e; subst e; exact hj' hc')]; rfl
      | false =>
        simp only [cond_false, Tr.mkR_eq]
        have hc' : k % 2 ≠ 0 := by simpa using hc
        cases j with
        | zero => simp [Tr.get]
        | succ j =>
          simp only [Tr.get]
          cases hj : j % 2 == 0 with
          | true =>
            have hj' : j % 2 = 0 := by simpa using hj
            rw [if_neg (by intro e; simp at e; subst e; exact hc' hj')]; rfl
          | false =>
            have hj' : j % 2 ≠ 0 := by simpa using hj
            simp only [cond_false, Tr.get_put f r (k / 2) x (j / 2) hk']
            by_cases e : j = k
            · subst e; simp
            · rw [if_neg (by omega), if_neg (by omega)]
    cases t with
    | e =>
      cases k with
      | zero =>
        cases j with
        | zero => simp [Tr.put, Tr.get]
        | succ j => simp [Tr.put, Tr.get, Tr.get_e]
      | succ k =>
        have := key none .e .e k h j
        simp only [Tr.put]
        rw [this]
        cases j with
        | zero => simp [Tr.get]
        | succ j => simp [Tr.get, Tr.get_e]
    | n v l r =>
      cases k with
      | zero =>
        cases j with
        | zero => simp [Tr.put, Tr.get]
        | succ j => simp [Tr.put, Tr.get]
      | succ k => exact key v l r k h j

def ub : Nat := 1000000
/-- Set; nothing is done beyond the bound. -/
def Tr.set {α : Type} (t : Tr α) (k : Nat) (x : Option α) : Tr α := Tr.put 22 t k x
theorem Tr.get_set {α : Type} {t : Tr α} {k : Nat} {x : Option α} (h : k < ub) (j : Nat) : (t.set k x).get j = if j = k then x else t.get j :=
  Tr.get_put 22 t k x j (by unfold ub at h; omega)

/-! ## Values -/

inductive RV where
  | und
  | nov
  | bool (b : Bool)
  | int (k : IntKind) (n : Int)
  | str (s : ByteArray)
  | nilp
  | ptr (b off : Nat)
  | gp (g off : Nat)
  | yl (b : Nat)
  | nils
  | em
  | sl (b off len z : Nat) (cap : Option Nat) (full : Bool)
  | nilm
  | mp (b : Nat)
  | nilf
  | nili
  | fn (f : FuncId) (first captured : List RV)
  | agg (cs : List RV)
  | tup (cs : List RV)

instance : Inhabited RV := ⟨.und⟩

/-- A block: cells; or a map, its keys as they are; a string's walk; the record of a range over a function. -/
inductive Blk where
  | cells (e : TypeId) (cs : List RV)
  | map (es : List (Value × RV × Nat)) (clock : Nat)
  | it (s : ByteArray) (pos : Nat)
  | lp (st : LoopState) (pe : Option Code) (t : Tr RV) (nt : Nat) (ps : List Tmp) (asg body : Code)

/-- Where a number's block lies, and how many cells it has. -/
abbrev Emb := Nat → Option (Nat × Nat)

inductive Rr (E : Emb) : RV → Value → Prop
  | und (x : Value) : Rr E .und x
  | nov : Rr E .nov undef
  | bool (b : Bool) : Rr E (.bool b) (.bool b)
  | int (k : IntKind) (n : Int) : Rr E (.int k n) (.int k n)
  | str (s : ByteArray) : Rr E (.str s) (.string s)
  | nilp : Rr E .nilp (.pointer none)
  | ptr (b off g s : Nat) (h : E b = some (g, s)) : Rr E (.ptr b off) (.pointer (some ⟨g, off, none⟩))
  | gp (g off : Nat) : Rr E (.gp g off) (.pointer (some ⟨g, off, none⟩))
  | yl (b g s : Nat) (h : E b = some (g, s)) : Rr E (.yl b) (.func (.yield g) #[] #[])
  | nils : Rr E .nils (.slice none 0 0)
  | em (b : Option Addr) (c : Nat) : Rr E .em (.slice b 0 c)
  | sl (b off len z : Nat) (cap : Option Nat) (full : Bool) (g s c : Nat) (h : E b = some (g, s)) (hl : len ≤ c) (hm : c ≤ maxLen) (hs : off + c * z ≤ s) (hf : full = true → off + c * z = s) (hc : ∀ k, cap = some k → c = k) :
      Rr E (.sl b off len z cap full) (.slice (some ⟨g, off, none⟩) len c)
  | nilm : Rr E .nilm (.map none)
  | mp (b g s : Nat) (h : E b = some (g, s)) : Rr E (.mp b) (.map (some g))
  | nilf : Rr E .nilf .nilFunc
  | nili : Rr E .nili .nilIface
  | fn (f : FuncId) (fs cs : List RV) (us vs : Array Value) (hf : fs.length = us.size) (hc : cs.length = vs.size) (hfr : ∀ (j : Nat) (d : RV) (u : Value), fs[j]? = some d → us[j]? = some u → Rr E d u)
      (hcr : ∀ (j : Nat) (d : RV) (u : Value), cs[j]? = some d → vs[j]? = some u → Rr E d u) : Rr E (.fn f fs cs) (.func (.func f) us vs)
  | agg (cs : List RV) (vs : Array Value) (hl : cs.length = vs.size) (hone : ∀ u ∈ vs.toList, u.oneCell' = true) (hrel : ∀ (j : Nat) (d : RV) (u : Value), cs[j]? = some d → vs[j]? = some u → Rr E d u) : Rr E (.agg cs) (.agg vs)
  | tup (cs : List RV) (vs : Array Value) (hl : cs.length = vs.size) (hrel : ∀ (j : Nat) (d : RV) (u : Value), cs[j]? = some d → vs[j]? = some u → Rr E d u) : Rr E (.tup cs) (.tuple vs)

theorem Rr.mono {E E' : Emb} (hE : ∀ b p, E b = some p → E' b = some p) {v : RV} {x : Value} (h : Rr E v x) : Rr E' v x := by
  induction h with
  | und x => exact .und x
  | nov => exact .nov
  | bool b => exact .bool b
  | int k n => exact .int k n
  | str s => exact .str s
  | nilp => exact .nilp
  | ptr b off g s h => exact .ptr b off g s (hE _ _ h)
  | gp g off => exact .gp g off
  | yl b g s h => exact .yl b g s (hE _ _ h)
  | nils => exact .nils
  | em b c => exact .em b c
  | sl b off len z cap full g s c h hl hm hs hf hc => exact .sl b off len z cap full g s c (hE _ _ h) hl hm hs hf hc
  | nilm => exact .nilm
  | mp b g s h => exact .mp b g s (hE _ _ h)
  | nilf => exact .nilf
  | nili => exact .nili
  | fn f fs cs us vs hf hc hfr hcr ih1 ih2 => exact .fn f fs cs us vs hf hc ih1 ih2
  | agg cs vs hl hone hrel ih => exact .agg cs vs hl hone ih
  | tup cs vs hl hrel ih => exact .tup cs vs hl ih

/-! ## The heap -/

def BR (E : Emb) (w : World) (k : Blk) (g s : Nat) : Prop :=
  match k with
  | .cells e cs => ∃ us, w.heap[g]? = some (.cells us e (0, 0)) ∧ us.size = s ∧ cs.length ≤ s ∧ ∀ (j : Nat) (v : RV) (u : Value), cs[j]? = some v → us[j]? = some u → u.oneCell' = true ∧ Rr E v u
  | .map es clock => ∃ vs : List MapEntry, w.heap[g]? = some (.map vs.toArray clock) ∧ es.length = vs.length ∧ ∀ (j : Nat) (e : Value × RV × Nat) (m : MapEntry), es[j]? = some e → vs[j]? = some m → m.key = e.1 ∧ Rr E e.2.1 m.val ∧ m.born = e.2.2
  | .it s' pos => w.heap[g]? = some (.stringIter s' pos)
  | .lp st pe t nt ps asg body => ∃ r : Loop, w.heap[g]? = some (.loop r) ∧ r.state = st ∧ r.pending = pe ∧ r.params.toList = ps ∧ r.assign = asg ∧ r.body = body ∧ r.tmps.size = nt ∧ ∀ i, i < nt → Rr E ((t.get i).getD .nov) (r.tmps.getD i undef)

theorem BR.mono {E E' : Emb} (hE : ∀ b p, E b = some p → E' b = some p) {w w' : World} {k : Blk} {g s : Nat} (h : BR E w k g s) (hw : w'.heap[g]? = w.heap[g]?) : BR E' w' k g s := by
  cases k with
  | cells e cs =>
    obtain ⟨us, h1, h2, h3, h5⟩ := h
    exact ⟨us, hw.trans h1, h2, h3, fun j v u hv hu => ⟨(h5 j v u hv hu).1, (h5 j v u hv hu).2.mono hE⟩⟩
  | map es clock =>
    obtain ⟨vs, h1, h2, h3⟩ := h
    exact ⟨vs, hw.trans h1, h2, fun j e m he hm => ⟨(h3 j e m he hm).1, (h3 j e m he hm).2.1.mono hE, (h3 j e m he hm).2.2⟩⟩
  | it s' pos => exact hw.trans h
  | lp st pe t nt ps asg body =>
    obtain ⟨r, h1, h2, h3, h4, h5, h6, h7, h8⟩ := h
    exact ⟨r, hw.trans h1, h2, h3, h4, h5, h6, h7, fun i hi => (h8 i hi).mono hE⟩

abbrev Hp := Nat → Option Blk

/-- Numbers below are kept for package variables, which lie where their number says. -/
def NG : Nat := 1024

/-- The heap h, new numbers n up to m, stands for part of the world. -/
structure HS (E : Emb) (h : Hp) (n m : Nat) (w : World) : Prop where
  blk : ∀ b k, h b = some k → ∃ g s, E b = some (g, s) ∧ BR E w k g s
  inj : ∀ b c g s s', h b ≠ none → h c ≠ none → E b = some (g, s) → E c = some (g, s') → b = c
  old : ∀ b g s, E b = some (g, s) → g < w.heap.size
  free : ∀ b, n ≤ b → b < m → E b = none
  top : ∀ b, m ≤ b → h b = none
  ng : NG ≤ n
  glob : ∀ b, b < NG → h b ≠ none → ∃ s, E b = some (b, s)

/-- What a run leaves alone; numbers below lo are not written. -/
structure RX (lo : Nat) (E : Emb) (h : Hp) (n : Nat) (w : World) (E' : Emb) (h' : Hp) (n' : Nat) (w' : World) : Prop where
  os : w'.os = w.os
  tape : w'.tape = w.tape
  output : w'.output = w.output
  size : w.heap.size ≤ w'.heap.size
  nn : n ≤ n'
  emb : ∀ b, b < n ∨ n' ≤ b → E' b = E b
  frame : ∀ g, g < w.heap.size → (∀ b s, h b ≠ none → E b ≠ some (g, s)) → w'.heap[g]? = w.heap[g]? ∧ ∀ b s, h' b ≠ none → E' b ≠ some (g, s)
  keep : ∀ b, b < lo → h' b = h b ∧ ∀ g s, h b ≠ none → E b = some (g, s) → w'.heap[g]? = w.heap[g]?
  beyond : ∀ b, n' ≤ b → h' b = h b

theorem RX.refl (lo : Nat) (E : Emb) (h : Hp) (n : Nat) (w : World) : RX lo E h n w E h n w :=
  ⟨rfl, rfl, rfl, Nat.le_refl _, Nat.le_refl _, fun _ _ => rfl, fun _ _ hf => ⟨rfl, hf⟩, fun _ _ => ⟨rfl, fun _ _ _ _ => rfl⟩, fun _ _ => rfl⟩

theorem HS.up {lo : Nat} {E E' : Emb} {h h' : Hp} {n n' m : Nat} {w w' : World} (hs : HS E h n m w) (hx : RX lo E h n w E' h' n' w') (hm : n' ≤ m) : ∀ b p, E b = some p → E' b = some p := fun b p hb => by
  rw [hx.emb b]; exact hb
  rcases Nat.lt_or_ge b n with h1 | h1
  · exact .inl h1
  · refine .inr (Nat.le_trans hm ?_)
    rcases Nat.lt_or_ge b m with h2 | h2
    · rw [hs.free b h1 h2] at hb; cases hb
    · exact h2

theorem RX.trans {lo : Nat} {E E1 E2 : Emb} {h h1 h2 : Hp} {n n1 n2 m : Nat} {w w1 w2 : World} (x : RX lo E h n w E1 h1 n1 w1) (y : RX lo E1 h1 n1 w1 E2 h2 n2 w2) (hs : HS E h n m w) (hm : n1 ≤ m) (hlo : lo ≤ n) : RX lo E h n w E2 h2 n2 w2 where
  os := y.os.trans x.os
  tape := y.tape.trans x.tape
  output := y.output.trans x.output
  size := Nat.le_trans x.size y.size
  nn := Nat.le_trans x.nn y.nn
  emb := fun b hb => by
    have h1 := x.nn; have h2 := y.nn
    rw [y.emb b (by omega), x.emb b (by omega)]
  frame := fun g hg hf => by
    obtain ⟨a1, a2⟩ := x.frame g hg hf
    obtain ⟨b1, b2⟩ := y.frame g (Nat.lt_of_lt_of_le hg x.size) a2
    exact ⟨b1.trans a1, b2⟩
  keep := fun b hb => by
    obtain ⟨a1, a2⟩ := x.keep b hb
    obtain ⟨b1, b2⟩ := y.keep b hb
    refine ⟨b1.trans a1, fun g s hn he => ?_⟩
    have hn1 : h1 b ≠ none := by rw [a1]; exact hn
    have he1 : E1 b = some (g, s) := by rw [x.emb b (.inl (by omega))]; exact he
    exact (b2 g s hn1 he1).trans (a2 g s hn he)
  beyond := fun b hb => (y.beyond b hb).trans (x.beyond b (Nat.le_trans y.nn hb))

/-- The slots of an activation. -/
structure SS (nt : Nat) (E : Emb) (t : Tr RV) (a : Act) : Prop where
  size : a.tmps.size = nt
  slot : ∀ i, i < nt → Rr E ((t.get i).getD .nov) (a.tmps.getD i undef)

theorem SS.mono {nt : Nat} {E E' : Emb} {t : Tr RV} {a : Act} (h : SS nt E t a) (hE : ∀ b p, E b = some p → E' b = some p) : SS nt E' t a := ⟨h.size, fun i hi => (h.slot i hi).mono hE⟩

theorem SS.put {nt : Nat} {E : Emb} {t : Tr RV} {a : Act} (h : SS nt E t a) {d : Nat} (hd : d < nt) (hu : d < ub) {v : RV} {x : Value} (hr : Rr E v x) : SS nt E (t.set d (some v)) (a.put (some d) x) where
  size := by unfold Act.put; simp [h.size]
  slot := fun i hi => by
    rw [Tr.get_set hu, getD_put a d i x (by rw [h.size]; exact hd)]
    split
    · exact hr
    · exact h.slot i hi

/-! ## New blocks -/

def updE (E : Emb) (b : Nat) (p : Option (Nat × Nat)) : Emb := fun c => if c = b then p else E c
theorem updE_same (E : Emb) (b : Nat) (p : Option (Nat × Nat)) : updE E b p b = p := if_pos rfl
theorem updE_ne (E : Emb) {b c : Nat} (p : Option (Nat × Nat)) (h : c ≠ b) : updE E b p c = E c := if_neg h
def updH (h : Hp) (b : Nat) (k : Option Blk) : Hp := fun c => if c = b then k else h c
theorem updH_same (h : Hp) (b : Nat) (k : Option Blk) : updH h b k b = k := if_pos rfl
theorem updH_ne (h : Hp) {b c : Nat} (k : Option Blk) (hn : c ≠ b) : updH h b k c = h c := if_neg hn
theorem get_set_fun {t : Tr Blk} {k : Nat} {x : Option Blk} (h : k < ub) : (t.set k x).get = updH t.get k x := funext fun j => Tr.get_set h j

section
variable {lo : Nat} {E : Emb} {h : Hp} {n m : Nat} {w : World}

/-- One new block. -/
theorem HS.new (hs : HS E h n m w) (hm : n < m) (hlo : lo ≤ n) {w' : World} {o : Obj} (h1 : w'.heap = w.heap.push o) (h2 : w'.os = w.os) (h3 : w'.tape = w.tape) (h4 : w'.output = w.output) {k : Blk} {s : Nat}
    (hb : BR (updE E n (some (w.heap.size, s))) w' k w.heap.size s) :
    HS (updE E n (some (w.heap.size, s))) (updH h n (some k)) (n + 1) m w' ∧ RX lo E h n w (updE E n (some (w.heap.size, s))) (updH h n (some k)) (n + 1) w' ∧ ∀ b p, E b = some p → updE E n (some (w.heap.size, s)) b = some p := by
  have hfr : E n = none := hs.free n (Nat.le_refl _) hm
  have hup : ∀ b p, E b = some p → updE E n (some (w.heap.size, s)) b = some p := fun b p hp => by
    rw [updE_ne]; exact hp
    intro e; subst e; rw [hfr] at hp; cases hp
  have hold : ∀ g, g < w.heap.size → w'.heap[g]? = w.heap[g]? := fun g hg => by rw [h1, Array.getElem?_push, if_neg (by omega)]
  have hsz : w'.heap.size = w.heap.size + 1 := by rw [h1, Array.size_push]
  refine ⟨⟨fun b k' hk => ?_, fun b c g s1 s2 hb1 hc1 he1 he2 => ?_, fun b g s1 he => ?_, fun b hb1 hb2 => ?_, fun b hb => by rw [updH_ne _ _ (by omega)]; exact hs.top b hb, Nat.le_succ_of_le hs.ng, fun b hb hn => by
    have := hs.ng
    rw [updH_ne _ _ (by omega)] at hn
    rw [updE_ne _ _ (by omega)]
    exact hs.glob b hb hn⟩, ⟨h2, h3, h4, by omega, by omega, fun b hb => updE_ne _ _ (by omega), fun g hg hf => ⟨hold g hg, fun b s1 hb1 he => ?_⟩, fun b hb => ⟨updH_ne _ _ (by omega), fun g s1 _ he => hold g (hs.old b g s1 he)⟩, fun b hb => updH_ne _ _ (by omega)⟩, hup⟩
  · by_cases e : b = n
    · subst e
      rw [updH_same] at hk
      cases hk
      exact ⟨_, _, updE_same _ _ _, hb⟩
    · rw [updH_ne _ _ e] at hk
      obtain ⟨g, s1, q1, q2⟩ := hs.blk b k' hk
      exact ⟨g, s1, hup _ _ q1, q2.mono hup (hold g (hs.old b g s1 q1))⟩
  · have cases2 : ∀ c s2, updE E n (some (w.heap.size, s)) c = some (g, s2) → (c = n ∧ g = w.heap.size) ∨ (c ≠ n ∧ E c = some (g, s2)) := fun c s2 he => by
      by_cases e : c = n
      · subst e; rw [updE_same] at he; cases he; exact .inl ⟨rfl, rfl⟩
      · rw [updE_ne _ _ e] at he; exact .inr ⟨e, he⟩
    rcases cases2 b s1 he1 with ⟨e1, e2⟩ | ⟨e1, e2⟩ <;> rcases cases2 c s2 he2 with ⟨e3, e4⟩ | ⟨e3, e4⟩
    · rw [e1, e3]
    · have := hs.old c g s2 e4; omega
    · have := hs.old b g s1 e2; omega
    · rw [updH_ne _ _ e1] at hb1
      rw [updH_ne _ _ e3] at hc1
      exact hs.inj b c g s1 s2 hb1 hc1 e2 e4
  · by_cases e : b = n
    · subst e; rw [updE_same] at he; cases he; omega
    · rw [updE_ne _ _ e] at he; have := hs.old b g s1 he; omega
  · rw [updE_ne _ _ (by omega)]; exact hs.free b (by omega) hb2
  · by_cases e : b = n
    · subst e; rw [updE_same] at he; cases he; omega
    · rw [updE_ne _ _ e] at he
      rw [updH_ne _ _ e] at hb1
      exact hf b s1 hb1 he

/-- A block's contents turned. -/
theorem HS.turn (hs : HS E h n m w) {b g s : Nat} (hlo : lo ≤ b) (hbn : b < n) (hb : h b ≠ none) (he : E b = some (g, s)) {w' : World} (hsz : w'.heap.size = w.heap.size) (hoth : ∀ g', g' ≠ g → w'.heap[g']? = w.heap[g']?) (h2 : w'.os = w.os) (h3 : w'.tape = w.tape) (h4 : w'.output = w.output)
    {k : Blk} (hk : BR E w' k g s) : HS E (updH h b (some k)) n m w' ∧ RX lo E h n w E (updH h b (some k)) n w' := by
  have hlive : ∀ c, updH h b (some k) c ≠ none → h c ≠ none := fun c hc => by
    by_cases e : c = b
    · subst e; exact hb
    · rwa [updH_ne _ _ e] at hc
  refine ⟨⟨fun c k' hk' => ?_, fun c d g1 s1 s2 hc hd => hs.inj c d g1 s1 s2 (hlive c hc) (hlive d hd), fun c g1 s1 hc => by rw [hsz]; exact hs.old c g1 s1 hc, hs.free, fun c hc => by
    by_cases e : c = b
    · subst e; exact absurd (hs.top c hc) hb
    · rw [updH_ne _ _ e]; exact hs.top c hc, hs.ng, fun c hc hn => hs.glob c hc (hlive c hn)⟩,
    ⟨h2, h3, h4, by omega, Nat.le_refl _, fun _ _ => rfl, fun g1 hg1 hf => ⟨hoth g1 fun e => ?_, fun c s1 hc => hf c s1 (hlive c hc)⟩, fun c hc => ⟨updH_ne _ _ (by omega), fun g1 s1 hc1 he1 => hoth g1 fun e => ?_⟩, fun c hc => updH_ne _ _ (by omega)⟩⟩
  · by_cases e : c = b
    · subst e
      rw [updH_same] at hk'
      cases hk'
      exact ⟨g, s, he, hk⟩
    · rw [updH_ne _ _ e] at hk'
      obtain ⟨g1, s1, q1, q2⟩ := hs.blk c k' hk'
      refine ⟨g1, s1, q1, q2.mono (fun _ _ h => h) (hoth g1 fun e2 => ?_)⟩
      subst e2
      exact e (hs.inj c b g1 s1 s (by rw [hk']; simp) hb q1 he)
  · subst e; exact hf b s hb he
  · subst e
    have := hs.inj c b g1 s1 s hc1 hb he1 he
    omega

/-- A block gives way to a new number: where it lay, or in new memory. -/
theorem HS.regrow (hs : HS E h n m w) (hm : n < m) (hln : lo ≤ n) {b g s : Nat} (hlo : lo ≤ b) (hbn : b < n) (hb : h b ≠ none) (he : E b = some (g, s)) {w' : World} (h2 : w'.os = w.os) (h3 : w'.tape = w.tape) (h4 : w'.output = w.output)
    (hsz : w.heap.size ≤ w'.heap.size) (hoth : ∀ g', g' < w.heap.size → g' ≠ g → w'.heap[g']? = w.heap[g']?) {g2 s2 : Nat} (hat : g2 = g ∨ g2 = w.heap.size) (hlt : g2 < w'.heap.size) {k : Blk} (hk : BR (updE E n (some (g2, s2))) w' k g2 s2) :
    HS (updE E n (some (g2, s2))) (updH (updH h b none) n (some k)) (n + 1) m w' ∧ RX lo E h n w (updE E n (some (g2, s2))) (updH (updH h b none) n (some k)) (n + 1) w' ∧ ∀ b p, E b = some p → updE E n (some (g2, s2)) b = some p := by
  have hfr : E n = none := hs.free n (Nat.le_refl _) hm
  have hup : ∀ b p, E b = some p → updE E n (some (g2, s2)) b = some p := fun b p hp => by
    rw [updE_ne]; exact hp
    intro e; subst e; rw [hfr] at hp; cases hp
  have hgb : g < w.heap.size := hs.old b g s he
  have hlive : ∀ c, c ≠ n → updH (updH h b none) n (some k) c ≠ none → c ≠ b ∧ h c ≠ none := fun c hcn hc => by
    rw [updH_ne _ _ hcn] at hc
    by_cases e : c = b
    · subst e; rw [updH_same] at hc; exact absurd rfl hc
    · rw [updH_ne _ _ e] at hc; exact ⟨e, hc⟩
  have hne : ∀ c g1 s1, c ≠ b → h c ≠ none → E c = some (g1, s1) → g1 ≠ g ∧ g1 ≠ g2 := fun c g1 s1 hcb hc hec => by
    have h1 : g1 ≠ g := fun e => hcb (hs.inj c b g1 s1 s hc hb hec (by rw [e]; exact he))
    refine ⟨h1, fun e => ?_⟩
    have := hs.old c g1 s1 hec
    rcases hat with h | h <;> omega
  refine ⟨⟨fun c k' hk' => ?_, fun c d g1 s1 s3 hc hd he1 he2 => ?_, fun c g1 s1 hc => ?_, fun c hc1 hc2 => ?_, fun c hc => by rw [updH_ne _ _ (by omega), updH_ne _ _ (by omega)]; exact hs.top c hc, Nat.le_succ_of_le hs.ng, fun c hc hn => by
      have := hs.ng
      obtain ⟨s1, hs1⟩ := hs.glob c hc (hlive c (by omega) hn).2
      exact ⟨s1, hup _ _ hs1⟩⟩,
    ⟨h2, h3, h4, hsz, by omega, fun c hc => updE_ne _ _ (by omega), fun g1 hg1 hf => ⟨hoth g1 hg1 fun e => ?_, fun c s1 hc hec => ?_⟩, fun c hc => ⟨?_, fun g1 s1 hc1 he1 => hoth g1 (hs.old c g1 s1 he1) (hne c g1 s1 (by omega) hc1 he1).1⟩, fun c hc => ?_⟩, hup⟩
  · by_cases e : c = n
    · subst e
      rw [updH_same] at hk'
      cases hk'
      exact ⟨g2, s2, updE_same _ _ _, hk⟩
    · obtain ⟨e1, e2⟩ := hlive c e (by rw [hk']; simp)
      rw [updH_ne _ _ e, updH_ne _ _ e1] at hk'
      obtain ⟨g1, s1, q1, q2⟩ := hs.blk c k' hk'
      exact ⟨g1, s1, hup _ _ q1, q2.mono hup (hoth g1 (hs.old c g1 s1 q1) (hne c g1 s1 e1 e2 q1).1)⟩
  · by_cases e1 : c = n <;> by_cases e2 : d = n
    · rw [e1, e2]
    · subst e1
      rw [updE_same] at he1; cases he1
      rw [updE_ne _ _ e2] at he2
      obtain ⟨q1, q2⟩ := hlive d e2 hd
      exact absurd rfl (hne d _ _ q1 q2 he2).2
    · subst e2
      rw [updE_same] at he2; cases he2
      rw [updE_ne _ _ e1] at he1
      obtain ⟨q1, q2⟩ := hlive c e1 hc
      exact absurd rfl (hne c _ _ q1 q2 he1).2
    · rw [updE_ne _ _ e1] at he1
      rw [updE_ne _ _ e2] at he2
      exact hs.inj c d g1 s1 s3 (hlive c e1 hc).2 (hlive d e2 hd).2 he1 he2
  · by_cases e : c = n
    · subst e; rw [updE_same] at hc; cases hc; exact hlt
    · rw [updE_ne _ _ e] at hc
      exact Nat.lt_of_lt_of_le (hs.old c g1 s1 hc) hsz
  · rw [updE_ne _ _ (by omega)]; exact hs.free c (by omega) hc2
  · subst e; exact hf b s hb he
  · by_cases e : c = n
    · subst e
      rw [updE_same] at hec; cases hec
      rcases hat with h | h
      · subst h; exact hf b s hb he
      · omega
    · rw [updE_ne _ _ e] at hec
      exact hf c s1 (hlive c e hc).2 hec
  · rw [updH_ne _ _ (by omega), updH_ne _ _ (by omega)]
  · rw [updH_ne _ _ (by omega), updH_ne _ _ (by omega)]

/-- Blocks that are forgotten. -/
theorem HS.sub (hs : HS E h n m w) {h' : Hp} (hsub : ∀ b, h' b ≠ none → h' b = h b) : HS E h' n m w where
  blk := fun b k hk => hs.blk b k (by rw [← hsub b (by rw [hk]; simp)]; exact hk)
  inj := fun b c g s s' hb hc => hs.inj b c g s s' (by rw [← hsub b hb]; exact hb) (by rw [← hsub c hc]; exact hc)
  old := hs.old
  free := hs.free
  top := fun b hb => by
    cases hk : h' b with
    | none => rfl
    | some k => have := hsub b (by rw [hk]; simp); rw [hk, hs.top b hb] at this; cases this
  ng := hs.ng
  glob := fun b hb hn => hs.glob b hb (by rw [← hsub b hn]; exact hn)

theorem HS.none_of (hs : HS E h n m w) {b : Nat} (hb : n ≤ b) : h b = none := by
  rcases Nat.lt_or_ge b m with h1 | h1
  · cases hk : h b with
    | none => rfl
    | some k =>
      obtain ⟨g, s, he, _⟩ := hs.blk b k hk
      rw [hs.free b hb h1] at he
      cases he
  · exact hs.top b h1

theorem HS.congr (hs : HS E h n m w) {h' : Hp} (he : ∀ b, h' b = h b) : HS E h' n m w := hs.sub fun b _ => he b

/-- A step that looks at a part of the heap only is a step on the whole. -/
theorem HS.side {ne l : Nat} {hm h2 : Hp} {E' : Emb} {nn n' : Nat} {w' : World} (hs : HS E h ne m w) (hsub : ∀ b, hm b ≠ none → hm b = h b) (htop : ∀ b, nn ≤ b → hm b = none) (hx : RX l E hm nn w E' h2 n' w') (hl : l ≤ nn) (hs' : HS E' h2 n' n' w') (hne : n' ≤ ne) (hnm : ne ≤ m) (hfr : ∀ b, nn ≤ b → b < n' → E b = none)
    {H' : Hp} (h1 : ∀ b, hm b ≠ none ∨ (nn ≤ b ∧ b < n') → H' b = h2 b) (h0 : ∀ b, hm b = none → b < nn ∨ n' ≤ b → H' b = h b) :
    HS E' H' ne m w' ∧ (∀ {lo : Nat} {E0 : Emb} {hh : Hp} {n0 : Nat} {w0 : World}, RX lo E0 hh n0 w0 E h ne w → lo ≤ l → lo ≤ n0 → n0 ≤ nn → RX lo E0 hh n0 w0 E' H' ne w') := by
  have hnn := hx.nn
  -- beside what is seen
  have hside : ∀ b g s, hm b = none → h b ≠ none → E b = some (g, s) → w'.heap[g]? = w.heap[g]? ∧ ∀ c s2, h2 c ≠ none → E' c ≠ some (g, s2) := fun b g s hlm hl he =>
    hx.frame g (hs.old b g s he) fun c s2 hc hec => by
      have := hs.inj c b g s2 s (by rw [← hsub c hc]; exact hc) hl hec he
      subst this
      exact hc hlm
  have hE : ∀ b, b < nn ∨ n' ≤ b → E' b = E b := hx.emb
  have hup : ∀ b p, E b = some p → E' b = some p := fun b p he => by
    rw [hE b]; exact he
    rcases Nat.lt_or_ge b nn with h3 | h3
    · exact .inl h3
    · rcases Nat.lt_or_ge b n' with h4 | h4
      · rw [hfr b h3 h4] at he; cases he
      · exact .inr h4
  have hin : ∀ b, (hm b ≠ none ∨ (nn ≤ b ∧ b < n')) ∨ (hm b = none ∧ (b < nn ∨ n' ≤ b)) := fun b => by
    by_cases e : hm b = none
    · rcases Nat.lt_or_ge b nn with h3 | h3
      · exact .inr ⟨e, .inl h3⟩
      · rcases Nat.lt_or_ge b n' with h4 | h4
        · exact .inl (.inr ⟨h3, h4⟩)
        · exact .inr ⟨e, .inr h4⟩
    · exact .inl (.inl e)
  have hhi : ∀ b, n' ≤ b → hm b = none := fun b hb => htop b (by omega)
  refine ⟨⟨fun b k hk => ?_, fun b c g s s' hb hc he1 he2 => ?_, hs'.old, fun b hb1 hb2 => ?_, fun b hb => ?_, hs.ng, fun b hb hn => ?_⟩, fun {lo E0 hh n0 w0} hr hll hlo hn0 => ⟨hx.os.trans hr.os, hx.tape.trans hr.tape, hx.output.trans hr.output, Nat.le_trans hr.size hx.size, hr.nn, fun b hb => ?_, fun g hg hf => ?_, fun b hb => ⟨?_, fun g s hl he => ?_⟩, fun b hb => ?_⟩⟩
  · rcases hin b with q | ⟨q0, q⟩
    · rw [h1 b q] at hk
      exact hs'.blk b k hk
    · rw [h0 b q0 q] at hk
      obtain ⟨g, s, e1, e2⟩ := hs.blk b k hk
      exact ⟨g, s, hup _ _ e1, e2.mono hup (hside b g s q0 (by rw [hk]; simp) e1).1⟩
  · rcases hin b with q | ⟨q0, q⟩ <;> rcases hin c with r | ⟨r0, r⟩
    · rw [h1 b q] at hb
      rw [h1 c r] at hc
      exact hs'.inj b c g s s' hb hc he1 he2
    · rw [h1 b q] at hb
      rw [h0 c r0 r] at hc
      rw [hE c r] at he2
      exact absurd he1 ((hside c g s' r0 hc he2).2 b s hb)
    · rw [h0 b q0 q] at hb
      rw [h1 c r] at hc
      rw [hE b q] at he1
      exact absurd he2 ((hside b g s q0 hb he1).2 c s' hc)
    · rw [h0 b q0 q] at hb
      rw [h0 c r0 r] at hc
      rw [hE b q] at he1
      rw [hE c r] at he2
      exact hs.inj b c g s s' hb hc he1 he2
  · rw [hE b (.inr (by omega))]; exact hs.free b hb1 hb2
  · rw [h0 b (hhi b (by omega)) (.inr (by omega))]; exact hs.top b hb
  · rcases hin b with q | ⟨q0, q⟩
    · rw [h1 b q] at hn
      exact hs'.glob b hb hn
    · rw [h0 b q0 q] at hn
      obtain ⟨s1, hs1⟩ := hs.glob b hb hn
      exact ⟨s1, hup _ _ hs1⟩
  · rw [hE b (by omega)]; exact hr.emb b hb
  · obtain ⟨a1, a2⟩ := hr.frame g hg hf
    obtain ⟨b1, b2⟩ := hx.frame g (Nat.lt_of_lt_of_le hg hr.size) fun b s hb => a2 b s (by rw [← hsub b hb]; exact hb)
    refine ⟨b1.trans a1, fun b s hb => ?_⟩
    rcases hin b with q | ⟨q0, q⟩
    · rw [h1 b q] at hb; exact b2 b s hb
    · rw [h0 b q0 q] at hb; rw [hE b q]; exact a2 b s hb
  · by_cases e : hm b = none
    · rw [h0 b e (.inl (by omega))]; exact (hr.keep b hb).1
    · rw [h1 b (.inl e), (hx.keep b (by omega)).1, hsub b e]; exact (hr.keep b hb).1
  · have hl1 : h b ≠ none := by rw [(hr.keep b hb).1]; exact hl
    have he1 : E b = some (g, s) := by rw [hr.emb b (.inl (by omega))]; exact he
    refine Eq.trans ?_ ((hr.keep b hb).2 g s hl he)
    by_cases e : hm b = none
    · exact (hside b g s e hl1 he1).1
    · exact (hx.keep b (by omega)).2 g s e he1
  · rw [h0 b (hhi b (by omega)) (.inr (by omega))]; exact hr.beyond b hb
end
end Go.Rv
