/- Several texts as one. -/
import Derived.Test.YtnpokifaejcbeaaGreatDoorF1
set_option linter.unusedSectionVars false
set_option linter.unusedVariables false
set_option linter.unusedSimpArgs false
namespace Go.Sg
open Go.RowKit
open Go.Rv (FR)
section
variable {P : Program} {nt : Nat} {ρ : aS}
def opX (P : Program) (fl : List Nat) (l : List Oper) (i : Nat) (K : aS → Prop) (ρ : aS) : Prop :=
 match l[i]? with
 | none => False
 | some o => qY P l o (fl.contains i) K ρ
theorem bLu (hnt : nt ≤ 100000) {l : List Oper} {o : Oper} {i : Nat} {f : Bool} {K : aS → Prop} (hr : qB nt l = true) (hgo : l.all gOk = true) (hi : l[i]? = some o) (h : qY P l o f K ρ) : OW P nt l.toArray o K ρ := by
 obtain ⟨h1, h2⟩ := nG hr hi
 unfold qY at h
 split at h
 ·rename_i hg
  split at h
  ·exact bBi hnt hg h1 h2 h
  ·rename_i hf hp
   obtain ⟨d, k1, k2⟩ := aMz (all := l) hg h
   simp only [Bool.and_eq_true] at hp
   exact xE (qD hr) h1 h2 hp.2 k1 k2
  exact cS hg h1 h2 h
 rename_i j want hg
 split at h
 ·exact h.elim
 have hgk := List.all_eq_true.1 hgo o (List.mem_of_getElem? hi)
 unfold gOk at hgk
 rw [hg] at hgk
 simp only [Option.isNone_some, Bool.false_or] at hgk
 obtain ⟨d, k1, k2⟩ := aDd hg hgk h
 simp only [Bool.and_eq_true] at hgk
 exact xE (qD hr) h1 h2 hgk.2 k1 k2
theorem bJa {fl : List Nat} {l : List Oper} {i : Nat} {o : Oper} {f : Bool} {K : aS → Prop} (h : l[i]? = some o) (hf : fl.contains i = f) (hk : qY P l o f K ρ) : opX P fl l i K ρ := by
 unfold opX; rw [h, hf]; exact hk
def aZp (P : Program) (fl : List Nat) (l : List Oper) (k : aS → Prop) : Nat → Array Bool → aS → Prop
 | 0, listed, ρ => Region.ready .any l.toArray listed = [] ∧ ∃ ρ', Le ρ ρ' ∧ k ρ'
 | fuel + 1, listed, ρ => ∃ ρ', Le ρ ρ' ∧ (Region.ready .any l.toArray listed = [] → k ρ') ∧ ∀ i ∈ Region.ready .any l.toArray listed, opX P fl l i (aZp P fl l k fuel (listed.setIfInBounds i true)) ρ'
theorem y3 {ro : Option Nat} {ds : List Deferred} {fl : List Nat} {l : List Oper} {k : aS → Prop} {Q' : Exit → Act → World → Prop} (hr : qB nt l = true) (hgo : l.all gOk = true) : ∀ (fuel : Nat) (listed : Array Bool) (ρ : aS) (I : Nat → Prop) (A : cO) (a : Act) (w : World),
  aZp P fl l k fuel listed ρ → b9 nt w I A ρ a → a.defers = ds →
  (∀ I' A' a' w' ρ', b9 nt w' I' A' ρ' a' → a'.defers = ds → eA w I A w' I' A' → k ρ' → Q' .normal a' w') → wpAnyIn (FR ro) 0 P .any l.toArray Q' fuel listed a w
 | 0, listed, ρ, I, A, a, w, h, hs, hd, hk => by
  obtain ⟨h1, ρ', hl, h2⟩ := h
  exact ⟨h1, hk I A a w ρ' (hs.weaken hl) hd (eA.refl _ _ _) h2⟩
 | fuel + 1, listed, ρ, I, A, a, w, h, hs, hd, hk => by
  obtain ⟨ρ', hl, h1, h2⟩ := h
  have hs := hs.weaken hl
  refine ⟨fun h0 => hk I A a w ρ' hs hd (eA.refl _ _ _) (h1 h0), fun i hi => ?_⟩
  have h2 := h2 i hi
  have rec_ : ∀ I' A' a' w' ρ'', b9 nt w' I' A' ρ'' a' → a'.defers = ds → eA w I A w' I' A' → aZp P fl l k fuel (listed.setIfInBounds i true) ρ'' → wpAnyIn (FR ro) 0 P .any l.toArray Q' fuel (listed.setIfInBounds i true) a' w' :=
   fun I' A' a' w' ρ'' q1 q2 q3 q4 => y3 hr hgo fuel _ ρ'' I' A' a' w' q4 q1 q2 fun I2 A2 a2 w2 ρ2 k1 k2 k3 k4 => hk I2 A2 a2 w2 ρ2 k1 k2 (q3.trans k3) k4
  unfold wpOpIn
  unfold opX at h2
  simp only [List.getElem?_toArray]
  split
  ·rename_i ho
   rw [ho] at h2
   exact h2.elim
  rename_i o ho
  rw [ho] at h2
  have := bLu hs.bound hr hgo ho h2 ro ds I A a w hs hd (wpAnyIn (FR ro) 0 P .any l.toArray Q' fuel (listed.setIfInBounds i true)) Q' rec_
  split at this
  ·rename_i hw; rw [if_pos hw]; exact this
  rename_i hw; rw [if_neg hw]; exact this
def clQ (cl : List (Nat × Nat)) (Q : Exit → aS → Prop) : Exit → aS → Prop
 | .normal, ρ => clG cl (Q .normal) ρ
 | e, ρ => Q e ρ
theorem aKw {cl : List (Nat × Nat)} {c : Code} {Q : Exit → aS → Prop} (hc : (cl.all fun p => decide (p.1 < nt) && decide (p.2 < nt) && p.1 != p.2) = true) (h : AW P nt c (clQ cl Q) ρ) : AW P nt c Q ρ :=
 aPw hc (bDd h fun e ρ h => by cases e <;> exact h)
def vY (l : List Oper) : Bool := (List.range l.length).all fun i => match l[i]? with
 | some o => o.after.all fun e => !Region.binds .any e || decide (e.on < i)
 | none => true
theorem aFs {l : List Oper} {listed : Array Bool} (hb : vY l = true) (hsz : listed.size = l.length) (h : ∃ i, i < l.length ∧ listed.getD i true = false) : Region.ready .any l.toArray listed ≠ [] := by
 have key : ∀ i, i < l.length → listed.getD i true = false → ∃ j, j ∈ Region.ready .any l.toArray listed := by
  intro i
  induction i using Nat.strongRecOn with
  | _ i ih =>
   intro hi hun
   have ho : l[i]? = some l[i] := List.getElem?_eq_getElem hi
   by_cases hd : ∀ e ∈ l[i].after, Region.binds .any e = true → listed.getD e.on false = true
   ·exact ⟨i, mem_ready.2 ⟨hun, l[i], by simp, hd⟩⟩
   simp only [Classical.not_forall] at hd
   obtain ⟨e, he, hbi, hl⟩ := hd
   have hlt : e.on < i := by
    unfold vY at hb
    rw [List.all_eq_true] at hb
    have := hb i (by simpa using hi)
    rw [ho] at this
    have := Array.all_eq_true'.1 this e he
    rw [hbi] at this
    simpa using this
   refine ih e.on hlt (by omega) ?_
   have hs : e.on < listed.size := by omega
   simp [Array.getElem?_eq_getElem hs] at hl ⊢
   exact hl
 obtain ⟨i, hi, hun⟩ := h
 obtain ⟨j, hj⟩ := key i hi hun
 intro h0
 rw [h0] at hj
 cases hj
def bMl (p : Nat → Prop) : List Nat → Prop
 | [] => True
 | i :: r => p i ∧ bMl p r
theorem aHd {p : Nat → Prop} : ∀ {r : List Nat}, bMl p r → ∀ i ∈ r, p i
 | [], _, i, h => by simp at h
 | j :: r, h, i, hi => by
  rcases List.mem_cons.1 hi with rfl | hi
  ·exact h.1
  exact aHd h.2 i hi
theorem aHj (L fl : List Nat) (cl : List (Nat × Nat)) {id : Nat} {l : List Oper} {Q : Exit → aS → Prop} (hm : P.follows .mixedOrders = true) (hr : (iZ nt l && cl.all fun p => decide (p.1 < nt) && decide (p.2 < nt) && p.1 != p.2) = true)
  (h : ∀ Y : Nat → Array Bool → aS → Prop, (∀ (n : Nat) (listed : Array Bool) (L : List Nat) (rd : List Nat) (ρ : aS), (Region.ready .any l.toArray listed == rd) = true → rd.isEmpty = false → bMl (fun i => opX P fl l i (Y n (listed.setIfInBounds i true)) (keepC L ρ)) rd → Y (n + 1) listed ρ) →
   (∀ (n : Nat) (listed : Array Bool) (L : List Nat) (ρ : aS), vY l = true → listed.size = l.length → (∃ i, i < l.length ∧ listed.getD i true = false) → (∀ (i : Nat) (o : Oper), listed.getD i true = false → l[i]? = some o → (∀ e ∈ o.after, Region.binds .any e = true → listed.getD e.on false = true) → qY P l o (fl.contains i) (Y n (listed.setIfInBounds i true)) (keepC L ρ)) → Y (n + 1) listed ρ) →
   (∀ (listed : Array Bool) (L : List Nat) (ρ : aS), (Region.ready .any l.toArray listed).isEmpty = true → clG cl (Q .normal) (keepC L ρ) → Y 0 listed ρ) → Y l.length (Array.replicate l.length false) (keepC L ρ)) : AW P nt (.region id l.toArray true) Q ρ := by
 simp only [iZ, Bool.and_eq_true] at hr
 obtain ⟨⟨h1, h2⟩, h3⟩ := hr
 have hY := h (aZp P fl l (clG cl (Q .normal))) (fun n listed L rd ρ q1 q2 q3 => by
  have q1 : Region.ready .any l.toArray listed = rd := by simpa using q1
  refine ⟨_, Le.keepC L ρ, fun h0 => ?_, ?_⟩
  ·rw [q1] at h0; rw [h0] at q2; cases q2
  rw [q1]; exact aHd q3) (fun n listed L ρ p1 p2 p3 q2 => ⟨_, Le.keepC L ρ, fun h0 => absurd h0 (aFs p1 p2 p3), fun i hi => by
  obtain ⟨hun, o, ho, hdep⟩ := mem_ready.1 hi
  have ho' : l[i]? = some o := by simpa using ho
  refine bJa ho' rfl (q2 i o hun ho' fun e he hb => ?_)
  exact hdep e he hb⟩) (fun listed L ρ q1 q2 => ⟨by simpa using q1, _, Le.keepC L ρ, q2⟩)
 refine aKw h3 ?_
 refine cH (Le.keepC L ρ) ?_
 intro ro ds I A a w hs hd
 refine wpIn_region_any hm ?_
 have hgr : l1 w I w.drew I := ⟨rfl, ⟨rfl, Nat.le_succ _⟩, rfl, Nat.le_refl _, fun _ _ => rfl, fun _ h => h, fun _ h => .inl h⟩
 have := y3 (ro := ro) (Q' := fun e a' w' => ∃ I' A' ρ', b9 nt w' I' A' ρ' a' ∧ a'.defers = ds ∧ eA w I A w' I' A' ∧ clQ cl Q e ρ') h1 h2 _ _ (keepC L ρ) I A a w.drew hY (hs.grow hgr) hd
  fun I' A' a' w' ρ' q1 q2 q3 q4 => ⟨I', A', ρ', q1, q2, (hgr.ext hs.osim).trans q3, q4⟩
 simpa using this
end
section
variable {P : Program} {ρ : aS} (all : List Oper) (K : aS → Prop) (d : Option Tmp) (op : Op) (ty : TypeId) (pos : String) (af : Array Edge) (j : Nat) (want : Bool)
theorem aOk : qY P all ⟨d, op, ty, pos, af, none⟩ false K ρ = (match gS op && d.isSome with
   | true => xV P ρ op d K
   | false => fJ P ρ op d K) := by
 unfold qY
 simp only
 generalize (gS op && d.isSome) = b
 cases b <;> rfl
theorem bBm : qY P all ⟨d, op, ty, pos, af, none⟩ true K ρ = aEo P ρ op d K := rfl
theorem aPb : qY P all ⟨d, op, ty, pos, af, some (j, want)⟩ false K ρ = vK P ρ op d (gAt all ρ j want) K := rfl
end
def bJ (b : Bool) (x : DV) : DV := bif b then x else .any
theorem aBo (x : DV) : bJ true x = x := rfl
theorem aIx (x : DV) : bJ false x = .any := rfl
def pD (s b : Bool) (x y : DV) : DV := bif s then x else bif b then y else .any
theorem aBp (b : Bool) (x y : DV) : pD true b x y = x := rfl
theorem bDc (x y : DV) : pD false true x y = y := rfl
theorem bCf (x y : DV) : pD false false x y = .any := rfl
theorem aTv (p : Nat → Bool) (b : Bool) (x : DV) : d7 p (bJ b x) = (!b || d7 p x) := by cases b <;> simp [bJ, d7]
theorem aOx (p : Nat → Bool) (s b : Bool) (x y : DV) : d7 p (pD s b x y) = ((!s || d7 p x) && (s || !b || d7 p y)) := by cases s <;> cases b <;> simp [pD, d7]
def cB (b : Bool) : Nat := bif b then 0 else 1
attribute [go_sem] aOk bBm aPb aBo aIx aBp bDc bCf aTv aOx Bool.or_true
end Go.Sg
namespace Go.Sg
open Go.RowKit
open Go.Rv (FR)
section
variable {P : Program} {nt : Nat} {ρ : aS} {w : World} {I : Nat → Prop} {A : cO}
theorem b9.frzB {a : Act} (hs : b9 nt w I A ρ a) {s : Nat} (hlt : s < 100000) {cs : List DV} (h : ρ s = .bx cs) (hp : dF (fun _ => false) cs = true) :
  ∃ I' A', b9 nt w I' A' (set (cI s ρ) s (.dp cs)) a ∧ eA w I A w I' A' := by
 have ho := hs.osim.own s
 have hsl := hs.slot s
 rw [h] at ho hsl
 obtain ⟨g, c, us, et, h1, h2, h3, h4, h5⟩ := ho
 have hd := hs.disown hlt
 have hm : ∀ g', I g' → (I g' ∨ g' = g) := fun g' hg => .inl hg
 have hmono : ∀ (B' : cO) d x, bH w I B' d x → bH w (fun g' => I g' ∨ g' = g) B' d x := fun B' d x hr => hr.mono fun g' hg => ⟨hm g' hg, fun _ => rfl⟩
 have hB : g < w.heap.size := (hs.osim.sep s g c h1).1
 refine ⟨fun g' => I g' ∨ g' = g, gE A s none, ⟨⟨fun t => ?_, hd.osim.inj, fun t g' c' hA => ⟨(hd.osim.sep t g' c' hA).1, fun hi => hi.elim (hd.osim.sep t g' c' hA).2 fun hb => ?_⟩, hs.osim.imm.step (fun g' hg => hg.elim (hs.osim.imm g') fun e => e ▸ hB) fun g' hg => ⟨.inl hg, rfl⟩⟩, hs.size, hs.bound, fun i hi => ?_, fun t ht => ?_⟩,
  ⟨rfl, ⟨rfl, Nat.le_refl _⟩, rfl, Nat.le_refl _, hm, fun g' hg hA => ⟨rfl, fun hi => hi.elim id fun hb => absurd h1 (by rw [← hb]; exact hA s c), fun t c' ht => ?_⟩, fun t g' c' hA _ ht => ⟨t, c', ht, ?_⟩, fun t ht => d5 A _ (by omega)⟩⟩
 ·have := (hd.osim.own t).keep (I' := fun g' => I g' ∨ g' = g) (fun _ _ _ => rfl) hmono
  unfold set at this ⊢
  split
  ·trivial
  rename_i hne; rw [if_neg hne] at this; exact this
 ·unfold gE at hA
  split at hA
  ·cases hA
  rename_i hne
  subst hb
  exact hne (hs.osim.inj t s g' c' c hA h1)
 ·by_cases hi' : i = s
  ·subst hi'
   obtain ⟨g', c', q1, q2⟩ := hsl hi
   rw [h1] at q1
   simp only [Option.some.injEq, Prod.mk.injEq] at q1
   obtain ⟨rfl, rfl⟩ := q1
   rw [aO, if_pos rfl, q2]
   have hcell : ∀ j, j < cs.length → us[j]? = some (us.getD j undef) := fun j hj => by
    rw [Array.getD_eq_getD_getElem?, Array.getElem?_eq_getElem (by omega)]; rfl
   refine .ofRel (.dp _ cs g 0 (fun j => us.getD j undef) (.inr rfl) (fun j hj => ?_) (fun j hj => ?_) fun j d hd => ?_)
   ·rw [Nat.zero_add, show w.cell? ⟨g, j, none⟩ = us[j]? by simp [World.cell?, h2]]
    exact hcell j hj
   ·exact h4 _ (by
     have := hcell j hj
     rw [← Array.getElem?_toList] at this
     exact List.mem_of_getElem? this)
   have hj : j < cs.length := by
    rcases Nat.lt_or_ge j cs.length with h | h
    ·exact h
    rw [List.getElem?_eq_none h] at hd; cases hd
   exact (hmono _ _ _ (h5 j d _ hd (hcell j hj))).pure (fC hp hd)
  have := (hd.slot i hi).keep (I' := fun g' => I g' ∨ g' = g) hmono
  rw [aO, if_neg hi'] at this ⊢
  exact this
 ·have := hd.out t ht
  rw [aO, if_neg (by omega)] at this ⊢
  exact this
 ·unfold gE at ht
  split at ht
  ·cases ht
  exact hA t c' ht
 unfold gE at hA
 split at hA
 ·cases hA
 exact hA
theorem bCs (s : Nat) (hlt : (decide (s < 100000)) = true) {cs : List DV} {c : Code} {Q : Exit → aS → Prop} (h : ρ s = .bx cs) (hp : dF (fun _ => false) cs = true) (k : AW P nt c Q (set (cI s ρ) s (.dp cs))) : AW P nt c Q ρ :=
 fun ro ds I A a w hw hd => by
  obtain ⟨I', A', h1, h2⟩ := hw.frzB (of_decide_eq_true hlt) h hp
  exact wpIn_mono (k ro ds I' A' a w h1 hd) fun _ _ _ ⟨I2, A2, ρ2, k1, k2, k3, k4⟩ => ⟨I2, A2, ρ2, k1, k2, h2.trans k3, k4⟩
end
end Go.Sg
namespace Go.Sg
open Go.RowKit
open Go.Rv (FR)
structure Hd where
 B : Option Nat
 b : Option Addr
 c : Nat
abbrev jC : Hd := ⟨none, none, 0⟩
abbrev Hd.sl (h : Hd) (n : Nat) : DV := .v (.slice h.b n h.c)
inductive Rg where
 | row (h : Hd) (e : TypeId) (z : Nat) (l : List (List DV))
 | map (g c : Nat) (es : List (Value × Value))
def Rg.B : Rg → Option Nat
 | .row h _ _ _ => h.B
 | .map g _ _ => some g
def Rg.holds (w : World) (I : Nat → Prop) : Rg → Prop
 | .row h e z l => jI h.B h.b ∧ iY w I e z l h.B h.c
 | .map g _ es => ∃ vs cl, w.heap[g]? = some (.map (List.toArray vs) cl) ∧ vs.map (fun (m : MapEntry) => (m.key, m.val)) = es
structure oA (w : World) (I : Nat → Prop) (A : cO) (r : Rg) : Prop where
 holds : r.holds w I
 free : ∀ g, r.B = some g → g < w.heap.size ∧ ¬ I g ∧ ∀ s c, A s ≠ some (some g, c)
structure XG (w0 : World) (I0 : Nat → Prop) (A0 : cO) (G0 : Nat → Prop) (w : World) (I : Nat → Prop) (A : cO) : Prop where
 os : w.os = w0.os
 tape : w.tape = w0.tape ∧ w0.drawn ≤ w.drawn
 output : w.output = w0.output
 size : w0.heap.size ≤ w.heap.size
 imm : ∀ g, I0 g → I g
 old : ∀ g, g < w0.heap.size → (∀ s c, A0 s ≠ some (some g, c)) → ¬ G0 g → w.heap[g]? = w0.heap[g]? ∧ (I g → I0 g) ∧ ∀ s c, A s ≠ some (some g, c)
 outA : ∀ s, 100000 ≤ s → A s = A0 s
 loc : ∀ s g c, A s = some (some g, c) → g < w0.heap.size → s < 100000 → G0 g ∨ ∃ t c', t < 100000 ∧ A0 t = some (some g, c')
def jY (rs : List Rg) : Prop := rs.Pairwise fun x y => ∀ g, x.B = some g → y.B ≠ some g
def iD (w0 : World) (I0 : Nat → Prop) (A0 : cO) (G0 : Nat → Prop) (rs : List Rg) (w : World) (I : Nat → Prop) (A : cO) : Prop :=
 (∀ r ∈ rs, oA w I A r) ∧ jY rs ∧ (∀ r ∈ rs, ∀ g, r.B = some g → G0 g ∨ w0.heap.size ≤ g) ∧ XG w0 I0 A0 G0 w I A
section
variable {w0 : World} {I0 : Nat → Prop} {A0 : cO} {G0 : Nat → Prop}
theorem XG.refl (w : World) (I : Nat → Prop) (A : cO) (G : Nat → Prop) : XG w I A G w I A := ⟨rfl, ⟨rfl, Nat.le_refl _⟩, rfl, Nat.le_refl _, fun _ h => h, fun g _ hA _ => ⟨rfl, fun h => h, hA⟩, fun _ _ => rfl, fun s g c h _ hs => .inr ⟨s, c, hs, h⟩⟩
theorem XG.ext {w w' : World} {I I' : Nat → Prop} {A A' : cO} (h : XG w0 I0 A0 G0 w I A) (k : eA w I A w' I' A') : XG w0 I0 A0 G0 w' I' A' where
 os := k.os.trans h.os
 tape := ⟨k.tape.1.trans h.tape.1, Nat.le_trans h.tape.2 k.tape.2⟩
 output := k.output.trans h.output
 size := Nat.le_trans h.size k.size
 imm := fun g hg => k.imm g (h.imm g hg)
 old := fun g hg hA hG => by
  obtain ⟨h1, h2, h3⟩ := h.old g hg hA hG
  obtain ⟨k1, k2, k3⟩ := k.old g (Nat.lt_of_lt_of_le hg h.size) h3
  exact ⟨k1.trans h1, fun x => h2 (k2 x), k3⟩
 outA := fun s hs => (k.outA s hs).trans (h.outA s hs)
 loc := fun s g c hA hg hs => by
  obtain ⟨t, c', ht, hAt⟩ := k.loc s g c hA (Nat.lt_of_lt_of_le hg h.size) hs
  exact h.loc t g c' hAt hg ht
theorem iY.ofG {w w' : World} {I I' : Nat → Prop} {e : TypeId} {z : Nat} {xs : List (List DV)} {B : Option Nat} {c : Nat} (h : iY w I e z xs B c) (hb : ∀ g, B = some g → w'.heap[g]? = w.heap[g]?) (hr : ∀ d x, bH w I cU d x → bH w' I' cU d x) : iY w' I' e z xs B c := by
 cases B with
 | none => exact h
 | some g =>
  obtain ⟨us, q1, q2, q3, q4, q5⟩ := h
  exact ⟨us, (hb g rfl).trans q1, q2, q3, q4, fun i x hx => ⟨(q5 i x hx).1, fun j d u hd hu => ⟨((q5 i x hx).2 j d u hd hu).1, hr _ _ ((q5 i x hx).2 j d u hd hu).2⟩⟩⟩
theorem Rg.holds.ofG {w w' : World} {I I' : Nat → Prop} {r : Rg} (h : r.holds w I) (hb : ∀ g, r.B = some g → w'.heap[g]? = w.heap[g]?) (hr : ∀ d x, bH w I cU d x → bH w' I' cU d x) : r.holds w' I' := by
 cases r with
 | row h' e z l => exact ⟨h.1, h.2.ofG hb hr⟩
 | map g c es => obtain ⟨vs, cl, h1, h2⟩ := h; exact ⟨vs, cl, (hb g rfl).trans h1, h2⟩
theorem oA.ext {w w' : World} {I I' : Nat → Prop} {A A' : cO} {ρ : aS} {r : Rg} (hs : gK w I A ρ) (h : oA w I A r) (k : eA w I A w' I' A') : oA w' I' A' r where
 holds := h.holds.ofG (fun g hg => (k.old g (h.free g hg).1 (h.free g hg).2.2).1) fun d x hr => k.rel hs hr
 free := fun g hg => by
  obtain ⟨h1, h2, h3⟩ := h.free g hg
  obtain ⟨k1, k2, k3⟩ := k.old g h1 h3
  exact ⟨Nat.lt_of_lt_of_le h1 k.size, fun x => h2 (k2 x), k3⟩
theorem iD.ext {w w' : World} {I I' : Nat → Prop} {A A' : cO} {ρ : aS} {rs : List Rg} (hs : gK w I A ρ) (h : iD w0 I0 A0 G0 rs w I A) (k : eA w I A w' I' A') : iD w0 I0 A0 G0 rs w' I' A' :=
 ⟨fun r hr => (h.1 r hr).ext hs k, h.2.1, h.2.2.1, h.2.2.2.ext k⟩
theorem iD.nil {w : World} {I : Nat → Prop} {A : cO} {s1 s2 : List Rg} (h : iD w0 I0 A0 G0 (s1 ++ s2) w I A) (e : TypeId) (z : Nat) : iD w0 I0 A0 G0 (s1 ++ (.row jC e z []) :: s2) w I A := by
 obtain ⟨f1, f2, f3, f4⟩ := h
 have hm : ∀ x ∈ s1 ++ (.row jC e z []) :: s2, x = (.row jC e z []) ∨ x ∈ s1 ++ s2 := fun x hx => by
  simp at hx ⊢; rcases hx with h | h | h
  ·exact .inr (.inl h)
  ·exact .inl h
  exact .inr (.inr h)
 refine ⟨fun r hr => ?_, ?_, fun r hr g hg => ?_, f4⟩
 ·rcases hm r hr with rfl | h
  ·exact { holds := ⟨jO _, (show ([] : List (List DV)) = [] ∧ (0 : Nat) = 0 from ⟨rfl, rfl⟩)⟩, free := fun g hg => (by cases hg) }
  exact f1 r h
 ·unfold jY at f2 ⊢
  rw [List.pairwise_append] at f2 ⊢
  refine ⟨f2.1, List.pairwise_cons.2 ⟨fun y hy g hg => (by cases hg), f2.2.1⟩, fun x hx y hy g hg hy' => ?_⟩
  rcases List.mem_cons.1 hy with rfl | hy
  ·cases hy'
  exact f2.2.2 x hx y hy g hg hy'
 rcases hm r hr with rfl | h
 ·cases hg
 exact f3 r h g hg
theorem iD.swap {w : World} {I : Nat → Prop} {A : cO} {rs rs' : List Rg} (h : iD w0 I0 A0 G0 rs w I A) (hp : rs.Perm rs') : iD w0 I0 A0 G0 rs' w I A :=
 ⟨fun r hr => h.1 r (hp.mem_iff.2 hr), h.2.1.perm hp fun {x y} hxy g hg hg' => hxy g hg' hg, fun r hr => h.2.2.1 r (hp.mem_iff.2 hr), h.2.2.2⟩
end
def kB {σ : Type} (P : Program) (nt : Nat) (F : σ → World → (Nat → Prop) → cO → Prop) (c : Code) (Q : Exit → σ → aS → Prop) (s : σ) (ρ : aS) : Prop :=
 ∀ (ro : Option Nat) (ds : List Deferred) I A a w, b9 nt w I A ρ a → a.defers = ds → F s w I A →
  c.wpIn (FR ro) 0 P (fun e a' w' => ∃ I' A' ρ' s', b9 nt w' I' A' ρ' a' ∧ a'.defers = ds ∧ F s' w' I' A' ∧ Q e s' ρ') a w
def StF {σ : Type} (F : σ → World → (Nat → Prop) → cO → Prop) : Prop := ∀ s w I A w' I' A' ρ, gK w I A ρ → F s w I A → eA w I A w' I' A' → F s w' I' A'
theorem mW (w0 : World) (I0 : Nat → Prop) (A0 : cO) (G0 : Nat → Prop) : StF (iD w0 I0 A0 G0) := fun _ _ _ _ _ _ _ _ hs h k => iD.ext hs h k
def fR {σ : Type} (K : σ → aS → Prop) (Q : Exit → σ → aS → Prop) : Exit → σ → aS → Prop
 | .normal, s, ρ => K s ρ
 | e, s, ρ => Q e s ρ
def eC {σ : Type} (id : Nat) (Q : Exit → σ → aS → Prop) : Exit → σ → aS → Prop
 | .exit id', s, ρ => if id' = id then Q .normal s ρ else Q (.exit id') s ρ
 | e, s, ρ => Q e s ρ
section
variable {σ : Type} {P : Program} {nt : Nat} {F : σ → World → (Nat → Prop) → cO → Prop} {Q : Exit → σ → aS → Prop} {s : σ} {ρ : aS}
theorem fD (hF : StF F) {c : Code} (h : AW P nt c (fun e ρ' => Q e s ρ') ρ) : kB P nt F c Q s ρ := fun ro ds I A a w hs hd hf =>
 wpIn_mono (h ro ds I A a w hs hd) fun _ _ _ ⟨I', A', ρ', h1, h2, h3, h4⟩ => ⟨I', A', ρ', s, h1, h2, hF _ _ _ _ _ _ _ ρ hs.osim hf h3, h4⟩
theorem bN (h : Q .normal s ρ) : kB P nt F .skip Q s ρ := fun ro ds I A a w hs hd hf => wpIn_skip ⟨I, A, ρ, s, hs, hd, hf, h⟩
theorem eB {i : Nat} (h : Q (.exit i) s ρ) : kB P nt F (.exit i) Q s ρ := fun ro ds I A a w hs hd hf => wpIn_exit ⟨I, A, ρ, s, hs, hd, hf, h⟩
theorem dD (h : Q .ret s ρ) : kB P nt F .ret Q s ρ := fun ro ds I A a w hs hd hf => wpIn_ret ⟨I, A, ρ, s, hs, hd, hf, h⟩
theorem aT {x y : Code} (h : ∀ K : σ → aS → Prop, (∀ s ρ, kB P nt F y Q s ρ → K s ρ) → kB P nt F x (fR K Q) s ρ) : kB P nt F (.seq x y) Q s ρ := by
 intro ro ds I A a w hs hd hf
 refine wpIn_seq (wpIn_mono (h (fun s ρ => kB P nt F y Q s ρ) (fun _ _ h => h) ro ds I A a w hs hd hf) ?_)
 intro e a1 w1 ⟨I1, A1, ρ1, s1, h1, h2, h3, h4⟩
 cases e with
 | normal => exact h4 ro ds I1 A1 a1 w1 h1 h2 h3
 | exit i => exact ⟨I1, A1, ρ1, s1, h1, h2, h3, h4⟩
 | goto l => exact ⟨I1, A1, ρ1, s1, h1, h2, h3, h4⟩
 | ret => exact ⟨I1, A1, ρ1, s1, h1, h2, h3, h4⟩
 | panic ch => exact ⟨I1, A1, ρ1, s1, h1, h2, h3, h4⟩
 | outgrown => exact ⟨I1, A1, ρ1, s1, h1, h2, h3, h4⟩
theorem bR {id : Nat} {c : Code} (h : kB P nt F c (eC id Q) s ρ) : kB P nt F (.block id c) Q s ρ := by
 intro ro ds I A a w hs hd hf
 refine wpIn_block (wpIn_mono (h ro ds I A a w hs hd hf) ?_)
 intro e a1 w1 ⟨I1, A1, ρ1, s1, h1, h2, h3, h4⟩
 cases e with
 | exit i =>
  simp only [Exit.inBlock, eC] at *
  split <;> rename_i hi
  ·rw [if_pos hi] at h4; exact ⟨I1, A1, ρ1, s1, h1, h2, h3, h4⟩
  rw [if_neg hi] at h4; exact ⟨I1, A1, ρ1, s1, h1, h2, h3, h4⟩
 | normal => exact ⟨I1, A1, ρ1, s1, h1, h2, h3, h4⟩
 | goto l => exact ⟨I1, A1, ρ1, s1, h1, h2, h3, h4⟩
 | ret => exact ⟨I1, A1, ρ1, s1, h1, h2, h3, h4⟩
 | panic ch => exact ⟨I1, A1, ρ1, s1, h1, h2, h3, h4⟩
 | outgrown => exact ⟨I1, A1, ρ1, s1, h1, h2, h3, h4⟩
theorem bK {c : Code} {ρ ρ' : aS} (hl : Le ρ ρ') (h : kB P nt F c Q s ρ') : kB P nt F c Q s ρ := fun ro ds I A a w hs hd hf => h ro ds I A a w (hs.weaken hl) hd hf
theorem zS {x : Operand} {c d : Code} (b : Bool) (ho : nL nt x = true) (hx : ev ρ x = .v (.bool b)) (ht : b = true → kB P nt F c Q s ρ) (hf : b = false → kB P nt F d Q s ρ) : kB P nt F (.cond x c d) Q s ρ := by
 intro ro ds I A a w hs hd hF
 have he := hs.evRel x ho
 rw [hx] at he
 have hv : a.eval x = .bool b := by
  generalize a.eval x = y at he ⊢
  cases he; rfl
 exact wpIn_cond_split hv (fun h => ht h ro ds I A a w hs hd hF) (fun h => hf h ro ds I A a w hs hd hF)
theorem aSb {c : Code} (J : Nat → σ → aS → Prop) (n₀ : Nat) (h₀ : J n₀ s ρ)
  (round : ∀ n s ρ, J n s ρ → ∀ K : σ → aS → Prop, (∀ m s' ρ', m < n → J m s' ρ' → K s' ρ') → kB P nt F c (fR K Q) s ρ) : kB P nt F (.loop c) Q s ρ := by
 intro ro ds I A a w hs hd hf
 refine wpIn_loop_ghost (fun n a' w' => ∃ I' A' ρ' s', b9 nt w' I' A' ρ' a' ∧ a'.defers = ds ∧ F s' w' I' A' ∧ J n s' ρ') n₀ ⟨I, A, ρ, s, hs, hd, hf, h₀⟩ ?_
 intro n a1 w1 ⟨I1, A1, ρ1, s1, h1, h2, h3, h4⟩
 refine wpIn_mono (round n s1 ρ1 h4 (fun s ρ => ∃ m, m < n ∧ J m s ρ) (fun m s' ρ' hm hj => ⟨m, hm, hj⟩) ro ds I1 A1 a1 w1 h1 h2 h3) ?_
 intro e a2 w2 ⟨I2, A2, ρ2, s2, k1, k2, k3, k4⟩
 cases e with
 | normal => obtain ⟨m, hm, hj⟩ := k4; exact ⟨m, hm, I2, A2, ρ2, s2, k1, k2, k3, hj⟩
 | exit i => exact ⟨I2, A2, ρ2, s2, k1, k2, k3, k4⟩
 | goto l => exact ⟨I2, A2, ρ2, s2, k1, k2, k3, k4⟩
 | ret => exact ⟨I2, A2, ρ2, s2, k1, k2, k3, k4⟩
 | panic ch => exact ⟨I2, A2, ρ2, s2, k1, k2, k3, k4⟩
 | outgrown => exact ⟨I2, A2, ρ2, s2, k1, k2, k3, k4⟩
theorem dV (L : List Nat) {c : Code} (J : Nat → σ → aS → Prop) (n₀ : Nat) (h₀ : J n₀ s (keepC L ρ))
  (round : ∀ n s ρ, J n s ρ → ∀ K : σ → aS → Prop, (∀ m s' ρ', m < n → J m s' (keepC L ρ') → K s' ρ') → kB P nt F c (fR K Q) s ρ) : kB P nt F (.loop c) Q s ρ := by
 refine bK (Le.keepC L ρ) (aSb (fun n s ρ => ∃ ρ', J n s ρ' ∧ Le ρ ρ') n₀ ⟨_, h₀, Le.refl _⟩ ?_)
 rintro n s1 ρ1 ⟨ρ2, hJ, hle⟩ K hK
 exact bK hle (round n s1 ρ2 hJ K fun m s' ρ' hm hj => hK m s' ρ' hm ⟨_, hj, Le.keepC L ρ'⟩)
theorem aDs (K : σ → aS → Prop) (Q : Exit → σ → aS → Prop) (s : σ) (ρ : aS) : fR K Q .normal s ρ = K s ρ := rfl
theorem aNx (K : σ → aS → Prop) (Q : Exit → σ → aS → Prop) (s : σ) (ρ : aS) : fR K Q .ret s ρ = Q .ret s ρ := rfl
theorem aJf (K : σ → aS → Prop) (Q : Exit → σ → aS → Prop) (i : Nat) (s : σ) (ρ : aS) : fR K Q (.exit i) s ρ = Q (.exit i) s ρ := rfl
theorem aAo (i : Nat) (Q : Exit → σ → aS → Prop) (s : σ) (ρ : aS) : eC i Q .normal s ρ = Q .normal s ρ := rfl
theorem aLg (i : Nat) (Q : Exit → σ → aS → Prop) (s : σ) (ρ : aS) : eC i Q .ret s ρ = Q .ret s ρ := rfl
theorem aIm (i j : Nat) (Q : Exit → σ → aS → Prop) (s : σ) (ρ : aS) : eC i Q (.exit j) s ρ = if j = i then Q .normal s ρ else Q (.exit j) s ρ := rfl
def gN (P : Program) (nt : Nat) (F : σ → World → (Nat → Prop) → cO → Prop) (ops : Array Oper) (o : Oper) (K : σ → aS → Prop) (s : σ) (ρ : aS) : Prop :=
 ∀ (ro : Option Nat) (ds : List Deferred) I A a w, b9 nt w I A ρ a → a.defers = ds → F s w I A → ∀ (next : Act → World → Prop) (Q' : Exit → Act → World → Prop),
  (∀ I' A' a' w' ρ' s', b9 nt w' I' A' ρ' a' → a'.defers = ds → F s' w' I' A' → K s' ρ' → next a' w') →
  if Region.wanted o (yielded ops a.tmps) = true then o.wpIn (FR ro) 0 P a w next Q' else (∀ f, o.about P w a.eval = some f → (FR ro).fn f) ∧ next (a.put o.dst undef) w
theorem dT (hF : StF F) {ops : Array Oper} {o : Oper} {K : σ → aS → Prop} (h : OW P nt ops o (K s) ρ) : gN P nt F ops o K s ρ := fun ro ds I A a w hs hd hf next Q' hn =>
 h ro ds I A a w hs hd next Q' fun I' A' a' w' ρ' q1 q2 q3 q4 => hn I' A' a' w' ρ' s q1 q2 (hF _ _ _ _ _ _ _ ρ hs.osim hf q3) q4
def RWF (P : Program) (nt : Nat) (F : σ → World → (Nat → Prop) → cO → Prop) (ops : Array Oper) (k : σ → aS → Prop) : List Oper → σ → aS → Prop
 | [], s, ρ => k s ρ
 | o :: os, s, ρ => gN P nt F ops o (RWF P nt F ops k os) s ρ
theorem aBm {ro : Option Nat} {ds : List Deferred} {ops : Array Oper} {k : σ → aS → Prop} {Q' : Exit → Act → World → Prop} : ∀ (l : List Oper) (s : σ) (ρ : aS) (I : Nat → Prop) (A : cO) (a : Act) (w : World), RWF P nt F ops k l s ρ → b9 nt w I A ρ a → a.defers = ds → F s w I A →
  (∀ I' A' a' w' ρ' s', b9 nt w' I' A' ρ' a' → a'.defers = ds → F s' w' I' A' → k s' ρ' → Q' .normal a' w') → wpListIn (FR ro) 0 P ops Q' l a w
 | [], s, ρ, I, A, a, w, h, hs, hd, hf, hk => hk I A a w ρ s hs hd hf h
 | o :: l, s, ρ, I, A, a, w, h, hs, hd, hf, hk => by
  refine wpListIn_step fun K hK => h ro ds I A a w hs hd hf K Q' fun I' A' a' w' ρ' s' h1 h2 h3 h4 => hK _ _ ?_
  exact aBm l s' ρ' I' A' a' w' h4 h1 h2 h3 hk
theorem bM {id : Nat} {l : List Oper} (h : RWF P nt F l.toArray (Q .normal) l s ρ) : kB P nt F (.region id l.toArray false) Q s ρ := by
 intro ro ds I A a w hs hd hf
 exact wpIn_region_lit (aBm l s ρ I A a w h hs hd hf fun I' A' a' w' ρ' s' h1 h2 h3 h4 => ⟨I', A', ρ', s', h1, h2, h3, h4⟩)
def aVj (P : Program) (nt : Nat) (F : σ → World → (Nat → Prop) → cO → Prop) (l : List Oper) (k : σ → aS → Prop) : Nat → Array Bool → σ → aS → Prop
 | 0, listed, s, ρ => Region.ready .any l.toArray listed = [] ∧ ∃ ρ', Le ρ ρ' ∧ k s ρ'
 | fuel + 1, listed, s, ρ => ∃ ρ', Le ρ ρ' ∧ (Region.ready .any l.toArray listed = [] → k s ρ') ∧ ∀ i ∈ Region.ready .any l.toArray listed, ∃ o, l[i]? = some o ∧ gN P nt F l.toArray o (aVj P nt F l k fuel (listed.setIfInBounds i true)) s ρ'
theorem vW {ro : Option Nat} {ds : List Deferred} {l : List Oper} {k : σ → aS → Prop} {Q' : Exit → Act → World → Prop} : ∀ (fuel : Nat) (listed : Array Bool) (s : σ) (ρ : aS) (I : Nat → Prop) (A : cO) (a : Act) (w : World),
  aVj P nt F l k fuel listed s ρ → b9 nt w I A ρ a → a.defers = ds → F s w I A →
  (∀ I' A' a' w' ρ' s', b9 nt w' I' A' ρ' a' → a'.defers = ds → F s' w' I' A' → k s' ρ' → Q' .normal a' w') → wpAnyIn (FR ro) 0 P .any l.toArray Q' fuel listed a w
 | 0, listed, s, ρ, I, A, a, w, h, hs, hd, hf, hk => by
  obtain ⟨h1, ρ', hl, h2⟩ := h
  exact ⟨h1, hk I A a w ρ' s (hs.weaken hl) hd hf h2⟩
 | fuel + 1, listed, s, ρ, I, A, a, w, h, hs, hd, hf, hk => by
  obtain ⟨ρ', hl, h1, h2⟩ := h
  have hs := hs.weaken hl
  refine ⟨fun h0 => hk I A a w ρ' s hs hd hf (h1 h0), fun i hi => ?_⟩
  obtain ⟨o, ho, h3⟩ := h2 i hi
  unfold wpOpIn
  simp only [List.getElem?_toArray, ho]
  exact h3 ro ds I A a w hs hd hf _ Q' fun I' A' a' w' ρ'' s'' q1 q2 q3 q4 => vW fuel _ s'' ρ'' I' A' a' w' q4 q1 q2 q3 hk
theorem aPj (L : List Nat) {id : Nat} {l : List Oper} (hF : StF F) (hm : P.follows .mixedOrders = true)
  (h : ∀ Y : Nat → Array Bool → σ → aS → Prop,
   (∀ (n : Nat) (listed : Array Bool) (L : List Nat) (s : σ) (ρ : aS), vY l = true → listed.size = l.length → (∃ i, i < l.length ∧ listed.getD i true = false) → (∀ (i : Nat) (o : Oper), listed.getD i true = false → l[i]? = some o → (∀ e ∈ o.after, Region.binds .any e = true → listed.getD e.on false = true) → gN P nt F l.toArray o (Y n (listed.setIfInBounds i true)) s (keepC L ρ)) → Y (n + 1) listed s ρ) →
   (∀ (listed : Array Bool) (L : List Nat) (s : σ) (ρ : aS), (Region.ready .any l.toArray listed).isEmpty = true → Q .normal s (keepC L ρ) → Y 0 listed s ρ) → Y l.length (Array.replicate l.length false) s (keepC L ρ)) : kB P nt F (.region id l.toArray true) Q s ρ := by
 have hY := h (aVj P nt F l (Q .normal)) (fun n listed L s ρ p1 p2 p3 q2 => ⟨_, Le.keepC L ρ, fun h0 => absurd h0 (aFs p1 p2 p3), fun i hi => by
   obtain ⟨hun, o, ho, hdep⟩ := mem_ready.1 hi
   have ho' : l[i]? = some o := by simpa using ho
   exact ⟨o, ho', q2 i o hun ho' fun e he hb => hdep e he hb⟩⟩) (fun listed L s ρ q1 q2 => ⟨by simpa using q1, _, Le.keepC L ρ, q2⟩)
 refine bK (Le.keepC L ρ) ?_
 intro ro ds I A a w hs hd hf
 refine wpIn_region_any hm ?_
 have hgr : l1 w I w.drew I := ⟨rfl, ⟨rfl, Nat.le_succ _⟩, rfl, Nat.le_refl _, fun _ _ => rfl, fun _ h => h, fun _ h => .inl h⟩
 have := vW (ro := ro) (Q' := fun e a' w' => ∃ I' A' ρ' s', b9 nt w' I' A' ρ' a' ∧ a'.defers = ds ∧ F s' w' I' A' ∧ Q e s' ρ') _ _ s (keepC L ρ) I A a w.drew hY (hs.grow hgr) hd (hF _ _ _ _ _ _ _ _ hs.osim hf (hgr.ext hs.osim))
  fun I' A' a' w' ρ' s' q1 q2 q3 q4 => ⟨I', A', ρ', s', q1, q2, q3, q4⟩
 simpa using this
end
attribute [go_sem] aDs aNx aJf aAo aLg aIm
section
variable {P : Program} {nt : Nat} {ρ : aS}
theorem b9.calledG {w w' : World} {I I' : Nat → Prop} {A : cO} {a : Act} {O' : aS} (hs : b9 nt w I A ρ a) (h1 : gK w' I' A O') (h2 : ∀ s, dW (ρ s) (O' s)) (h3 : ∀ s, cM (ρ s) → cM (O' s)) (hrel : ∀ d x, bH w I A d x → bH w' I' A d x) :
  b9 nt w' I' A O' a where
 osim := h1
 size := hs.size
 bound := hs.bound
 slot := fun i hi => by
  have hsl := hs.slot i hi
  have hf := h2 i
  generalize a.tmps.getD i undef = x at *
  generalize ρ i = d at *
  generalize O' i = d' at *
  cases d with
  | bx cs =>
   cases d' <;> simp only [dW] at hf <;> first | cases hf | skip
   exact hsl
  | row e z xs =>
   cases d' with
   | row e' z' xs' =>
    obtain ⟨rfl, rfl, hl⟩ := hf
    obtain ⟨B, c, k1, k2⟩ := hsl
    exact ⟨B, c, k1, by rw [← hl]; exact k2⟩
   | _ => cases hf
  | cond g y => simp only [dW] at hf; subst hf; exact ⟨fun hg => hrel _ _ (hsl.1 hg), hsl.2⟩
  | mo es => simp only [dW] at hf; subst hf; exact hsl
  | _ => simp only [dW] at hf; subst hf; exact hrel _ _ hsl
 out := fun s hs' => h3 s (hs.out s hs')
theorem s9 {f : FuncId} {fn : Func} {c : Code} {O : aS} {args : List DV} {R : aS → DV → Prop} (hf : P.funcs[f]? = some fn) (hb : fn.body = some c)
  (hn : (decide (args.length ≤ fn.ntmps) && decide (fn.ntmps ≤ 100000) && fn.results.toList.all (fun v => match v with | .tmp t => decide (t < fn.ntmps) | .cell t _ => decide (t < fn.ntmps))) = true)
  (h : ∀ w I A a, b9 fn.ntmps w I (b6 A) (lA O args) a → a.defers = [] → c.wpIn (FR none) 0 P (fun e a' w' => ∃ I' A' ρ', b9 fn.ntmps w' I' A' ρ' a' ∧ a'.defers = [] ∧ eA w I (b6 A) w' I' A' ∧ wH P fn O R e ρ') a w) : iC P O f args R := by
 intro w I A vals hO hl hv
 simp only [Bool.and_eq_true, decide_eq_true_eq] at hn
 obtain ⟨⟨hn1, hn2⟩, hn3⟩ := hn
 refine calls_of_wp hf hb (wp_mono (wpIn_wide.1 (Go.Rv.qH ▸ h w I A _ (b9.enter hO hl hn1 hn2 hv) rfl)) ?_)
 intro e a' w' ⟨I', A', ρ', k1, k2, k3, k4⟩
 have fin : (∃ O' r, (∀ s, ρ' (s + 100000) = sh (O' s)) ∧ (∀ s, dW (O s) (O' s)) ∧ (∀ s, cM (O s) → cM (O' s)) ∧ lO P ρ' fn.results.toList r ∧ R O' r) →
   ∃ v, (results fn a'.tmps).run P w' = .ok v w' ∧ ∃ v' I' O' r, Ending.returned v = .returned v' ∧ gK w' I' A O' ∧ (∀ s, dW (O s) (O' s)) ∧ (∀ s, cM (O s) → cM (O' s)) ∧ eA w I A w' I' A ∧ lD w w' I' A r v' ∧ R O' r := by
  rintro ⟨O', r, q1, q2, q3, q4, q5⟩
  obtain ⟨v, r1, r2⟩ := aDq k1 k3 hn3 q4
  have hA' : ∀ s, A' (s + 100000) = A s := fun s => by rw [k3.outA _ (by omega), gL]
  have hfun : (fun s => A' (s + 100000)) = A := funext hA'
  refine ⟨v, r1, v, I', O', r, rfl, ⟨fun s => ?_, hO.inj, fun s g c hA => ?_, k1.osim.imm⟩, q2, q3, ⟨k3.os, k3.tape, k3.output, k3.size, k3.imm, fun g hg hA => ?_, fun s g c hA _ hs => ⟨s, c, hs, hA⟩, fun _ _ => rfl⟩, r2, q5⟩
  ·have := k1.osim.own (s + 100000)
   rw [q1] at this
   have := this.outof (s := s) rfl
   rwa [hfun] at this
  ·exact k1.osim.sep (s + 100000) g c ((hA' s).trans hA)
  obtain ⟨e1, e2, e3⟩ := k3.old g hg fun s c hs => by
   unfold b6 at hs
   split at hs
   ·cases hs
   exact hA _ _ hs
  exact ⟨e1, e2, hA⟩
 cases e with
 | normal => exact ⟨k2, fin k4⟩
 | ret => exact ⟨k2, fin k4⟩
 | _ => exact k4.elim
end
section
variable {w0 : World} {I0 : Nat → Prop} {A0 : cO} {G0 : Nat → Prop} {P : Program} {nt : Nat} {ρ : aS}
theorem b9.takeG {w : World} {I : Nat → Prop} {A : cO} {a : Act} {s1 s2 : List Rg} {h0 : Hd} {e : TypeId} {z : Nat} {l : List (List DV)} {d : Nat} (hs : b9 nt w I A ρ a) (hf : iD w0 I0 A0 G0 (s1 ++ .row h0 e z l :: s2) w I A) (hd : d < nt) (hρ : ρ d = h0.sl l.length) :
  b9 nt w I (gE A d (some (h0.B, h0.c))) (set (cI d ρ) d (.row e z l)) a ∧ iD w0 I0 A0 G0 (s1 ++ s2) w I (gE A d (some (h0.B, h0.c))) := by
 obtain ⟨f1, f2, f3, f4⟩ := hf
 have hrow := f1 (.row h0 e z l) (by simp)
 have hd2 : d < 100000 := Nat.lt_of_lt_of_le hd hs.bound
 have hup : ∀ t, t ≠ d → gE A d (some (h0.B, h0.c)) t = A t := fun t h => d5 A _ h
 have hap : ∀ x ∈ s1 ++ s2, ∀ g, h0.B = some g → x.B ≠ some g := fun x hx g hg => by
  unfold jY at f2
  rw [List.pairwise_append] at f2
  rcases List.mem_append.1 hx with h | h
  ·intro hxg; exact f2.2.2 x h (.row h0 e z l) (by simp) g hxg hg
  exact (List.pairwise_cons.1 f2.2.1).1 x h g hg
 have hval : a.tmps.getD d undef = .slice h0.b l.length h0.c := by
  have := hs.slot d hd
  rw [hρ] at this
  generalize a.tmps.getD d undef = x at this ⊢
  have this : bH w I A (.v (.slice h0.b l.length h0.c)) x := this
  cases this; rfl
 have hsome : ∀ s g c, gE A d (some (h0.B, h0.c)) s = some (some g, c) → (s = d ∧ h0.B = some g) ∨ (s ≠ d ∧ A s = some (some g, c)) := fun s g c h => by
  rcases cA h with ⟨h1, h2⟩ | ⟨h1, h2⟩
  ·simp only [Option.some.injEq, Prod.mk.injEq] at h2
   exact .inl ⟨h1, by first | exact h2.1 | exact h2.1.symm | exact congrArg some h2.1 | exact congrArg some h2.1.symm⟩
  exact .inr ⟨h1, h2⟩
 refine ⟨⟨⟨fun s => ?_, fun s t g c1 c2 h1 h2 => ?_, fun s g c1 h1 => ?_, hs.osim.imm⟩, hs.size, hs.bound, fun i hi => ?_, fun s h => ?_⟩, fun x hx => ?_, f2.sublist (List.Sublist.append (List.Sublist.refl _) (List.sublist_cons_self _ _)), fun x hx => f3 x (by simp at hx ⊢; rcases hx with h | h; exact .inl h; exact .inr (.inr h)),
  ⟨f4.os, f4.tape, f4.output, f4.size, f4.imm, fun g hg hA hG => ?_, fun s hs' => ?_, fun s g c h1 hg hs' => ?_⟩⟩
 ·unfold set; split
  ·rename_i h; subst h; exact ⟨_, _, cC _ _ _, hrow.holds.2⟩
  rename_i h; rw [d9 hd2 (hs.out s)]; exact (hs.osim.own s).reown h hup
 ·rcases hsome s g c1 h1 with ⟨rfl, h3⟩ | ⟨h3, h4⟩ <;> rcases hsome t g c2 h2 with ⟨rfl, h5⟩ | ⟨h5, h6⟩
  ·rfl
  ·exact absurd h6 ((hrow.free g h3).2.2 t c2)
  ·exact absurd h4 ((hrow.free g h5).2.2 s c1)
  exact hs.osim.inj s t g c1 c2 h4 h6
 ·rcases hsome s g c1 h1 with ⟨rfl, h3⟩ | ⟨h3, h4⟩
  ·exact ⟨(hrow.free g h3).1, (hrow.free g h3).2.1⟩
  exact hs.osim.sep s g c1 h4
 ·unfold set; split
  ·rename_i h; subst h
   exact ⟨_, _, cC _ _ _, h0.b, hrow.holds.1, hval⟩
  rename_i h; rw [d9 hd2 (hs.out i)]; exact (hs.slot i hi).reown h hup
 ·unfold set; rw [if_neg (by omega), d9 hd2 (hs.out s)]
  exact jG (hs.out s h)
 ·have hx1 := f1 x (by simp at hx ⊢; rcases hx with h | h; exact .inl h; exact .inr (.inr h))
  refine ⟨hx1.holds, fun g hg => ⟨(hx1.free g hg).1, (hx1.free g hg).2.1, fun s c h => ?_⟩⟩
  rcases hsome s g c h with ⟨rfl, h3⟩ | ⟨h3, h4⟩
  ·exact hap x hx g h3 hg
  exact (hx1.free g hg).2.2 s c h4
 ·obtain ⟨k1, k2, k3⟩ := f4.old g hg hA hG
  refine ⟨k1, k2, fun s c h => ?_⟩
  rcases hsome s g c h with ⟨rfl, h3⟩ | ⟨h3, h4⟩
  ·rcases f3 (.row h0 e z l) (by simp) g h3 with h | h
   ·exact hG h
   omega
  exact k3 s c h4
 ·rw [hup s (by omega)]; exact f4.outA s hs'
 rcases hsome s g c h1 with ⟨rfl, h3⟩ | ⟨h3, h4⟩
 ·rcases f3 (.row h0 e z l) (by simp) g h3 with h | h
  ·exact .inl h
  omega
 exact f4.loc s g c h4 hg hs'
theorem b9.takeM {w : World} {I : Nat → Prop} {A : cO} {a : Act} {s1 s2 : List Rg} {g0 c0 : Nat} {es : List (Value × Value)} {d : Nat} (hs : b9 nt w I A ρ a) (hf : iD w0 I0 A0 G0 (s1 ++ .map g0 c0 es :: s2) w I A) (hd : d < nt) (hρ : ρ d = .v (.map (some g0))) :
  b9 nt w I (gE A d (some ((some g0), c0))) (set (cI d ρ) d (.mo es)) a ∧ iD w0 I0 A0 G0 (s1 ++ s2) w I (gE A d (some ((some g0), c0))) := by
 obtain ⟨f1, f2, f3, f4⟩ := hf
 have hrow := f1 (.map g0 c0 es) (by simp)
 have hd2 : d < 100000 := Nat.lt_of_lt_of_le hd hs.bound
 have hup : ∀ t, t ≠ d → gE A d (some ((some g0), c0)) t = A t := fun t h => d5 A _ h
 have hap : ∀ x ∈ s1 ++ s2, ∀ g, (some g0) = some g → x.B ≠ some g := fun x hx g hg => by
  unfold jY at f2
  rw [List.pairwise_append] at f2
  rcases List.mem_append.1 hx with h | h
  ·intro hxg; exact f2.2.2 x h (.map g0 c0 es) (by simp) g hxg hg
  exact (List.pairwise_cons.1 f2.2.1).1 x h g hg
 have hval : a.tmps.getD d undef = .map (some g0) := by
  have := hs.slot d hd
  rw [hρ] at this
  generalize a.tmps.getD d undef = x at this ⊢
  have this : bH w I A (.v (.map (some g0))) x := this
  cases this; rfl
 have hsome : ∀ s g c, gE A d (some ((some g0), c0)) s = some (some g, c) → (s = d ∧ (some g0) = some g) ∨ (s ≠ d ∧ A s = some (some g, c)) := fun s g c h => by
  rcases cA h with ⟨h1, h2⟩ | ⟨h1, h2⟩
  ·simp only [Option.some.injEq, Prod.mk.injEq] at h2
   exact .inl ⟨h1, by first | exact h2.1 | exact h2.1.symm | exact congrArg some h2.1 | exact congrArg some h2.1.symm⟩
  exact .inr ⟨h1, h2⟩
 refine ⟨⟨⟨fun s => ?_, fun s t g c1 c2 h1 h2 => ?_, fun s g c1 h1 => ?_, hs.osim.imm⟩, hs.size, hs.bound, fun i hi => ?_, fun s h => ?_⟩, fun x hx => ?_, f2.sublist (List.Sublist.append (List.Sublist.refl _) (List.sublist_cons_self _ _)), fun x hx => f3 x (by simp at hx ⊢; rcases hx with h | h; exact .inl h; exact .inr (.inr h)),
  ⟨f4.os, f4.tape, f4.output, f4.size, f4.imm, fun g hg hA hG => ?_, fun s hs' => ?_, fun s g c h1 hg hs' => ?_⟩⟩
 ·unfold set; split
  ·rename_i h; subst h; obtain ⟨vs, cl, hv1, hv2⟩ := hrow.holds; exact ⟨g0, c0, vs, cl, cC _ _ _, hv1, hv2⟩
  rename_i h; rw [d9 hd2 (hs.out s)]; exact (hs.osim.own s).reown h hup
 ·rcases hsome s g c1 h1 with ⟨rfl, h3⟩ | ⟨h3, h4⟩ <;> rcases hsome t g c2 h2 with ⟨rfl, h5⟩ | ⟨h5, h6⟩
  ·rfl
  ·exact absurd h6 ((hrow.free g h3).2.2 t c2)
  ·exact absurd h4 ((hrow.free g h5).2.2 s c1)
  exact hs.osim.inj s t g c1 c2 h4 h6
 ·rcases hsome s g c1 h1 with ⟨rfl, h3⟩ | ⟨h3, h4⟩
  ·exact ⟨(hrow.free g h3).1, (hrow.free g h3).2.1⟩
  exact hs.osim.sep s g c1 h4
 ·unfold set; split
  ·rename_i h; subst h
   exact ⟨g0, c0, cC _ _ _, hval⟩
  rename_i h; rw [d9 hd2 (hs.out i)]; exact (hs.slot i hi).reown h hup
 ·unfold set; rw [if_neg (by omega), d9 hd2 (hs.out s)]
  exact jG (hs.out s h)
 ·have hx1 := f1 x (by simp at hx ⊢; rcases hx with h | h; exact .inl h; exact .inr (.inr h))
  refine ⟨hx1.holds, fun g hg => ⟨(hx1.free g hg).1, (hx1.free g hg).2.1, fun s c h => ?_⟩⟩
  rcases hsome s g c h with ⟨rfl, h3⟩ | ⟨h3, h4⟩
  ·exact hap x hx g h3 hg
  exact (hx1.free g hg).2.2 s c h4
 ·obtain ⟨k1, k2, k3⟩ := f4.old g hg hA hG
  refine ⟨k1, k2, fun s c h => ?_⟩
  rcases hsome s g c h with ⟨rfl, h3⟩ | ⟨h3, h4⟩
  ·rcases f3 (.map g0 c0 es) (by simp) g h3 with h | h
   ·exact hG h
   omega
  exact k3 s c h4
 ·rw [hup s (by omega)]; exact f4.outA s hs'
 rcases hsome s g c h1 with ⟨rfl, h3⟩ | ⟨h3, h4⟩
 ·rcases f3 (.map g0 c0 es) (by simp) g h3 with h | h
  ·exact .inl h
  omega
 exact f4.loc s g c h4 hg hs'
theorem b9.giveG {w : World} {I : Nat → Prop} {A : cO} {a : Act} {s1 s2 : List Rg} {d : Nat} {e : TypeId} {z : Nat} {l : List (List DV)} (hs : b9 nt w I A ρ a) (hf : iD w0 I0 A0 G0 (s1 ++ s2) w I A) (hd : d < nt)
  (hρ : ρ d = .row e z l) (hnew : ∀ g c, A d = some (some g, c) → G0 g ∨ w0.heap.size ≤ g) : ∃ h : Hd, b9 nt w I (gE A d none) (set (cI d ρ) d (h.sl l.length)) a ∧ iD w0 I0 A0 G0 (s1 ++ .row h e z l :: s2) w I (gE A d none) := by
 have hsl := hs.slot d hd
 have ho := hs.osim.own d
 have hd2 : d < 100000 := Nat.lt_of_lt_of_le hd hs.bound
 rw [hρ] at hsl ho
 obtain ⟨B, c, hA, b, hb, hx⟩ := hsl
 obtain ⟨B', c', hA', hrow⟩ := ho
 rw [hA] at hA'
 simp only [Option.some.injEq, Prod.mk.injEq] at hA'
 obtain ⟨rfl, rfl⟩ := hA'
 have hup : ∀ t, t ≠ d → gE A d none t = A t := fun t h => d5 A _ h
 have hno : ∀ t g c', gE A d none t = some (some g, c') → t ≠ d ∧ A t = some (some g, c') := fun t g c' h => by
  unfold gE at h
  split at h
  ·cases h
  rename_i h'; exact ⟨h', h⟩
 have hsep : ∀ g, B = some g → g < w.heap.size ∧ ¬ I g ∧ ∀ s c', gE A d none s ≠ some (some g, c') := fun g hg => by
  have h1 := hs.osim.sep d g c (by rw [hA, hg])
  refine ⟨h1.1, h1.2, fun s c' h => ?_⟩
  obtain ⟨h2, h3⟩ := hno s g c' h
  exact h2 (hs.osim.inj s d g c' c h3 (by rw [hA, hg]))
 obtain ⟨f1, f2, f3, f4⟩ := hf
 have hm : ∀ x ∈ s1 ++ (.row ⟨B, b, c⟩ e z l) :: s2, x = (.row ⟨B, b, c⟩ e z l) ∨ x ∈ s1 ++ s2 := fun x hx => by
  simp at hx ⊢; rcases hx with h | h | h
  ·exact .inr (.inl h)
  ·exact .inl h
  exact .inr (.inr h)
 have hne : ∀ x ∈ s1 ++ s2, ∀ g, B = some g → x.B ≠ some g := fun x hx g hg hxg => ((f1 x hx).free g hxg).2.2 d c (by rw [hA]; exact congrArg (fun q => some (q, c)) hg)
 refine ⟨⟨B, b, c⟩, ⟨⟨fun s => ?_, fun s t g c1 c2 h1 h2 => ?_, fun s g c1 h => ?_, hs.osim.imm⟩, hs.size, hs.bound, fun i hi => ?_, fun s h => ?_⟩, fun r hr => ?_, ?_, fun r hr g hg => ?_, ⟨f4.os, f4.tape, f4.output, f4.size, f4.imm, fun g hg hAg hG => ?_, fun s hs' => ?_, fun s g c' h hg hs' => f4.loc s g c' (hno s g c' h).2 hg hs'⟩⟩
 ·unfold set; split
  ·trivial
  rename_i h; rw [d9 hd2 (hs.out s)]; exact (hs.osim.own s).reown h hup
 ·exact hs.osim.inj s t g c1 c2 (hno s g c1 h1).2 (hno t g c2 h2).2
 ·exact hs.osim.sep s g c1 (hno s g c1 h).2
 ·unfold set; split
  ·rename_i h
   subst h
   rw [hx]
   exact .ofRel (.v _ _)
  rename_i h; rw [d9 hd2 (hs.out i)]; exact (hs.slot i hi).reown h hup
 ·unfold set; rw [if_neg (by omega), d9 hd2 (hs.out s)]
  exact jG (hs.out s h)
 ·rcases hm r hr with rfl | h
  ·exact ⟨⟨hb, hrow⟩, hsep⟩
  obtain ⟨q1, q3⟩ := f1 r h
  exact ⟨q1, fun g hg => ⟨(q3 g hg).1, (q3 g hg).2.1, fun s c' h => (q3 g hg).2.2 s c' (hno s g c' h).2⟩⟩
 ·unfold jY at f2 ⊢
  rw [List.pairwise_append] at f2 ⊢
  refine ⟨f2.1, List.pairwise_cons.2 ⟨fun y hy g hg => hne y (by simp [hy]) g hg, f2.2.1⟩, fun x hx y hy g hg hy' => ?_⟩
  rcases List.mem_cons.1 hy with rfl | hy
  ·exact hne x (by simp [hx]) g hy' hg
  exact f2.2.2 x hx y hy g hg hy'
 ·rcases hm r hr with rfl | h
  ·exact hnew g c (by rw [hA]; exact congrArg (fun q => some (q, c)) hg)
  exact f3 r h g hg
 ·obtain ⟨k1, k2, k3⟩ := f4.old g hg hAg hG
  exact ⟨k1, k2, fun s c' h => k3 s c' (hno s g c' h).2⟩
 rw [hup s (by omega)]; exact f4.outA s hs'
theorem b9.giveM {w : World} {I : Nat → Prop} {A : cO} {a : Act} {s1 s2 : List Rg} {d : Nat} {es : List (Value × Value)} (hs : b9 nt w I A ρ a) (hf : iD w0 I0 A0 G0 (s1 ++ s2) w I A) (hd : d < nt)
  (hρ : ρ d = .mo es) (hnew : ∀ g c, A d = some (some g, c) → G0 g ∨ w0.heap.size ≤ g) : ∃ g0 c0, b9 nt w I (gE A d none) (set (cI d ρ) d (.v (.map (some g0)))) a ∧ iD w0 I0 A0 G0 (s1 ++ .map g0 c0 es :: s2) w I (gE A d none) := by
 have hsl := hs.slot d hd
 have ho := hs.osim.own d
 have hd2 : d < 100000 := Nat.lt_of_lt_of_le hd hs.bound
 rw [hρ] at hsl ho
 obtain ⟨g0, c, hA, hx⟩ := hsl
 obtain ⟨g1, c', vs, cl, hA', hv1, hv2⟩ := ho
 rw [hA] at hA'
 simp only [Option.some.injEq, Prod.mk.injEq] at hA'
 obtain ⟨rfl, rfl⟩ := hA'
 have hup : ∀ t, t ≠ d → gE A d none t = A t := fun t h => d5 A _ h
 have hno : ∀ t g c', gE A d none t = some (some g, c') → t ≠ d ∧ A t = some (some g, c') := fun t g c' h => by
  unfold gE at h
  split at h
  ·cases h
  rename_i h'; exact ⟨h', h⟩
 have hsep : ∀ g, (some g0 : Option Nat) = some g → g < w.heap.size ∧ ¬ I g ∧ ∀ s c', gE A d none s ≠ some (some g, c') := fun g hg => by
  have h1 := hs.osim.sep d g c (by rw [hA, hg])
  refine ⟨h1.1, h1.2, fun s c' h => ?_⟩
  obtain ⟨h2, h3⟩ := hno s g c' h
  exact h2 (hs.osim.inj s d g c' c h3 (by rw [hA, hg]))
 obtain ⟨f1, f2, f3, f4⟩ := hf
 have hm : ∀ x ∈ s1 ++ (.map g0 c es) :: s2, x = (.map g0 c es) ∨ x ∈ s1 ++ s2 := fun x hx => by
  simp at hx ⊢; rcases hx with h | h | h
  ·exact .inr (.inl h)
  ·exact .inl h
  exact .inr (.inr h)
 have hne : ∀ x ∈ s1 ++ s2, ∀ g, (some g0 : Option Nat) = some g → x.B ≠ some g := fun x hx g hg hxg => ((f1 x hx).free g hxg).2.2 d c (by rw [hA]; exact congrArg (fun q => some (q, c)) hg)
 refine ⟨g0, c, ⟨⟨fun s => ?_, fun s t g c1 c2 h1 h2 => ?_, fun s g c1 h => ?_, hs.osim.imm⟩, hs.size, hs.bound, fun i hi => ?_, fun s h => ?_⟩, fun r hr => ?_, ?_, fun r hr g hg => ?_, ⟨f4.os, f4.tape, f4.output, f4.size, f4.imm, fun g hg hAg hG => ?_, fun s hs' => ?_, fun s g c' h hg hs' => f4.loc s g c' (hno s g c' h).2 hg hs'⟩⟩
 ·unfold set; split
  ·trivial
  rename_i h; rw [d9 hd2 (hs.out s)]; exact (hs.osim.own s).reown h hup
 ·exact hs.osim.inj s t g c1 c2 (hno s g c1 h1).2 (hno t g c2 h2).2
 ·exact hs.osim.sep s g c1 (hno s g c1 h).2
 ·unfold set; split
  ·rename_i h
   subst h
   rw [hx]
   exact .ofRel (.v _ _)
  rename_i h; rw [d9 hd2 (hs.out i)]; exact (hs.slot i hi).reown h hup
 ·unfold set; rw [if_neg (by omega), d9 hd2 (hs.out s)]
  exact jG (hs.out s h)
 ·rcases hm r hr with rfl | h
  ·exact ⟨⟨vs, cl, hv1, hv2⟩, hsep⟩
  obtain ⟨q1, q3⟩ := f1 r h
  exact ⟨q1, fun g hg => ⟨(q3 g hg).1, (q3 g hg).2.1, fun s c' h => (q3 g hg).2.2 s c' (hno s g c' h).2⟩⟩
 ·unfold jY at f2 ⊢
  rw [List.pairwise_append] at f2 ⊢
  refine ⟨f2.1, List.pairwise_cons.2 ⟨fun y hy g hg => hne y (by simp [hy]) g hg, f2.2.1⟩, fun x hx y hy g hg hy' => ?_⟩
  rcases List.mem_cons.1 hy with rfl | hy
  ·exact hne x (by simp [hx]) g hy' hg
  exact f2.2.2 x hx y hy g hg hy'
 ·rcases hm r hr with rfl | h
  ·exact hnew g c (by rw [hA]; exact congrArg (fun q => some (q, c)) hg)
  exact f3 r h g hg
 ·obtain ⟨k1, k2, k3⟩ := f4.old g hg hAg hG
  exact ⟨k1, k2, fun s c' h => k3 s c' (hno s g c' h).2⟩
 rw [hup s (by omega)]; exact f4.outA s hs'
theorem iD.mine {w : World} {I : Nat → Prop} {A : cO} {rs : List Rg} (hf : iD w0 I0 (b6 A0) G0 rs w I A) (hs : gK w I A ρ) {d : Nat} (hd : d < 100000) (g c : Nat) (hA : A d = some (some g, c)) : G0 g ∨ w0.heap.size ≤ g := by
 rcases Nat.lt_or_ge g w0.heap.size with hlt | hge
 ·rcases hf.2.2.2.loc d g c hA hlt hd with h | ⟨t, c', ht, hAt⟩
  ·exact .inl h
  unfold b6 at hAt; rw [if_pos ht] at hAt; cases hAt
 exact .inr hge
theorem aOe {c : Code} {Q : Exit → List Rg → aS → Prop} {rs s1 s2 : List Rg} {h0 : Hd} {e : TypeId} {z : Nat} {l : List (List DV)} (d : Nat) (hd : d < nt) (hρ : ρ d = h0.sl l.length) (hr : rs = s1 ++ .row h0 e z l :: s2)
  (h : kB P nt (iD w0 I0 A0 G0) c Q (s1 ++ s2) (set (cI d ρ) d (.row e z l))) : kB P nt (iD w0 I0 A0 G0) c Q rs ρ := fun ro ds I A a w hs hdf hf => by
 subst hr
 obtain ⟨h1, h2⟩ := hs.takeG hf hd hρ
 exact h ro ds I _ a w h1 hdf h2
theorem fY {ops : Array Oper} {o : Oper} {K : List Rg → aS → Prop} {rs s1 s2 : List Rg} {h0 : Hd} {e : TypeId} {z : Nat} {l : List (List DV)} (d : Nat) (hd : d < nt) (hρ : ρ d = h0.sl l.length) (hr : rs = s1 ++ .row h0 e z l :: s2)
  (h : gN P nt (iD w0 I0 A0 G0) ops o K (s1 ++ s2) (set (cI d ρ) d (.row e z l))) : gN P nt (iD w0 I0 A0 G0) ops o K rs ρ := fun ro ds I A a w hs hdf hf => by
 subst hr
 obtain ⟨h1, h2⟩ := hs.takeG hf hd hρ
 exact h ro ds I _ a w h1 hdf h2
theorem aCn {c : Code} {Q : Exit → List Rg → aS → Prop} {rs s1 s2 : List Rg} {e : TypeId} {z : Nat} {l : List (List DV)} (d : Nat) (hd : d < nt) (hρ : ρ d = .row e z l) (hr : rs = s1 ++ s2)
  (h : ∀ hd : Hd, kB P nt (iD w0 I0 (b6 A0) G0) c Q (s1 ++ .row hd e z l :: s2) (set (cI d ρ) d (hd.sl l.length))) : kB P nt (iD w0 I0 (b6 A0) G0) c Q rs ρ := fun ro ds I A a w hs hdf hf => by
 subst hr
 obtain ⟨hh, h1, h2⟩ := hs.giveG hf hd hρ fun g c hA => hf.mine hs.osim (Nat.lt_of_lt_of_le hd hs.bound) g c hA
 exact h hh ro ds I _ a w h1 hdf h2
theorem jL {ops : Array Oper} {o : Oper} {K : List Rg → aS → Prop} {rs s1 s2 : List Rg} {e : TypeId} {z : Nat} {l : List (List DV)} (d : Nat) (hd : d < nt) (hρ : ρ d = .row e z l) (hr : rs = s1 ++ s2)
  (h : ∀ hd : Hd, gN P nt (iD w0 I0 (b6 A0) G0) ops o K (s1 ++ .row hd e z l :: s2) (set (cI d ρ) d (hd.sl l.length))) : gN P nt (iD w0 I0 (b6 A0) G0) ops o K rs ρ := fun ro ds I A a w hs hdf hf => by
 subst hr
 obtain ⟨hh, h1, h2⟩ := hs.giveG hf hd hρ fun g c hA => hf.mine hs.osim (Nat.lt_of_lt_of_le hd hs.bound) g c hA
 exact h hh ro ds I _ a w h1 hdf h2
theorem aPu {c : Code} {Q : Exit → List Rg → aS → Prop} {rs s1 s2 : List Rg} {g0 c0 : Nat} {es : List (Value × Value)} (d : Nat) (hd : d < nt) (hρ : ρ d = .v (.map (some g0))) (hr : rs = s1 ++ .map g0 c0 es :: s2)
  (h : kB P nt (iD w0 I0 A0 G0) c Q (s1 ++ s2) (set (cI d ρ) d (.mo es))) : kB P nt (iD w0 I0 A0 G0) c Q rs ρ := fun ro ds I A a w hs hdf hf => by
 subst hr
 obtain ⟨h1, h2⟩ := hs.takeM hf hd hρ
 exact h ro ds I _ a w h1 hdf h2
theorem aOw {c : Code} {Q : Exit → List Rg → aS → Prop} {rs s1 s2 : List Rg} {es : List (Value × Value)} (d : Nat) (hd : d < nt) (hρ : ρ d = .mo es) (hr : rs = s1 ++ s2)
  (h : ∀ g0 c0, kB P nt (iD w0 I0 (b6 A0) G0) c Q (s1 ++ .map g0 c0 es :: s2) (set (cI d ρ) d (.v (.map (some g0))))) : kB P nt (iD w0 I0 (b6 A0) G0) c Q rs ρ := fun ro ds I A a w hs hdf hf => by
 subst hr
 obtain ⟨gg, cc, h1, h2⟩ := hs.giveM hf hd hρ fun g c hA => hf.mine hs.osim (Nat.lt_of_lt_of_le hd hs.bound) g c hA
 exact h gg cc ro ds I _ a w h1 hdf h2
theorem hU {c : Code} {Q : Exit → List Rg → aS → Prop} {rs : List Rg} (s1 s2 : List Rg) (e : TypeId) (z : Nat) (hr : rs = s1 ++ s2) (h : kB P nt (iD w0 I0 A0 G0) c Q (s1 ++ .row jC e z [] :: s2) ρ) : kB P nt (iD w0 I0 A0 G0) c Q rs ρ := fun ro ds I A a w hs hdf hf => by
 subst hr
 exact h ro ds I A a w hs hdf (hf.nil e z)
theorem b9.settleG {w : World} {I : Nat → Prop} {A : cO} {a : Act} {s1 s2 : List Rg} {h0 : Hd} {e : TypeId} {z : Nat} {l : List (List DV)} (hs : b9 nt w I A ρ a) (hf : iD w0 I0 A0 G0 (s1 ++ .row h0 e z l :: s2) w I A) :
  ∃ I' : Nat → Prop, b9 nt w I' A ρ a ∧ iD w0 I0 A0 G0 (s1 ++ s2) w I' A ∧ (∀ B d x, bH w I B d x → bH w I' B d x) ∧ ∀ (B : cO) (n : Nat), n = l.length → bH w I' B (Sg.frz z l) (.slice h0.b n h0.c) := by
 obtain ⟨f1, f2, f3, f4⟩ := hf
 have hrow := f1 (.row h0 e z l) (by simp)
 have hap : ∀ x ∈ s1 ++ s2, ∀ g, h0.B = some g → x.B ≠ some g := fun x hx g hg => by
  unfold jY at f2
  rw [List.pairwise_append] at f2
  rcases List.mem_append.1 hx with h | h
  ·intro hxg; exact f2.2.2 x h (.row h0 e z l) (by simp) g hxg hg
  exact (List.pairwise_cons.1 f2.2.1).1 x h g hg
 have hmono : ∀ (B' : cO) d x, bH w I B' d x → bH w (fun g => I g ∨ h0.B = some g) B' d x := fun B' d x hr => hr.mono fun g hg => ⟨.inl hg, fun _ => rfl⟩
 refine ⟨fun g => I g ∨ h0.B = some g, ⟨⟨fun t => (hs.osim.own t).keep (fun _ _ _ => rfl) hmono, hs.osim.inj, fun t g c' hA => ⟨(hs.osim.sep t g c' hA).1, fun hi => hi.elim (hs.osim.sep t g c' hA).2 fun hb => (hrow.free g hb).2.2 t c' hA⟩, hs.osim.imm.step (fun g hg => hg.elim (hs.osim.imm g) fun hb => (hrow.free g hb).1) fun g hg => ⟨.inl hg, rfl⟩⟩, hs.size, hs.bound, fun i hi => (hs.slot i hi).keep hmono, hs.out⟩, ⟨fun x hx => ?_, f2.sublist (List.Sublist.append (List.Sublist.refl _) (List.sublist_cons_self _ _)), fun x hx => f3 x (by simp at hx ⊢; rcases hx with h | h; exact .inl h; exact .inr (.inr h)), ⟨f4.os, f4.tape, f4.output, f4.size, fun g hg => .inl (f4.imm g hg), fun g hg hA hG => ?_, f4.outA, f4.loc⟩⟩, hmono, fun B n hn => ?_⟩
 ·have hx1 := f1 x (by simp at hx ⊢; rcases hx with h | h; exact .inl h; exact .inr (.inr h))
  exact ⟨hx1.holds.ofG (fun _ _ => rfl) fun d u hr => hmono _ _ _ hr, fun g hg => ⟨(hx1.free g hg).1, fun hi => hi.elim (hx1.free g hg).2.1 fun hb => hap x hx g hb hg, (hx1.free g hg).2.2⟩⟩
 ·obtain ⟨k1, k2, k3⟩ := f4.old g hg hA hG
  refine ⟨k1, fun h => h.elim k2 fun hb => ?_, k3⟩
  rcases f3 (.row h0 e z l) (by simp) g hb with h | h
  ·exact absurd h hG
  omega
 subst hn
 exact hrow.holds.2.frz (I' := fun g => I g ∨ h0.B = some g) (fun g hg => .inr hg) (fun g hg => .inl hg) (A := B) hrow.holds.1
theorem b9.settleS {w : World} {I : Nat → Prop} {A : cO} {a : Act} {s1 s2 : List Rg} {h0 : Hd} {e : TypeId} {z : Nat} {l : List (List DV)} (hs : b9 nt w I A ρ a) (hf : iD w0 I0 A0 G0 (s1 ++ .row h0 e z l :: s2) w I A) {d : Nat} (hd : d < nt) (hρ : ρ d = h0.sl l.length) {d' : DV} (hw : dI (Sg.frz z l) d') (hpl : gC d' = true) :
  ∃ I' : Nat → Prop, b9 nt w I' A (set ρ d d') a ∧ iD w0 I0 A0 G0 (s1 ++ s2) w I' A := by
 have hval : a.tmps.getD d undef = .slice h0.b l.length h0.c := by
  have := hs.slot d hd
  rw [hρ] at this
  generalize a.tmps.getD d undef = x at this ⊢
  have this : bH w I A (.v (.slice h0.b l.length h0.c)) x := this
  cases this; rfl
 obtain ⟨I', h1, h2, h3, h4⟩ := hs.settleG hf
 refine ⟨I', ⟨⟨fun t => ?_, h1.osim.inj, h1.osim.sep, h1.osim.imm⟩, h1.size, h1.bound, fun i hi => ?_, fun t ht => ?_⟩, h2⟩
 ·rw [aO]; split
  ·exact .ofPure (by cases d' <;> first | rfl | cases hpl)
  exact h1.osim.own t
 ·rw [aO]; split
  ·rename_i e1; subst e1; rw [hval]; exact .ofRel (hw _ _ _ _ (h4 A _ rfl))
  exact h1.slot i hi
 rw [aO, if_neg (by have := hs.bound; omega)]; exact h1.out t ht
theorem b9.settleB {w : World} {I : Nat → Prop} {A : cO} {a : Act} {s1 s2 : List Rg} {h0 : Hd} {e : TypeId} {z : Nat} {l : List (List DV)} (hs : b9 nt w I A ρ a) (hf : iD w0 I0 A0 G0 (s1 ++ .row h0 e z l :: s2) w I A) {t j : Nat} {cs : List DV} (hρ : ρ t = .bx cs) (hj : cs[j]? = some (h0.sl l.length)) {d' : DV} (hw : dI (Sg.frz z l) d') (hpl : d7 (fun _ => false) d' = true) :
  ∃ I' : Nat → Prop, b9 nt w I' A (set ρ t (.bx (cs.set j d'))) a ∧ iD w0 I0 A0 G0 (s1 ++ s2) w I' A := by
 obtain ⟨I', h1, h2, h3, h4⟩ := hs.settleG hf
 refine ⟨I', ⟨⟨fun s => ?_, h1.osim.inj, h1.osim.sep, h1.osim.imm⟩, h1.size, h1.bound, fun i hi => ?_, fun s hs' => ?_⟩, h2⟩
 ·rw [aO]; split
  ·rename_i e1; subst e1
   have := h1.osim.own s
   rw [hρ] at this
   obtain ⟨g, c, us, et, q1, q2, q3, q4, q5⟩ := this
   refine ⟨g, c, us, et, q1, q2, by rw [List.length_set]; exact q3, q4, fun i d u hd hu => ?_⟩
   rw [List.getElem?_set] at hd
   split at hd
   ·rename_i hij; subst hij
    split at hd
    ·cases hd
     have := q5 j _ u hj hu
     have hu2 : u = .slice h0.b l.length h0.c := by cases this; rfl
     rw [hu2]; exact hw _ _ _ _ (h4 A _ rfl)
    cases hd
   exact q5 i d u hd hu
  exact h1.osim.own s
 ·rw [aO]; split
  ·rename_i e1; subst e1
   have := h1.slot i hi
   rw [hρ] at this
   exact this
  exact h1.slot i hi
 rw [aO]; split
 ·rename_i e1; subst e1
  have := h1.out s hs'
  rw [hρ] at this
  have this : dF (fun t => decide (100000 ≤ t)) cs = true := this
  show dF (fun t => decide (100000 ≤ t)) (cs.set j d') = true
  rw [nB] at this ⊢
  intro x hx
  rcases List.mem_or_eq_of_mem_set hx with h | h
  ·exact this x h
  subst h; exact aCm (fun _ h => by cases h) _ hpl
 exact h1.out s hs'
theorem vX {c : Code} {Q : Exit → List Rg → aS → Prop} {rs s1 s2 : List Rg} {h0 : Hd} {e : TypeId} {z : Nat} {l : List (List DV)} (d : Nat) (hd : d < nt) (hρ : ρ d = h0.sl l.length) (hr : rs = s1 ++ .row h0 e z l :: s2) {d' : DV} (hw : dI (Sg.frz z l) d') (hpl : gC d' = true)
  (h : kB P nt (iD w0 I0 A0 G0) c Q (s1 ++ s2) (set ρ d d')) : kB P nt (iD w0 I0 A0 G0) c Q rs ρ := fun ro ds I A a w hs hdf hf => by
 subst hr
 obtain ⟨I', h1, h2⟩ := hs.settleS hf hd hρ hw hpl
 exact h ro ds I' A a w h1 hdf h2
theorem f0 {c : Code} {Q : Exit → List Rg → aS → Prop} {rs s1 s2 : List Rg} {h0 : Hd} {e : TypeId} {z : Nat} {l : List (List DV)} (t j : Nat) {cs : List DV} (hρ : ρ t = .bx cs) (hj : cs[j]? = some (h0.sl l.length)) (hr : rs = s1 ++ .row h0 e z l :: s2) {d' : DV} (hw : dI (Sg.frz z l) d') (hpl : d7 (fun _ => false) d' = true)
  (h : kB P nt (iD w0 I0 A0 G0) c Q (s1 ++ s2) (set ρ t (.bx (cs.set j d')))) : kB P nt (iD w0 I0 A0 G0) c Q rs ρ := fun ro ds I A a w hs hdf hf => by
 subst hr
 obtain ⟨I', h1, h2⟩ := hs.settleB hf hρ hj hw hpl
 exact h ro ds I' A a w h1 hdf h2
def GOf (rs : List Rg) (g : Nat) : Prop := ∃ r ∈ rs, r.B = some g
def zB (P : Program) (O : aS) (f : FuncId) (args : List DV) (rs : List Rg) (R : List Rg → aS → DV → Prop) : Prop :=
 ∀ (w : World) (I : Nat → Prop) (A : cO) (vals : Array Value), gK w I A O → (∀ r ∈ rs, oA w I A r) → jY rs → vals.size = args.length → (∀ (j : Nat) (d : DV) (u : Value), args[j]? = some d → vals[j]? = some u → bH w I A d u) →
  Calls P f vals w fun e w' => ∃ v I' O' rs' r, e = .returned v ∧ gK w' I' A O' ∧ (∀ s, dW (O s) (O' s)) ∧ (∀ s, cM (O s) → cM (O' s)) ∧ iD w I A (GOf rs) rs' w' I' A ∧ bP r = false ∧ bH w' I' A r v ∧ R rs' O' r
def aBu (P : Program) (fn : Func) (O : aS) (R : List Rg → aS → DV → Prop) : Exit → List Rg → aS → Prop
 | .ret, rs, ρ | .normal, rs, ρ => ∃ O' r, (∀ s, ρ (s + 100000) = sh (O' s)) ∧ (∀ s, dW (O s) (O' s)) ∧ (∀ s, cM (O s) → cM (O' s)) ∧ lO P ρ fn.results.toList r ∧ bP r = false ∧ R rs O' r
 | _, _, _ => False
theorem aZn {nt : Nat} {w : World} {I : Nat → Prop} {A A' : cO} {ρ : aS} {a : Act} {fn : Func} {r : DV} (hs : b9 nt w I A' ρ a) (hA : ∀ s, 100000 ≤ s → A' s = b6 A s)
  (hn : fn.results.toList.all (fun v => match v with | .tmp t => decide (t < nt) | .cell t _ => decide (t < nt)) = true) (h : lO P ρ fn.results.toList r) (ho : bP r = false) :
  ∃ v, (results fn a.tmps).run P w = .ok v w ∧ bH w I A r v := by
 have hback : ∀ {d : DV} {x : Value}, bH w I A' (sh d) x → bH w I A d x := fun h => h.back hA
 have hlt : ∀ v ∈ fn.results.toList, (match v with | .tmp t => t < nt | .cell t _ => t < nt) := fun v hv => by
  have := List.all_eq_true.1 hn v hv
  cases v <;> simpa using this
 generalize hl : fn.results.toList = rs at *
 have hres : fn.results = rs.toArray := by apply Array.ext'; rw [hl]
 unfold lO at h
 split at h
 ·rename_i t
  have ht : t < nt := hlt (.tmp t) (by simp)
  have hsl := hs.slot t ht
  refine ⟨_, results_tmp hres _ P w, ?_⟩
  cases h with
  | pure r hp hw hr => exact hback (hw w I A' _ (hsl.rel hp))
  | _ => cases ho
 ·rename_i b t
  obtain ⟨h1, h2⟩ := h
  obtain ⟨x, k1, k2⟩ := xU hs hA (v := .cell b t) (hlt (.cell b t) (by simp)) h2
  refine ⟨x, ?_, k2⟩
  have := pS (P := P) (w := w) (aDh a.tmps) [.cell b t] [x] rfl
   (fun j y u hy hu => by
    cases j with
    | zero => simp at hy hu; subst hy; subst hu; exact k1
    | succ j => simp at hy)
  rw [oS, hres, List.mapM_toArray, Sem.run_bind, Sem.run_map, this]
  rfl
 rename_i h1 h2
 obtain ⟨rl, rfl, hlen, hall⟩ := h
 have : ∃ vs : List Value, vs.length = rs.length ∧ (∀ (j : Nat) (y : ResultVar) (u : Value), rs[j]? = some y → vs[j]? = some u →
   (aDh a.tmps y).run P w = .ok u w) ∧ ∀ (j : Nat) (d : DV) (u : Value), rl[j]? = some d → vs[j]? = some u → bH w I A d u := by
  clear hres hl hn h1 h2 ho
  induction rs generalizing rl with
  | nil =>
   obtain rfl : rl = [] := List.eq_nil_of_length_eq_zero hlen
   exact ⟨[], rfl, by simp, by simp⟩
  | cons y rs ih =>
   cases rl with
   | nil => simp at hlen
   | cons d rl =>
    obtain ⟨x, k1, k2⟩ := xU hs hA (v := y) (hlt y (by simp)) (hall 0 y d (by simp) (by simp))
    obtain ⟨vs, j1, j2, j3⟩ := ih (fun v hv => hlt v (by simp [hv])) rl (by simpa using hlen) fun j v d' hv hd => hall (j + 1) v d' (by simpa using hv) (by simpa using hd)
    refine ⟨x :: vs, by simp [j1], fun j y' u hy hu => ?_, fun j d' u hd hu => ?_⟩
    ·cases j with
     | zero => simp at hy hu; subst hy; subst hu; exact k1
     | succ j => exact j2 j y' u (by simpa using hy) (by simpa using hu)
    cases j with
    | zero => simp at hd hu; subst hd; subst hu; exact k2
    | succ j => exact j3 j d' u (by simpa using hd) (by simpa using hu)
 obtain ⟨vs, j1, j2, j3⟩ := this
 have hrun := pS (P := P) (w := w) (aDh a.tmps) rs vs j1.symm j2
 have hne : vs.length ≠ 1 := fun e => by
  rw [j1] at e
  match rs, e with
  | [.tmp t], _ => exact h1 t rfl
  | [.cell b t], _ => exact h2 b t rfl
 refine ⟨.tuple vs.toArray, ?_, ?_⟩
 ·rw [oS, hres, List.mapM_toArray, Sem.run_bind, Sem.run_map, hrun]
  simp [hne]
 exact bH.tup A rl _ (by simp [hlen, j1]) fun j d u hd hu => j3 j d u hd (by simpa using hu)
theorem oA.into {w : World} {I : Nat → Prop} {A : cO} {r : Rg} (h : oA w I A r) : oA w I (b6 A) r := ⟨h.holds, fun g hg => ⟨(h.free g hg).1, (h.free g hg).2.1, fun s c hs => by
 unfold b6 at hs
 split at hs
 ·cases hs
 exact (h.free g hg).2.2 _ c hs⟩⟩
theorem lY {f : FuncId} {fn : Func} {c : Code} {O : aS} {args : List DV} {rs : List Rg} {R : List Rg → aS → DV → Prop} (hf : P.funcs[f]? = some fn) (hb : fn.body = some c)
  (hn : (decide (args.length ≤ fn.ntmps) && decide (fn.ntmps ≤ 100000) && fn.results.toList.all (fun v => match v with | .tmp t => decide (t < fn.ntmps) | .cell t _ => decide (t < fn.ntmps))) = true)
  (h : ∀ w0 I0 A0, kB P fn.ntmps (iD w0 I0 (b6 A0) (GOf rs)) c (aBu P fn O R) rs (lA O args)) : zB P O f args rs R := by
 intro w I A vals hO hrow hap hl hv
 simp only [Bool.and_eq_true, decide_eq_true_eq] at hn
 obtain ⟨⟨hn1, hn2⟩, hn3⟩ := hn
 refine calls_of_wp hf hb (wp_mono (wpIn_wide.1 (Go.Rv.qH ▸ h w I A none [] I (b6 A) _ w (b9.enter hO hl hn1 hn2 hv) rfl ⟨fun r hr => (hrow r hr).into, hap, fun r hr g hg => .inl ⟨r, hr, hg⟩, XG.refl _ _ _ _⟩)) ?_)
 intro e a' w' ⟨I', A', ρ', rs', k1, k2, k3, k4⟩
 have fin : (∃ O' r, (∀ s, ρ' (s + 100000) = sh (O' s)) ∧ (∀ s, dW (O s) (O' s)) ∧ (∀ s, cM (O s) → cM (O' s)) ∧ lO P ρ' fn.results.toList r ∧ bP r = false ∧ R rs' O' r) →
   ∃ v, (results fn a'.tmps).run P w' = .ok v w' ∧ ∃ v' I' O' rs' r, Ending.returned v = .returned v' ∧ gK w' I' A O' ∧ (∀ s, dW (O s) (O' s)) ∧ (∀ s, cM (O s) → cM (O' s)) ∧ iD w I A (GOf rs) rs' w' I' A ∧ bP r = false ∧ bH w' I' A r v' ∧ R rs' O' r := by
  rintro ⟨O', r, q1, q2, q3, q4, q5, q6⟩
  obtain ⟨f1, f2, f3, f4⟩ := k3
  obtain ⟨v, r1, r2⟩ := aZn k1 f4.outA hn3 q4 q5
  have hA' : ∀ s, A' (s + 100000) = A s := fun s => by rw [f4.outA _ (by omega), gL]
  have hfun : (fun s => A' (s + 100000)) = A := funext hA'
  refine ⟨v, r1, v, I', O', rs', r, rfl, ⟨fun s => ?_, hO.inj, fun s g c hA => ?_, k1.osim.imm⟩, q2, q3, ⟨fun r hr => ⟨(f1 r hr).holds, fun g hg => ⟨((f1 r hr).free g hg).1, ((f1 r hr).free g hg).2.1, fun s c hA => ((f1 r hr).free g hg).2.2 (s + 100000) c ((hA' s).trans hA)⟩⟩, f2, f3,
   ⟨f4.os, f4.tape, f4.output, f4.size, f4.imm, fun g hg hA hG => ?_, fun _ _ => rfl, fun s g c hA _ hs => .inr ⟨s, c, hs, hA⟩⟩⟩, q5, r2, q6⟩
  ·have := k1.osim.own (s + 100000)
   rw [q1] at this
   have := this.outof (s := s) rfl
   rwa [hfun] at this
  ·exact k1.osim.sep (s + 100000) g c ((hA' s).trans hA)
  obtain ⟨e1, e2, e3⟩ := f4.old g hg (fun s c hs => by
   unfold b6 at hs
   split at hs
   ·cases hs
   exact hA _ _ hs) hG
  exact ⟨e1, e2, hA⟩
 cases e with
 | normal => exact ⟨k2, fin k4⟩
 | ret => exact ⟨k2, fin k4⟩
 | _ => exact k4.elim
theorem XG.toExt {w0 w : World} {I0 I : Nat → Prop} {A0 A : cO} (h : XG w0 I0 A0 (GOf []) w I A) : eA w0 I0 A0 w I A :=
 have hno : ∀ g, ¬ GOf [] g := fun g ⟨_, h, _⟩ => by cases h
 ⟨h.os, h.tape, h.output, h.size, h.imm, fun g hg hA => h.old g hg hA (hno g), fun s g c hA hg hs => (h.loc s g c hA hg hs).resolve_left (hno g), h.outA⟩
theorem iL {f : FuncId} {fn : Func} {c : Code} {O : aS} {args : List DV} {R : aS → DV → Prop} (hf : P.funcs[f]? = some fn) (hb : fn.body = some c)
  (hn : (decide (args.length ≤ fn.ntmps) && decide (fn.ntmps ≤ 100000) && fn.results.toList.all (fun v => match v with | .tmp t => decide (t < fn.ntmps) | .cell t _ => decide (t < fn.ntmps))) = true)
  (h : ∀ w0 I0 A0, kB P fn.ntmps (iD w0 I0 (b6 A0) (GOf [])) c (fun e _ ρ => wH P fn O R e ρ) [] (lA O args)) : iC P O f args R :=
 s9 hf hb hn fun w I A a hs hd => wpIn_mono (h w I A none [] I (b6 A) a w hs hd ⟨fun r hr => (by cases hr), List.Pairwise.nil, fun r hr => (by cases hr), XG.refl _ _ _ _⟩) fun e a' w' ⟨I', A', ρ', s', h1, h2, h3, h4⟩ => ⟨I', A', ρ', h1, h2, h3.2.2.2.toExt, h4⟩
theorem lZ {ops : Array Oper} {o : Oper} {K : List Rg → aS → Prop} {fv : Operand} {args : Array Operand} {ts : Array TypeId} {d : Nat} (hop : o.op = .call ⟨.value fv, args, ts⟩) (hg : o.guard = none) (hdst : o.dst = some d) (hd : d < nt)
  (ho : dA nt o = true) (hgf : gd (ev ρ fv)) (hga : ∀ x ∈ args.toList, gd (ev ρ x)) {f : FuncId} {l : List DV} (hc : callee (un (ev ρ fv)) (args.toList.map fun x => un (ev ρ x)) = some (f, l)) (hb : aQ P f = true)
  {cur rs s2 : List Rg} (hp : cur.Perm (rs ++ s2)) {R : List Rg → aS → DV → Prop} (hm : zB P ρ f l rs R) (hK : ∀ rs' O' r, R rs' O' r → K (rs' ++ s2) (set O' d r)) : gN P nt (iD w0 I0 A0 G0) ops o K cur ρ := by
 intro ro ds I A a w hs hdf hf next Q' hn
 replace hf := hf.swap hp
 obtain ⟨vals, h1, h2, h3⟩ := jN hs hop ho hgf hga hc hb
 rw [if_pos (by simp [Region.wanted, hg])]
 refine nI h1 ?_
 obtain ⟨f1, f2, f3, f4⟩ := hf
 have f2' := f2
 unfold jY at f2'
 rw [List.pairwise_append] at f2'
 refine (hm w I A vals hs.osim (fun r hr => f1 r (by simp [hr])) f2'.1 h2 h3).mono ?_
 rintro e w' ⟨v, I', O', rs', r, rfl, k1, k2, k3, ⟨g1, g2, g3, g4⟩, ko, kr, k6⟩
 have hset : ∀ g, I g → I' g ∧ w'.heap[g]? = w.heap[g]? := fun g hg => ⟨g4.imm g hg, (g4.old g (hs.osim.imm g hg) (fun s c hc => (hs.osim.sep s g c hc).2 hg) fun ⟨r, hr, hB⟩ => ((f1 r (by simp [hr])).free g hB).2.1 hg).1⟩
 have hrel : ∀ B d x, bH w I B d x → bH w' I' B d x := fun B d x hr => hr.mono fun g hg => ⟨(hset g hg).1, fun o => cY (hset g hg).2 o⟩
 have hs' : b9 nt w' I' A O' a := hs.calledG k1 k2 k3 (fun d x => hrel A d x)
 have hs2 := hs'.put (d := d) (v := r) (x := v) hd (.ofRel kr) (.ofPure ko)
 rw [hdst]
 have hold : ∀ x ∈ s2, ∀ g, x.B = some g → w'.heap[g]? = w.heap[g]? ∧ (I' g → I g) ∧ g < w.heap.size ∧ ¬ GOf rs g := fun x hx g hg => by
  have hx1 := (f1 x (by simp [hx])).free g hg
  have hno : ¬ GOf rs g := fun ⟨r, hr, hB⟩ => f2'.2.2 r hr x hx g hB hg
  have := g4.old g hx1.1 hx1.2.2 hno
  exact ⟨this.1, this.2.1, hx1.1, hno⟩
 refine hn I' A _ w' _ _ hs2 (by rw [d4]; exact hdf) ⟨fun x hx => ?_, ?_, fun x hx g hg => ?_, ⟨g4.os.trans f4.os, ⟨g4.tape.1.trans f4.tape.1, Nat.le_trans f4.tape.2 g4.tape.2⟩, g4.output.trans f4.output, Nat.le_trans f4.size g4.size, fun g hg => g4.imm g (f4.imm g hg), fun g hg hA hG => ?_, f4.outA, f4.loc⟩⟩ (hK rs' O' r k6)
 ·rcases List.mem_append.1 hx with h | h
  ·exact g1 x h
  have hx1 := f1 x (by simp [h])
  exact ⟨hx1.holds.ofG (fun g hg => (hold x h g hg).1) fun d u hr => hrel _ _ _ hr, fun g hg => ⟨Nat.lt_of_lt_of_le (hx1.free g hg).1 g4.size, fun hi => (hx1.free g hg).2.1 ((hold x h g hg).2.1 hi), (hx1.free g hg).2.2⟩⟩
 ·unfold jY
  rw [List.pairwise_append]
  refine ⟨g2, f2'.2.1, fun x hx y hy g hg hy' => ?_⟩
  obtain ⟨_, _, q3, q4⟩ := hold y hy g hy'
  rcases g3 x hx g hg with h | h
  ·exact q4 h
  omega
 ·rcases List.mem_append.1 hx with h | h
  ·rcases g3 x h g hg with ⟨r, hr, hB⟩ | h
   ·exact f3 r (by simp [hr]) g hB
   exact .inr (Nat.le_trans f4.size h)
  exact f3 x (by simp [h]) g hg
 obtain ⟨q1, q2, q3⟩ := f4.old g hg hA hG
 obtain ⟨n1, n2, _⟩ := g4.old g (Nat.lt_of_lt_of_le hg f4.size) q3 fun ⟨r, hr, hB⟩ => by
  rcases f3 r (by simp [hr]) g hB with h | h
  ·exact hG h
  omega
 exact ⟨n1.trans q1, fun h => q2 (n2 h), q3⟩
end
def xX {σ : Type} (l : Nat) (K : σ → aS → Prop) (Q : Exit → σ → aS → Prop) : Exit → σ → aS → Prop
 | .goto l', s, ρ => if l' = l then K s ρ else Q (.goto l') s ρ
 | e, s, ρ => Q e s ρ
section
variable {P : Program}
def vT (F : Fence) (P : Program) (c0 : Code) (Q : Exit → Act → World → Prop) : Nat → Code → Act → World → Prop
 | 0, _, _, _ => False
 | k + 1, c, a, w => c.wpIn F 0 P (fun e a' w' => match e with
  | .goto l => (match findLabel c0 l with
   | some rest => vT F P c0 Q k rest a' w'
   | none => Q (.goto l) a' w')
  | e => Q e a' w') a w
theorem aIi {b : Frame} {a : Act} {k : List Item} {cs : List Frame} {w : World} {c : Code} : step P (lone (b.atR a (.code (.scope c) :: k)) cs w) = .next (lone (b.atR a (.code c :: .inScope c :: k)) cs w) :=
 step_lone_go (by simp [stepG, stepG.exec, Frame.atR])
theorem aAz {b : Frame} {a : Act} {k : List Item} {cs : List Frame} {w : World} {c : Code} : step P (lone (b.atR a (.inScope c :: k)) cs w) = .next (lone (b.atR a k) cs w) :=
 step_lone_go (by simp [stepG, stepG.exec, Frame.atR])
theorem rI {F : Fence} {c0 : Code} {Q : Exit → Act → World → Prop} : ∀ (m : Nat) (c : Code) (a : Act) (w : World), vT F P c0 Q m c a w → ∀ (b : Frame) (k : List Item) (cs : List Frame), b.roundOf = F.round → F.fn b.fn → F.room (cs.length + 1 + 0) →
  ∃ e a' w', Q e a' w' ∧ ArrivesIn (Machine.fenced P F) P (lone (b.atR a (.code c :: .inScope c0 :: k)) cs w) b k cs e a' w'
 | 0, _, _, _, h => h.elim
 | m + 1, c, a, w, h => fun b k cs hro hb hr => by
  obtain ⟨e, a1, w1, hq, harr⟩ := h b (.inScope c0 :: k) cs hro hb hr
  cases e with
  | normal => exact ⟨.normal, a1, w1, hq, StepsIn.trans harr (.one (fenced_calm hb hr rfl) aAz)⟩
  | exit id => exact ⟨.exit id, a1, w1, hq, fun k' hk => harr.1 k' (by simp [exitTo, hk]), fun h1 h2 => harr.2 h1 (by simp [exitTo, h2])⟩
  | ret => exact ⟨.ret, a1, w1, hq, harr⟩
  | panic ch => exact ⟨.panic ch, a1, w1, hq, harr⟩
  | outgrown => exact ⟨.outgrown, a1, w1, hq, harr⟩
  | goto l =>
   cases hf : findLabel c0 l with
   | none =>
    simp only [hf] at hq
    exact ⟨.goto l, a1, w1, hq, fun k' hk => harr.1 k' (by simp [gotoIn, hf, hk]), fun h1 h2 => harr.2 h1 (by simp [gotoIn, hf, h2])⟩
   | some rest =>
    simp only [hf] at hq
    obtain ⟨e2, a2, w2, hq2, harr2⟩ := rI m rest a1 w1 hq b k cs hro hb hr
    exact ⟨e2, a2, w2, hq2, .of_steps (harr.1 _ (by simp [gotoIn, hf])) harr2⟩
theorem aKi {F : Fence} {c : Code} {Q : Exit → Act → World → Prop} {a : Act} {w : World} (m : Nat) (h : vT F P c Q m c a w) : (Code.scope c).wpIn F 0 P Q a w := fun b k cs hro hb hr => by
 obtain ⟨e, a1, w1, hq, harr⟩ := rI m c a w h b k cs hro hb hr
 exact ⟨e, a1, w1, hq, .of_steps (.one (fenced_calm hb hr rfl) aIi) harr⟩
theorem xY {F : Fence} {c0 : Code} {Q : Exit → Act → World → Prop} : ∀ {m : Nat} (j : Nat) {c : Code} {a : Act} {w : World}, vT F P c0 Q m c a w → vT F P c0 Q (m + j) c a w
 | 0, _, _, _, _, h => h.elim
 | m + 1, j, c, a, w, h => by
  rw [show m + 1 + j = (m + j) + 1 by omega]
  refine wpIn_mono h fun e a' w' q => ?_
  cases e with
  | goto l =>
   simp only at q ⊢
   cases hf : findLabel c0 l with
   | none => simp only [hf] at q ⊢; exact q
   | some rest => simp only [hf] at q ⊢; exact xY j q
  | _ => exact q
end
end Go.Sg
namespace Go.Sg
open Go.RowKit
open Go.Rv (FR)
section
variable {P : Program} {nt : Nat} {w0 : World} {I0 : Nat → Prop} {A0 : cO} {G0 : Nat → Prop} {ρ : aS}
structure bUj (K : List Rg → aS → Prop) (s1 s2 : List Rg) (e : TypeId) (z : Nat) (l : List (List DV)) (d : Nat) (rs : List Rg) (ρ : aS) : Prop where
 rows : rs = s1 ++ s2
 at_ : ρ d = .row e z l
 next : ∀ hd : Hd, K (s1 ++ .row hd e z l :: s2) (set (cI d ρ) d (hd.sl l.length))
theorem oI {ops : Array Oper} {o : Oper} {K : List Rg → aS → Prop} {rs : List Rg} (s1 s2 : List Rg) (e : TypeId) (z : Nat) (l : List (List DV)) (d : Nat) (hd : d < nt)
  (h : gN P nt (iD w0 I0 (b6 A0) G0) ops o (bUj K s1 s2 e z l d) rs ρ) : gN P nt (iD w0 I0 (b6 A0) G0) ops o K rs ρ :=
 fun ro ds I A a w hs hdf hf next Q' hn => h ro ds I A a w hs hdf hf next Q' fun I' A' a' w' ρ' s' h1 h2 h3 h4 => by
  obtain ⟨e1, e2, e3⟩ := h4
  subst e1
  obtain ⟨hh, k1, k2⟩ := h1.giveG h3 hd e2 fun g c hA => h3.mine h1.osim (Nat.lt_of_lt_of_le hd h1.bound) g c hA
  exact hn I' _ a' w' _ _ k1 h2 k2 (e3 hh)
theorem aTa {σ : Type} {F : σ → World → (Nat → Prop) → cO → Prop} {Q : Exit → σ → aS → Prop} {s : σ} {i : Nat} (h : Q (.goto i) s ρ) : kB P nt F (.goto i) Q s ρ := fun ro ds I A a w hs hd hf => wpIn_goto ⟨I, A, ρ, s, hs, hd, hf, h⟩
theorem aVz {σ : Type} {F : σ → World → (Nat → Prop) → cO → Prop} {Q : Exit → σ → aS → Prop} {s : σ} (L : List Nat) {x y : Code} (J : σ → aS → Prop) (hx : ∀ K : σ → aS → Prop, (∀ s' ρ', J s' (keepC L ρ') → K s' ρ') → kB P nt F x (fR K Q) s ρ) (hy : ∀ s ρ, J s ρ → kB P nt F y Q s ρ) : kB P nt F (.seq x y) Q s ρ :=
 aT fun K hK => hx K fun s' ρ' hJ => hK s' ρ' (bK (Le.keepC L ρ') (hy _ _ hJ))
theorem aKc {F : Fence} {c0 : Code} {Q : Exit → Act → World → Prop} {a : Act} {w : World} {rest : Code} : ∀ {m : Nat}, vT F P c0 Q m rest a w → vT F P c0 Q m (.seq .skip rest) a w
 | 0, h => h.elim
 | m + 1, h => wpIn_seq (wpIn_skip h)
theorem aLa {σ : Type} {F : σ → World → (Nat → Prop) → cO → Prop} {Q : Exit → σ → aS → Prop} {s : σ} (L : List Nat) {l : Nat} {rest : Code} (hf : findLabel (.seq (.label l) rest) l = some (.seq .skip rest)) (hf2 : ∀ l', l' ≠ l → findLabel (.seq (.label l) rest) l' = none)
  (J : Nat → σ → aS → Prop) (n₀ : Nat) (h₀ : J n₀ s (keepC L ρ))
  (round : ∀ n s ρ, J n s ρ → ∀ K : σ → aS → Prop, (∀ m s' ρ', m < n → J m s' (keepC L ρ') → K s' ρ') → kB P nt F rest (xX l K Q) s ρ) : kB P nt F (.scope (.seq (.label l) rest)) Q s ρ := by
 intro ro ds I A a w hs hd hf0
 have key : ∀ n s ρ, J n s ρ → ∀ I A a w, b9 nt w I A ρ a → a.defers = ds → F s w I A →
   vT (FR ro) P (.seq (.label l) rest) (fun e a' w' => ∃ I' A' ρ' s', b9 nt w' I' A' ρ' a' ∧ a'.defers = ds ∧ F s' w' I' A' ∧ Q e s' ρ') (n + 1) rest a w := by
  intro n
  induction n using Nat.strongRecOn with
  | _ n ih =>
   intro s ρ hJ I A a w hs hd hF
   refine wpIn_mono (round n s ρ hJ (fun s ρ => ∃ m, m < n ∧ J m s (keepC L ρ)) (fun m s' ρ' hm hj => ⟨m, hm, hj⟩) ro ds I A a w hs hd hF) ?_
   intro e a1 w1 ⟨I1, A1, ρ1, s1, k1, k2, k3, k4⟩
   cases e with
   | goto l' =>
    by_cases hl : l' = l
    ·subst hl
     simp only [hf]
     have k4 : ∃ m, m < n ∧ J m s1 (keepC L ρ1) := by simpa [xX] using k4
     obtain ⟨m, hm, hj⟩ := k4
     obtain ⟨j, rfl⟩ : ∃ j, n = m + 1 + j := ⟨n - (m + 1), by omega⟩
     have := ih m (by omega) s1 _ hj I1 A1 a1 w1 (k1.weaken (Le.keepC L ρ1)) k2 k3
     exact aKc (xY (m := m + 1) j this)
    simp only [hf2 l' hl]
    have k4 : Q (.goto l') s1 ρ1 := by simpa [xX, hl] using k4
    exact ⟨I1, A1, ρ1, s1, k1, k2, k3, k4⟩
   | normal => exact ⟨I1, A1, ρ1, s1, k1, k2, k3, k4⟩
   | exit i => exact ⟨I1, A1, ρ1, s1, k1, k2, k3, k4⟩
   | ret => exact ⟨I1, A1, ρ1, s1, k1, k2, k3, k4⟩
   | panic ch => exact ⟨I1, A1, ρ1, s1, k1, k2, k3, k4⟩
   | outgrown => exact ⟨I1, A1, ρ1, s1, k1, k2, k3, k4⟩
 have h1 := key n₀ s _ h₀ I A a w (hs.weaken (Le.keepC L ρ)) hd hf0
 refine aKi (n₀ + 1) ?_
 exact wpIn_seq (wpIn_label h1)
theorem sX (O : aS) (s : Nat) (X Y : DV) : set (set O s X) s Y = set O s Y := by
 funext i; rw [aO, aO, aO]; split <;> rfl
theorem mJ (O : aS) (s : Nat) (X : DV) : bT (set O s X) = set (bT O) (s + 100000) (sh X) := by
 funext i
 rw [aO]
 by_cases h : i < 100000
 ·rw [mF _ h, mF _ h, if_neg (by omega)]
 obtain ⟨j, rfl⟩ : ∃ j, i = j + 100000 := ⟨i - 100000, by omega⟩
 rw [bW, bW, aO]
 by_cases e : j = s
 ·subst e; rw [if_pos rfl, if_pos rfl]
 rw [if_neg e, if_neg (by omega)]
theorem aLz {O : aS} {s : Nat} {cs0 cs : List DV} (hO : O s = .bx cs0) (hl : cs0.length = cs.length) (hr : gT (· + 100000) cs = cs) (ho : dF (fun t => decide (100000 ≤ t)) cs = true) (hh : hi ρ = set (bT O) (s + 100000) (.bx cs)) :
  (∀ k, ρ (k + 100000) = sh (set O s (.bx cs) k)) ∧ (∀ k, dW (O k) (set O s (.bx cs) k)) ∧ (∀ k, cM (O k) → cM (set O s (.bx cs) k)) := by
 refine ⟨fun k => ?_, fun k => ?_, fun k hk => ?_⟩
 ·refine jJ (O := set O s (.bx cs)) ?_ k
  rw [mJ, hh]
  exact congrArg _ (congrArg DV.bx hr.symm)
 ·rw [aO]; split
  ·rename_i e; subst e; rw [hO]; exact hl
  exact dW.refl _
 rw [aO]; split
 ·exact ho
 exact hk
theorem aOb {fn : Func} {O : aS} {R : List Rg → aS → DV → Prop} {rs : List Rg} {cs : List DV} (a t : Nat) (hf : fn.results = #[.cell a t]) (h1 : hi ρ = bT O) (h2 : ρ a = .bx cs) (h3 : eD P t = some (some cs.length)) (h4 : sh (.agg cs) = .agg cs) (hR : R rs O (.agg cs)) : aBu P fn O R .ret rs ρ :=
 ⟨O, .agg cs, jJ h1, fun _ => dW.refl _, fun _ h => h, by rw [hf]; exact ⟨rfl, cs, h2, .inl ⟨h3, by rw [h4]; exact dI.refl _⟩⟩, rfl, hR⟩
theorem aIz {fn : Func} {O : aS} {R : List Rg → aS → DV → Prop} {rs : List Rg} {s : Nat} {cs0 cs ds : List DV} (a t : Nat) (hf : fn.results = #[.cell a t]) (hO : O s = .bx cs0) (hl : cs0.length = cs.length) (hr : gT (· + 100000) cs = cs) (ho : dF (fun t => decide (100000 ≤ t)) cs = true) (hh : hi ρ = set (bT O) (s + 100000) (.bx cs))
  (h2 : ρ a = .bx ds) (h3 : eD P t = some (some ds.length)) (h4 : sh (.agg ds) = .agg ds) (hR : R rs (set O s (.bx cs)) (.agg ds)) : aBu P fn O R .ret rs ρ := by
 obtain ⟨k1, k2, k3⟩ := aLz hO hl hr ho hh
 exact ⟨_, .agg ds, k1, k2, k3, by rw [hf]; exact ⟨rfl, ds, h2, .inl ⟨h3, by rw [h4]; exact dI.refl _⟩⟩, rfl, hR⟩
theorem yX {fn : Func} {O : aS} {R : List Rg → aS → DV → Prop} {rs : List Rg} {s : Nat} {cs0 cs : List DV} {e : Exit} (he : e = .ret ∨ e = .normal) (hf : fn.results = #[]) (hO : O s = .bx cs0) (hl : cs0.length = cs.length) (hr : gT (· + 100000) cs = cs) (ho : dF (fun t => decide (100000 ≤ t)) cs = true) (hh : hi ρ = set (bT O) (s + 100000) (.bx cs))
  (hR : R rs (set O s (.bx cs)) (.tup [])) : aBu P fn O R e rs ρ := by
 obtain ⟨k1, k2, k3⟩ := aLz hO hl hr ho hh
 have key : ∃ O' r, (∀ s, ρ (s + 100000) = sh (O' s)) ∧ (∀ s, dW (O s) (O' s)) ∧ (∀ s, cM (O s) → cM (O' s)) ∧ lO P ρ fn.results.toList r ∧ bP r = false ∧ R rs O' r :=
  ⟨_, .tup [], k1, k2, k3, by rw [hf]; exact ⟨[], rfl, rfl, fun j v d h => by simp at h⟩, rfl, hR⟩
 rcases he with rfl | rfl <;> exact key
end
end Go.Sg
namespace Go.Sg
open Go.RowKit
open Go.Rv (FR)
def upB (b : Nat → Bool) (i : Nat) : Nat → Bool := fun j => if j = i then true else b j
theorem aPl (b : Nat → Bool) (i j : Nat) : upB b i j = if j = i then true else b j := rfl
def b0 (n : Nat) : Nat → Bool := fun i => !decide (i < n)
theorem aRi (n i : Nat) : b0 n i = !decide (i < n) := rfl
def j0 (b : Nat → Bool) : List Nat → Prop
 | [] => True
 | j :: r => b j = true ∧ j0 b r
def j8 (b : Nat → Bool) : List Nat → Prop
 | [] => True
 | j :: r => b j = false ∧ j8 b r
theorem aMa {b : Nat → Bool} : ∀ {r : List Nat}, (∀ j ∈ r, b j = true) → j0 b r
 | [], _ => trivial
 | j :: r, h => ⟨h j (by simp), aMa fun x hx => h x (by simp [hx])⟩
theorem aNr {b : Nat → Bool} : ∀ {r : List Nat}, (∀ j ∈ r, b j = false) → j8 b r
 | [], _ => trivial
 | j :: r, h => ⟨h j (by simp), aNr fun x hx => h x (by simp [hx])⟩
def sO (b : Nat → Bool) (i : Nat) (D U : List (List Nat)) : Prop := b i = false ∧ j0 b (D.getD i []) ∧ j8 b (U.getD i [])
def aOu (l : List Oper) (D : List (List Nat)) : Bool := (List.range l.length).all fun i => match l[i]? with
 | some o => (D.getD i []).all fun j => o.after.toList.any fun e => Region.binds .any e && (e.on == j || (D.getD e.on []).contains j)
 | none => true
def aPh (n : Nat) (D U : List (List Nat)) : Bool := (List.range n).all fun i => (U.getD i []).all fun x => decide (x < n) && (D.getD x []).contains i
def aRy (n : Nat) (D : List (List Nat)) (ls : Array Bool) : Prop := ∀ x, x < n → ls.getD x true = true → ∀ j ∈ D.getD x [], ls.getD j true = true
theorem aDy {ls : Array Bool} {i : Nat} (hi : i < ls.size) (j : Nat) : (ls.setIfInBounds i true).getD j true = if j = i then true else ls.getD j true := by
 simp only [Array.getD_eq_getD_getElem?, Array.getElem?_setIfInBounds]
 by_cases h : i = j
 ·subst h; simp [hi]
 rw [if_neg h, if_neg (fun e => h e.symm)]
theorem aLo {ls : Array Bool} {j : Nat} (h : ls.getD j false = true) : ls.getD j true = true := by
 simp only [Array.getD_eq_getD_getElem?] at *
 cases hx : ls[j]? with
 | none => rfl
 | some y => rw [hx] at h; exact h
def rN (ls : Array Bool) (n : Nat) : Nat := ((List.range n).filter fun i => !ls.getD i true).length
theorem aRx {ls : Array Bool} {n : Nat} (h : rN ls n = 0) {i : Nat} (hi : i < n) : ls.getD i true = true := by
 unfold rN at h
 have := List.eq_nil_of_length_eq_zero h
 rw [List.filter_eq_nil_iff] at this
 simpa using this i (by simpa using hi)
theorem aWy {ls : Array Bool} {n i : Nat} (hs : ls.size = n) (hi : i < n) (hf : ls.getD i true = false) : rN ls n = rN (ls.setIfInBounds i true) n + 1 := by
 unfold rN
 have key : ∀ m, m ≤ n → ((List.range m).filter fun j => !ls.getD j true).length = ((List.range m).filter fun j => !(ls.setIfInBounds i true).getD j true).length + (if i < m then 1 else 0) := by
  intro m
  induction m with
  | zero => intro _; simp
  | succ m ih =>
   intro hm
   rw [List.range_succ, List.filter_append, List.filter_append, List.length_append, List.length_append, ih (by omega)]
   have hg := aDy (ls := ls) (i := i) (by omega) m
   by_cases he : m = i
   ·subst he
    rw [if_pos rfl] at hg
    have a1 : ([m].filter fun j => !ls.getD j true) = [m] := by simp only [List.filter_cons, List.filter_nil, hf]; rfl
    have a2 : ([m].filter fun j => !(ls.setIfInBounds m true).getD j true) = [] := by simp only [List.filter_cons, List.filter_nil, hg]; rfl
    rw [a1, a2]; simp
   rw [if_neg he] at hg
   have a1 : ([m].filter fun j => !(ls.setIfInBounds i true).getD j true) = ([m].filter fun j => !ls.getD j true) := by simp only [List.filter_cons, List.filter_nil, hg]
   rw [a1]
   have a2 : (if i < m + 1 then 1 else 0 : Nat) = if i < m then 1 else 0 := by
    by_cases h1 : i < m
    ·rw [if_pos h1, if_pos (Nat.lt_succ_of_lt h1)]
    rw [if_neg h1, if_neg (by omega)]
   omega
 have := key n (Nat.le_refl _)
 rw [if_pos hi] at this
 exact this
theorem aWb (n : Nat) : rN (Array.replicate n false) n = n := by
 unfold rN
 rw [List.filter_eq_self.2]
 ·simp
 intro i hi
 have : i < n := by simpa using hi
 simp [Array.getD_eq_getD_getElem?, Array.getElem?_replicate, this]
theorem aQn {l : List Oper} {D : List (List Nat)} {ls : Array Bool} (hd : aOu l D = true) (hs : ls.size = l.length) (h : aRy l.length D ls) {i : Nat} {o : Oper} (ho : l[i]? = some o) (hdep : ∀ e ∈ o.after, Region.binds .any e = true → ls.getD e.on false = true) :
  (∀ j ∈ D.getD i [], ls.getD j true = true) ∧ aRy l.length D (ls.setIfInBounds i true) := by
 have hi : i < l.length := (List.getElem?_eq_some_iff.1 ho).1
 have h1 : ∀ j ∈ D.getD i [], ls.getD j true = true := fun j hj => by
  unfold aOu at hd
  have h2 := List.all_eq_true.1 hd i (by simpa using hi)
  rw [ho] at h2
  have h3 := List.all_eq_true.1 h2 j hj
  rw [List.any_eq_true] at h3
  obtain ⟨e, he, h4⟩ := h3
  rw [Bool.and_eq_true, Bool.or_eq_true] at h4
  have h5 := hdep e (by simpa using he) h4.1
  rcases h4.2 with h6 | h6
  ·rw [← show e.on = j by simpa using h6]; exact aLo h5
  have hlt : e.on < l.length := by
   rw [← hs]
   rcases Nat.lt_or_ge e.on ls.size with h | h
   ·exact h
   simp [Array.getD_eq_getD_getElem?, Array.getElem?_eq_none h] at h5
  exact h e.on hlt (aLo h5) j (by simpa using h6)
 refine ⟨h1, fun x hx hxt j hj => ?_⟩
 rw [aDy (by omega)] at hxt ⊢
 split
 ·rfl
 split at hxt
 ·rename_i hxi; subst hxi; exact h1 j hj
 exact h x hx hxt j hj
theorem aWn {l : List Oper} {D U : List (List Nat)} {ls : Array Bool} (hu : aPh l.length D U = true) (h : aRy l.length D ls) {i : Nat} (hi : i < l.length) (hf : ls.getD i true = false) (hd : ∀ j ∈ D.getD i [], ls.getD j true = true) : sO (fun i => ls.getD i true) i D U := by
 refine ⟨hf, aMa hd, aNr fun x hx => ?_⟩
 unfold aPh at hu
 have h2 := List.all_eq_true.1 (List.all_eq_true.1 hu i (by simpa using hi)) x hx
 rw [Bool.and_eq_true, decide_eq_true_eq] at h2
 show ls.getD x true = false
 cases hq : ls.getD x true with
 | false => rfl
 | true => have := h x h2.1 hq i (by simpa using h2.2); rw [this] at hf; cases hf
theorem aQz {ls : Array Bool} {i : Nat} (hi : i < ls.size) : (fun j => (ls.setIfInBounds i true).getD j true) = upB (fun j => ls.getD j true) i := funext fun j => by rw [aDy hi]; rfl
theorem vE (n : Nat) : (fun j => (Array.replicate n false).getD j true) = b0 n := funext fun j => by
 simp only [Array.getD_eq_getD_getElem?, Array.getElem?_replicate, b0]
 by_cases h : j < n <;> simp [h]
theorem aMr {ls : Array Bool} {n : Nat} (hs : ls.size = n) (h : rN ls n = 0) : (fun j => ls.getD j true) = fun _ => true := funext fun j => by
 rcases Nat.lt_or_ge j n with h1 | h1
 ·exact aRx h h1
 simp [Array.getD_eq_getD_getElem?, Array.getElem?_eq_none (show ls.size ≤ j by omega)]
theorem uD : ∀ (L : List Nat) (ρ : aS) (i : Nat), keepC L ρ i = if i ∈ L then ρ i else hi ρ i
 | [], ρ, i => by rw [aBj, if_neg (by simp)]
 | l :: L, ρ, i => by
  rw [rQ, aO]
  by_cases h : i = l
  ·subst h; rw [if_pos rfl, if_pos (by simp)]
  rw [if_neg h, uD L ρ i]
  by_cases h2 : i ∈ L
  ·rw [if_pos h2, if_pos (by simp [h2])]
  rw [if_neg h2, if_neg (by simp [h, h2])]
theorem vR (L : List Nat) (ρ : aS) : keepC L (keepC L ρ) = keepC L ρ := by
 funext i
 rw [uD L (keepC L ρ) i]
 split
 ·rfl
 rename_i h
 rw [uD L ρ i, if_neg h]
 unfold hi
 split
 ·rfl
 rw [uD L ρ i, if_neg h]; unfold hi; rename_i h2; rw [if_neg h2]
section
variable {P : Program} {nt : Nat} {ρ : aS}
theorem aCp {l : List Oper} {ls : Array Bool} (hs : ls.size = l.length) (h : rN ls l.length = 0) : (Region.ready .any l.toArray ls).isEmpty = true := by
 rw [List.isEmpty_iff]
 refine List.eq_nil_iff_forall_not_mem.2 fun i hi => ?_
 obtain ⟨hun, o, ho, _⟩ := mem_ready.1 hi
 have hi2 : i < l.length := (List.getElem?_eq_some_iff.1 (by simpa using ho : l[i]? = some o)).1
 rw [aRx h hi2] at hun; cases hun
theorem aFy {σ γ : Type} {F : σ → World → (Nat → Prop) → cO → Prop} {Q : Exit → σ → aS → Prop} {s : σ} (L : List Nat) (D U : List (List Nat)) (E : γ → (Nat → Bool) → aS) (S : γ → (Nat → Bool) → σ) (g0 : γ) {id : Nat} {l : List Oper} (hF : StF F) (hm : P.follows .mixedOrders = true) (hc : (vY l && (aOu l D && aPh l.length D U)) = true)
  (h0 : s = S g0 (b0 l.length)) (h1 : keepC L ρ = E g0 (b0 l.length))
  (hstep : ∀ (i : Nat) (o : Oper), l[i]? = some o → ∀ (g : γ) (b : Nat → Bool), sO b i D U → ∀ K : σ → aS → Prop, (∀ g' s' ρ', s' = S g' (upB b i) → keepC L ρ' = E g' (upB b i) → K s' ρ') → gN P nt F l.toArray o K (S g b) (E g b))
  (hend : ∀ g, Q .normal (S g fun _ => true) (E g fun _ => true)) : kB P nt F (.region id l.toArray true) Q s ρ := by
 simp only [Bool.and_eq_true] at hc
 obtain ⟨c1, c2, c3⟩ := hc
 refine aPj L hF hm fun Y hYm hY0 => ?_
 have main : ∀ (m : Nat) (ls : Array Bool) (g : γ) (ρ : aS), ls.size = l.length → rN ls l.length = m → aRy l.length D ls → keepC L ρ = E g (fun j => ls.getD j true) → Y m ls (S g fun j => ls.getD j true) ρ := by
  intro m
  induction m with
  | zero =>
   intro ls g ρ hs hc hI hρ
   refine hY0 _ L _ _ (aCp hs hc) ?_
   rw [hρ, aMr hs hc]; exact hend g
  | succ m ih =>
   intro ls g ρ hs hc hI hρ
   refine hYm m _ L _ _ c1 hs ?_ fun i o hun ho hdep => ?_
   ·refine Classical.byContradiction fun hn => ?_
    have : rN ls l.length = 0 := by
     unfold rN
     rw [List.length_eq_zero_iff, List.filter_eq_nil_iff]
     intro i hi
     cases hq : ls.getD i true with
     | true => simp
     | false => exact absurd ⟨i, by simpa using hi, hq⟩ hn
    omega
   have hi : i < l.length := (List.getElem?_eq_some_iff.1 ho).1
   obtain ⟨k1, k2⟩ := aQn c2 hs hI ho hdep
   rw [hρ]
   refine hstep i o ho g _ (aWn c3 hI hi hun k1) _ fun g' s' ρ' hs' hρ' => ?_
   rw [← aQz (by omega)] at hs' hρ'
   subst hs'
   refine ih _ g' ρ' (by simpa using hs) ?_ k2 hρ'
   have := aWy hs hi hun
   omega
 have := main l.length (Array.replicate l.length false) g0 (keepC L ρ) (by simp) (aWb _) (fun x hx hxt => by
  simp [Array.getD_eq_getD_getElem?, Array.getElem?_replicate, hx] at hxt) (by rw [vR, h1, vE])
 rw [vE, ← h0] at this
 exact this
theorem xP {Q : Exit → aS → Prop} (L fl : List Nat) (cl : List (Nat × Nat)) (D U : List (List Nat)) (E : (Nat → Bool) → aS) {id : Nat} {l : List Oper} (hm : P.follows .mixedOrders = true) (hc : (vY l && (aOu l D && aPh l.length D U)) = true) (hr : (iZ nt l && cl.all fun p => decide (p.1 < nt) && decide (p.2 < nt) && p.1 != p.2) = true)
  (h1 : keepC L ρ = E (b0 l.length))
  (hstep : ∀ (i : Nat) (o : Oper), l[i]? = some o → ∀ b : Nat → Bool, sO b i D U → ∀ K : aS → Prop, (∀ ρ', keepC L ρ' = E (upB b i) → K ρ') → qY P l o (fl.contains i) K (E b))
  (hend : clG cl (Q .normal) (E fun _ => true)) : AW P nt (.region id l.toArray true) Q ρ := by
 simp only [Bool.and_eq_true] at hc
 obtain ⟨c1, c2, c3⟩ := hc
 refine aHj L fl cl hm hr fun Y _ hYm hY0 => ?_
 have main : ∀ (m : Nat) (ls : Array Bool) (ρ : aS), ls.size = l.length → rN ls l.length = m → aRy l.length D ls → keepC L ρ = E (fun j => ls.getD j true) → Y m ls ρ := by
  intro m
  induction m with
  | zero =>
   intro ls ρ hs hc hI hρ
   refine hY0 _ L _ (aCp hs hc) ?_
   rw [hρ, aMr hs hc]; exact hend
  | succ m ih =>
   intro ls ρ hs hc hI hρ
   refine hYm m _ L _ c1 hs ?_ fun i o hun ho hdep => ?_
   ·refine Classical.byContradiction fun hn => ?_
    have : rN ls l.length = 0 := by
     unfold rN
     rw [List.length_eq_zero_iff, List.filter_eq_nil_iff]
     intro i hi
     cases hq : ls.getD i true with
     | true => simp
     | false => exact absurd ⟨i, by simpa using hi, hq⟩ hn
    omega
   have hi : i < l.length := (List.getElem?_eq_some_iff.1 ho).1
   obtain ⟨k1, k2⟩ := aQn c2 hs hI ho hdep
   rw [hρ]
   refine hstep i o ho _ (aWn c3 hI hi hun k1) _ fun ρ' hρ' => ?_
   rw [← aQz (by omega)] at hρ'
   refine ih _ ρ' (by simpa using hs) ?_ k2 hρ'
   have := aWy hs hi hun
   omega
 exact main l.length (Array.replicate l.length false) (keepC L ρ) (by simp) (aWb _) (fun x hx hxt => by
  simp [Array.getD_eq_getD_getElem?, Array.getElem?_replicate, hx] at hxt) (by rw [vR, h1, vE])
end
attribute [go_sem] aPl aRi
end Go.Sg
namespace Go.Sg
open Go.RowKit
open Go.Rv (FR)
section
variable {P : Program} {nt : Nat} {ρ O : aS}
inductive RO (P : Program) (ρ : aS) : List ResultVar → List DV → Prop
 | nil : RO P ρ [] []
 | cons {v : ResultVar} {r : DV} {vs : List ResultVar} {rs : List DV} (h : aAq P ρ v r) (t : RO P ρ vs rs) : RO P ρ (v :: vs) (r :: rs)
theorem RO.len {vs : List ResultVar} {rs : List DV} (h : RO P ρ vs rs) : rs.length = vs.length := by
 induction h with
 | nil => rfl
 | cons h t ih => simp [ih]
theorem RO.get {vs : List ResultVar} {rs : List DV} (h : RO P ρ vs rs) : ∀ (j : Nat) (v : ResultVar) (d : DV), vs[j]? = some v → rs[j]? = some d → aAq P ρ v d := by
 induction h with
 | nil => intro j v d h; simp at h
 | cons h t ih =>
  intro j v d hv hd
  cases j with
  | zero => simp at hv hd; subst hv; subst hd; exact h
  | succ j => exact ih j v d (by simpa using hv) (by simpa using hd)
theorem aEh {fn : Func} {a b : ResultVar} {vs : List ResultVar} {rs : List DV} (hf : fn.results.toList = a :: b :: vs) (h1 : hi ρ = bT O) (h : RO P ρ (a :: b :: vs) rs) : wH P fn O (fun O' r' => O' = O ∧ r' = .tup rs) .ret ρ :=
 y9 h1 (by rw [hf]; cases a <;> exact ⟨rs, rfl, h.len, h.get⟩)
theorem mC {t : Nat} {r : DV} (h : ρ t = r) (h1 : gC r = true) (h2 : sh r = r) : aAq P ρ (.tmp t) r := ⟨by rw [h]; exact h1, by rw [h, h2]; exact dI.refl _⟩
theorem roL {α : Type} [Inhabited α] {t z : Nat} {e : α → List DV} {l l' : List α} (h : ρ t = Sg.encL z e l') (hl : l' = l) : aAq P ρ (.tmp t) (Sg.encL z e l) := by
 subst hl; exact mC h rfl rfl
theorem roN {α : Type} [Inhabited α] {t z : Nat} {e : α → List DV} {l : List α} (h : ρ t = .v (.slice none 0 0)) (hl : l = []) : aAq P ρ (.tmp t) (Sg.encL z e l) := by
 subst hl; exact ⟨by rw [h]; rfl, by rw [h]; exact dI.nilL e⟩
end
section
variable {P : Program} {nt : Nat} {ρ : aS} {Q : Exit → aS → Prop} {c : Code}
theorem bCu (s : Nat) {cs ds : List DV} (hlt : (decide (s < 100000)) = true) (h : ρ s = .bx cs) (hw : mZ cs ds) (k : AW P nt c Q (set ρ s (.bx ds))) : AW P nt c Q ρ :=
 fun ro ds I A a w hs hd => k ro ds I A a w ⟨⟨fun t => by
   rw [aO]; split
   ·rename_i e
    subst e
    have ho := hs.osim.own t
    rw [h] at ho
    obtain ⟨g, c', us, et, h1, h2, h3, h4, h5⟩ := ho
    refine ⟨g, c', us, et, h1, h2, by rw [← hw.len]; exact h3, h4, fun j d u hdj hu => ?_⟩
    obtain ⟨d', q1, q2⟩ := hw.get j d hdj
    exact q2 _ _ _ _ (h5 j d' u q1 hu)
   ·exact hs.osim.own t, hs.osim.inj, hs.osim.sep, hs.osim.imm⟩, hs.size, hs.bound, fun i hi => by
   rw [aO]; split
   ·rename_i e
    subst e
    have := hs.slot i hi
    rw [h] at this
    exact this
   ·exact hs.slot i hi, fun t ht => by
   have := of_decide_eq_true hlt
   rw [aO, if_neg (by omega)]; exact hs.out t ht⟩ hd
end
theorem bCi (l : List Int) (i : Nat) (x : Int) : (l.map eI).set i [vi x] = (l.set i x).map eI := by rw [List.map_set]
theorem fV {α : Type} (d : α) {l : List α} {i : Nat} (h : i < l.length) : l.take (i + 1) = l.take i ++ [l.getD i d] := by
 rw [List.take_add_one, List.getD_eq_getElem?_getD, List.getElem?_eq_getElem h]; rfl
theorem bSc {t z n : Nat} {xs : List (List DV)} : (∃ e ys, DV.row t z xs = .row e z ys ∧ n ≤ ys.length) = (n ≤ xs.length) := by
 apply propext; constructor
 ·rintro ⟨_, _, h, h2⟩; cases h; exact h2
 intro h; exact ⟨_, _, rfl, h⟩
theorem bOt {k d : Nat} (h : d < 100000) : (k + 100000 != d) = true := by simp; omega
theorem bSf {k d : Nat} (h : d < 100000) : (k + 100000 = d) = False := by simp; omega
theorem dI.slW {z n : Nat} {f g : Nat → List DV} (h : ∀ i, i < n → mZ (f i) (g i)) : dI (.sl z n f) (.sl z n g) := fun w I A x hr => by
 cases hr with
 | sl0 _ _ _ b c => exact .sl0 A z g b c
 | sl _ _ _ _ b o c us hn hc hm hI hz hcell hone hrel =>
  refine .sl A z n g b o c us hn hc hm hI (fun i hi => by rw [← (h i hi).len]; exact hz i hi) hcell hone (fun i j d hi hd => ?_)
  obtain ⟨d', h1, h2⟩ := (h i hi).get j d hd
  exact h2 _ _ _ _ (hrel i j d' hi h1)
theorem dI.aggL {cs ds : List DV} (h : mZ cs ds) : dI (.agg cs) (.agg ds) := fun w I A x hr => by
 cases hr with
 | agg _ _ vs hl hone hrel =>
  refine .agg A ds vs (by rw [← h.len]; exact hl) hone fun j d u hd hu => ?_
  obtain ⟨d', h1, h2⟩ := h.get j d hd
  exact h2 _ _ _ _ (hrel j d' u h1 hu)
def eLI (l : List Int) : List DV := [dL l]
theorem bFy (l : List (List Int)) (x : List Int) : l.map eLI ++ [[.sl 1 x.length fun i => eI (x.getD i default)]] = (l ++ [x]).map eLI := by simp [eLI, encL]
attribute [go_sem] eLI bFy
attribute [go_sem] bCi bSc bOt bSf
end Go.Sg
namespace Go.Sg
structure Wr (q : Prop) : Prop where
 out : q
theorem rF {p q : Prop} (k : q) (h : Wr q → p := by intro hk; (try simp (config := {maxSteps := 2000000}) only [go_sem, seval]); (try simp (config := {maxSteps := 2000000}) (disch := omega) only [go_sem, seval]); (repeat refine And.intro bS ?_); exact hk.out) : p := h ⟨k⟩
section
variable {P : Program} {nt : Nat} {ρ ρ' : aS}
theorem aC {id : Nat} {l : List Oper} {y : Code} {Q : Exit → aS → Prop} (L : List Nat) (k : AW P nt y Q ρ') (hr : iZ nt l = true := by kernel_rfl) (h : ∀ K : aS → Prop, K ρ' → pw P l K l ⟨⟩ (keepC L ρ) := by intro K hk; (try simp (config := {maxSteps := 2000000}) only [go_sem, seval]); (try simp (config := {maxSteps := 2000000}) (disch := omega) only [go_sem, seval]); (repeat refine And.intro bS ?_); exact hk) : AW P nt (.seq (.region id l.toArray false) y) Q ρ :=
 aA fun K hK => aX L hr (h K (hK ρ' k))
theorem bE {id : Nat} {l : List Oper} {Q : Exit → aS → Prop} (L : List Nat) (k : Q .normal ρ') (hr : iZ nt l = true := by kernel_rfl) (h : ∀ K : aS → Prop, K ρ' → pw P l K l ⟨⟩ (keepC L ρ) := by intro K hk; (try simp (config := {maxSteps := 2000000}) only [go_sem, seval]); (try simp (config := {maxSteps := 2000000}) (disch := omega) only [go_sem, seval]); (repeat refine And.intro bS ?_); exact hk) : AW P nt (.region id l.toArray false) Q ρ :=
 aX L hr (h (Q .normal) k)
end
section
variable {σ : Type} {P : Program} {nt : Nat} {F : σ → World → (Nat → Prop) → cO → Prop} {s : σ} {ρ ρ' : aS}
theorem bD {id : Nat} {l : List Oper} {y : Code} {Q : Exit → σ → aS → Prop} (hF : StF F) (L : List Nat) (k : kB P nt F y Q s ρ') (hr : iZ nt l = true := by kernel_rfl) (h : ∀ K : aS → Prop, K ρ' → pw P l K l ⟨⟩ (keepC L ρ) := by intro K hk; (try simp (config := {maxSteps := 2000000}) only [go_sem, seval]); (try simp (config := {maxSteps := 2000000}) (disch := omega) only [go_sem, seval]); (repeat refine And.intro bS ?_); exact hk) : kB P nt F (.seq (.region id l.toArray false) y) Q s ρ :=
 aT fun K hK => fD hF (aX L hr (h (K s) (hK s ρ' k)))
theorem dS {id : Nat} {l : List Oper} {Q : Exit → σ → aS → Prop} (hF : StF F) (L : List Nat) (k : Q .normal s ρ') (hr : iZ nt l = true := by kernel_rfl) (h : ∀ K : aS → Prop, K ρ' → pw P l K l ⟨⟩ (keepC L ρ) := by intro K hk; (try simp (config := {maxSteps := 2000000}) only [go_sem, seval]); (try simp (config := {maxSteps := 2000000}) (disch := omega) only [go_sem, seval]); (repeat refine And.intro bS ?_); exact hk) : kB P nt F (.region id l.toArray false) Q s ρ :=
 fD hF (aX L hr (h (Q .normal s) k))
end
theorem dC {p : Prop} (h : p := by ((try simp (config := {maxSteps := 2000000}) only [go_sem, seval]); (try simp (config := {maxSteps := 2000000}) (disch := omega) only [go_sem, seval])) <;> first | rfl | omega | simp | simp_all) : p := h
theorem eqs {p : Prop} (h : p := by ((try simp (config := {maxSteps := 2000000}) only [go_sem, seval]); (try simp (config := {maxSteps := 2000000}) (disch := omega) only [go_sem, seval])) <;> first | rfl | simp) : p := h
theorem mkp {a b c q : Prop} (ho : a) (hb : b) (hK : c) (h : a → b → c → q := by
 intro hoQ hbQ hKQ; obtain rfl := Option.some.inj hoQ; simp only [sO, j0, j8, List.getD_cons_succ, List.getD_cons_zero, List.getD_nil, and_true, true_and] at hbQ
 first | show qY _ _ _ false _ _ | show qY _ _ _ true _ _
 (try simp (config := {maxSteps := 2000000}) only [go_sem, seval, hbQ]); (try simp (config := {maxSteps := 2000000}) (disch := omega) only [go_sem, seval, hbQ]); (repeat refine And.intro bS ?_); refine hKQ _ ?_; ((try simp (config := {maxSteps := 2000000}) only [go_sem, seval, hbQ]); (try simp (config := {maxSteps := 2000000}) (disch := omega) only [go_sem, seval, hbQ])) <;> first | rfl | simp) : q := h ho hb hK
theorem mkc {a b c d q : Prop} (ho : a) (hb : b) (hK : c) (hc : d) (h : a → b → c → d → q := by
 intro hoQ hbQ hKQ hcQ; obtain rfl := Option.some.inj hoQ; simp only [sO, j0, j8, List.getD_cons_succ, List.getD_cons_zero, List.getD_nil, and_true, true_and] at hbQ
 first | show qY _ _ _ false _ _ | show qY _ _ _ true _ _
 (try simp (config := {maxSteps := 2000000}) only [go_sem, seval, hbQ]); (try simp (config := {maxSteps := 2000000}) (disch := omega) only [go_sem, seval, hbQ]); (repeat refine And.intro bS ?_); refine dJ hcQ ?_ ?_; rfl; (try simp (config := {maxSteps := 2000000}) only [go_sem, seval, hbQ]); (try simp (config := {maxSteps := 2000000}) (disch := omega) only [go_sem, seval, hbQ]); (repeat refine And.intro bS ?_); refine hKQ _ ?_; ((try simp (config := {maxSteps := 2000000}) only [go_sem, seval, hbQ]); (try simp (config := {maxSteps := 2000000}) (disch := omega) only [go_sem, seval, hbQ])) <;> first | rfl | simp) : q := h ho hb hK hc
theorem mfp {a b c e q : Prop} (hF : e) (ho : a) (hb : b) (hK : c) (h : e → a → b → c → q := by
 intro hF hoQ hbQ hKQ; obtain rfl := Option.some.inj hoQ; simp only [sO, j0, j8, List.getD_cons_succ, List.getD_cons_zero, List.getD_nil, and_true, true_and] at hbQ
 show gN _ _ _ _ _ _ _ _; refine dT hF ?_; refine cS rfl (by kernel_rfl) (by kernel_rfl) ?_
 (try simp (config := {maxSteps := 2000000}) only [go_sem, seval, hbQ]); (try simp (config := {maxSteps := 2000000}) (disch := omega) only [go_sem, seval, hbQ]); (repeat refine And.intro bS ?_); refine hKQ _ _ ?_ ?_; focus (first | rfl | (((try simp (config := {maxSteps := 2000000}) only [go_sem, seval, hbQ]); (try simp (config := {maxSteps := 2000000}) (disch := omega) only [go_sem, seval, hbQ])); done) | (((try simp (config := {maxSteps := 2000000}) only [go_sem, seval, hbQ]); (try simp (config := {maxSteps := 2000000}) (disch := omega) only [go_sem, seval, hbQ])) <;> rfl))
 ((try simp (config := {maxSteps := 2000000}) only [go_sem, seval, hbQ]); (try simp (config := {maxSteps := 2000000}) (disch := omega) only [go_sem, seval, hbQ])) <;> first | rfl | simp) : q := h hF ho hb hK
theorem mfc {a b c d e q : Prop} (hF : e) (ho : a) (hb : b) (hK : c) (hc : d) (h : e → a → b → c → d → q := by
 intro hF hoQ hbQ hKQ hcQ; obtain rfl := Option.some.inj hoQ; simp only [sO, j0, j8, List.getD_cons_succ, List.getD_cons_zero, List.getD_nil, and_true, true_and] at hbQ
 show gN _ _ _ _ _ _ _ _; refine dT hF ?_; refine cS rfl (by kernel_rfl) (by kernel_rfl) ?_
 (try simp (config := {maxSteps := 2000000}) only [go_sem, seval, hbQ]); (try simp (config := {maxSteps := 2000000}) (disch := omega) only [go_sem, seval, hbQ]); (repeat refine And.intro bS ?_); refine fP _ hcQ ?_; (try simp (config := {maxSteps := 2000000}) only [go_sem, seval, hbQ]); (try simp (config := {maxSteps := 2000000}) (disch := omega) only [go_sem, seval, hbQ]); (repeat refine And.intro bS ?_); refine hKQ _ _ ?_ ?_; focus (first | rfl | (((try simp (config := {maxSteps := 2000000}) only [go_sem, seval, hbQ]); (try simp (config := {maxSteps := 2000000}) (disch := omega) only [go_sem, seval, hbQ])); done) | (((try simp (config := {maxSteps := 2000000}) only [go_sem, seval, hbQ]); (try simp (config := {maxSteps := 2000000}) (disch := omega) only [go_sem, seval, hbQ])) <;> rfl))
 ((try simp (config := {maxSteps := 2000000}) only [go_sem, seval, hbQ]); (try simp (config := {maxSteps := 2000000}) (disch := omega) only [go_sem, seval, hbQ])) <;> first | rfl | simp) : q := h hF ho hb hK hc
section
variable {P : Program} {nt : Nat} {ρ : aS}
theorem aCg {Q : Exit → aS → Prop} (n : Nat) (Lv L fl : List Nat) (cl : List (Nat × Nat)) (D U : List (List Nat)) (E : (Nat → Bool) → aS) {id : Nat} {l : List Oper}
  (hstep : ∀ (i : Nat), i < n → ∀ (o : Oper), l[i]? = some o → ∀ b : Nat → Bool, sO b i D U → ∀ K : aS → Prop, (∀ ρ', keepC L ρ' = E (upB b i) → K ρ') → qY P l o (fl.contains i) K (E b))
  (hend : clG cl (Q .normal) (E fun _ => true)) (hm : P.follows .mixedOrders = true := by exact fH) (hn : l.length = n := by rfl) (hc : (vY l && (aOu l D && aPh l.length D U)) = true := by kernel_rfl)
  (hr : (iZ nt l && cl.all fun p => decide (p.1 < nt) && decide (p.2 < nt) && p.1 != p.2) = true := by kernel_rfl)
  (h1 : keepC L (keepC Lv ρ) = E (b0 l.length) := by ((try simp (config := {maxSteps := 2000000}) only [go_sem, seval]); (try simp (config := {maxSteps := 2000000}) (disch := omega) only [go_sem, seval])) <;> first | rfl | simp) : AW P nt (.region id l.toArray true) Q ρ :=
 cH (Le.keepC Lv _) (xP L fl cl D U E hm hc hr h1 (fun i o ho b hb K hK => hstep i (by rw [← hn]; exact (List.getElem?_eq_some_iff.1 ho).1) o ho b hb K hK) hend)
theorem aEu {σ γ : Type} {F : σ → World → (Nat → Prop) → cO → Prop} {Q : Exit → σ → aS → Prop} {s : σ} (n : Nat) (Lv L : List Nat) (D U : List (List Nat)) (E : γ → (Nat → Bool) → aS) (S : γ → (Nat → Bool) → σ) (g0 : γ) {id : Nat} {l : List Oper} (hF : StF F)
  (hstep : ∀ (i : Nat), i < n → ∀ (o : Oper), l[i]? = some o → ∀ (g : γ) (b : Nat → Bool), sO b i D U → ∀ K : σ → aS → Prop, (∀ g' s' ρ', s' = S g' (upB b i) → keepC L ρ' = E g' (upB b i) → K s' ρ') → gN P nt F l.toArray o K (S g b) (E g b))
  (hend : ∀ g, Q .normal (S g fun _ => true) (E g fun _ => true)) (hm : P.follows .mixedOrders = true := by exact fH) (hn : l.length = n := by rfl) (hc : (vY l && (aOu l D && aPh l.length D U)) = true := by kernel_rfl)
  (h0 : s = S g0 (b0 l.length) := by first | rfl | (((try simp (config := {maxSteps := 2000000}) only [go_sem, seval]); (try simp (config := {maxSteps := 2000000}) (disch := omega) only [go_sem, seval])); done) | (((try simp (config := {maxSteps := 2000000}) only [go_sem, seval]); (try simp (config := {maxSteps := 2000000}) (disch := omega) only [go_sem, seval])) <;> rfl)) (h1 : keepC L (keepC Lv ρ) = E g0 (b0 l.length) := by ((try simp (config := {maxSteps := 2000000}) only [go_sem, seval]); (try simp (config := {maxSteps := 2000000}) (disch := omega) only [go_sem, seval])) <;> first | rfl | simp) : kB P nt F (.region id l.toArray true) Q s ρ :=
 bK (Le.keepC Lv _) (aFy L D U E S g0 hF hm hc h0 h1 (fun i o ho g b hb K hK => hstep i (by rw [← hn]; exact (List.getElem?_eq_some_iff.1 ho).1) o ho g b hb K hK) hend)
theorem aV {x : Operand} {c d : Code} {b : Bool} {p q : Prop} {Q : Exit → aS → Prop} (ht : p → AW P nt c Q ρ) (hf : q → AW P nt d Q ρ) (ho : nL nt x = true := by rfl) (hx : ev ρ x = .v (.bool b) := by exact rfl)
  (hp : b = true → Wr p := by intro c; (try simp only [push_cast] at c); exact ⟨c⟩) (hq : b = false → Wr q := by intro c; (try simp only [push_cast] at c); exact ⟨c⟩) : AW P nt (.cond x c d) Q ρ :=
 qI b ho hx (fun h => ht (hp h).out) (fun h => hf (hq h).out)
theorem cJ {σ : Type} {F : σ → World → (Nat → Prop) → cO → Prop} {s : σ} {x : Operand} {c d : Code} {b : Bool} {p q : Prop} {Q : Exit → σ → aS → Prop} (ht : p → kB P nt F c Q s ρ) (hf : q → kB P nt F d Q s ρ) (ho : nL nt x = true := by rfl) (hx : ev ρ x = .v (.bool b) := by exact rfl)
  (hp : b = true → Wr p := by intro c; (try simp only [push_cast] at c); exact ⟨c⟩) (hq : b = false → Wr q := by intro c; (try simp only [push_cast] at c); exact ⟨c⟩) : kB P nt F (.cond x c d) Q s ρ :=
 zS b ho hx (fun h => ht (hp h).out) (fun h => hf (hq h).out)
theorem ef {σ : Type} {F : σ → World → (Nat → Prop) → cO → Prop} {s : σ} {ops : Array Oper} {o : Oper} {K : σ → aS → Prop} {q : Prop} (hF : StF F) (k : q) (hg : o.guard = none := by rfl) (ho : dA nt o = true := by kernel_rfl) (hd : eO nt o = true := by kernel_rfl)
  (h : Wr q → fJ P ρ o.op o.dst (K s) := by intro hk; (try simp (config := {maxSteps := 2000000}) only [go_sem, seval]); (try simp (config := {maxSteps := 2000000}) (disch := omega) only [go_sem, seval]); (repeat refine And.intro bS ?_); exact hk.out) : gN P nt F ops o K s ρ := dT hF (cS hg ho hd (h ⟨k⟩))
theorem ez {ops : Array Oper} {o : Oper} {K : aS → Prop} {q : Prop} (k : q) (hg : o.guard = none := by rfl) (ho : dA nt o = true := by kernel_rfl) (hd : eO nt o = true := by kernel_rfl)
  (h : Wr q → fJ P ρ o.op o.dst K := by intro hk; (try simp (config := {maxSteps := 2000000}) only [go_sem, seval]); (try simp (config := {maxSteps := 2000000}) (disch := omega) only [go_sem, seval]); (repeat refine And.intro bS ?_); exact hk.out) : OW P nt ops o K ρ := cS hg ho hd (h ⟨k⟩)
theorem eL {f : FuncId} {l : List DV} {k : aS → DV → Prop} {t : Tg k} {r : DV} {q : Prop} (h : aY P ρ f l r) (k' : q) (hk : Wr q → k ρ r := by intro hk; (try simp (config := {maxSteps := 2000000}) only [go_sem, seval]); (try simp (config := {maxSteps := 2000000}) (disch := omega) only [go_sem, seval]); (repeat refine And.intro bS ?_); exact hk.out) : aCa P ρ f l k t := fP r h (hk ⟨k'⟩)
theorem cdz {f : FuncId} {l : List DV} {k : DV → Prop} {t : Tg k} {r : DV} {q : Prop} (h : aY P ρ f l r) (k' : q) (hr : bP r = false := by rfl) (hk : Wr q → k r := by intro hk; (try simp (config := {maxSteps := 2000000}) only [go_sem, seval]); (try simp (config := {maxSteps := 2000000}) (disch := omega) only [go_sem, seval]); (repeat refine And.intro bS ?_); exact hk.out) : aGn P ρ f l k t := dJ h hr (hk ⟨k'⟩)
theorem cW {fn : Func} {O : aS} {r : DV} (t : Nat) (h2 : dE ρ t r) (hf : fn.results = #[.tmp t] := by rfl) (h1 : hi ρ = bT O := by (try simp (config := {maxSteps := 2000000}) only [go_sem, seval]); (try simp (config := {maxSteps := 2000000}) (disch := omega) only [go_sem, seval])) : wH P fn O (fun O' r' => O' = O ∧ r' = r) .ret ρ := cK t hf h1 h2
theorem xD {fn : Func} {O : aS} {a b : ResultVar} {vs : List ResultVar} {rs : List DV} (h : RO P ρ (a :: b :: vs) rs) (hf : fn.results.toList = a :: b :: vs := by rfl) (h1 : hi ρ = bT O := by (try simp (config := {maxSteps := 2000000}) only [go_sem, seval]); (try simp (config := {maxSteps := 2000000}) (disch := omega) only [go_sem, seval])) : wH P fn O (fun O' r' => O' = O ∧ r' = .tup rs) .ret ρ := aEh hf h1 h
theorem xb {t : Nat} {a b : Bool} (k : a = b) (h : a = b → ρ t = vb b := by intro hk; (try simp (config := {maxSteps := 2000000}) only [go_sem, seval]); (try simp (config := {maxSteps := 2000000}) (disch := omega) only [go_sem, seval]); exact congrArg vb hk) : dE ρ t (vb b) := dE.is (h k) rfl rfl
theorem xd {t : Nat} {b : Bool} (h : ρ t = vb b := by ((try simp (config := {maxSteps := 2000000}) only [go_sem, seval]); (try simp (config := {maxSteps := 2000000}) (disch := omega) only [go_sem, seval])) <;> refine congrArg vb ?_ <;> first | rfl | exact bI | simp) : dE ρ t (vb b) := dE.is h rfl rfl
theorem bL {id : Nat} {l : List Oper} {Q : Exit → aS → Prop} {q : Prop} (L : List Nat) (k : q) (hr : iZ nt l = true := by kernel_rfl) (h : Wr q → pw P l (Q .normal) l ⟨⟩ (keepC L ρ) := by intro hk; (try simp (config := {maxSteps := 2000000}) only [go_sem, seval]); (try simp (config := {maxSteps := 2000000}) (disch := omega) only [go_sem, seval]); (repeat refine And.intro bS ?_); exact hk.out) : AW P nt (.region id l.toArray false) Q ρ := aX L hr (h ⟨k⟩)
theorem e9 {σ : Type} {F : σ → World → (Nat → Prop) → cO → Prop} {s : σ} {id : Nat} {l : List Oper} {Q : Exit → σ → aS → Prop} {q : Prop} (hF : StF F) (L : List Nat) (k : q) (hr : iZ nt l = true := by kernel_rfl) (h : Wr q → pw P l (Q .normal s) l ⟨⟩ (keepC L ρ) := by intro hk; (try simp (config := {maxSteps := 2000000}) only [go_sem, seval]); (try simp (config := {maxSteps := 2000000}) (disch := omega) only [go_sem, seval]); (repeat refine And.intro bS ?_); exact hk.out) : kB P nt F (.region id l.toArray false) Q s ρ := fD hF (aX L hr (h ⟨k⟩))
theorem gY {id : Nat} {l : List Oper} {Q : Exit → aS → Prop} {q : Prop} (L : List Nat) (cl : List (Nat × Nat)) (k : q) (hm : P.follows .mixedOrders = true := by exact fH)
  (hr : (iZ nt l && aGr l l.length 0 (Array.replicate l.length false) && cl.all fun p => decide (p.1 < nt) && decide (p.2 < nt) && p.1 != p.2) = true := by kernel_rfl) (h : Wr q → pwD P l (clG cl (Q .normal)) l ⟨⟩ (keepC L ρ) := by intro hk; (try simp (config := {maxSteps := 2000000}) only [go_sem, seval]); (try simp (config := {maxSteps := 2000000}) (disch := omega) only [go_sem, seval]); (repeat refine And.intro bS ?_); exact hk.out) : AW P nt (.region id l.toArray true) Q ρ := eV L cl hm hr (h ⟨k⟩)
theorem lB {g : Bool} {pre : Prop} {f : FuncId} {l : List DV} {k : DV → Prop} {t : Tg k} {r : DV} {q : Prop} (h : g = true → aY P ρ f l r) (k' : q) (hp : g = true → pre := by first | exact fun _ => trivial | simp) (hr : gC r = true := by rfl) (hk : Wr q → k r := by intro hk; (try simp (config := {maxSteps := 2000000}) only [go_sem, seval]); (try simp (config := {maxSteps := 2000000}) (disch := omega) only [go_sem, seval]); (repeat refine And.intro bS ?_); exact hk.out) : aFz P ρ g pre f l k t := jB h hp hr (hk ⟨k'⟩)
theorem eE {f : FuncId} {c : Code} {O : aS} {args : List DV} {fn : Func} {r : DV} (hf : P.funcs[f]? = some fn) (h : AW P fn.ntmps c (wH P fn O fun O' r' => O' = O ∧ r' = r) (lA O args)) (hb : fn.body = some c := by exact rfl)
  (hn : (decide (args.length ≤ fn.ntmps) && decide (fn.ntmps ≤ 100000) && fn.results.toList.all (fun v => match v with | .tmp t => decide (t < fn.ntmps) | .cell t _ => decide (t < fn.ntmps))) = true := by kernel_rfl) : aY P O f args r := aGv hf hb hn h
end
end Go.Sg
