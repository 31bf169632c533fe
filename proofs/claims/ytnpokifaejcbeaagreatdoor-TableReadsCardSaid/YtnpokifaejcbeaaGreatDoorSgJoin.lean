/- Regions that draw their order, walked set of operations by set of operations: what has been done decides the environment. -/
import Derived.Test.YtnpokifaejcbeaaGreatDoorSgPerm
set_option linter.unusedVariables false
set_option linter.unusedSimpArgs false
namespace Go.Sg
open Go.RowKit

section
variable {P : Program} {nt : Nat} {ρ : Env}

/-- One operation comes up. -/
def opX (P : Program) (fl : List Nat) (l : List Oper) (i : Nat) (K : Env → Prop) (ρ : Env) : Prop :=
  match l[i]? with
  | none => False
  | some o => opI P l o (fl.contains i) K ρ

theorem opI_ow (hnt : nt ≤ 100000) {l : List Oper} {o : Oper} {i : Nat} {f : Bool} {K : Env → Prop} (hr : regOk nt l = true) (hgo : l.all gOk = true) (hi : l[i]? = some o) (h : opI P l o f K ρ) : OW P nt l.toArray o K ρ := by
  obtain ⟨h1, h2⟩ := regOk_get hr hi
  unfold opI at h
  split at h
  · rename_i hg
    split at h
    · exact effF_ok hnt hg h1 h2 h
    · rename_i hf hp
      obtain ⟨d, k1, k2⟩ := prG_eff (all := l) hg h
      simp only [Bool.and_eq_true] at hp
      exact ow_effP (regOk_dst hr) h1 h2 hp.2 k1 k2
    · exact effG_ok hg h1 h2 h
  · rename_i j want hg
    split at h
    · exact h.elim
    · have hgk := List.all_eq_true.1 hgo o (List.mem_of_getElem? hi)
      unfold gOk at hgk
      rw [hg] at hgk
      simp only [Option.isNone_some, Bool.false_or] at hgk
      obtain ⟨d, k1, k2⟩ := gdG_eff hg hgk h
      simp only [Bool.and_eq_true] at hgk
      exact ow_effP (regOk_dst hr) h1 h2 hgk.2 k1 k2

theorem opX_of {fl : List Nat} {l : List Oper} {i : Nat} {o : Oper} {f : Bool} {K : Env → Prop} (h : l[i]? = some o) (hf : fl.contains i = f) (hk : opI P l o f K ρ) : opX P fl l i K ρ := by
  unfold opX; rw [h, hf]; exact hk

def anyX (P : Program) (fl : List Nat) (l : List Oper) (k : Env → Prop) : Nat → Array Bool → Env → Prop
  | 0, listed, ρ => Region.ready .any l.toArray listed = [] ∧ ∃ ρ', Le ρ ρ' ∧ k ρ'
  | fuel + 1, listed, ρ => ∃ ρ', Le ρ ρ' ∧ (Region.ready .any l.toArray listed = [] → k ρ') ∧ ∀ i ∈ Region.ready .any l.toArray listed, opX P fl l i (anyX P fl l k fuel (listed.setIfInBounds i true)) ρ'

theorem anyX_sound {fl : List Nat} {l : List Oper} {k : Env → Prop} {Q' : Exit → Act → World → Prop} (hr : regOk nt l = true) (hgo : l.all gOk = true) : ∀ (fuel : Nat) (listed : Array Bool) (ρ : Env) (I : Nat → Prop) (A : Own) (a : Act) (w : World),
    anyX P fl l k fuel listed ρ → Sim nt w I A ρ a → a.defers = [] →
    (∀ I' A' a' w' ρ', Sim nt w' I' A' ρ' a' → a'.defers = [] → Ext w I A w' I' A' → k ρ' → Q' .normal a' w') → wpAny P .any l.toArray Q' fuel listed a w
  | 0, listed, ρ, I, A, a, w, h, hs, hd, hk => by
    obtain ⟨h1, ρ', hl, h2⟩ := h
    exact ⟨h1, hk I A a w ρ' (hs.weaken hl) hd (Ext.refl _ _ _) h2⟩
  | fuel + 1, listed, ρ, I, A, a, w, h, hs, hd, hk => by
    obtain ⟨ρ', hl, h1, h2⟩ := h
    have hs := hs.weaken hl
    refine ⟨fun h0 => hk I A a w ρ' hs hd (Ext.refl _ _ _) (h1 h0), fun i hi => ?_⟩
    have h2 := h2 i hi
    have rec_ : ∀ I' A' a' w' ρ'', Sim nt w' I' A' ρ'' a' → a'.defers = [] → Ext w I A w' I' A' → anyX P fl l k fuel (listed.setIfInBounds i true) ρ'' → wpAny P .any l.toArray Q' fuel (listed.setIfInBounds i true) a' w' :=
      fun I' A' a' w' ρ'' q1 q2 q3 q4 => anyX_sound hr hgo fuel _ ρ'' I' A' a' w' q4 q1 q2 fun I2 A2 a2 w2 ρ2 k1 k2 k3 k4 => hk I2 A2 a2 w2 ρ2 k1 k2 (q3.trans k3) k4
    unfold wpOp
    unfold opX at h2
    simp only [List.getElem?_toArray]
    split
    · rename_i ho
      rw [ho] at h2
      exact h2.elim
    · rename_i o ho
      rw [ho] at h2
      have := opI_ow hs.bound hr hgo ho h2 I A a w hs hd (wpAny P .any l.toArray Q' fuel (listed.setIfInBounds i true)) Q' rec_
      split at this
      · rename_i hw; rw [if_pos hw]; exact .inl this
      · rename_i hw; rw [if_neg hw]; exact this

def clQ (cl : List (Nat × Nat)) (Q : Exit → Env → Prop) : Exit → Env → Prop
  | .normal, ρ => clG cl (Q .normal) ρ
  | e, ρ => Q e ρ
theorem aw_claimsQ {cl : List (Nat × Nat)} {c : Code} {Q : Exit → Env → Prop} (hc : (cl.all fun p => decide (p.1 < nt) && decide (p.2 < nt) && p.1 != p.2) = true) (h : AW P nt c (clQ cl Q) ρ) : AW P nt c Q ρ :=
  aw_claims hc (aw_mono h fun e ρ h => by cases e <;> exact h)

/-- Every operation waits for earlier ones only. -/
def backE (l : List Oper) : Bool := (List.range l.length).all fun i => match l[i]? with
  | some o => o.after.all fun e => !Region.binds .any e || decide (e.on < i)
  | none => true
theorem ready_ne {l : List Oper} {listed : Array Bool} (hb : backE l = true) (hsz : listed.size = l.length) (h : ∃ i, i < l.length ∧ listed.getD i true = false) : Region.ready .any l.toArray listed ≠ [] := by
  have key : ∀ i, i < l.length → listed.getD i true = false → ∃ j, j ∈ Region.ready .any l.toArray listed := by
    intro i
    induction i using Nat.strongRecOn with
    | _ i ih =>
      intro hi hun
      have ho : l[i]? = some l[i] := List.getElem?_eq_getElem hi
      by_cases hd : ∀ e ∈ l[i].after, Region.binds .any e = true → listed.getD e.on false = true
      · exact ⟨i, mem_ready.2 ⟨hun, l[i], by simp, hd⟩⟩
      · simp only [Classical.not_forall] at hd
        obtain ⟨e, he, hbi, hl⟩ := hd
        have hlt : e.on < i := by
          unfold backE at hb
          rw [List.all_eq_true] at hb
          have := hb i (by simpa using hi)
          rw [ho] at this
          have := Array.all_eq_true'.1 this e he
          rw [hbi] at this
          simpa using this
        refine ih e.on hlt (by omega) ?_
        have hs : e.on < listed.size := by omega
        simp [Array.getElem?_eq_getElem hs] at hl ⊢
        exact hl
  obtain ⟨i, hi, hun⟩ := h
  obtain ⟨j, hj⟩ := key i hi hun
  intro h0
  rw [h0] at hj
  cases hj

/-- All of a list. -/
def allS (p : Nat → Prop) : List Nat → Prop
  | [] => True
  | i :: r => p i ∧ allS p r
theorem allS_mem {p : Nat → Prop} : ∀ {r : List Nat}, allS p r → ∀ i ∈ r, p i
  | [], _, i, h => by simp at h
  | j :: r, h, i, hi => by
    rcases List.mem_cons.1 hi with rfl | hi
    · exact h.1
    · exact allS_mem h.2 i hi

/-- A drawn region: Y is what remains to be shown, for each set of operations that are done. -/
theorem aw_drawX (L fl : List Nat) (cl : List (Nat × Nat)) {id : Nat} {l : List Oper} {Q : Exit → Env → Prop} (hm : P.follows .mixedOrders = true) (hr : (regOk2 nt l && cl.all fun p => decide (p.1 < nt) && decide (p.2 < nt) && p.1 != p.2) = true)
    (h : ∀ Y : Nat → Array Bool → Env → Prop, (∀ (n : Nat) (listed : Array Bool) (L : List Nat) (rd : List Nat) (ρ : Env), (Region.ready .any l.toArray listed == rd) = true → rd.isEmpty = false → allS (fun i => opX P fl l i (Y n (listed.setIfInBounds i true)) (keepC L ρ)) rd → Y (n + 1) listed ρ) →
      (∀ (n : Nat) (listed : Array Bool) (L : List Nat) (ρ : Env), backE l = true → listed.size = l.length → (∃ i, i < l.length ∧ listed.getD i true = false) → (∀ (i : Nat) (o : Oper), listed.getD i true = false → l[i]? = some o → (∀ e ∈ o.after, Region.binds .any e = true → listed.getD e.on false = true) → opI P l o (fl.contains i) (Y n (listed.setIfInBounds i true)) (keepC L ρ)) → Y (n + 1) listed ρ) →
      (∀ (listed : Array Bool) (L : List Nat) (ρ : Env), (Region.ready .any l.toArray listed).isEmpty = true → clG cl (Q .normal) (keepC L ρ) → Y 0 listed ρ) → Y l.length (Array.replicate l.length false) (keepC L ρ)) : AW P nt (.region id l.toArray true) Q ρ := by
  simp only [regOk2, Bool.and_eq_true] at hr
  obtain ⟨⟨h1, h2⟩, h3⟩ := hr
  have hY := h (anyX P fl l (clG cl (Q .normal))) (fun n listed L rd ρ q1 q2 q3 => by
    have q1 : Region.ready .any l.toArray listed = rd := by simpa using q1
    refine ⟨_, Le.keepC L ρ, fun h0 => ?_, ?_⟩
    · rw [q1] at h0; rw [h0] at q2; cases q2
    · rw [q1]; exact allS_mem q3) (fun n listed L ρ p1 p2 p3 q2 => ⟨_, Le.keepC L ρ, fun h0 => absurd h0 (ready_ne p1 p2 p3), fun i hi => by
      obtain ⟨hun, o, ho, hdep⟩ := mem_ready.1 hi
      have ho' : l[i]? = some o := by simpa using ho
      refine opX_of ho' rfl (q2 i o hun ho' fun e he hb => ?_)
      exact hdep e he hb⟩) (fun listed L ρ q1 q2 => ⟨by simpa using q1, _, Le.keepC L ρ, q2⟩)
  refine aw_claimsQ h3 ?_
  refine aw_weaken (Le.keepC L ρ) ?_
  intro I A a w hs hd
  refine wp_region_any hm ?_
  have hgr : Grow w I w.drew I := ⟨rfl, ⟨rfl, Nat.le_succ _⟩, rfl, Nat.le_refl _, fun _ _ => rfl, fun _ h => h, fun _ h => .inl h⟩
  have := anyX_sound (Q' := fun e a' w' => ∃ I' A' ρ', Sim nt w' I' A' ρ' a' ∧ a'.defers = [] ∧ Ext w I A w' I' A' ∧ clQ cl Q e ρ') h1 h2 _ _ (keepC L ρ) I A a w.drew hY (hs.grow hgr) hd
    fun I' A' a' w' ρ' q1 q2 q3 q4 => ⟨I', A', ρ', q1, q2, (hgr.ext hs.osim).trans q3, q4⟩
  simpa using this

end
section
variable {P : Program} {ρ : Env} (all : List Oper) (K : Env → Prop) (d : Option Tmp) (op : Op) (ty : TypeId) (pos : String) (af : Array Edge) (j : Nat) (want : Bool)
theorem opI_plain : opI P all ⟨d, op, ty, pos, af, none⟩ false K ρ = (match pureOp op && d.isSome with
      | true => prG P ρ op d K
      | false => effG P ρ op d K) := by
  unfold opI
  simp only
  generalize (pureOp op && d.isSome) = b
  cases b <;> rfl
theorem opI_eff : opI P all ⟨d, op, ty, pos, af, none⟩ true K ρ = effF P ρ op d K := rfl
theorem opI_guard : opI P all ⟨d, op, ty, pos, af, some (j, want)⟩ false K ρ = gdG P ρ op d (gAt all ρ j want) K := rfl
end
/-- A value that is there when b says so. -/
def selD (b : Bool) (x : DV) : DV := bif b then x else .any
theorem selD_true (x : DV) : selD true x = x := rfl
theorem selD_false (x : DV) : selD false x = .any := rfl
theorem killD_sel (d : Nat) (b : Bool) (x : DV) : killD d (selD b x) = selD b (killD d x) := by cases b <;> rfl
/-- A variable that is there when b says so, and holds x once s says so. -/
def sel2 (s b : Bool) (x y : DV) : DV := bif s then x else bif b then y else .any
theorem sel2_true (b : Bool) (x y : DV) : sel2 true b x y = x := rfl
theorem sel2_ft (x y : DV) : sel2 false true x y = y := rfl
theorem sel2_ff (x y : DV) : sel2 false false x y = .any := rfl
theorem killD_sel2 (d : Nat) (s b : Bool) (x y : DV) : killD d (sel2 s b x y) = sel2 s b (killD d x) (killD d y) := by cases s <;> cases b <;> rfl
theorem allK_sel (p : Nat → Bool) (b : Bool) (x : DV) : allK p (selD b x) = (!b || allK p x) := by cases b <;> simp [selD, allK]
theorem allK_sel2 (p : Nat → Bool) (s b : Bool) (x y : DV) : allK p (sel2 s b x y) = ((!s || allK p x) && (s || !b || allK p y)) := by cases s <;> cases b <;> simp [sel2, allK]
def cB (b : Bool) : Nat := bif b then 0 else 1
attribute [go_sem] opI_plain opI_eff opI_guard selD_true selD_false sel2_true sel2_ft sel2_ff allK_sel allK_sel2 Bool.or_true
end Go.Sg
