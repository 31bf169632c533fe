/- Running code and functions on the heap of numbers. -/
import Derived.Test.YtnpokifaejcbeaaGreatDoorRvAny
import Derived.LoopN
set_option linter.unusedVariables false
set_option linter.unusedSimpArgs false
namespace Go.Rv
open Go.RowKit Go.Sg

section
variable {P : Program} {nt lo : Nat} {ops : List Oper} {call : Calr} {effF : FuncId → Bool}

theorem masks_len : ∀ (l : List Oper) (acc : List Nat), (masks l acc).length = acc.length + l.length
  | [], acc => rfl
  | o :: l, acc => by unfold masks; rw [masks_len l]; simp; omega
theorem masks_out {i : Nat} (h : ops.length ≤ i) : (masks ops []).getD i 0 = 0 := by
  rw [List.getD_eq_getElem?_getD, List.getElem?_eq_none (by rw [masks_len]; simpa using h)]; rfl

theorem evDraw_ok (hc : CallsOk P call) (hreg : regOkR nt ops = true) (hd : drawOk ops (masks ops []) = true) : ∀ (f k : Nat) (HL : List (Nat × Nat)) (l : List Oper) (s s' : St), evDraw P call lo ops (masks ops []) effF f k HL l s = some s' → (∀ j, l[j]? = ops[k + j]?) → k + l.length = ops.length → lo ≤ s.n → KH lo s.h s'.h s.n s'.n ∧
    ∀ (ro : Option Nat) (m : Nat) (Q' : Exit → Act → World → Prop) (fuel : Nat) (listed : Array Bool) (E : Emb) (a : Act) (w : World), s'.n ≤ m → listed.size = ops.length → Cl ops listed → (∀ j, j < ops.length → listed.getD j true = decide (j < k)) → Left ops listed fuel → SS nt E s.t a → HS E s.h.get s.n m w →
      (∀ E' a' w', SS nt E' s'.t a' → a'.defers = a.defers → HS E' s'.h.get s'.n m w' → RX lo E s.h.get s.n w E' s'.h.get s'.n w' → Q' .normal a' w') → wpAnyIn (FR ro) 0 P .any ops.toArray Q' fuel listed a w
  | 0, k, HL, l, s, s', h, _, _, _ => by cases h
  | f + 1, k, HL, l, s, s', h, hl, hlen, hlo => by
    obtain ⟨hnt, hall⟩ := regOkR_get hreg
    have hmem : ∀ o ∈ l, o ∈ ops := fun o ho => by
      obtain ⟨j, hj⟩ := List.getElem?_of_mem ho
      rw [hl j] at hj
      exact List.mem_of_getElem? hj
    have hdu : ∀ o ∈ l, ∀ d, o.dst = some d → d < ub := fun o ho d hdd => Nat.lt_of_lt_of_le (dstOk_lt (hall o (hmem o ho)).2 d hdd) hnt
    unfold evDraw at h
    obtain ⟨hHLb, h⟩ := bif_opt h
    simp only [Bool.and_eq_true, List.all_eq_true, decide_eq_true_eq] at hHLb
    obtain ⟨hHL, hsub⟩ := hHLb
    have hbits : ∀ i j, ((masks ops []).getD i 0).testBit j = true → j < i := fun i j hb => by
      rcases Nat.lt_or_ge i ops.length with h1 | h1
      · exact bit_lt hd i h1 j hb
      · rw [masks_out h1] at hb; simp at hb
    -- the phase, whatever follows
    have phase : ∀ k' s1 rest, phR P call lo ops (masks ops []) HL effF s.n k l [] s = some (k', s1, rest) → (rest ≠ [] → effAt (masks ops []) k' ops.length = true) → k' + rest.length = ops.length ∧ (∀ j, rest[j]? = ops[k' + j]?) ∧ KH lo s.h s1.h s.n s1.n ∧
        ∀ (ro : Option Nat) (m : Nat) (Q' : Exit → Act → World → Prop) (fuel : Nat) (listed : Array Bool) (E : Emb) (a : Act) (w : World), s1.n ≤ m → listed.size = ops.length → Cl ops listed → (∀ j, j < ops.length → listed.getD j true = decide (j < k)) → Left ops listed fuel → SS nt E s.t a → HS E s.h.get s.n m w →
          (∀ fuel listed E' a' w', listed.size = ops.length → Cl ops listed → (∀ j, j < ops.length → listed.getD j true = decide (j < k')) → Left ops listed fuel → SS nt E' s1.t a' → a'.defers = a.defers → HS E' s1.h.get s1.n m w' → RX lo E s.h.get s.n w E' s1.h.get s1.n w' → wpAnyIn (FR ro) 0 P .any ops.toArray Q' fuel listed a' w') →
          wpAnyIn (FR ro) 0 P .any ops.toArray Q' fuel listed a w := fun k' s1 rest hph heff => by
      obtain ⟨rcs, j1, j2, j3, j4, j6, j7, j5⟩ := phR_ok hc hbits (fun x hx => (hHL x hx).2) hlo hsub l k [] s k' s1 rest hph (fun x hx => by cases hx) (fun x hx => by cases hx) (fun b h1 h2 => by omega) (Nat.le_refl _) hdu
      have hll : l.length = rcs.length + rest.length := by rw [j1]; simp
      obtain ⟨hnn, hkeep0⟩ := j3
      have hkeep : ∀ b, b < lo ∨ s1.n ≤ b → s1.h.get b = s.h.get b := fun b hb => hkeep0 b (hb.imp (fun h => ⟨by omega, fun x hx e => by have := (hHL x hx).1; omega⟩) id)
      refine ⟨by omega, fun j => ?_, ⟨hnn, fun b hb => hkeep b hb⟩, fun ro m Q' fuel listed E a w hm hsz hcl hpre hleft hss hs hend => ?_⟩
      · have := hl (rcs.length + j)
        rw [j1, List.getElem?_append_right (by simp)] at this
        rw [j2, Nat.add_assoc, ← this]
        simp
      · have hout : ∀ b, s1.n ≤ b ∨ b < s.n → ∀ (p : Nat) (rc : Rc), rcs[p]? = some rc → ¬ (rc.n ≤ b ∧ b < rc.n') := fun b hb p rc hp hr => by
          have R := j5 p rc hp
          have := R.n1; have := R.n2; have := R.n3
          omega
        have hun : ∀ p rc, rcs[p]? = some rc → listed.getD (k + p) false = false := fun p rc hp => by
          have hlt : p < rcs.length := by
            rcases Nat.lt_or_ge p rcs.length with h | h
            · exact h
            · rw [List.getElem?_eq_none h] at hp; cases hp
          rw [← getD_ff (by omega), hpre _ (by omega)]
          exact decide_eq_false (by omega)
        have hnl : ∀ b, s.n ≤ b → HD listed k s.n rcs s1.h.get b = none := fun b hb => HD_out hb fun p rc hp hl => by rw [hun p rc hp] at hl; cases hl
        have hbase : ∀ b, b < s.n → HD listed k s.n rcs s1.h.get b = s.h.get b := fun b hb => HD_nx (.inl hb) (j7 b hb) (fun p2 rc2 _ _ hlt => absurd hlt (Nat.not_lt_zero _)) fun p2 rc2 h1 _ _ => hun p2 rc2 h1
        have hHD : ∀ b, HD listed k s.n rcs s1.h.get b ≠ none → HD listed k s.n rcs s1.h.get b = s.h.get b := fun b hb => by
          rcases Nat.lt_or_ge b s.n with h | h
          · exact hbase b h
          · exact absurd (hnl b h) hb
        have hsn : ∀ b, s.n ≤ b → s.h.get b = none := fun b hb => hs.none_of hb
        have hs1 := hs.sub hHD
        refine ph_any ro hreg hd (k := k) (s := s) (s' := s1) (rcs := rcs) (fun p rc hp => ?_) (by omega) (fun hlt => ?_) j5 (fun b hb hr => j6 b hb (fun x hx => by cases hx) hr) j4 hm hsn hlo hs.ng (lo := lo) (E0 := E) (w0 := w) (d0 := a.defers) (fun fuel listed E' a' w' h1 h2 h3 h4 h5 h6 h7 h8 => hend fuel listed E' a' w' h1 h2 (by rw [j2]; exact h3) h4 h5 h6 h7 h8)
          fuel listed E a w hsz hcl (fun j hj => ?_) (fun j hj hjN => ?_) hleft hss.size (fun q hq => ⟨fun _ => hss.slot q hq, fun hno => ?_⟩) rfl ⟨hs1.blk, hs1.inj, hs1.old, fun b hb1 hb2 => hs.free b (by omega) hb2, hs1.top, Nat.le_trans hs.ng hnn, hs1.glob⟩ (fun p rc hp _ b hb1 hb2 => ?_)
          ⟨rfl, rfl, rfl, Nat.le_refl _, hnn, fun _ _ => rfl, fun g hg hf => ⟨rfl, fun b s2 hb => hf b s2 (by rw [← hHD b hb]; exact hb)⟩, fun b hb => ⟨?_, fun _ _ _ _ => rfl⟩, fun b hb => ?_⟩
        · have hlt : p < rcs.length := by
            rcases Nat.lt_or_ge p rcs.length with h | h
            · exact h
            · rw [List.getElem?_eq_none h] at hp; cases hp
          rw [← hl p, j1, List.getElem?_append_left (by simpa using hlt), List.getElem?_map, hp]; rfl
        · rw [← j2]
          refine heff fun e => ?_
          subst e
          simp at hll
          omega
        · rw [← getD_ff (by omega), hpre j (by omega)]; exact decide_eq_true hj
        · rw [← getD_ff (by omega), hpre j hjN]; exact decide_eq_false (by omega)
        · have : s1.t.get q = s.t.get q := j4 q fun rc hrc => by
            obtain ⟨p, hp⟩ := List.getElem?_of_mem hrc
            exact hno p rc hp (hun p rc hp)
          rw [this]; exact hss.slot q hq
        · have R := j5 p rc hp
          have := R.n1; have := R.n3
          exact hs.free b (by omega) (by omega)
        · exact hbase b (by omega)
        · rw [hnl b (by omega), hsn b (by omega)]
    split at h
    · cases h
    · rename_i k' s1 hph
      cases h
      obtain ⟨p1, p2, p3, p4⟩ := phase _ _ _ hph (by simp)
      refine ⟨p3, fun ro m Q' fuel listed E a w hm hsz hcl hpre hleft hss hs hend => p4 ro m Q' fuel listed E a w hm hsz hcl hpre hleft hss hs fun fuel listed E' a' w' h1 h2 h3 h4 h5 h6 h7 h8 => ?_⟩
      have hready : Region.ready .any ops.toArray listed = [] := by
        cases hr : Region.ready .any ops.toArray listed with
        | nil => rfl
        | cons i r =>
          obtain ⟨q1, o, q2, _⟩ := mem_ready.1 (show i ∈ Region.ready .any ops.toArray listed by rw [hr]; simp)
          have hiN : i < ops.length := by
            rcases Nat.lt_or_ge i ops.length with h | h
            · exact h
            · rw [List.getElem?_toArray, List.getElem?_eq_none h] at q2; cases q2
          rw [h3 i hiN, decide_eq_true (by simp at p1; omega)] at q1
          cases q1
      cases fuel with
      | zero => exact ⟨hready, hend E' a' w' h5 h6 h7 h8⟩
      | succ fuel => exact ⟨fun _ => hend E' a' w' h5 h6 h7 h8, fun i hi => by rw [hready] at hi; cases hi⟩
    · rename_i k' t1 h1' n1 o l' hph
      cases heff : effAt (masks ops []) k' ops.length with
      | false =>
        rw [heff] at h
        simp only [cond_false] at h
        split at h <;> try cases h
        exact evDraw_ok hc hreg hd f k _ l s s' h hl hlen hlo
      | true =>
      rw [heff] at h
      simp only [cond_true] at h
      split at h <;> try cases h
      rename_i v h2' n2 hv
      obtain ⟨p1, p2, p3, p4⟩ := phase _ _ _ hph (fun _ => heff)
      have hn1 : lo ≤ n1 := Nat.le_trans hlo p3.nn
      obtain ⟨k1, k2⟩ := evO_ok hc hn1 hv
      have ho : ops[k']? = some o := by have := p2 0; simpa using this.symm
      have hkN : k' < ops.length := by simp at p1; omega
      obtain ⟨i1, i2⟩ := evDraw_ok hc hreg hd f (k' + 1) [] l' _ s' h (fun j => by have := p2 (j + 1); simpa [Nat.add_assoc, Nat.add_comm 1 j] using this) (by simp at p1 ⊢; omega) (Nat.le_trans hn1 k1.nn)
      have hmo := hall o (List.mem_of_getElem? ho)
      refine ⟨p3.trans (k1.trans i1), fun ro m Q' fuel listed E a w hm hsz hcl hpre hleft hss hs hend => p4 ro m Q' fuel listed E a w (Nat.le_trans (Nat.le_trans k1.nn i1.nn) hm) hsz hcl hpre hleft hss hs fun fuel listed E' a' w' h1 h2 h3 h4 h5 h6 h7 h8 => ?_⟩
      have hkl : listed.getD k' true = false := by rw [h3 k' hkN]; exact decide_eq_false (by omega)
      cases fuel with
      | zero => exact (h4.pos hkN hkl).elim
      | succ fuel =>
        refine ⟨fun hr => absurd hr (ready_ne hd h1 k' hkN hkl), fun i hi => ?_⟩
        have hrc := ready_cl h2 hi
        obtain ⟨hiu, oi, hoi, _⟩ := mem_ready.1 hi
        have hiN : i < ops.length := by
          rcases Nat.lt_or_ge i ops.length with h | h
          · exact h
          · rw [List.getElem?_toArray, List.getElem?_eq_none h] at hoi; cases hoi
        have hik : i = k' := by
          rw [h3 i hiN] at hiu
          have hge : ¬ i < k' := of_decide_eq_false hiu
          rcases Nat.lt_or_eq_of_le (Nat.le_of_not_lt hge) with hlt | he
          · unfold effAt at heff
            simp only [Bool.and_eq_true, List.all_eq_true, List.mem_range, Bool.or_eq_true, decide_eq_true_eq] at heff
            rcases heff.2 i hiN with h4 | h4
            · omega
            · have := hrc _ h4
              rw [← getD_ff (by omega), hkl] at this; cases this
          · exact he.symm
        subst hik
        have run := k2 ro m E' a' w' (Nat.le_trans i1.nn hm) (h5.opds hmo.1) (h5.gslot fun o ho => (hall o ho).2) h7 (wpAnyIn (FR ro) 0 P .any ops.toArray Q' fuel (listed.setIfInBounds i true)) Q' fun E2 y w2 q1 q2 q3 => by
          have hm1 : n2 ≤ m := Nat.le_trans i1.nn hm
          refine i2 ro m Q' fuel (listed.setIfInBounds i true) E2 _ w2 hm (by simp [h1]) (h2.set hi) (fun j hj => ?_) (h4.set hiN h1 hkl) ((h5.mono (h7.up q2 hm1)).putD hnt (dstOk_lt hmo.2) q3) q1 fun E3 a3 w3 r1 r2 r3 r4 => hend E3 a3 w3 r1 (by rw [r2, put_defers, h6]) r3 (h8.trans (q2.trans r4 h7 hm1 hn1) hs (Nat.le_trans k1.nn hm1) hlo)
          by_cases e : j = i
          · subst e; rw [getD_set_self (by omega) true]; exact (decide_eq_true (by omega)).symm
          · rw [getD_set_ne true (Ne.symm e), h3 j hj]
            by_cases e2 : j < i
            · rw [decide_eq_true e2, decide_eq_true (by omega)]
            · rw [decide_eq_false e2, decide_eq_false (by omega)]
        unfold wpOpIn
        simp only [List.getElem?_toArray, ho]
        exact run

/-! ## Code -/

def evC (P : Program) (call : Calr) (effF : FuncId → Bool) (rd : Bool) (lo nt : Nat) : Nat → Option Code → Code → St → Option (Exit × St)
  | 0, _, _, _ => none
  | f + 1, some c0, c, s => (match evC P call effF rd lo nt f none c s with
    | some (.goto l, s1) => (match findLabel c0 l with
      | some rest => evC P call effF rd lo nt f (some c0) rest s1
      | none => some (.goto l, s1))
    | r => r)
  | f + 1, none, c, s => match c with
    | .skip => some (.normal, s)
    | .exit i => some (.exit i, s)
    | .ret => some (.ret, s)
    | .label _ => some (.normal, s)
    | .goto l => some (.goto l, s)
    | .scope c => evC P call effF rd lo nt f (some c) c s
    | .seq x y => match evC P call effF rd lo nt f none x s with
      | some (.normal, s1) => evC P call effF rd lo nt f none y s1
      | r => r
    | .block id b => match evC P call effF rd lo nt f none b s with
      | some (.exit i, s1) => bif i == id then some (.normal, s1) else some (.exit i, s1)
      | r => r
    | .cond x a b => match evR s.t x with
      | .bool t => bif opdOk nt x then (bif t then evC P call effF rd lo nt f none a s else evC P call effF rd lo nt f none b s) else none
      | _ => none
    | .loop b => match evC P call effF rd lo nt f none b s with
      | some (.normal, s1) => evC P call effF rd lo nt f none (.loop b) s1
      | r => r
    | .region _ ops false => bif regOkR nt ops.toList then (evOps P call lo ops.toList ops.toList s).map fun s => (.normal, s) else none
    | .region _ ops true => bif regOkR nt ops.toList && drawOk ops.toList (masks ops.toList []) then (evDraw P call lo ops.toList (masks ops.toList []) effF (2 * ops.toList.length + 2) 0 [] ops.toList s).map fun s => (.normal, s) else none
    | .rangeFunc g ps asg body => (match evR s.t g with
      | .fn fid fs cs => bif !rd && (opdOk nt g && (hasBody P fid && decide (s.n < ub))) then
          (match call lo (.inl fid) (fs ++ [.yl s.n] ++ cs) (s.h.set s.n (some (.lp .ready none s.t nt ps.toList asg body))) (s.n + 1) with
          | some (_, h2, n2) => (match h2.get s.n with
            | some (.lp st pe t1 nt1 ps1 asg1 body1) => bif decide (st = .busy) then none else (match pe with
              | none => some (.normal, ⟨s.t, h2.set s.n (some (.lp .exhausted pe t1 nt1 ps1 asg1 body1)), n2⟩)
              | some .ret => some (.ret, ⟨s.t, h2.set s.n (some (.lp .exhausted pe t1 nt1 ps1 asg1 body1)), n2⟩)
              | some (.exit i) => some (.exit i, ⟨s.t, h2.set s.n (some (.lp .exhausted pe t1 nt1 ps1 asg1 body1)), n2⟩)
              | _ => none)
            | _ => none)
          | none => none) else none
      | _ => none)
    | _ => none

theorem HS.drew {E : Emb} {h : Hp} {n m : Nat} {w : World} (hs : HS E h n m w) : HS E h n m w.drew := ⟨fun b k hk => by
  obtain ⟨g, s, h1, h2⟩ := hs.blk b k hk
  exact ⟨g, s, h1, h2.mono (fun _ _ h => h) rfl⟩, hs.inj, hs.old, hs.free, hs.top, hs.ng, hs.glob⟩
theorem RX.drew {lo : Nat} {E : Emb} {h : Hp} {n : Nat} {w : World} {E' : Emb} {h' : Hp} {n' : Nat} {w' : World} (hx : RX lo E h n w.drew E' h' n' w') : RX lo E h n w E' h' n' w' := ⟨hx.os, hx.tape, hx.output, hx.size, hx.nn, hx.emb, hx.frame, hx.keep, hx.beyond⟩

/-- A block laid that no number names. -/
theorem HS.laid {E : Emb} {h : Hp} {n m : Nat} {w : World} (hs : HS E h n m w) (o : Obj) : HS E h n m (w.alloc o) := by
  have hold : ∀ g, g < w.heap.size → (w.alloc o).heap[g]? = w.heap[g]? := fun g hg => by
    show (w.heap.push o)[g]? = w.heap[g]?
    rw [Array.getElem?_push, if_neg (by omega)]
  refine ⟨fun b k hk => ?_, hs.inj, fun b g s hb => by rw [World.size_alloc]; have := hs.old b g s hb; omega, hs.free, hs.top, hs.ng, hs.glob⟩
  obtain ⟨g, s, h1, h2⟩ := hs.blk b k hk
  exact ⟨g, s, h1, h2.mono (fun _ _ h => h) (hold g (hs.old b g s h1))⟩
theorem RX.laid {lo : Nat} {E : Emb} {h : Hp} {n : Nat} {w : World} {E' : Emb} {h' : Hp} {n' m : Nat} {w' : World} (hs : HS E h n m w) (o : Obj) (hx : RX lo E h n (w.alloc o) E' h' n' w') : RX lo E h n w E' h' n' w' := by
  have hold : ∀ g, g < w.heap.size → (w.alloc o).heap[g]? = w.heap[g]? := fun g hg => by
    show (w.heap.push o)[g]? = w.heap[g]?
    rw [Array.getElem?_push, if_neg (by omega)]
  have hsz : (w.alloc o).heap.size = w.heap.size + 1 := World.size_alloc _ _
  refine ⟨hx.os, hx.tape, hx.output, by have := hx.size; omega, hx.nn, hx.emb, fun g hg hf => ?_, fun b hb => ?_, hx.beyond⟩
  · obtain ⟨h1, h2⟩ := hx.frame g (by omega) hf
    exact ⟨h1.trans (hold g hg), h2⟩
  · obtain ⟨h1, h2⟩ := hx.keep b hb
    exact ⟨h1, fun g s hn he => (h2 g s hn he).trans (hold g (hs.old b g s he))⟩
/-- A block that no number names turns. -/
theorem HS.aside {E : Emb} {h : Hp} {n m : Nat} {w : World} (hs : HS E h n m w) {r : Nat} (hr : ∀ b z, h b ≠ none → E b ≠ some (r, z)) (o : Obj) : HS E h n m (w.putObj r o) := by
  refine ⟨fun b k hk => ?_, hs.inj, fun b g s hb => by rw [World.putObj_size]; exact hs.old b g s hb, hs.free, hs.top, hs.ng, hs.glob⟩
  obtain ⟨g, s, h1, h2⟩ := hs.blk b k hk
  exact ⟨g, s, h1, h2.mono (fun _ _ h => h) (World.putObj_heap_other fun e => hr b s (by rw [hk]; simp) (by rw [h1, e]))⟩

theorem rounds_mono {F : Fence} {c : Code} {Q Q' : Exit → Act → World → Prop} (hq : ∀ e a w, Q e a w → Q' e a w) : ∀ (m : Nat) (a : Act) (w : World), Code.roundsIn F 0 P c Q m a w → Code.roundsIn F 0 P c Q' m a w
  | 0, _, _, h => h
  | m + 1, a, w, h => by
    rw [roundsIn_succ] at h ⊢
    refine wpIn_mono h fun e a' w' q => ?_
    cases e with
    | normal => exact rounds_mono hq m a' w' q
    | _ => exact hq _ _ _ q

/-- Code run at the top of a scope, up to k jumps back. -/
def ScRun (F : Fence) (P : Program) (c0 : Code) (Q : Exit → Act → World → Prop) : Nat → Code → Act → World → Prop
  | 0, _, _, _ => False
  | k + 1, c, a, w => c.wpIn F 0 P (fun e a' w' => match e with
    | .goto l => (match findLabel c0 l with
      | some rest => ScRun F P c0 Q k rest a' w'
      | none => Q (.goto l) a' w')
    | e => Q e a' w') a w
theorem stepR_scope {b : Frame} {a : Act} {k : List Item} {cs : List Frame} {w : World} {c : Code} : step P (lone (b.atR a (.code (.scope c) :: k)) cs w) = .next (lone (b.atR a (.code c :: .inScope c :: k)) cs w) :=
  step_lone_go (by simp [stepG, stepG.exec, Frame.atR])
theorem stepR_inScope {b : Frame} {a : Act} {k : List Item} {cs : List Frame} {w : World} {c : Code} : step P (lone (b.atR a (.inScope c :: k)) cs w) = .next (lone (b.atR a k) cs w) :=
  step_lone_go (by simp [stepG, stepG.exec, Frame.atR])
theorem scRun_arrives {F : Fence} {c0 : Code} {Q : Exit → Act → World → Prop} : ∀ (m : Nat) (c : Code) (a : Act) (w : World), ScRun F P c0 Q m c a w → ∀ (b : Frame) (k : List Item) (cs : List Frame), b.roundOf = F.round → F.fn b.fn → F.room (cs.length + 1 + 0) →
    ∃ e a' w', Q e a' w' ∧ ArrivesIn (Machine.fenced P F) P (lone (b.atR a (.code c :: .inScope c0 :: k)) cs w) b k cs e a' w'
  | 0, _, _, _, h => h.elim
  | m + 1, c, a, w, h => fun b k cs hro hb hr => by
    obtain ⟨e, a1, w1, hq, harr⟩ := h b (.inScope c0 :: k) cs hro hb hr
    cases e with
    | normal => exact ⟨.normal, a1, w1, hq, StepsIn.trans harr (.one (fenced_calm hb hr rfl) stepR_inScope)⟩
    | exit id => exact ⟨.exit id, a1, w1, hq, fun k' hk => harr.1 k' (by simp [exitTo, hk]), fun h1 h2 => harr.2 h1 (by simp [exitTo, h2])⟩
    | ret => exact ⟨.ret, a1, w1, hq, harr⟩
    | panic ch => exact ⟨.panic ch, a1, w1, hq, harr⟩
    | outgrown => exact ⟨.outgrown, a1, w1, hq, harr⟩
    | goto l =>
      cases hf : findLabel c0 l with
      | none =>
        simp only [hf] at hq
        exact ⟨.goto l, a1, w1, hq, fun k' hk => harr.1 k' (by simp [gotoIn, hf, hk]), fun h1 h2 => harr.2 h1 (by simp [gotoIn, hf, h2])⟩
      | some rest =>
        simp only [hf] at hq
        obtain ⟨e2, a2, w2, hq2, harr2⟩ := scRun_arrives m rest a1 w1 hq b k cs hro hb hr
        exact ⟨e2, a2, w2, hq2, .of_steps (harr.1 _ (by simp [gotoIn, hf])) harr2⟩
theorem wpIn_scope {F : Fence} {c : Code} {Q : Exit → Act → World → Prop} {a : Act} {w : World} (m : Nat) (h : ScRun F P c Q m c a w) : (Code.scope c).wpIn F 0 P Q a w := fun b k cs hro hb hr => by
  obtain ⟨e, a1, w1, hq, harr⟩ := scRun_arrives m c a w h b k cs hro hb hr
  exact ⟨e, a1, w1, hq, .of_steps (.one (fenced_calm hb hr rfl) stepR_scope) harr⟩
theorem scRun_mono {F : Fence} {c0 : Code} {Q Q' : Exit → Act → World → Prop} (hq : ∀ e a w, Q e a w → Q' e a w) : ∀ (m : Nat) (c : Code) (a : Act) (w : World), ScRun F P c0 Q m c a w → ScRun F P c0 Q' m c a w
  | 0, _, _, _, h => h
  | m + 1, c, a, w, h => by
    unfold ScRun at h ⊢
    refine wpIn_mono h fun e a' w' q => ?_
    cases e with
    | goto l =>
      cases hf : findLabel c0 l with
      | none => simp only [hf] at q ⊢; exact hq _ _ _ q
      | some rest => simp only [hf] at q ⊢; exact scRun_mono hq m rest a' w' q
    | _ => exact hq _ _ _ q

abbrev markOf (g : Nat) : Deferred := { target := .collected g, args := #[] }
/-- Marks of ranges over functions that have ended: their blocks, laid since w, hold no calls, and no number names them. -/
structure MarksOk (D : List Nat) (w w' : World) (E' : Emb) (h' : Hp) : Prop where
  nodup : D.Nodup
  late : ∀ g ∈ D, w.heap.size ≤ g
  held : ∀ g ∈ D, w'.heap[g]? = some (.deferred (some []))
  free : ∀ g ∈ D, ∀ b z, h' b ≠ none → E' b ≠ some (g, z)
theorem MarksOk.nil (w w' : World) (E' : Emb) (h' : Hp) : MarksOk [] w w' E' h' := ⟨.nil, by simp, by simp, by simp⟩
theorem heap_lt {w : World} {g : Nat} {o : Obj} (h : w.heap[g]? = some o) : g < w.heap.size := (Array.getElem?_eq_some_iff.1 h).1
theorem MarksOk.next {D : List Nat} {w w1 w2 : World} {E1 E2 : Emb} {h1 h2 : Hp} {n1 n2 : Nat} (k : MarksOk D w w1 E1 h1) (hx : RX lo E1 h1 n1 w1 E2 h2 n2 w2) : MarksOk D w w2 E2 h2 :=
  ⟨k.nodup, k.late, fun g hg => ((hx.frame g (heap_lt (k.held g hg)) fun b s hb => k.free g hg b s hb).1).trans (k.held g hg), fun g hg b z hb => (hx.frame g (heap_lt (k.held g hg)) fun b s hb => k.free g hg b s hb).2 b z hb⟩
theorem MarksOk.app {D1 D2 : List Nat} {w w1 w2 : World} {E1 E2 : Emb} {h1 h2 : Hp} {n1 n2 : Nat} (k : MarksOk D1 w w1 E1 h1) (hx : RX lo E1 h1 n1 w1 E2 h2 n2 w2) (j : MarksOk D2 w1 w2 E2 h2) (hsz : w.heap.size ≤ w1.heap.size) : MarksOk (D2 ++ D1) w w2 E2 h2 := by
  have k' := k.next hx
  refine ⟨?_, fun g hg => ?_, fun g hg => ?_, fun g hg => ?_⟩
  · rw [List.nodup_append]
    refine ⟨j.nodup, k.nodup, fun a ha b hb e => ?_⟩
    subst e
    have := j.late a ha
    have := heap_lt (k.held a hb)
    omega
  · rcases List.mem_append.1 hg with h | h
    · exact Nat.le_trans hsz (j.late g h)
    · exact k.late g h
  · rcases List.mem_append.1 hg with h | h
    · exact j.held g h
    · exact k'.held g h
  · rcases List.mem_append.1 hg with h | h
    · exact j.free g h
    · exact k'.free g h

/-- What a run of code ends in. -/
def CPost (nt lo : Nat) (m : Nat) (E : Emb) (s s' : St) (e : Exit) (a : Act) (w : World) (e' : Exit) (a' : Act) (w' : World) : Prop := e' = e ∧ ∃ E' D, SS nt E' s'.t a' ∧ (a'.defers = List.map markOf D ++ a.defers ∧ MarksOk D w w' E' s'.h.get) ∧ HS E' s'.h.get s'.n m w' ∧ RX lo E s.h.get s.n w E' s'.h.get s'.n w'

theorem CPost.trans {m : Nat} {E E1 : Emb} {s s1 s2 : St} {e : Exit} {a a1 : Act} {w w1 : World} {D : List Nat} (hs : HS E s.h.get s.n m w) (hm : s1.n ≤ m) (hlo : lo ≤ s.n) (hd : a1.defers = List.map markOf D ++ a.defers ∧ MarksOk D w w1 E1 s1.h.get) (hx : RX lo E s.h.get s.n w E1 s1.h.get s1.n w1) {e' : Exit} {a' : Act} {w' : World}
    (h : CPost nt lo m E1 s1 s2 e a1 w1 e' a' w') : CPost nt lo m E s s2 e a w e' a' w' := by
  obtain ⟨h1, E', D2, h2, h3, h4, h5⟩ := h
  exact ⟨h1, E', D2 ++ D, h2, ⟨by rw [h3.1, hd.1]; simp, hd.2.app h5 h3.2 hx.size⟩, h4, hx.trans h5 hs hm hlo⟩

set_option maxHeartbeats 400000 in
theorem evC_ok (hmx : P.follows .mixedOrders = true) (hc : CallsOk P call) (rd : Bool) : ∀ (f : Nat) (sc : Option Code) (c : Code) (s : St) (e : Exit) (s' : St), evC P call effF rd lo nt f sc c s = some (e, s') → lo ≤ s.n → KH lo s.h s'.h s.n s'.n ∧ ∃ k : Nat,
    ∀ (ro : Option Nat) (m : Nat) (E : Emb) (a : Act) (w : World), (rd = false → ro = none) → s'.n ≤ m → SS nt E s.t a → HS E s.h.get s.n m w → match sc with
      | none => c.wpIn (FR ro) 0 P (CPost nt lo m E s s' e a w) a w ∧ ∀ b, c = .loop b → Code.roundsIn (FR ro) 0 P b (CPost nt lo m E s s' e a w) k a w
      | some c0 => ScRun (FR ro) P c0 (CPost nt lo m E s s' e a w) k c a w
  | 0, _, _, _, _, _, h, _ => by cases h
  | f + 1, some c0, c, s, e, s', h, hlo => by
    unfold evC at h
    split at h
    · rename_i l s1 h1
      obtain ⟨k1, kn, k2⟩ := evC_ok hmx hc rd f none c s _ s1 h1 hlo
      cases hf : findLabel c0 l with
      | none =>
        rw [hf] at h
        cases h
        refine ⟨k1, 1, fun ro m E a w hro hm hss hs => ?_⟩
        unfold ScRun
        refine wpIn_mono (k2 ro m E a w hro hm hss hs).1 ?_
        rintro e1 a1 w1 ⟨rfl, r⟩
        simp only [hf]
        exact ⟨rfl, r⟩
      | some rest =>
        rw [hf] at h
        obtain ⟨j1, jn, j2⟩ := evC_ok hmx hc rd f (some c0) rest s1 e s' h (Nat.le_trans hlo k1.nn)
        refine ⟨k1.trans j1, jn + 1, fun ro m E a w hro hm hss hs => ?_⟩
        unfold ScRun
        refine wpIn_mono (k2 ro m E a w hro (Nat.le_trans j1.nn hm) hss hs).1 ?_
        rintro e1 a1 w1 ⟨rfl, E1, D1, q1, q2, q3, q4⟩
        simp only [hf]
        exact scRun_mono (fun e2 a2 w2 r => CPost.trans hs (Nat.le_trans j1.nn hm) hlo q2 q4 r) jn rest a1 w1 (j2 ro m E1 a1 w1 hro hm q1 q3)
    · rename_i h1
      obtain ⟨k1, kn, k2⟩ := evC_ok hmx hc rd f none c s e s' h hlo
      refine ⟨k1, 1, fun ro m E a w hro hm hss hs => ?_⟩
      unfold ScRun
      refine wpIn_mono (k2 ro m E a w hro hm hss hs).1 ?_
      rintro e1 a1 w1 ⟨rfl, r⟩
      cases e1 with
      | goto l => exact absurd h (h1 l s')
      | _ => exact ⟨rfl, r⟩
  | f + 1, none, c, s, e, s', h, hlo => by
    have ih := fun (c : Code) (s : St) (e : Exit) (s' : St) (h : evC P call effF rd lo nt f none c s = some (e, s')) (hlo : lo ≤ s.n) => evC_ok hmx hc rd f none c s e s' h hlo
    have nl : ∀ {ro : Option Nat} {c : Code} {s s' : St} {e : Exit} {m : Nat} {E : Emb} {a : Act} {w : World}, (∀ b, c ≠ .loop b) → c.wpIn (FR ro) 0 P (CPost nt lo m E s s' e a w) a w → c.wpIn (FR ro) 0 P (CPost nt lo m E s s' e a w) a w ∧ ∀ b, c = .loop b → Code.roundsIn (FR ro) 0 P b (CPost nt lo m E s s' e a w) 0 a w := fun hn h => ⟨h, fun b hb => absurd hb (hn b)⟩
    have triv : ∀ {m : Nat} {E : Emb} {a : Act} {w : World} {e : Exit}, SS nt E s.t a → HS E s.h.get s.n m w → CPost nt lo m E s s e a w e a w := fun hss hs => ⟨rfl, _, [], hss, ⟨rfl, .nil _ _ _ _⟩, hs, RX.refl _ _ _ _ _⟩
    unfold evC at h
    split at h
    · cases h; exact ⟨KH.refl _ _ _, 0, fun ro m E a w hro hm hss hs => nl (by simp) (wpIn_skip (triv hss hs))⟩
    · cases h; exact ⟨KH.refl _ _ _, 0, fun ro m E a w hro hm hss hs => nl (by simp) (wpIn_exit (triv hss hs))⟩
    · cases h; exact ⟨KH.refl _ _ _, 0, fun ro m E a w hro hm hss hs => nl (by simp) (wpIn_ret (triv hss hs))⟩
    · cases h; exact ⟨KH.refl _ _ _, 0, fun ro m E a w hro hm hss hs => nl (by simp) (wpIn_label (triv hss hs))⟩
    · cases h; exact ⟨KH.refl _ _ _, 0, fun ro m E a w hro hm hss hs => nl (by simp) (wpIn_goto (triv hss hs))⟩
    · rename_i c1
      obtain ⟨k1, kn, k2⟩ := evC_ok hmx hc rd f (some c1) c1 s e s' h hlo
      exact ⟨k1, 0, fun ro m E a w hro hm hss hs => nl (by simp) (wpIn_scope kn (k2 ro m E a w hro hm hss hs))⟩
    · rename_i x y
      split at h
      · rename_i s1 h1
        obtain ⟨k1, kn, k2⟩ := ih x s _ s1 h1 hlo
        obtain ⟨j1, jn, j2⟩ := ih y s1 e s' h (Nat.le_trans hlo k1.nn)
        refine ⟨k1.trans j1, 0, fun ro m E a w hro hm hss hs => nl (by simp) (wpIn_seq (wpIn_mono (k2 ro m E a w hro (Nat.le_trans j1.nn hm) hss hs).1 ?_))⟩
        rintro e1 a1 w1 ⟨rfl, E1, D1, q1, q2, q3, q4⟩
        exact wpIn_mono (j2 ro m E1 a1 w1 hro hm q1 q3).1 fun e2 a2 w2 r => CPost.trans hs (Nat.le_trans j1.nn hm) hlo q2 q4 r
      · rename_i h1
        obtain ⟨k1, kn, k2⟩ := ih x s e s' h hlo
        refine ⟨k1, 0, fun ro m E a w hro hm hss hs => nl (by simp) (wpIn_seq (wpIn_mono (k2 ro m E a w hro hm hss hs).1 ?_))⟩
        rintro e1 a1 w1 ⟨rfl, r⟩
        cases e1 with
        | normal => exact absurd h (h1 s')
        | _ => exact ⟨rfl, r⟩
    · rename_i id b
      split at h
      · rename_i i s1 h1
        obtain ⟨k1, kn, k2⟩ := ih b s _ s1 h1 hlo
        cases hi : i == id with
        | true =>
          rw [hi] at h
          cases h
          refine ⟨k1, 0, fun ro m E a w hro hm hss hs => nl (by simp) (wpIn_block (wpIn_mono (k2 ro m E a w hro hm hss hs).1 ?_))⟩
          rintro e1 a1 w1 ⟨rfl, r⟩
          simp only [Exit.inBlock]
          rw [if_pos (by simpa using hi)]
          exact ⟨rfl, r⟩
        | false =>
          rw [hi] at h
          cases h
          refine ⟨k1, 0, fun ro m E a w hro hm hss hs => nl (by simp) (wpIn_block (wpIn_mono (k2 ro m E a w hro hm hss hs).1 ?_))⟩
          rintro e1 a1 w1 ⟨rfl, r⟩
          simp only [Exit.inBlock]
          rw [if_neg (by simpa using hi)]
          exact ⟨rfl, r⟩
      · rename_i h1
        obtain ⟨k1, kn, k2⟩ := ih b s e s' h hlo
        refine ⟨k1, 0, fun ro m E a w hro hm hss hs => nl (by simp) (wpIn_block (wpIn_mono (k2 ro m E a w hro hm hss hs).1 ?_))⟩
        rintro e1 a1 w1 ⟨rfl, r⟩
        cases e1 with
        | exit i => exact absurd h (h1 i s')
        | _ => exact ⟨rfl, r⟩
    · rename_i x c1 c2
      split at h
      · rename_i t hx
        obtain ⟨ho, h⟩ := bif_opt h
        have hv : ∀ {E : Emb} {a : Act}, SS nt E s.t a → a.eval x = .bool t := fun hss => by
          have := hss.opd x ho
          rw [hx] at this
          generalize Act.eval _ x = y at this ⊢
          cases this; rfl
        cases t with
        | true =>
          obtain ⟨k1, kn, k2⟩ := ih c1 s e s' h hlo
          exact ⟨k1, 0, fun ro m E a w hro hm hss hs => nl (by simp) (wpIn_cond_true (hv hss) (k2 ro m E a w hro hm hss hs).1)⟩
        | false =>
          obtain ⟨k1, kn, k2⟩ := ih c2 s e s' h hlo
          exact ⟨k1, 0, fun ro m E a w hro hm hss hs => nl (by simp) (wpIn_cond_false (hv hss) (k2 ro m E a w hro hm hss hs).1)⟩
      · cases h
    · rename_i b
      split at h
      · rename_i s1 h1
        obtain ⟨k1, kn, k2⟩ := ih b s _ s1 h1 hlo
        obtain ⟨j1, jn, j2⟩ := ih (.loop b) s1 e s' h (Nat.le_trans hlo k1.nn)
        refine ⟨k1.trans j1, jn + 1, fun ro m E a w hro hm hss hs => ?_⟩
        have key : Code.roundsIn (FR ro) 0 P b (CPost nt lo m E s s' e a w) (jn + 1) a w := by
          rw [roundsIn_succ]
          refine wpIn_mono (k2 ro m E a w hro (Nat.le_trans j1.nn hm) hss hs).1 ?_
          rintro e1 a1 w1 ⟨rfl, E1, D1, q1, q2, q3, q4⟩
          exact rounds_mono (fun e2 a2 w2 r => CPost.trans hs (Nat.le_trans j1.nn hm) hlo q2 q4 r) jn a1 w1 ((j2 ro m E1 a1 w1 hro hm q1 q3).2 b rfl)
        exact ⟨wpIn_loop_rounds _ key, fun b' hb' => by cases hb'; exact key⟩
      · rename_i h1
        obtain ⟨k1, kn, k2⟩ := ih b s e s' h hlo
        refine ⟨k1, 1, fun ro m E a w hro hm hss hs => ?_⟩
        have key : Code.roundsIn (FR ro) 0 P b (CPost nt lo m E s s' e a w) 1 a w := by
          rw [roundsIn_succ]
          refine wpIn_mono (k2 ro m E a w hro hm hss hs).1 ?_
          rintro e1 a1 w1 ⟨rfl, r⟩
          cases e1 with
          | normal => exact absurd h (h1 s')
          | _ => exact ⟨rfl, r⟩
        exact ⟨wpIn_loop_rounds 1 key, fun b' hb' => by cases hb'; exact key⟩
    · rename_i id ops'
      obtain ⟨hr, h⟩ := bif_opt h
      rw [Option.map_eq_some_iff] at h
      obtain ⟨s1, h1, h2⟩ := h
      obtain ⟨rfl, rfl⟩ := Prod.mk.inj h2
      obtain ⟨k1, k2⟩ := evOps_ok hc hr ops'.toList s s1 (fun _ h => h) h1 hlo
      refine ⟨k1, 0, fun ro m E a w hro hm hss hs => nl (by simp) ?_⟩
      have := wpIn_region_lit (F := FR ro) (n := 0) (P := P) (id := id) (Q := CPost nt lo m E s s1 .normal a w) (l := ops'.toList) (k2 ro m E a w _ hm hss hs fun E' a' w' q1 q2 q3 q4 => ⟨rfl, E', [], q1, ⟨q2, .nil _ _ _ _⟩, q3, q4⟩)
      simpa using this
    · rename_i id ops'
      obtain ⟨hr, h⟩ := bif_opt h
      rw [Bool.and_eq_true] at hr
      rw [Option.map_eq_some_iff] at h
      obtain ⟨s1, h1, h2⟩ := h
      obtain ⟨rfl, rfl⟩ := Prod.mk.inj h2
      obtain ⟨k1, k2⟩ := evDraw_ok hc hr.1 hr.2 _ 0 [] ops'.toList s s1 h1 (fun j => by rw [Nat.zero_add]) (by simp) hlo
      refine ⟨k1, 0, fun ro m E a w hro hm hss hs => nl (by simp) (wpIn_region_any hmx ?_)⟩
      have := k2 ro m (CPost nt lo m E s s1 .normal a w) ops'.size (Array.replicate ops'.size false) E a w.drew hm (by simp) (fun i hi hl => by
          have hi' : i < ops'.size := by simpa using hi
          simp [Array.getD_eq_getD_getElem?, hi'] at hl) (fun j hj => by
          have hj' : j < ops'.size := by simpa using hj
          simp [Array.getD_eq_getD_getElem?, hj']) ⟨List.range ops'.size, by simp, fun j hj _ => by simpa using hj⟩ hss hs.drew
        fun E' a' w' q1 q2 q3 q4 => ⟨rfl, E', [], q1, ⟨q2, .nil _ _ _ _⟩, q3, q4.drew⟩
      simpa using this
    · -- a range over a function
      rename_i g ps asg body
      split at h <;> try cases h
      rename_i fid fs cs hg
      obtain ⟨hck, h⟩ := bif_opt h
      simp only [Bool.and_eq_true, Bool.not_eq_true', decide_eq_true_eq] at hck
      obtain ⟨hrd, hgo, hbd, hub⟩ := hck
      split at h <;> try cases h
      rename_i v h2 n2 hcall
      split at h <;> try cases h
      rename_i st pe t1 nt1 ps1 asg1 body1 hrec
      have hst : ¬ st = .busy := fun e => by rw [decide_eq_true e] at h; cases h
      rw [decide_eq_false hst] at h
      simp only [cond_false] at h
      generalize hh1 : s.h.set s.n (some (.lp .ready none s.t nt ps.toList asg body)) = h1 at hcall
      generalize hh3 : h2.set s.n (some (.lp .exhausted pe t1 nt1 ps1 asg1 body1)) = h3 at h
      obtain ⟨q1, q2⟩ := hc _ _ _ _ _ _ _ _ hcall (Nat.le_succ_of_le hlo)
      have q2 : ∀ (m : Nat) (E : Emb) (w : World) (vals : Array Value), n2 ≤ m → HS E h1.get (s.n + 1) m w → vals.size = (fs ++ [RV.yl s.n] ++ cs).length → (∀ (j : Nat) (d : RV) (u : Value), (fs ++ [RV.yl s.n] ++ cs)[j]? = some d → vals[j]? = some u → Rr E d u) →
        Calls P fid vals w (EndsIn lo E h1 (s.n + 1) w v h2 n2 m) := q2
      have hk1 : KH lo s.h h1 s.n (s.n + 1) := hh1 ▸ KH.new hlo hub _
      have hk3 : KH lo h2 h3 n2 n2 := hh3 ▸ KH.turn hlo (Nat.lt_of_succ_le q1.nn) hub _
      have hnn : s.n + 1 ≤ n2 := q1.nn
      have hs' : s' = ⟨s.t, h3, n2⟩ := by
        split at h <;> first | (cases h; rfl) | cases h
      subst hs'
      refine ⟨(hk1.trans q1).trans hk3, 0, fun ro m E a w hro hm hss hs => nl (by simp) (wpIn_rangeFunc fun fn _ => ?_)⟩
      have hm : n2 ≤ m := hm
      obtain rfl : ro = none := hro hrd
      have hgr := hss.opd g hgo
      rw [hg] at hgr
      generalize hgv : a.eval g = gv at hgr
      cases hgr with
      | fn _ _ _ us vs hf1 hc1 hfr hcr =>
        have hcf : ∀ (vals : Array Value) (w : World), (callFunc fid vals).run P w = .ok (.enter fid vals) w := fun vals w => by
          unfold hasBody at hbd
          cases hP : P.funcs[fid]? with
          | none => rw [hP] at hbd; cases hbd
          | some fn =>
            rw [hP] at hbd
            simp only [Bool.and_eq_true, Bool.not_eq_true'] at hbd
            have hn : fn.body.isNone = false := by cases h : fn.body <;> simp_all
            simp only [callFunc, Sem.run_bind, run_program, Result.andThen_ok, hP, hbd.2, hn, Bool.false_eq_true, if_false, Sem.run_pure]
        obtain ⟨rec, hrecd⟩ : ∃ rec : Loop, rec = { state := .ready, pending := none, fn, tmps := a.tmps, params := ps, assign := asg, body, defers := w.heap.size } := ⟨_, rfl⟩
        obtain ⟨W0, hW0⟩ : ∃ W0, w.alloc (.deferred (some [])) = W0 := ⟨_, rfl⟩
        obtain ⟨W1, hW1⟩ : ∃ W1, W0.alloc (.loop rec) = W1 := ⟨_, rfl⟩
        have hsz0 : W0.heap.size = w.heap.size + 1 := by rw [← hW0]; exact World.size_alloc _ _
        have hsz1 : W1.heap.size = w.heap.size + 2 := by rw [← hW1, World.size_alloc, hsz0]
        have hs0 : HS E s.h.get s.n m W0 := by rw [← hW0]; exact hs.laid _
        have hpush : W1.heap = W0.heap.push (.loop rec) := by rw [← hW1]; rfl
        have hL1 : W1.heap[w.heap.size + 1]? = some (.loop rec) := by rw [hpush, ← hsz0]; simp
        have hK0 : W0.heap[w.heap.size]? = some (.deferred (some [])) := by
          rw [← hW0]; show (w.heap.push _)[w.heap.size]? = _; simp
        have hK1 : W1.heap[w.heap.size]? = some (.deferred (some [])) := by
          rw [hpush, Array.getElem?_push, if_neg (by omega)]; exact hK0
        obtain ⟨r1, r2, r3⟩ := hs0.new (lo := lo) (by omega) hlo (w' := W1) hpush (by rw [← hW1]; rfl) (by rw [← hW1]; rfl) (by rw [← hW1]; rfl) (k := .lp .ready none s.t nt ps.toList asg body) (s := 0)
          ⟨rec, by rw [hsz0]; exact hL1, by rw [hrecd], by rw [hrecd], by rw [hrecd], by rw [hrecd], by rw [hrecd], by rw [hrecd]; exact hss.size, fun i hi => by rw [hrecd]; exact (hss.slot i hi).mono (updE_up hs (by omega) _)⟩
        rw [hsz0] at r1 r2 r3
        rw [← get_set_fun hub, hh1] at r1 r2
        rw [← hW0] at r2
        replace r2 := RX.laid hs _ r2
        generalize hE1 : updE E s.n (some (w.heap.size + 1, 0)) = E1 at r1 r2 r3
        have hEn : E1 s.n = some (w.heap.size + 1, 0) := by rw [← hE1]; exact updE_same _ _ _
        -- nobody names the deferred calls' block
        have hun : ∀ b z, h1.get b ≠ none → E1 b ≠ some (w.heap.size, z) := fun b z hb he => by
          by_cases e : b = s.n
          · subst e; rw [hEn] at he; simp at he
          · rw [← hE1, updE_ne _ _ e] at he
            have := hs.old b _ z he
            omega
        refine ⟨w.heap.size + 1, [markOf w.heap.size], W1, { target := .fn (.func fid) vs, args := us ++ #[.func (.yield (w.heap.size + 1)) #[] #[]] }, W1, fid, us ++ #[.func (.yield (w.heap.size + 1)) #[] #[]] ++ vs, W1, ?_, ?_, fun _ _ => trivial, ?_, depth_FR _, ?_⟩
        · rw [← hW1, ← hW0, hrecd]; exact run_enterLoop_outer _ _ _ _ _
        · simp only [resolve, hgv]
          simp [Deferred.ofValue, Act.eval]
        · simp [invoke, hcf]
        · have hcl : Calls P fid (us ++ #[.func (.yield (w.heap.size + 1)) #[] #[]] ++ vs) W1 (EndsIn lo E1 h1 (s.n + 1) W1 v h2 n2 m) := q2 m E1 W1 _ hm r1 (by simp only [List.length_append, List.length_cons, List.length_nil, Array.size_append, List.size_toArray]; omega) (fun j d u hd hu => by
            rw [List.getElem?_append, List.getElem?_append] at hd
            rw [Array.getElem?_append, Array.getElem?_append] at hu
            simp only [List.length_append, List.length_cons, List.length_nil, Array.size_append, List.size_toArray] at hd hu
            rw [hf1] at hd
            split at hd
            · rename_i h1
              rw [if_pos h1] at hu
              split at hd
              · rename_i h2
                rw [if_pos h2] at hu
                exact (hfr j d u hd hu).mono r3
              · rename_i h2
                rw [if_neg h2] at hu
                obtain ⟨rfl⟩ : j = us.size := by omega
                simp at hd hu
                subst hd
                subst hu
                exact .yl _ _ _ hEn
            · rename_i h1
              rw [if_neg h1] at hu
              exact (hcr _ d u hd hu).mono r3)
          refine callsIn_FR (Calls.mono hcl ?_)
          rintro e2 w2 ⟨y, E2, rfl, p1, p2, p3⟩
          obtain ⟨g2, z2, u1, rr, u2, u3, u4, u5, u6, u7, u8, u9⟩ := p1.blk s.n _ hrec
          have hE2 : E2 s.n = some (w.heap.size + 1, 0) := by rw [p2.emb s.n (.inl (by omega))]; exact hEn
          rw [hE2] at u1
          cases u1
          have hfrm := p2.frame w.heap.size (by omega) fun b z hb => hun b z hb
          obtain ⟨t1', t2'⟩ := p1.turn (lo := lo) (b := s.n) (g := w.heap.size + 1) (s := 0) hlo (by omega) (by rw [hrec]; simp) hE2 (w' := w2.putObj (w.heap.size + 1) (.loop { rr with state := .exhausted })) (by simp) (fun g' hg' => World.putObj_heap_other hg') rfl rfl rfl
            (k := .lp .exhausted pe t1 nt1 ps1 asg1 body1) ⟨{ rr with state := .exhausted }, World.putObj_heap_same (heap_lt u2), rfl, u4, u5, u6, u7, u8, u9⟩
          rw [← get_set_fun hub, hh3] at t1' t2'
          have hpost : ∀ e0, CPost nt lo m E s ⟨s.t, h3, n2⟩ e0 a w e0 { a with defers := [markOf w.heap.size] ++ a.defers } (w2.putObj (w.heap.size + 1) (.loop { rr with state := .exhausted })) := fun e0 => by
            have hup : ∀ b p, E b = some p → E2 b = some p := fun b p hp => r1.up p2 hm b p (r3 b p hp)
            have hkk := t2'.frame w.heap.size (heap_lt (hfrm.1.trans hK1)) fun b z hb => hfrm.2 b z hb
            refine ⟨rfl, E2, [w.heap.size], (show SS nt E s.t { a with defers := [markOf w.heap.size] ++ a.defers } from ⟨hss.size, hss.slot⟩).mono hup, ⟨rfl, by simp, by simp, by simpa using hkk.1.trans (hfrm.1.trans hK1), by simpa using hkk.2⟩, t1', ?_⟩
            exact (r2.trans p2 hs (by omega) hlo).trans t2' hs hm hlo
          refine ⟨pe, w2.putObj (w.heap.size + 1) (.loop { rr with state := .exhausted }), ?_, ?_⟩
          · have := run_endLoop (P := P) u2 (by rw [u3]; exact hst)
            rw [← u4]
            exact this
          · split at h <;> cases h
            · exact hpost _
            · exact wpIn_ret (hpost _)
            · exact wpIn_exit (hpost _)
    · cases h
end
end Go.Rv
