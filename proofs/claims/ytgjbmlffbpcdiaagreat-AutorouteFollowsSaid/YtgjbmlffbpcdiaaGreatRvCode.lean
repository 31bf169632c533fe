/- Running code and functions on the heap of numbers. -/
import Derived.Test.YtgjbmlffbpcdiaaGreatRvAny
import Derived.LoopN
set_option linter.unusedVariables false
set_option linter.unusedSimpArgs false
namespace Go.Rv
open Go.RowKit Go.Sg

section
variable {P : Program} {nt lo : Nat} {ops : List Oper} {call : Calr} {effF : FuncId → Bool}

theorem evDraw_ok (hc : CallsOk P call) (hreg : regOkR nt ops = true) (hd : drawOk ops (masks ops []) = true) : ∀ (f k : Nat) (l : List Oper) (s s' : St), evDraw P call lo ops (masks ops []) effF f k l s = some s' → (∀ j, l[j]? = ops[k + j]?) → k + l.length = ops.length → lo ≤ s.n → KH lo s.h s'.h s.n s'.n ∧
    ∀ (m : Nat) (Q' : Exit → Act → World → Prop) (fuel : Nat) (listed : Array Bool) (E : Emb) (a : Act) (w : World), s'.n ≤ m → listed.size = ops.length → Cl ops listed → (∀ j, j < ops.length → listed.getD j true = decide (j < k)) → Left ops listed fuel → SS nt E s.t a → HS E s.h.get s.n m w →
      (∀ E' a' w', SS nt E' s'.t a' → a'.defers = a.defers → HS E' s'.h.get s'.n m w' → RX lo E s.h.get s.n w E' s'.h.get s'.n w' → Q' .normal a' w') → wpAny P .any ops.toArray Q' fuel listed a w
  | 0, k, l, s, s', h, _, _, _ => by cases h
  | f + 1, k, l, s, s', h, hl, hlen, hlo => by
    obtain ⟨hnt, hall⟩ := regOkR_get hreg
    have hmem : ∀ o ∈ l, o ∈ ops := fun o ho => by
      obtain ⟨j, hj⟩ := List.getElem?_of_mem ho
      rw [hl j] at hj
      exact List.mem_of_getElem? hj
    have hdu : ∀ o ∈ l, ∀ d, o.dst = some d → d < ub := fun o ho d hdd => Nat.lt_of_lt_of_le (dstOk_lt (hall o (hmem o ho)).2 d hdd) hnt
    unfold evDraw at h
    -- the phase, whatever follows
    have phase : ∀ k' s1 rest, phR P call ops (masks ops []) effF s.n k l [] s = some (k', s1, rest) → (rest ≠ [] → effAt (masks ops []) k' ops.length = true) → k' + rest.length = ops.length ∧ (∀ j, rest[j]? = ops[k' + j]?) ∧ KH lo s.h s1.h s.n s1.n ∧
        ∀ (m : Nat) (Q' : Exit → Act → World → Prop) (fuel : Nat) (listed : Array Bool) (E : Emb) (a : Act) (w : World), s1.n ≤ m → listed.size = ops.length → Cl ops listed → (∀ j, j < ops.length → listed.getD j true = decide (j < k)) → Left ops listed fuel → SS nt E s.t a → HS E s.h.get s.n m w →
          (∀ fuel listed E' a' w', listed.size = ops.length → Cl ops listed → (∀ j, j < ops.length → listed.getD j true = decide (j < k')) → Left ops listed fuel → SS nt E' s1.t a' → a'.defers = a.defers → HS E' s1.h.get s1.n m w' → RX lo E s.h.get s.n w E' s1.h.get s1.n w' → wpAny P .any ops.toArray Q' fuel listed a' w') →
          wpAny P .any ops.toArray Q' fuel listed a w := fun k' s1 rest hph heff => by
      obtain ⟨rcs, j1, j2, j3, j4, j6, _, j5⟩ := phR_ok hc l k [] s k' s1 rest hph (fun x hx => by cases hx) (fun x hx => by cases hx) (fun b h1 h2 => by omega) (Nat.le_refl _) hdu
      have hll : l.length = rcs.length + rest.length := by rw [j1]; simp
      have hkeep : ∀ b, b < s.n ∨ s1.n ≤ b → s1.h.get b = s.h.get b := j3.kp
      refine ⟨by omega, fun j => ?_, ⟨j3.nn, fun b hb => hkeep b (by omega)⟩, fun m Q' fuel listed E a w hm hsz hcl hpre hleft hss hs hend => ?_⟩
      · have := hl (rcs.length + j)
        rw [j1, List.getElem?_append_right (by simp)] at this
        rw [j2, Nat.add_assoc, ← this]
        simp
      · have hout : ∀ b, s1.n ≤ b ∨ b < s.n → ∀ (p : Nat) (rc : Rc), rcs[p]? = some rc → ¬ (rc.n ≤ b ∧ b < rc.n') := fun b hb p rc hp hr => by
          have R := j5 p rc hp
          have := R.n1; have := R.n2; have := R.n3
          omega
        have hnn : s.n ≤ s1.n := j3.nn
        have hun : ∀ p rc, rcs[p]? = some rc → listed.getD (k + p) false = false := fun p rc hp => by
          have hlt : p < rcs.length := by
            rcases Nat.lt_or_ge p rcs.length with h | h
            · exact h
            · rw [List.getElem?_eq_none h] at hp; cases hp
          rw [← getD_ff (by omega), hpre _ (by omega)]
          exact decide_eq_false (by omega)
        have hnl : ∀ b, s.n ≤ b → HD listed k s.n rcs s1.h.get b = none := fun b hb => HD_out hb fun p rc hp hl => by rw [hun p rc hp] at hl; cases hl
        have hHD : ∀ b, HD listed k s.n rcs s1.h.get b ≠ none → HD listed k s.n rcs s1.h.get b = s.h.get b := fun b hb => by
          rcases Nat.lt_or_ge b s.n with h | h
          · rw [HD_base h]; exact hkeep b (.inl h)
          · exact absurd (hnl b h) hb
        have hsn : ∀ b, s.n ≤ b → s.h.get b = none := fun b hb => hs.none_of hb
        have hs1 := hs.sub hHD
        refine ph_any hreg hd (k := k) (s := s) (s' := s1) (rcs := rcs) (fun p rc hp => ?_) (by omega) (fun hlt => ?_) j5 (fun b hb hr => j6 b hb (fun x hx => by cases hx) hr) j4 hm hsn hlo (lo := lo) (E0 := E) (w0 := w) (d0 := a.defers) (fun fuel listed E' a' w' h1 h2 h3 h4 h5 h6 h7 h8 => hend fuel listed E' a' w' h1 h2 (by rw [j2]; exact h3) h4 h5 h6 h7 h8)
          fuel listed E a w hsz hcl (fun j hj => ?_) (fun j hj hjN => ?_) hleft hss.size (fun q hq => ⟨fun _ => hss.slot q hq, fun hno => ?_⟩) rfl ⟨hs1.blk, hs1.inj, hs1.old, fun b hb1 hb2 => hs.free b (by omega) hb2, hs1.top⟩ (fun p rc hp _ b hb1 hb2 => ?_)
          ⟨rfl, rfl, rfl, Nat.le_refl _, hnn, fun _ _ => rfl, fun g hg hf => ⟨rfl, fun b s2 hb => hf b s2 (by rw [← hHD b hb]; exact hb)⟩, fun b hb => ⟨?_, fun _ _ _ _ => rfl⟩, fun b hb => ?_⟩
        · have hlt : p < rcs.length := by
            rcases Nat.lt_or_ge p rcs.length with h | h
            · exact h
            · rw [List.getElem?_eq_none h] at hp; cases hp
          rw [← hl p, j1, List.getElem?_append_left (by simpa using hlt), List.getElem?_map, hp]; rfl
        · rw [← j2]
          refine heff fun e => ?_
          subst e
          simp at hll
          omega
        · rw [← getD_ff (by omega), hpre j (by omega)]; exact decide_eq_true hj
        · rw [← getD_ff (by omega), hpre j hjN]; exact decide_eq_false (by omega)
        · have : s1.t.get q = s.t.get q := j4 q fun rc hrc => by
            obtain ⟨p, hp⟩ := List.getElem?_of_mem hrc
            exact hno p rc hp (hun p rc hp)
          rw [this]; exact hss.slot q hq
        · have R := j5 p rc hp
          have := R.n1; have := R.n3
          exact hs.free b (by omega) (by omega)
        · rw [HD_base (by omega), hkeep b (by omega)]
        · rw [hnl b (by omega), hsn b (by omega)]
    split at h
    · cases h
    · rename_i k' s1 hph
      cases h
      obtain ⟨p1, p2, p3, p4⟩ := phase _ _ _ hph (by simp)
      refine ⟨p3, fun m Q' fuel listed E a w hm hsz hcl hpre hleft hss hs hend => p4 m Q' fuel listed E a w hm hsz hcl hpre hleft hss hs fun fuel listed E' a' w' h1 h2 h3 h4 h5 h6 h7 h8 => ?_⟩
      have hready : Region.ready .any ops.toArray listed = [] := by
        cases hr : Region.ready .any ops.toArray listed with
        | nil => rfl
        | cons i r =>
          obtain ⟨q1, o, q2, _⟩ := mem_ready.1 (show i ∈ Region.ready .any ops.toArray listed by rw [hr]; simp)
          have hiN : i < ops.length := by
            rcases Nat.lt_or_ge i ops.length with h | h
            · exact h
            · rw [List.getElem?_toArray, List.getElem?_eq_none h] at q2; cases q2
          rw [h3 i hiN, decide_eq_true (by simp at p1; omega)] at q1
          cases q1
      cases fuel with
      | zero => exact ⟨hready, hend E' a' w' h5 h6 h7 h8⟩
      | succ fuel => exact ⟨fun _ => hend E' a' w' h5 h6 h7 h8, fun i hi => by rw [hready] at hi; cases hi⟩
    · rename_i k' t1 h1' n1 o l' hph
      obtain ⟨heff, h⟩ := bif_opt h
      split at h <;> try cases h
      rename_i v h2' n2 hv
      obtain ⟨p1, p2, p3, p4⟩ := phase _ _ _ hph (fun _ => heff)
      have hn1 : lo ≤ n1 := Nat.le_trans hlo p3.nn
      obtain ⟨k1, k2⟩ := evO_ok hc hn1 hv
      have ho : ops[k']? = some o := by have := p2 0; simpa using this.symm
      have hkN : k' < ops.length := by simp at p1; omega
      obtain ⟨i1, i2⟩ := evDraw_ok hc hreg hd f (k' + 1) l' _ s' h (fun j => by have := p2 (j + 1); simpa [Nat.add_assoc, Nat.add_comm 1 j] using this) (by simp at p1 ⊢; omega) (Nat.le_trans hn1 k1.nn)
      have hmo := hall o (List.mem_of_getElem? ho)
      refine ⟨p3.trans (k1.trans i1), fun m Q' fuel listed E a w hm hsz hcl hpre hleft hss hs hend => p4 m Q' fuel listed E a w (Nat.le_trans (Nat.le_trans k1.nn i1.nn) hm) hsz hcl hpre hleft hss hs fun fuel listed E' a' w' h1 h2 h3 h4 h5 h6 h7 h8 => ?_⟩
      have hkl : listed.getD k' true = false := by rw [h3 k' hkN]; exact decide_eq_false (by omega)
      cases fuel with
      | zero => exact (h4.pos hkN hkl).elim
      | succ fuel =>
        refine ⟨fun hr => absurd hr (ready_ne hd h1 k' hkN hkl), fun i hi => ?_⟩
        have hrc := ready_cl h2 hi
        obtain ⟨hiu, oi, hoi, _⟩ := mem_ready.1 hi
        have hiN : i < ops.length := by
          rcases Nat.lt_or_ge i ops.length with h | h
          · exact h
          · rw [List.getElem?_toArray, List.getElem?_eq_none h] at hoi; cases hoi
        have hik : i = k' := by
          rw [h3 i hiN] at hiu
          have hge : ¬ i < k' := of_decide_eq_false hiu
          rcases Nat.lt_or_eq_of_le (Nat.le_of_not_lt hge) with hlt | he
          · unfold effAt at heff
            simp only [Bool.and_eq_true, List.all_eq_true, List.mem_range, Bool.or_eq_true, decide_eq_true_eq] at heff
            rcases heff.2 i hiN with h4 | h4
            · omega
            · have := hrc _ h4
              rw [← getD_ff (by omega), hkl] at this; cases this
          · exact he.symm
        subst hik
        have run := k2 m E' a' w' (Nat.le_trans i1.nn hm) (h5.opds hmo.1) (h5.gslot fun o ho => (hall o ho).2) h7 (wpAny P .any ops.toArray Q' fuel (listed.setIfInBounds i true)) Q' fun E2 y w2 q1 q2 q3 => by
          have hm1 : n2 ≤ m := Nat.le_trans i1.nn hm
          refine i2 m Q' fuel (listed.setIfInBounds i true) E2 _ w2 hm (by simp [h1]) (h2.set hi) (fun j hj => ?_) (h4.set hiN h1 hkl) ((h5.mono (h7.up q2 hm1)).putD hnt (dstOk_lt hmo.2) q3) q1 fun E3 a3 w3 r1 r2 r3 r4 => hend E3 a3 w3 r1 (by rw [r2, put_defers, h6]) r3 (h8.trans (q2.trans r4 h7 hm1 hn1) hs (Nat.le_trans k1.nn hm1) hlo)
          by_cases e : j = i
          · subst e; rw [getD_set_self (by omega) true]; exact (decide_eq_true (by omega)).symm
          · rw [getD_set_ne true (Ne.symm e), h3 j hj]
            by_cases e2 : j < i
            · rw [decide_eq_true e2, decide_eq_true (by omega)]
            · rw [decide_eq_false e2, decide_eq_false (by omega)]
        unfold wpOp
        simp only [List.getElem?_toArray, ho]
        split at run
        · rename_i hw; rw [if_pos hw]; exact .inl run
        · rename_i hw; rw [if_neg hw]; exact run

/-! ## Code -/

def evC (P : Program) (call : Calr) (effF : FuncId → Bool) (lo nt : Nat) : Nat → Code → St → Option (Exit × St)
  | 0, _, _ => none
  | f + 1, c, s => match c with
    | .skip => some (.normal, s)
    | .exit i => some (.exit i, s)
    | .ret => some (.ret, s)
    | .seq x y => match evC P call effF lo nt f x s with
      | some (.normal, s1) => evC P call effF lo nt f y s1
      | r => r
    | .block id b => match evC P call effF lo nt f b s with
      | some (.exit i, s1) => bif i == id then some (.normal, s1) else some (.exit i, s1)
      | r => r
    | .cond x a b => match evR s.t x with
      | .bool t => bif opdOk nt x then (bif t then evC P call effF lo nt f a s else evC P call effF lo nt f b s) else none
      | _ => none
    | .loop b => match evC P call effF lo nt f b s with
      | some (.normal, s1) => evC P call effF lo nt f (.loop b) s1
      | r => r
    | .region _ ops false => bif regOkR nt ops.toList then (evOps P call lo ops.toList ops.toList s).map fun s => (.normal, s) else none
    | .region _ ops true => bif regOkR nt ops.toList && drawOk ops.toList (masks ops.toList []) then (evDraw P call lo ops.toList (masks ops.toList []) effF (ops.toList.length + 1) 0 ops.toList s).map fun s => (.normal, s) else none
    | _ => none

theorem HS.drew {E : Emb} {h : Hp} {n m : Nat} {w : World} (hs : HS E h n m w) : HS E h n m w.drew := ⟨fun b k hk => by
  obtain ⟨g, s, h1, h2⟩ := hs.blk b k hk
  exact ⟨g, s, h1, h2.mono (fun _ _ h => h) rfl⟩, hs.inj, hs.old, hs.free, hs.top⟩
theorem RX.drew {lo : Nat} {E : Emb} {h : Hp} {n : Nat} {w : World} {E' : Emb} {h' : Hp} {n' : Nat} {w' : World} (hx : RX lo E h n w.drew E' h' n' w') : RX lo E h n w E' h' n' w' := ⟨hx.os, hx.tape, hx.output, hx.size, hx.nn, hx.emb, hx.frame, hx.keep, hx.beyond⟩

theorem rounds_mono {c : Code} {Q Q' : Exit → Act → World → Prop} (hq : ∀ e a w, Q e a w → Q' e a w) : ∀ (m : Nat) (a : Act) (w : World), Code.rounds P c Q m a w → Code.rounds P c Q' m a w
  | 0, _, _, h => h
  | m + 1, a, w, h => by
    rw [rounds_succ] at h ⊢
    refine wp_mono h fun e a' w' q => ?_
    cases e with
    | normal => exact rounds_mono hq m a' w' q
    | _ => exact hq _ _ _ q

/-- What a run of code ends in. -/
def CPost (nt lo : Nat) (m : Nat) (E : Emb) (s s' : St) (e : Exit) (a : Act) (w : World) (e' : Exit) (a' : Act) (w' : World) : Prop := e' = e ∧ ∃ E', SS nt E' s'.t a' ∧ a'.defers = a.defers ∧ HS E' s'.h.get s'.n m w' ∧ RX lo E s.h.get s.n w E' s'.h.get s'.n w'

theorem CPost.trans {m : Nat} {E E1 : Emb} {s s1 s2 : St} {e : Exit} {a a1 : Act} {w w1 : World} (hs : HS E s.h.get s.n m w) (hm : s1.n ≤ m) (hlo : lo ≤ s.n) (hd : a1.defers = a.defers) (hx : RX lo E s.h.get s.n w E1 s1.h.get s1.n w1) {e' : Exit} {a' : Act} {w' : World}
    (h : CPost nt lo m E1 s1 s2 e a1 w1 e' a' w') : CPost nt lo m E s s2 e a w e' a' w' := by
  obtain ⟨h1, E', h2, h3, h4, h5⟩ := h
  exact ⟨h1, E', h2, h3.trans hd, h4, hx.trans h5 hs hm hlo⟩

theorem evC_ok (hmx : P.follows .mixedOrders = true) (hc : CallsOk P call) : ∀ (f : Nat) (c : Code) (s : St) (e : Exit) (s' : St), evC P call effF lo nt f c s = some (e, s') → lo ≤ s.n → KH lo s.h s'.h s.n s'.n ∧ ∃ k : Nat,
    ∀ (m : Nat) (E : Emb) (a : Act) (w : World), s'.n ≤ m → SS nt E s.t a → HS E s.h.get s.n m w → c.wp P (CPost nt lo m E s s' e a w) a w ∧ ∀ b, c = .loop b → Code.rounds P b (CPost nt lo m E s s' e a w) k a w
  | 0, _, _, _, _, h, _ => by cases h
  | f + 1, c, s, e, s', h, hlo => by
    have ih := evC_ok hmx hc f
    have nl : ∀ {c : Code} {s s' : St} {e : Exit} {m : Nat} {E : Emb} {a : Act} {w : World}, (∀ b, c ≠ .loop b) → c.wp P (CPost nt lo m E s s' e a w) a w → c.wp P (CPost nt lo m E s s' e a w) a w ∧ ∀ b, c = .loop b → Code.rounds P b (CPost nt lo m E s s' e a w) 0 a w := fun hn h => ⟨h, fun b hb => absurd hb (hn b)⟩
    have triv : ∀ {m : Nat} {E : Emb} {a : Act} {w : World} {e : Exit}, SS nt E s.t a → HS E s.h.get s.n m w → CPost nt lo m E s s e a w e a w := fun hss hs => ⟨rfl, _, hss, rfl, hs, RX.refl _ _ _ _ _⟩
    unfold evC at h
    split at h
    · cases h; exact ⟨KH.refl _ _ _, 0, fun m E a w hm hss hs => nl (by simp) (wp_skip (triv hss hs))⟩
    · cases h; exact ⟨KH.refl _ _ _, 0, fun m E a w hm hss hs => nl (by simp) (wp_exit (triv hss hs))⟩
    · cases h; exact ⟨KH.refl _ _ _, 0, fun m E a w hm hss hs => nl (by simp) (wp_ret (triv hss hs))⟩
    · rename_i x y
      split at h
      · rename_i s1 h1
        obtain ⟨k1, kn, k2⟩ := ih x s _ s1 h1 hlo
        obtain ⟨j1, jn, j2⟩ := ih y s1 e s' h (Nat.le_trans hlo k1.nn)
        refine ⟨k1.trans j1, 0, fun m E a w hm hss hs => nl (by simp) (wp_seq (wp_mono (k2 m E a w (Nat.le_trans j1.nn hm) hss hs).1 ?_))⟩
        rintro e1 a1 w1 ⟨rfl, E1, q1, q2, q3, q4⟩
        exact wp_mono (j2 m E1 a1 w1 hm q1 q3).1 fun e2 a2 w2 r => CPost.trans hs (Nat.le_trans j1.nn hm) hlo q2 q4 r
      · rename_i h1
        obtain ⟨k1, kn, k2⟩ := ih x s e s' h hlo
        refine ⟨k1, 0, fun m E a w hm hss hs => nl (by simp) (wp_seq (wp_mono (k2 m E a w hm hss hs).1 ?_))⟩
        rintro e1 a1 w1 ⟨rfl, r⟩
        cases e1 with
        | normal => exact absurd h (h1 s')
        | _ => exact ⟨rfl, r⟩
    · rename_i id b
      split at h
      · rename_i i s1 h1
        obtain ⟨k1, kn, k2⟩ := ih b s _ s1 h1 hlo
        cases hi : i == id with
        | true =>
          rw [hi] at h
          cases h
          refine ⟨k1, 0, fun m E a w hm hss hs => nl (by simp) (wp_block (wp_mono (k2 m E a w hm hss hs).1 ?_))⟩
          rintro e1 a1 w1 ⟨rfl, r⟩
          simp only [Exit.inBlock]
          rw [if_pos (by simpa using hi)]
          exact ⟨rfl, r⟩
        | false =>
          rw [hi] at h
          cases h
          refine ⟨k1, 0, fun m E a w hm hss hs => nl (by simp) (wp_block (wp_mono (k2 m E a w hm hss hs).1 ?_))⟩
          rintro e1 a1 w1 ⟨rfl, r⟩
          simp only [Exit.inBlock]
          rw [if_neg (by simpa using hi)]
          exact ⟨rfl, r⟩
      · rename_i h1
        obtain ⟨k1, kn, k2⟩ := ih b s e s' h hlo
        refine ⟨k1, 0, fun m E a w hm hss hs => nl (by simp) (wp_block (wp_mono (k2 m E a w hm hss hs).1 ?_))⟩
        rintro e1 a1 w1 ⟨rfl, r⟩
        cases e1 with
        | exit i => exact absurd h (h1 i s')
        | _ => exact ⟨rfl, r⟩
    · rename_i x c1 c2
      split at h
      · rename_i t hx
        obtain ⟨ho, h⟩ := bif_opt h
        have hv : ∀ {E : Emb} {a : Act}, SS nt E s.t a → a.eval x = .bool t := fun hss => by
          have := hss.opd x ho
          rw [hx] at this
          generalize Act.eval _ x = y at this ⊢
          cases this; rfl
        cases t with
        | true =>
          obtain ⟨k1, kn, k2⟩ := ih c1 s e s' h hlo
          exact ⟨k1, 0, fun m E a w hm hss hs => nl (by simp) (wp_cond_true (hv hss) (k2 m E a w hm hss hs).1)⟩
        | false =>
          obtain ⟨k1, kn, k2⟩ := ih c2 s e s' h hlo
          exact ⟨k1, 0, fun m E a w hm hss hs => nl (by simp) (wp_cond_false (hv hss) (k2 m E a w hm hss hs).1)⟩
      · cases h
    · rename_i b
      split at h
      · rename_i s1 h1
        obtain ⟨k1, kn, k2⟩ := ih b s _ s1 h1 hlo
        obtain ⟨j1, jn, j2⟩ := ih (.loop b) s1 e s' h (Nat.le_trans hlo k1.nn)
        refine ⟨k1.trans j1, jn + 1, fun m E a w hm hss hs => ?_⟩
        have key : Code.rounds P b (CPost nt lo m E s s' e a w) (jn + 1) a w := by
          rw [rounds_succ]
          refine wp_mono (k2 m E a w (Nat.le_trans j1.nn hm) hss hs).1 ?_
          rintro e1 a1 w1 ⟨rfl, E1, q1, q2, q3, q4⟩
          exact rounds_mono (fun e2 a2 w2 r => CPost.trans hs (Nat.le_trans j1.nn hm) hlo q2 q4 r) jn a1 w1 ((j2 m E1 a1 w1 hm q1 q3).2 b rfl)
        exact ⟨wp_loop_rounds _ key, fun b' hb' => by cases hb'; exact key⟩
      · rename_i h1
        obtain ⟨k1, kn, k2⟩ := ih b s e s' h hlo
        refine ⟨k1, 1, fun m E a w hm hss hs => ?_⟩
        have key : Code.rounds P b (CPost nt lo m E s s' e a w) 1 a w := by
          rw [rounds_succ]
          refine wp_mono (k2 m E a w hm hss hs).1 ?_
          rintro e1 a1 w1 ⟨rfl, r⟩
          cases e1 with
          | normal => exact absurd h (h1 s')
          | _ => exact ⟨rfl, r⟩
        exact ⟨wp_loop_rounds 1 key, fun b' hb' => by cases hb'; exact key⟩
    · rename_i id ops'
      obtain ⟨hr, h⟩ := bif_opt h
      rw [Option.map_eq_some_iff] at h
      obtain ⟨s1, h1, h2⟩ := h
      obtain ⟨rfl, rfl⟩ := Prod.mk.inj h2
      obtain ⟨k1, k2⟩ := evOps_ok hc hr ops'.toList s s1 (fun _ h => h) h1 hlo
      refine ⟨k1, 0, fun m E a w hm hss hs => nl (by simp) ?_⟩
      have := wp_region_lit (P := P) (id := id) (Q := CPost nt lo m E s s1 .normal a w) (l := ops'.toList) (k2 m E a w _ hm hss hs fun E' a' w' q1 q2 q3 q4 => ⟨rfl, E', q1, q2, q3, q4⟩)
      simpa using this
    · rename_i id ops'
      obtain ⟨hr, h⟩ := bif_opt h
      rw [Bool.and_eq_true] at hr
      rw [Option.map_eq_some_iff] at h
      obtain ⟨s1, h1, h2⟩ := h
      obtain ⟨rfl, rfl⟩ := Prod.mk.inj h2
      obtain ⟨k1, k2⟩ := evDraw_ok hc hr.1 hr.2 _ 0 ops'.toList s s1 h1 (fun j => by rw [Nat.zero_add]) (by simp) hlo
      refine ⟨k1, 0, fun m E a w hm hss hs => nl (by simp) (wp_region_any hmx ?_)⟩
      have := k2 m (CPost nt lo m E s s1 .normal a w) ops'.size (Array.replicate ops'.size false) E a w.drew hm (by simp) (fun i hi hl => by
          have hi' : i < ops'.size := by simpa using hi
          simp [Array.getD_eq_getD_getElem?, hi'] at hl) (fun j hj => by
          have hj' : j < ops'.size := by simpa using hj
          simp [Array.getD_eq_getD_getElem?, hj']) ⟨List.range ops'.size, by simp, fun j hj _ => by simpa using hj⟩ hss hs.drew
        fun E' a' w' q1 q2 q3 q4 => ⟨rfl, E', q1, q2, q3, q4.drew⟩
      simpa using this
    · cases h
end
end Go.Rv
