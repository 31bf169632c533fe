/- Running functions on the heap of numbers; a closed call as a contract. -/
import Derived.Test.YtgjbmlffbpcdiaaGreatRvCode
set_option linter.unusedVariables false
set_option linter.unusedSimpArgs false
namespace Go.Rv
open Go.RowKit Go.Sg

def entryT : Nat → List RV → Tr RV → Tr RV
  | _, [], t => t
  | k, v :: l, t => entryT (k + 1) l (t.set k (some v))
theorem entryT_get : ∀ (l : List RV) (k : Nat) (t : Tr RV) (i : Nat), k + l.length ≤ ub → (entryT k l t).get i = if k ≤ i ∧ i < k + l.length then l[i - k]? else t.get i
  | [], k, t, i, _ => by rw [if_neg (by simp)]; rfl
  | v :: l, k, t, i, h => by
    unfold entryT
    have hl : (v :: l).length = l.length + 1 := rfl
    rw [hl] at h
    rw [entryT_get l (k + 1) _ i (by omega), Tr.get_set (by omega)]
    by_cases e : i = k
    · subst e
      rw [if_neg (by omega), if_pos rfl, if_pos (by rw [hl]; omega), Nat.sub_self]; rfl
    · by_cases e2 : k + 1 ≤ i ∧ i < k + 1 + l.length
      · rw [if_pos e2, if_pos (by rw [hl]; omega)]
        obtain ⟨j, rfl⟩ : ∃ j, i = k + 1 + j := ⟨i - (k + 1), by omega⟩
        rw [show k + 1 + j - (k + 1) = j by omega, show k + 1 + j - k = j + 1 by omega]
        rfl
      · rw [if_neg e2, if_neg e, if_neg (by rw [hl]; omega)]

def val1 (P : Program) (nt : Nat) (s : St) : ResultVar → Option RV
  | .tmp t => bif decide (t < nt) then some ((s.t.get t).getD .nov) else none
  | .cell t ty => bif decide (t < nt) then loadR P s.h.get ty ((s.t.get t).getD .nov) else none
def vals1 (P : Program) (nt : Nat) (s : St) : List ResultVar → Option (List RV)
  | [] => some []
  | v :: l => match val1 P nt s v, vals1 P nt s l with
    | some x, some xs => some (x :: xs)
    | _, _ => none
def retR (P : Program) (nt : Nat) (s : St) (rs : List ResultVar) : Option RV :=
  match rs with
  | [v] => val1 P nt s v
  | rs => (vals1 P nt s rs).map .tup

section
variable {P : Program} {nt lo : Nat}

theorem val1_ok {E : Emb} {s : St} {a : Act} {m : Nat} {w : World} (hss : SS nt E s.t a) (hs : HS E s.h.get s.n m w) {v : ResultVar} {r : RV} (h : val1 P nt s v = some r) : ∃ y, (res1 a.tmps v).run P w = .ok y w ∧ Rr E r y := by
  cases v with
  | tmp t =>
    obtain ⟨h1, rfl⟩ := bif_some h
    exact ⟨_, rfl, hss.slot t (of_decide_eq_true h1)⟩
  | cell t ty =>
    obtain ⟨h1, h2⟩ := bif_opt h
    have hsl := hss.slot t (of_decide_eq_true h1)
    obtain ⟨y, k1, k2⟩ := run_loadR hs hsl h2
    refine ⟨y, ?_, k2⟩
    unfold loadR at h2
    split at h2 <;> try cases h2
    rename_i b off hb
    rw [hb] at hsl
    simp only [res1]
    generalize a.tmps.getD t undef = u at *
    cases hsl with
    | ptr _ _ g s' hE => simpa [Instr.loadAt, Instr.sureAddr, asAddr] using k1

theorem vals1_ok {E : Emb} {s : St} {a : Act} {m : Nat} {w : World} (hss : SS nt E s.t a) (hs : HS E s.h.get s.n m w) : ∀ (l : List ResultVar) (r : List RV), vals1 P nt s l = some r → ∃ ys : List Value, (l.mapM (res1 a.tmps)).run P w = .ok ys w ∧ r.length = ys.length ∧ ys.length = l.length ∧ ∀ (j : Nat) (d : RV) (u : Value), r[j]? = some d → ys[j]? = some u → Rr E d u
  | [], r, h => by cases h; exact ⟨[], rfl, rfl, rfl, by simp⟩
  | v :: l, r, h => by
    unfold vals1 at h
    split at h <;> try cases h
    rename_i x xs h1 h2
    obtain ⟨y, k1, k2⟩ := val1_ok hss hs h1
    obtain ⟨ys, j1, j2, j3, j4⟩ := vals1_ok hss hs l xs h2
    refine ⟨y :: ys, by simp [List.mapM_cons, k1, j1], by simp [j2], by simp [j3], fun j d u hd hu => ?_⟩
    cases j with
    | zero => simp at hd hu; subst hd; subst hu; exact k2
    | succ j => exact j4 j d u (by simpa using hd) (by simpa using hu)

theorem retR_ok {E : Emb} {s : St} {a : Act} {m : Nat} {w : World} {fn : Func} (hss : SS nt E s.t a) (hs : HS E s.h.get s.n m w) {r : RV} (h : retR P nt s fn.results.toList = some r) : ∃ y, (results fn a.tmps).run P w = .ok y w ∧ Rr E r y := by
  generalize hl : fn.results.toList = rs at *
  have hres : fn.results = rs.toArray := by apply Array.ext'; rw [hl]
  unfold retR at h
  split at h
  · rename_i v
    obtain ⟨y, k1, k2⟩ := val1_ok hss hs h
    refine ⟨y, ?_, k2⟩
    have hm : (([v] : List ResultVar).mapM (res1 a.tmps)).run P w = .ok [y] w := by simp [List.mapM_cons, k1]
    rw [results_eq, hres, List.mapM_toArray, Sem.run_bind, Sem.run_map, hm]
    rfl
  · rename_i hne
    rw [Option.map_eq_some_iff] at h
    obtain ⟨l, h1, rfl⟩ := h
    obtain ⟨ys, j1, j2, j3, j4⟩ := vals1_ok hss hs rs l h1
    refine ⟨.tuple ys.toArray, ?_, .tup l _ (by simp [j2]) fun j d u hd hu => j4 j d u hd (by simpa using hu)⟩
    have hn1 : ys.length ≠ 1 := fun e => by
      rw [j3] at e
      match rs, e with
      | [v], _ => exact hne v rfl
    rw [results_eq, hres, List.mapM_toArray, Sem.run_bind, Sem.run_map, j1]
    simp [hn1]

def evFun (P : Program) (effF : FuncId → Bool) (f : Nat) : Nat → Calr
  | 0, _, _, _, _, _ => none
  | d + 1, lo, fid, l, h, n => match P.funcs[fid]? with
    | some fn => (match fn.body with
      | some c => bif decide (l.length ≤ fn.ntmps) && decide (fn.ntmps ≤ ub) then (match evC P (evFun P effF f d) effF lo fn.ntmps f c ⟨entryT 0 l .e, h, n⟩ with
        | some (.ret, s) => (match retR P fn.ntmps s fn.results.toList with
          | some v => some (v, s.h, s.n)
          | none => none)
        | some (.normal, s) => (match retR P fn.ntmps s fn.results.toList with
          | some v => some (v, s.h, s.n)
          | none => none)
        | _ => none) else none
      | none => none)
    | none => none

/-- **A function that is run is a contract.** -/
theorem evFun_ok (hmx : P.follows .mixedOrders = true) (effF : FuncId → Bool) (f : Nat) : ∀ d, CallsOk P (evFun P effF f d)
  | 0, _, _, _, _, _, _, _, _, h, _ => by cases h
  | d + 1, lo, fid, l, h, n, r, h', n', hr, hlo => by
    unfold evFun at hr
    split at hr <;> try cases hr
    rename_i fn hf
    split at hr <;> try cases hr
    rename_i c hb
    obtain ⟨hck, hr⟩ := bif_opt hr
    simp only [Bool.and_eq_true, decide_eq_true_eq] at hck
    have key : ∀ e s, (e = .ret ∨ e = .normal) → evC P (evFun P effF f d) effF lo fn.ntmps f c ⟨entryT 0 l .e, h, n⟩ = some (e, s) → (match retR P fn.ntmps s fn.results.toList with
          | some v => some (v, s.h, s.n)
          | none => none) = some (r, h', n') → CallOk P lo fid l h n r h' n' := fun e s he hev hret => by
      cases hv : retR P fn.ntmps s fn.results.toList with
      | none => rw [hv] at hret; cases hret
      | some v =>
      rw [hv] at hret
      cases hret
      obtain ⟨k1, k, k2⟩ := evC_ok hmx (evFun_ok hmx effF f d) f c _ e s hev hlo
      refine ⟨k1, fun m E w vals hm hs hsz hrel => calls_of_wp hf hb ?_⟩
      have hss : SS fn.ntmps E (entryT 0 l .e) { tmps := vals ++ Array.replicate (fn.ntmps - vals.size) undef, defers := [] } := by
        refine ⟨by simp; omega, fun i hi => ?_⟩
        rw [entryT_get l 0 .e i (by omega)]
        simp only [Array.getD_eq_getD_getElem?]
        by_cases hil : i < l.length
        · rw [if_pos (by omega), Nat.sub_zero, List.getElem?_eq_getElem hil, Array.getElem?_append, if_pos (by omega), Array.getElem?_eq_getElem (by omega)]
          exact hrel i _ _ (List.getElem?_eq_getElem hil) (Array.getElem?_eq_getElem (by omega))
        · rw [if_neg (by omega), Tr.get_e, Array.getElem?_append, if_neg (by omega)]
          have : (Array.replicate (fn.ntmps - vals.size) undef)[i - vals.size]? = some undef := by
            rw [Array.getElem?_replicate, if_pos (by omega)]
          rw [this]
          exact .nov
      refine wp_mono (k2 m E _ w hm hss hs).1 ?_
      rintro e' a' w' ⟨rfl, E', q1, q2, q3, q4⟩
      have fin : a'.defers = [] ∧ ∃ y, (results fn a'.tmps).run P w' = .ok y w' ∧ ∃ y' E', Ending.returned y = .returned y' ∧ HS E' s.h.get s.n m w' ∧ RX lo E h.get n w E' s.h.get s.n w' ∧ Rr E' r y' := by
        obtain ⟨y, p1, p2⟩ := retR_ok q1 q3 hv
        exact ⟨q2, y, p1, y, E', rfl, q3, q4, p2⟩
      rcases he with rfl | rfl <;> exact fin
    split at hr
    · rename_i s hev; exact key .ret s (.inl rfl) hev hr
    · rename_i s hev; exact key .normal s (.inr rfl) hev hr
    · cases hr

theorem HS.nil (w : World) (m : Nat) : HS (fun _ => none) (Tr.e : Tr Blk).get 0 m w := ⟨fun b k h => (by rw [Tr.get_e] at h; cases h), fun b c g s s' h => absurd (Tr.get_e b) h, fun b g s h => (by cases h), fun _ _ _ => rfl, fun b _ => Tr.get_e b⟩

/-- **A closed call that is run.** -/
theorem pcall_run {f : FuncId} {r : RV} {d : DV} {h' : Tr Blk} {n' : Nat} (h : CallOk P 0 f [] .e 0 r h' n') (hd : toD r = d) (hp : isPl d = true) (hr : allK (fun _ => false) d = true) (O : Env) : PCall P O f [] d := fun w I A vals hO hl _ => by
  subst hd
  refine (h.2 n' (fun _ => none) w vals (Nat.le_refl _) (HS.nil w n') hl (fun j d u hd => by simp at hd)).mono ?_
  rintro e w' ⟨y, E', rfl, q1, q2, q3⟩
  have hold : ∀ g, g < w.heap.size → w'.heap[g]? = w.heap[g]? := fun g hg => (q2.frame g hg fun b s hb => absurd (Tr.get_e b) hb).1
  have hrel : ∀ (B : Own) d x, Rel w I B d x → Rel w' I B d x := fun B d x hr => hr.mono fun g hg => ⟨hg, fun o => cell_of_heap (hold g (hO.imm g hg)) o⟩
  refine ⟨y, I, O, _, rfl, ⟨fun s => (hO.own s).keep (fun g c hA => hold g (hO.sep s g c hA).1) hrel, hO.inj, fun s g c hA => ⟨Nat.lt_of_lt_of_le (hO.sep s g c hA).1 q2.size, (hO.sep s g c hA).2⟩, fun g hg => Nat.lt_of_lt_of_le (hO.imm g hg) q2.size⟩,
    fun _ => frOk.refl _, fun _ h => h, ⟨q2.os, q2.tape, q2.output, q2.size, fun _ h => h, fun g hg hA => ⟨hold g hg, fun h => h, hA⟩, fun s g c hA _ hs => ⟨s, c, hs, hA⟩, fun _ _ => rfl⟩, ?_, rfl, rfl⟩
  have := (q3.toD (w := w')).mono (w' := w') (I' := I) fun g hg => hg.elim
  have := this.pure (A' := A) hr
  generalize toD r = d at *
  cases d <;> first | exact this | cases hp
end
end Go.Rv
