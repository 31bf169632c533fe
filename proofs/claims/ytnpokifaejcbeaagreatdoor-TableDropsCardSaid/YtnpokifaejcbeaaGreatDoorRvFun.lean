/- Running functions on the heap of numbers; a closed call as a contract. -/
import Derived.Test.YtnpokifaejcbeaaGreatDoorRvCode
import Derived.RangeFuncLeaves
set_option linter.unusedVariables false
set_option linter.unusedSimpArgs false
namespace Go.Rv
open Go.RowKit Go.Sg

def entryT : Nat → List RV → Tr RV → Tr RV
  | _, [], t => t
  | k, v :: l, t => entryT (k + 1) l (t.set k (some v))
theorem entryT_get : ∀ (l : List RV) (k : Nat) (t : Tr RV) (i : Nat), k + l.length ≤ ub → (entryT k l t).get i = if k ≤ i ∧ i < k + l.length then l[i - k]? else t.get i
  | [], k, t, i, _ => by rw [if_neg (by simp)]; rfl
  | v :: l, k, t, i, h => by
    unfold entryT
    have hl : (v :: l).length = l.length + 1 := rfl
    rw [hl] at h
    rw [entryT_get l (k + 1) _ i (by omega), Tr.get_set (by omega)]
    by_cases e : i = k
    · subst e
      rw [if_neg (by omega), if_pos rfl, if_pos (by rw [hl]; omega), Nat.sub_self]; rfl
    · by_cases e2 : k + 1 ≤ i ∧ i < k + 1 + l.length
      · rw [if_pos e2, if_pos (by rw [hl]; omega)]
        obtain ⟨j, rfl⟩ : ∃ j, i = k + 1 + j := ⟨i - (k + 1), by omega⟩
        rw [show k + 1 + j - (k + 1) = j by omega, show k + 1 + j - k = j + 1 by omega]
        rfl
      · rw [if_neg e2, if_neg e, if_neg (by rw [hl]; omega)]

def val1 (P : Program) (nt : Nat) (s : St) : ResultVar → Option RV
  | .tmp t => bif decide (t < nt) then some ((s.t.get t).getD .nov) else none
  | .cell t ty => bif decide (t < nt) then loadR P s.h.get ty ((s.t.get t).getD .nov) else none
def vals1 (P : Program) (nt : Nat) (s : St) : List ResultVar → Option (List RV)
  | [] => some []
  | v :: l => match val1 P nt s v, vals1 P nt s l with
    | some x, some xs => some (x :: xs)
    | _, _ => none
def retR (P : Program) (nt : Nat) (s : St) (rs : List ResultVar) : Option RV :=
  match rs with
  | [v] => val1 P nt s v
  | rs => (vals1 P nt s rs).map .tup

section
variable {P : Program} {nt lo : Nat}

theorem val1_ok {E : Emb} {s : St} {a : Act} {m : Nat} {w : World} (hss : SS nt E s.t a) (hs : HS E s.h.get s.n m w) {v : ResultVar} {r : RV} (h : val1 P nt s v = some r) : ∃ y, (res1 a.tmps v).run P w = .ok y w ∧ Rr E r y := by
  cases v with
  | tmp t =>
    obtain ⟨h1, rfl⟩ := bif_some h
    exact ⟨_, rfl, hss.slot t (of_decide_eq_true h1)⟩
  | cell t ty =>
    obtain ⟨h1, h2⟩ := bif_opt h
    have hsl := hss.slot t (of_decide_eq_true h1)
    obtain ⟨y, k1, k2⟩ := run_loadR hs hsl h2
    refine ⟨y, ?_, k2⟩
    unfold loadR at h2
    split at h2 <;> try cases h2
    rename_i b off hb
    unfold ptrR at hb
    simp only [res1]
    split at hb
    · rename_i hq
      rw [hq] at hsl
      generalize a.tmps.getD t undef = u at *
      cases hsl with
      | ptr _ _ g s' hE => simpa [Instr.loadAt, Instr.sureAddr, asAddr] using k1
    · rename_i hq
      rw [hq] at hsl
      generalize a.tmps.getD t undef = u at *
      cases hsl with
      | gp _ _ => simpa [Instr.loadAt, Instr.sureAddr, asAddr] using k1
    · cases hb

theorem vals1_ok {E : Emb} {s : St} {a : Act} {m : Nat} {w : World} (hss : SS nt E s.t a) (hs : HS E s.h.get s.n m w) : ∀ (l : List ResultVar) (r : List RV), vals1 P nt s l = some r → ∃ ys : List Value, (l.mapM (res1 a.tmps)).run P w = .ok ys w ∧ r.length = ys.length ∧ ys.length = l.length ∧ ∀ (j : Nat) (d : RV) (u : Value), r[j]? = some d → ys[j]? = some u → Rr E d u
  | [], r, h => by cases h; exact ⟨[], rfl, rfl, rfl, by simp⟩
  | v :: l, r, h => by
    unfold vals1 at h
    split at h <;> try cases h
    rename_i x xs h1 h2
    obtain ⟨y, k1, k2⟩ := val1_ok hss hs h1
    obtain ⟨ys, j1, j2, j3, j4⟩ := vals1_ok hss hs l xs h2
    refine ⟨y :: ys, by simp [List.mapM_cons, k1, j1], by simp [j2], by simp [j3], fun j d u hd hu => ?_⟩
    cases j with
    | zero => simp at hd hu; subst hd; subst hu; exact k2
    | succ j => exact j4 j d u (by simpa using hd) (by simpa using hu)

theorem retR_ok {E : Emb} {s : St} {a : Act} {m : Nat} {w : World} {fn : Func} (hss : SS nt E s.t a) (hs : HS E s.h.get s.n m w) {r : RV} (h : retR P nt s fn.results.toList = some r) : ∃ y, (results fn a.tmps).run P w = .ok y w ∧ Rr E r y := by
  generalize hl : fn.results.toList = rs at *
  have hres : fn.results = rs.toArray := by apply Array.ext'; rw [hl]
  unfold retR at h
  split at h
  · rename_i v
    obtain ⟨y, k1, k2⟩ := val1_ok hss hs h
    refine ⟨y, ?_, k2⟩
    have hm : (([v] : List ResultVar).mapM (res1 a.tmps)).run P w = .ok [y] w := by simp [List.mapM_cons, k1]
    rw [results_eq, hres, List.mapM_toArray, Sem.run_bind, Sem.run_map, hm]
    rfl
  · rename_i hne
    rw [Option.map_eq_some_iff] at h
    obtain ⟨l, h1, rfl⟩ := h
    obtain ⟨ys, j1, j2, j3, j4⟩ := vals1_ok hss hs rs l h1
    refine ⟨.tuple ys.toArray, ?_, .tup l _ (by simp [j2]) fun j d u hd hu => j4 j d u hd (by simpa using hu)⟩
    have hn1 : ys.length ≠ 1 := fun e => by
      rw [j3] at e
      match rs, e with
      | [v], _ => exact hne v rfl
    rw [results_eq, hres, List.mapM_toArray, Sem.run_bind, Sem.run_map, j1]
    simp [hn1]

/-- A round's parameters. -/
def setPs : List Tmp → List RV → Tr RV → Tr RV
  | p :: ps, v :: l, t => setPs ps l (t.set p (some v))
  | _, _, t => t
theorem setPs_ok {E : Emb} {D : List Deferred} (hnt : nt ≤ ub) : ∀ (ps : List Tmp) (l : List RV) (vs : List Value) (t : Tr RV) (tmps : Array Value), (∀ p ∈ ps, p < nt) → l.length = vs.length → (∀ (j : Nat) (d : RV) (u : Value), l[j]? = some d → vs[j]? = some u → Rr E d u) →
    SS nt E t { tmps := tmps, defers := D } → SS nt E (setPs ps l t) { tmps := (ps.zip vs).foldl (fun tmps (x : Tmp × Value) => tmps.setIfInBounds x.1 x.2) tmps, defers := D }
  | [], l, vs, t, tmps, _, _, _, h => by simp only [setPs, List.zip_nil_left, List.foldl_nil]; exact h
  | p :: ps, [], [], t, tmps, _, _, _, h => by simp only [setPs, List.zip_nil_right, List.foldl_nil]; exact h
  | p :: ps, [], _ :: _, t, tmps, _, hl, _, h => by simp at hl
  | p :: ps, _ :: _, [], t, tmps, _, hl, _, h => by simp at hl
  | p :: ps, v :: l, u :: vs, t, tmps, hp, hl, hr, h => by
    simp only [setPs, List.zip_cons_cons, List.foldl_cons]
    have hpn : p < nt := hp p (by simp)
    have := h.put hpn (Nat.lt_of_lt_of_le hpn hnt) (hr 0 v u rfl rfl)
    exact setPs_ok hnt ps l vs _ _ (fun q hq => hp q (by simp [hq])) (by simpa using hl) (fun j d u hd hu => hr (j + 1) d u (by simpa using hd) (by simpa using hu)) this

def jumpR : Exit → Option (Option Code)
  | .normal => some none
  | .ret => some (some .ret)
  | .exit i => some (some (.exit i))
  | _ => none

/-- A block's loop record, its state and its jump turned. -/
def recSt (b : Nat) (f : LoopState → Option Code → Option (LoopState × Option Code)) (s : St) : Option St :=
  match s.h.get b with
  | some (.lp st pe t nt ps asg body) => (match f st pe with
    | some (st', pe') => some ⟨s.t, s.h.set b (some (.lp st' pe' t nt ps asg body)), s.n⟩
    | none => none)
  | _ => none

def evFun (P : Program) (effF : FuncId → Bool) (f : Nat) : Nat → Calr
  | 0, _, _, _, _, _ => none
  | d + 1, lo, .inl fid, l, h, n => match P.funcs[fid]? with
    | some fn => (match fn.body with
      | some c => bif decide (l.length ≤ fn.ntmps) && decide (fn.ntmps ≤ ub) then (match evC P (evFun P effF f d) effF false lo fn.ntmps f none c ⟨entryT 0 l .e, h, n⟩ with
        | some (.ret, s) => (match retR P fn.ntmps s fn.results.toList with
          | some v => some (v, s.h, s.n)
          | none => none)
        | some (.normal, s) => (match retR P fn.ntmps s fn.results.toList with
          | some v => some (v, s.h, s.n)
          | none => none)
        | _ => none) else none
      | none => none)
    | none => none
  | d + 1, lo, .inr b, l, h, n => match h.get b with
    | some (.lp .ready pe t nt ps asg body) => bif decide (lo ≤ b) && (decide (b < n) && (decide (n ≤ ub) && (decide (l.length = ps.length) && (decide (nt ≤ ub) && ps.all fun p => decide (p < nt))))) then
        (match evC P (evFun P effF f d) effF true lo nt f none asg ⟨setPs ps l t, h, n⟩ with
        | some (.normal, s1) => (match recSt b (fun st pe => bif decide (st = .ready) then some (.busy, pe) else none) s1 with
          | some s2 => (match evC P (evFun P effF f d) effF true lo nt f none body s2 with
            | some (e, s3) => (match jumpR e with
              | some j => (match recSt b (fun _ _ => some (if j.isNone then .ready else .done, j)) s3 with
                | some s4 => some (.bool j.isNone, s4.h, s4.n)
                | none => none)
              | none => none)
            | none => none)
          | none => none)
        | _ => none) else none
    | _ => none

theorem HS.putObj_free {E : Emb} {h : Hp} {n m : Nat} {w : World} (hs : HS E h n m w) {D : List Nat} (hD : ∀ g ∈ D, ∀ b z, h b ≠ none → E b ≠ some (g, z)) {g : Nat} (hg : g ∈ D) : HS E h n m (w.putObj g (.deferred none)) := hs.aside (hD g hg) _

/-- The marks, at the function's end. -/
theorem leaves_marks {fn : Func} {tmps : Array Value} {R : Ending → World → Prop} {E : Emb} {h : Hp} {n m : Nat} (w0 : World) : ∀ (D : List Nat) (w : World), D.Nodup → (∀ g ∈ D, w0.heap.size ≤ g) → (∀ g ∈ D, w.heap[g]? = some (.deferred (some []))) → (∀ g ∈ D, ∀ b z, h b ≠ none → E b ≠ some (g, z)) → HS E h n m w →
    (∀ w', HS E h n m w' → w'.os = w.os → w'.tape = w.tape → w'.output = w.output → w'.heap.size = w.heap.size → (∀ g, g < w0.heap.size ∨ (∃ b z, h b ≠ none ∧ E b = some (g, z)) → w'.heap[g]? = w.heap[g]?) → ∃ v, (results fn tmps).run P w' = .ok v w' ∧ R (.returned v) w') →
    LeavesInM (FR none) 0 P fn tmps R (D.map markOf ++ []) .returning w
  | [], w, _, _, _, _, hs, hend => by
    obtain ⟨v, h1, h2⟩ := hend w hs rfl rfl rfl rfl fun _ _ => rfl
    exact ⟨v, h1, h2⟩
  | g :: D, w, hnd, hlate, hheld, hfree, hs, hend => by
    rw [List.nodup_cons] at hnd
    refine ⟨by simp, .inl ⟨g, w.putObj g (.deferred none), rfl, run_takeDeferred (hheld g (by simp)), ?_⟩⟩
    refine leaves_marks w0 D _ hnd.2 (fun g' hg' => hlate g' (by simp [hg'])) (fun g' hg' => ?_) (fun g' hg' => hfree g' (by simp [hg'])) (hs.aside (hfree g (by simp)) _) fun w' h1 h2 h3 h4 h5 h6 => hend w' h1 h2 h3 h4 (by rw [h5, World.putObj_size]) fun g' hg' => ?_
    · rw [World.putObj_heap_other fun e => hnd.1 (by rw [← e]; exact hg')]
      exact hheld g' (by simp [hg'])
    · rw [h6 g' hg', World.putObj_heap_other fun e => ?_]
      subst e
      rcases hg' with h | ⟨b, z, hb, he⟩
      · have := hlate g' (by simp); omega
      · exact hfree g' (by simp) b z hb he

theorem recSt_ok {b : Nat} {f : LoopState → Option Code → Option (LoopState × Option Code)} {s s' : St} (h : recSt b f s = some s') (hlo : lo ≤ b) (hb : b < s.n) (hub : b < ub) : ∃ st pe t nt ps asg body st' pe', s.h.get b = some (.lp st pe t nt ps asg body) ∧ f st pe = some (st', pe') ∧ s'.t = s.t ∧ s'.n = s.n ∧ s'.h.get = updH s.h.get b (some (.lp st' pe' t nt ps asg body)) ∧ KH lo s.h s'.h s.n s'.n := by
  unfold recSt at h
  split at h <;> try cases h
  rename_i st pe t nt ps asg body hg
  split at h <;> cases h
  rename_i st' pe' hf
  exact ⟨st, pe, t, nt, ps, asg, body, st', pe', hg, hf, rfl, rfl, get_set_fun hub, KH.turn hlo hb hub _⟩

/-- The record's block turned in the world. -/
theorem rec_turn {E : Emb} {h : Hp} {n m b : Nat} {w : World} (hs : HS E h n m w) {st : LoopState} {pe : Option Code} {t : Tr RV} {nt' : Nat} {ps : List Tmp} {asg body : Code} (hg : h b = some (.lp st pe t nt' ps asg body)) {g z : Nat} (hE : E b = some (g, z)) (hlo : lo ≤ b) (hb : b < n) (st' : LoopState) (pe' : Option Code) :
    ∃ r : Loop, w.heap[g]? = some (.loop r) ∧ r.state = st ∧ r.pending = pe ∧ HS E (updH h b (some (.lp st' pe' t nt' ps asg body))) n m (w.putObj g (.loop { r with state := st', pending := pe' })) ∧ RX lo E h n w E (updH h b (some (.lp st' pe' t nt' ps asg body))) n (w.putObj g (.loop { r with state := st', pending := pe' })) := by
  obtain ⟨g2, z2, u1, r, u2, u3, u4, u5, u6, u7, u8, u9⟩ := hs.blk b _ hg
  rw [hE] at u1
  cases u1
  obtain ⟨t1', t2'⟩ := hs.turn (lo := lo) hlo hb (by rw [hg]; simp) hE (w' := w.putObj g (.loop { r with state := st', pending := pe' })) (by simp) (fun g' hg' => World.putObj_heap_other hg') rfl rfl rfl
    (k := .lp st' pe' t nt' ps asg body) ⟨{ r with state := st', pending := pe' }, World.putObj_heap_same (heap_lt u2), rfl, rfl, u5, u6, u7, u8, u9⟩
  exact ⟨r, u2, u3, u4, t1', t2'⟩

/-- **A function that is run is a contract.** -/
theorem evFun_ok (hmx : P.follows .mixedOrders = true) (effF : FuncId → Bool) (f : Nat) : ∀ d, CallsOk P (evFun P effF f d)
  | 0, _, _, _, _, _, _, _, _, h, _ => by cases h
  | d + 1, lo, .inl fid, l, h, n, r, h', n', hr, hlo => by
    unfold evFun at hr
    split at hr <;> try cases hr
    rename_i fn hf
    split at hr <;> try cases hr
    rename_i c hb
    obtain ⟨hck, hr⟩ := bif_opt hr
    simp only [Bool.and_eq_true, decide_eq_true_eq] at hck
    have key : ∀ e s, (e = .ret ∨ e = .normal) → evC P (evFun P effF f d) effF false lo fn.ntmps f none c ⟨entryT 0 l .e, h, n⟩ = some (e, s) → (match retR P fn.ntmps s fn.results.toList with
          | some v => some (v, s.h, s.n)
          | none => none) = some (r, h', n') → CallOk P lo (.inl fid) l h n r h' n' := fun e s he hev hret => by
      cases hv : retR P fn.ntmps s fn.results.toList with
      | none => rw [hv] at hret; cases hret
      | some v =>
      rw [hv] at hret
      cases hret
      obtain ⟨k1, k, k2⟩ := evC_ok hmx (evFun_ok hmx effF f d) false f none c _ e s hev hlo
      refine ⟨k1, fun m E w vals hm hs hsz hrel => ?_⟩
      have hss : SS fn.ntmps E (entryT 0 l .e) { tmps := vals ++ Array.replicate (fn.ntmps - vals.size) undef, defers := [] } := by
        refine ⟨by simp; omega, fun i hi => ?_⟩
        rw [entryT_get l 0 .e i (by omega)]
        simp only [Array.getD_eq_getD_getElem?]
        by_cases hil : i < l.length
        · rw [if_pos (by omega), Nat.sub_zero, List.getElem?_eq_getElem hil, Array.getElem?_append, if_pos (by omega), Array.getElem?_eq_getElem (by omega)]
          exact hrel i _ _ (List.getElem?_eq_getElem hil) (Array.getElem?_eq_getElem (by omega))
        · rw [if_neg (by omega), Tr.get_e, Array.getElem?_append, if_neg (by omega)]
          have : (Array.replicate (fn.ntmps - vals.size) undef)[i - vals.size]? = some undef := by
            rw [Array.getElem?_replicate, if_pos (by omega)]
          rw [this]
          exact .nov
      refine (callsIn_of_wp_marks (F := FR none) (n := 0) hf hb trivial (wpIn_mono (k2 none m E _ w (fun _ => rfl) hm hss hs).1 ?_)).calls (fun _ => room_FR _ _)
      rintro e' a' w' ⟨rfl, E', D, q1, q2, q3, q4⟩
      have fin : LeavesInM (FR none) 0 P fn a'.tmps (EndsIn lo E h n w r s.h s.n m) a'.defers .returning w' := by
        rw [q2.1]
        refine leaves_marks w D w' q2.2.nodup q2.2.late q2.2.held q2.2.free q3 fun w2 p1 p2 p3 p4 p5 p6 => ?_
        obtain ⟨y, u1, u2⟩ := retR_ok (w := w2) (fn := fn) q1 p1 hv
        refine ⟨y, u1, y, E', rfl, p1, ⟨p2.trans q4.os, p3.trans q4.tape, p4.trans q4.output, by rw [p5]; exact q4.size, q4.nn, q4.emb, fun g hg hfr => ?_, fun b hb => ?_, q4.beyond⟩, u2⟩
        · obtain ⟨v1, v2⟩ := q4.frame g hg hfr
          exact ⟨(p6 g (.inl hg)).trans v1, v2⟩
        · obtain ⟨v1, v2⟩ := q4.keep b hb
          exact ⟨v1, fun g z hn he => (p6 g (.inl (hs.old b g z he))).trans (v2 g z hn he)⟩
      rcases he with rfl | rfl <;> exact fin
    split at hr
    · rename_i s hev; exact key .ret s (.inl rfl) hev hr
    · rename_i s hev; exact key .normal s (.inr rfl) hev hr
    · cases hr
  | d + 1, lo, .inr b, l, h, n, r, h', n', hr, hlo => by
    unfold evFun at hr
    split at hr <;> try cases hr
    rename_i pe t nt ps asg body hb
    obtain ⟨hck, hr⟩ := bif_opt hr
    simp only [Bool.and_eq_true, decide_eq_true_eq, List.all_eq_true] at hck
    obtain ⟨hlb, hbn, hnu, hlen, hntu, hps⟩ := hck
    split at hr <;> try cases hr
    rename_i s1 hev1
    split at hr <;> try cases hr
    rename_i s2 hs2
    split at hr <;> try cases hr
    rename_i e s3 hev2
    split at hr <;> try cases hr
    rename_i j hj
    split at hr <;> cases hr
    rename_i s4 hs4
    obtain ⟨k1, _, k2⟩ := evC_ok hmx (evFun_ok hmx effF f d) true f none asg _ _ s1 hev1 hlo
    have hbu : b < ub := by omega
    have hn1 : n ≤ s1.n := k1.nn
    obtain ⟨st1, pe1, t1, nt1, ps1, asg1, body1, st1', pe1', a1, a2, a3, a4, a5, a6⟩ := recSt_ok hs2 hlb (by omega) hbu
    obtain ⟨a21, a22⟩ := bif_some a2
    obtain rfl : st1 = .ready := of_decide_eq_true a21
    cases a22
    have hn2 : s2.n = s1.n := a4
    obtain ⟨j1, _, j2⟩ := evC_ok hmx (evFun_ok hmx effF f d) true f none body _ _ s3 hev2 (by omega)
    have hn3 : s2.n ≤ s3.n := j1.nn
    obtain ⟨st3, pe3, t3, nt3, ps3, asg3, body3, st3', pe3', b1, b2, b3, b4, b5, b6⟩ := recSt_ok hs4 hlb (by omega) hbu
    cases b2
    refine ⟨((k1.trans a6).trans j1).trans b6, fun m E w vals hm hs hsz hrel g s hE => ?_⟩
    have hm : s4.n ≤ m := hm
    obtain ⟨g0, z0, u1, rr, u2, u3, u4, u5, u6, u7, u8, u9⟩ := hs.blk b _ hb
    rw [hE] at u1
    cases u1
    have hpsz : rr.params.size = ps.length := by rw [← u5]; simp
    refine ⟨rr.fn, _, rr.assign, rr.body, run_yield u2 (by omega), ?_⟩
    rw [u6, u7]
    refine roundIn_of_wpIn (F := FR none) trivial ?_
    have hss0 : SS nt E t { tmps := rr.tmps, defers := [] } := ⟨u8, u9⟩
    have hss1 := setPs_ok hntu ps l vals.toList t rr.tmps (fun p hp => hps p hp) (by simp [hsz]) (fun j d u hd hu => hrel j d u hd (by simpa using hu)) hss0
    have htm : (rr.params.zip vals).foldl (fun tmps (x : Tmp × Value) => tmps.setIfInBounds x.1 x.2) rr.tmps = (ps.zip vals.toList).foldl (fun tmps (x : Tmp × Value) => tmps.setIfInBounds x.1 x.2) rr.tmps := by
      rw [← Array.foldl_toList, Array.toList_zip, u5]
    have h1 := (k2 (some g) m E _ w (fun h => by cases h) (by omega) hss1 hs).1
    rw [← htm] at h1
    refine wpIn_mono (F := FR (some g)) h1 ?_
    rintro e1 c1 w1 ⟨rfl, E1, D1, q1, q2, q3, q4⟩
    have q4 : RX lo E h.get n w E1 s1.h.get s1.n w1 := q4
    have hE1 : E1 b = some (g, s) := by rw [q4.emb b (.inl hbn)]; exact hE
    obtain ⟨r1, v1, v2, v3, v4, v5⟩ := rec_turn (lo := lo) q3 a1 hE1 hlb (by omega) .busy pe1
    rw [← a5] at v4 v5
    have hbusy : ({ r1 with state := .busy, pending := pe1 } : Loop) = { r1 with state := .busy } := by rw [← v3]
    rw [hbusy] at v4 v5
    refine ⟨w1.putObj g (.loop { r1 with state := .busy }), run_beginRound v1 v2, ?_⟩
    generalize w1.putObj g (.loop { r1 with state := .busy }) = wb at v4 v5
    have v4 : HS E1 s2.h.get s2.n m wb := by rw [hn2]; exact v4
    have v5 : RX lo E1 s1.h.get s1.n w1 E1 s2.h.get s2.n wb := by rw [hn2]; exact v5
    have h2 := (j2 (some g) m E1 c1 _ (fun h => by cases h) (by omega) (by rw [a3]; exact q1) v4).1
    refine wpIn_mono (F := FR (some g)) h2 ?_
    rintro e2 c2 w3 ⟨rfl, E3, D3, x1, x2, x3, x4⟩
    have hE3 : E3 b = some (g, s) := by rw [x4.emb b (.inl (by omega))]; exact hE1
    obtain ⟨r3, y1, y2, y3, y4, y5⟩ := rec_turn (lo := lo) x3 b1 hE3 hlb (by omega) (if j.isNone then .ready else .done) j
    rw [← b5] at y4 y5
    have hrun := run_endRound (P := P) j y1
    generalize w3.putObj g (.loop { r3 with state := if j.isNone then .ready else .done, pending := j }) = we at y4 y5 hrun
    have y4 : HS E3 s4.h.get s4.n m we := by rw [b4]; exact y4
    have y5 : RX lo E3 s3.h.get s3.n w3 E3 s4.h.get s4.n we := by rw [b4]; exact y5
    have hfin : ∃ v w', (Instr.endRound g j).run P w3 = .ok v w' ∧ EndsIn lo E h n w (.bool j.isNone) s4.h s4.n m (.returned v) w' :=
      ⟨_, we, hrun, .bool j.isNone, E3, rfl, y4, ((q4.trans v5 hs (by omega) hlo).trans x4 hs (by omega) hlo).trans y5 hs (by omega) hlo, .bool _⟩
    unfold jumpR at hj
    split at hj <;> cases hj <;> exact hfin

theorem HS.nil (w : World) (m : Nat) : HS (fun _ => none) (Tr.e : Tr Blk).get NG m w := ⟨fun b k h => (by rw [Tr.get_e] at h; cases h), fun b c g s s' h => absurd (Tr.get_e b) h, fun b g s h => (by cases h), fun _ _ _ => rfl, fun b _ => Tr.get_e b, Nat.le_refl _, fun b _ h => absurd (Tr.get_e b) h⟩

/-- The package variables of a list, as the evaluator's first blocks. -/
def globH : List Nat → Tr Blk
  | [] => .e
  | g :: l => match GT g with
    | some (us, e) => (globH l).set g (some (.cells e (us.toList.map cv1)))
    | none => globH l
def globOk (l : List Nat) : Bool := l.all fun g => decide (g < NG) && (match GT g with
    | some (us, _) => us.toList.all (·.oneCell')
    | none => true)
theorem globH_get : ∀ {l : List Nat}, globOk l = true → ∀ b k, (globH l).get b = some k → b < NG ∧ ∃ us e, GT b = some (us, e) ∧ k = .cells e (us.toList.map cv1) ∧ ∀ u ∈ us.toList, u.oneCell' = true
  | [], _, b, k, h => by rw [show globH [] = .e from rfl, Tr.get_e] at h; cases h
  | g :: l, hl, b, k, h => by
    have hl' : globOk l = true := by
      unfold globOk at hl ⊢
      rw [List.all_cons, Bool.and_eq_true] at hl
      exact hl.2
    have hg : decide (g < NG) = true ∧ (match GT g with
    | some (us, _) => us.toList.all (·.oneCell')
    | none => true) = true := by
      unfold globOk at hl
      rw [List.all_cons, Bool.and_eq_true, Bool.and_eq_true] at hl
      exact hl.1
    have hlt : g < NG := of_decide_eq_true hg.1
    unfold globH at h
    cases e1 : GT g with
    | none => rw [e1] at h; exact globH_get hl' b k h
    | some p =>
      obtain ⟨us, e⟩ := p
      rw [e1] at h
      have h2 := hg.2
      rw [e1] at h2
      simp only at h h2
      rw [Tr.get_set (by unfold NG at hlt; unfold ub; omega)] at h
      split at h
      · rename_i e2; subst e2
        refine ⟨hlt, us, e, e1, ?_, List.all_eq_true.1 h2⟩
        cases h; rfl
      · exact globH_get hl' b k h

/-- **A closed call that is run**, with the package variables of a list. -/
theorem pcall_runG (l : List Nat) (hg : globOk l = true) {f : FuncId} {r : RV} {d : DV} {h' : Tr Blk} {n' : Nat} (h : CallOk P NG (.inl f) [] (globH l) NG r h' n') (hd : toD r = d) (hp : isPl d = true) (hr : allK (fun _ => false) d = true) (O : Env) : PCall P O f [] d := fun w I A vals hO hl _ => by
  subst hd
  have hE : ∃ E : Emb, (∀ b g s, E b = some (g, s) → b < NG ∧ g = b) ∧ HS E (globH l).get NG n' w := by
    refine ⟨fun b => match (globH l).get b with
      | some (.cells _ cs) => some (b, cs.length)
      | _ => none, fun b g s hb => ?_, ?_, ?_, ?_, ?_, ?_, Nat.le_refl _, ?_⟩
    · simp only at hb
      cases e1 : (globH l).get b with
      | none => rw [e1] at hb; cases hb
      | some k =>
        obtain ⟨h1, us, e, h2, rfl, h3⟩ := globH_get hg b k e1
        rw [e1] at hb
        cases hb
        exact ⟨h1, rfl⟩
    · intro b k hk
      obtain ⟨h1, us, e, h2, rfl, h3⟩ := globH_get hg b k hk
      refine ⟨b, (us.toList.map cv1).length, by simp only [hk], us, (hO.imm.glob b us e h2).2, by simp, Nat.le_refl _, fun j v u hv hu => ?_⟩
      have := zc_ok (fun b => match (globH l).get b with
        | some (.cells _ cs) => some (b, cs.length)
        | _ => none) (us := us) rfl h3
      exact ⟨h3 u (by rw [Array.mem_toList_iff]; exact Array.mem_of_getElem? hu), this.2.2 j v u hv hu⟩
    · intro b c g s s' hb hc h1 h2
      cases e1 : (globH l).get b with
      | none => rw [e1] at h1; cases h1
      | some k =>
        obtain ⟨_, us, e, _, rfl, _⟩ := globH_get hg b k e1
        rw [e1] at h1
        cases e2 : (globH l).get c with
        | none => rw [e2] at h2; cases h2
        | some k2 =>
          obtain ⟨_, us2, e', _, rfl, _⟩ := globH_get hg c k2 e2
          rw [e2] at h2
          simp only [Option.some.injEq, Prod.mk.injEq] at h1 h2
          exact h1.1.trans h2.1.symm
    · intro b g s hb
      cases e1 : (globH l).get b with
      | none => rw [e1] at hb; cases hb
      | some k =>
        obtain ⟨_, us, e, h2, rfl, _⟩ := globH_get hg b k e1
        rw [e1] at hb
        simp only [Option.some.injEq, Prod.mk.injEq] at hb
        obtain ⟨rfl, _⟩ := hb
        exact hO.imm _ (hO.imm.glob b us e h2).1
    · intro b hb _
      show (match (globH l).get b with
        | some (.cells _ cs) => some (b, cs.length)
        | _ => none) = none
      cases e1 : (globH l).get b with
      | none => rfl
      | some k => have := (globH_get hg b k e1).1; omega
    · intro b hb
      cases e1 : (globH l).get b with
      | none => rfl
      | some k => have := (globH_get hg b k e1).1; have := h.1.nn; omega
    · intro b hb hn
      cases e1 : (globH l).get b with
      | none => exact absurd e1 hn
      | some k =>
        obtain ⟨_, us, e, _, rfl, _⟩ := globH_get hg b k e1
        exact ⟨_, by simp only [e1]; rfl⟩
  obtain ⟨E, hE1, hE2⟩ := hE
  refine (h.2 n' E w vals (Nat.le_refl _) hE2 hl (fun j d u hd => by simp at hd)).mono ?_
  rintro e w' ⟨y, E', rfl, q1, q2, q3⟩
  have hold : ∀ g, g < w.heap.size → w'.heap[g]? = w.heap[g]? := fun g hgs => by
    by_cases hx : ∃ b s, (globH l).get b ≠ none ∧ E b = some (g, s)
    · obtain ⟨b, s, h1, h2⟩ := hx
      exact (q2.keep b (hE1 b g s h2).1).2 g s h1 h2
    · exact (q2.frame g hgs fun b s hb he => hx ⟨b, s, hb, he⟩).1
  have hrel : ∀ (B : Own) d x, Rel w I B d x → Rel w' I B d x := fun B d x hr => hr.mono fun g hg => ⟨hg, fun o => cell_of_heap (hold g (hO.imm g hg)) o⟩
  refine ⟨y, I, O, _, rfl, ⟨fun s => (hO.own s).keep (fun g c hA => hold g (hO.sep s g c hA).1) hrel, hO.inj, fun s g c hA => ⟨Nat.lt_of_lt_of_le (hO.sep s g c hA).1 q2.size, (hO.sep s g c hA).2⟩, hO.imm.step (fun g hg => Nat.lt_of_lt_of_le (hO.imm g hg) q2.size) fun g hg => ⟨hg, hold g (hO.imm g hg)⟩⟩,
    fun _ => frOk.refl _, fun _ h => h, ⟨q2.os, q2.tape, q2.output, q2.size, fun _ h => h, fun g hg hA => ⟨hold g hg, fun h => h, hA⟩, fun s g c hA _ hs => ⟨s, c, hs, hA⟩, fun _ _ => rfl⟩, ?_, rfl, rfl⟩
  have := (q3.toD (w := w')).mono (w' := w') (I' := I) fun g hg => hg.elim
  have := this.pure (A' := A) hr
  generalize toD r = d at *
  cases d <;> first | exact this | cases hp

/-- **A closed call that is run.** -/
theorem pcall_run {f : FuncId} {r : RV} {d : DV} {h' : Tr Blk} {n' : Nat} (h : CallOk P NG (.inl f) [] .e NG r h' n') (hd : toD r = d) (hp : isPl d = true) (hr : allK (fun _ => false) d = true) (O : Env) : PCall P O f [] d :=
  pcall_runG [] rfl h hd hp hr O
end
end Go.Rv
