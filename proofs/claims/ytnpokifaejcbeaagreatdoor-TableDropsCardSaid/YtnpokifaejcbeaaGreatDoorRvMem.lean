/- What operations that make or turn memory do to the heap of numbers. -/
import Derived.Test.YtnpokifaejcbeaaGreatDoorRvOps
import Derived.Lib.AppendZeros
set_option linter.unusedVariables false
set_option linter.unusedSimpArgs false
namespace Go.Rv
open Go.RowKit Go.Sg

/-- A value's cells. -/
def cellsO : RV → Option (List RV)
  | .und => none
  | .nov => none
  | .tup _ => none
  | .agg cs => some cs
  | v => some [v]

/-- Cells that stand for the model's. -/
def CR (E : Emb) (cs : List RV) (us : Array Value) : Prop :=
  cs.length = us.size ∧ (∀ u ∈ us.toList, u.oneCell' = true) ∧ ∀ (j : Nat) (d : RV) (u : Value), cs[j]? = some d → us[j]? = some u → Rr E d u
theorem CR.mono {E E' : Emb} (hE : ∀ b p, E b = some p → E' b = some p) {cs : List RV} {us : Array Value} (h : CR E cs us) : CR E' cs us := ⟨h.1, h.2.1, fun j d u hd hu => (h.2.2 j d u hd hu).mono hE⟩

theorem CR.one {E : Emb} {v : RV} {x : Value} (hr : Rr E v x) (h1 : x.cells = #[x]) (h2 : x.oneCell' = true) : CR E [v] x.cells := by
  rw [h1]
  refine ⟨rfl, fun u hu => ?_, fun j d u hd hu => ?_⟩
  · simp at hu; subst hu; exact h2
  · cases j with
    | succ j => simp at hd
    | zero => simp at hd hu; subst hd; subst hu; exact hr

theorem cells_okR {E : Emb} {v : RV} {x : Value} {cs : List RV} (h : cellsO v = some cs) (hr : Rr E v x) : CR E cs x.cells := by
  have hr0 := hr
  cases hr with
  | agg cs' vs hl hone hrel =>
    cases h
    exact ⟨hl, hone, hrel⟩
  | und x => cases h
  | nov => cases h
  | tup cs' vs hl hrel => cases h
  | _ => cases h; exact CR.one hr0 rfl rfl

theorem zc_ok (E : Emb) {zs : List Value} {us : Array Value} (h : us.toList = zs) (h1 : ∀ u ∈ zs, u.oneCell' = true) : CR E (zs.map cv1) us := by
  refine ⟨by simp [← h], by rw [h]; exact h1, fun j d u hd hu => ?_⟩
  rw [List.getElem?_map, Option.map_eq_some_iff] at hd
  obtain ⟨y, hy, rfl⟩ := hd
  rw [← h, Array.getElem?_toList, hu] at hy
  cases hy
  exact cv1_ok E _

/-- Cells laid over others. -/
def splR (off : Nat) (cs old : List RV) : List RV :=
  match cs with
  | [c] => old.set off c
  | cs => old.take off ++ cs ++ old.drop (off + cs.length)
theorem splR_eq {off : Nat} {cs old : List RV} (h : off + cs.length ≤ old.length) : splR off cs old = old.take off ++ cs ++ old.drop (off + cs.length) := by
  unfold splR
  split
  · rw [List.set_eq_take_append_cons_drop, if_pos (by simp at h; omega)]
    simp
  · rfl
theorem splR_len {off : Nat} {cs old : List RV} (h : off + cs.length ≤ old.length) : (splR off cs old).length = old.length := by
  rw [splR_eq h]; simp; omega
theorem splR_get {off : Nat} {cs old : List RV} (h : off + cs.length ≤ old.length) (j : Nat) : (splR off cs old)[j]? = if off ≤ j ∧ j < off + cs.length then cs[j - off]? else old[j]? := by
  rw [splR_eq h, List.append_assoc, List.getElem?_append, List.getElem?_append]
  simp only [List.length_take, Nat.min_eq_left (show off ≤ old.length by omega)]
  by_cases h1 : j < off
  · rw [if_pos h1, if_neg (by omega), List.getElem?_take, if_pos h1]
  · rw [if_neg h1]
    by_cases h2 : j < off + cs.length
    · rw [if_pos (by omega), if_pos (by omega)]
    · rw [if_neg (by omega), if_neg (by omega), List.getElem?_drop]
      congr 1
      omega

/-- The same, in the model's cells. -/
def splV (off : Nat) (vs us : Array Value) : Array Value := (us.toList.take off ++ vs.toList ++ us.toList.drop (off + vs.size)).toArray
theorem splV_get {off : Nat} {vs us : Array Value} (h : off + vs.size ≤ us.size) (j : Nat) : (splV off vs us)[j]? = if off ≤ j ∧ j < off + vs.size then vs[j - off]? else us[j]? := by
  unfold splV
  rw [List.getElem?_toArray, List.append_assoc, List.getElem?_append, List.getElem?_append]
  simp only [List.length_take, Array.length_toList, Nat.min_eq_left (show off ≤ us.size by omega)]
  by_cases h1 : j < off
  · rw [if_pos h1, if_neg (by omega), List.getElem?_take, if_pos h1, Array.getElem?_toList]
  · rw [if_neg h1]
    by_cases h2 : j < off + vs.size
    · rw [if_pos (by omega), if_pos (by omega), Array.getElem?_toList]
    · rw [if_neg (by omega), if_neg (by omega), List.getElem?_drop, Array.getElem?_toList]
      congr 1
      omega
theorem splV_size {off : Nat} {vs us : Array Value} (h : off + vs.size ≤ us.size) : (splV off vs us).size = us.size := by
  unfold splV; simp; omega

/-- Cells that stand for the first of the model's. -/
def CR' (E : Emb) (cs : List RV) (us : Array Value) : Prop :=
  cs.length ≤ us.size ∧ ∀ (j : Nat) (d : RV) (u : Value), cs[j]? = some d → us[j]? = some u → u.oneCell' = true ∧ Rr E d u
theorem CR.spl {E : Emb} {off : Nat} {cs old : List RV} {vs us : Array Value} (hc : CR E cs vs) (ho : CR' E old us) (h : off + cs.length ≤ old.length) : CR' E (splR off cs old) (splV off vs us) := by
  obtain ⟨c1, c2, c3⟩ := hc
  obtain ⟨o1, o3⟩ := ho
  have hle : off + vs.size ≤ us.size := by omega
  refine ⟨by rw [splR_len h, splV_size hle]; exact o1, fun j d u hd hu => ?_⟩
  rw [splR_get h, c1] at hd
  rw [splV_get hle] at hu
  split at hd
  · rename_i hj; rw [if_pos hj] at hu; exact ⟨c2 u (by simpa using Array.mem_of_getElem? hu), c3 _ d u hd hu⟩
  · rename_i hj; rw [if_neg hj] at hu; exact o3 _ d u hd hu
theorem CR'.mono {E E' : Emb} (hE : ∀ b p, E b = some p → E' b = some p) {cs : List RV} {us : Array Value} (h : CR' E cs us) : CR' E' cs us := ⟨h.1, fun j d u hd hu => ⟨(h.2 j d u hd hu).1, (h.2 j d u hd hu).2.mono hE⟩⟩

/-- A literal's parts. -/
def fillR (place : Nat → Option (Nat × Nat)) (cs : List RV) : List (Nat × RV) → Option (List RV)
  | [] => some cs
  | p :: l => match place p.1, cellsO p.2 with
    | some (off, s), some vs => bif decide (vs.length = s) && decide (off + s ≤ cs.length) then fillR place (splR off vs cs) l else none
    | _, _ => none

theorem fillR_ok {E : Emb} (place place' : Nat → Option (Nat × Nat)) (hp : ∀ i p, place i = some p → place' i = some p) : ∀ (l : List (Nat × RV)) (lv : List (Nat × Value)) (cs : List RV) (us : Array Value) (out : List RV), fillR place cs l = some out → l.length = lv.length →
    (∀ (j : Nat) (p : Nat × RV) (q : Nat × Value), l[j]? = some p → lv[j]? = some q → p.1 = q.1 ∧ Rr E p.2 q.2) → CR E cs us → ∃ o, Instr.fill place' us lv = some o ∧ CR E out o
  | [], [], cs, us, out, h, _, _, hc => ⟨us, rfl, by cases h; exact hc⟩
  | p :: l, q :: lv, cs, us, out, h, hl, hr, hc => by
    unfold fillR at h
    split at h <;> try cases h
    rename_i off s vs e1 e2
    obtain ⟨h1, h2⟩ := bif_opt h
    simp only [Bool.and_eq_true, decide_eq_true_eq] at h1
    obtain ⟨h3, h4⟩ := hr 0 p q (by simp) (by simp)
    have hv := cells_okR e2 h4
    obtain ⟨f1, f2⟩ := foldl_set off q.2.cells.toList us 0 (by have := hv.1; have := hc.1; simp; omega)
    simp only [Nat.add_zero, Array.length_toList] at f1 f2
    have hzip : (q.2.cells.zipIdx.foldl (fun cs (p : Value × Nat) => cs.setIfInBounds (off + p.2) p.1) us) = (q.2.cells.toList.zipIdx 0).foldl (fun cs (p : Value × Nat) => cs.setIfInBounds (off + p.2) p.1) us := by
      rw [← Array.foldl_toList, Array.toList_zipIdx]
    generalize hnew : (q.2.cells.toList.zipIdx 0).foldl (fun cs (p : Value × Nat) => cs.setIfInBounds (off + p.2) p.1) us = us' at *
    have hle : off + vs.length ≤ cs.length := by omega
    have hc' : CR E (splR off vs cs) us' := by
      refine ⟨by rw [splR_len hle, f1]; exact hc.1, fun u hu => ?_, fun j d u hd hu => ?_⟩
      · obtain ⟨j, hj⟩ := List.getElem?_of_mem hu
        rw [Array.getElem?_toList, f2] at hj
        split at hj
        · exact hv.2.1 u (List.mem_of_getElem? hj)
        · exact hc.2.1 u (by simpa using Array.mem_of_getElem? hj)
      · rw [splR_get hle, hv.1] at hd
        rw [f2] at hu
        split at hd
        · rename_i hj; rw [if_pos hj, Array.getElem?_toList] at hu; exact hv.2.2 _ d u hd hu
        · rename_i hj; rw [if_neg hj] at hu; exact hc.2.2 _ d u hd hu
    obtain ⟨o, o1, o2⟩ := fillR_ok place place' hp l lv _ us' out h2 (by simpa using hl) (fun j p' q' hp' hq' => hr (j + 1) p' q' (by simpa using hp') (by simpa using hq')) hc'
    refine ⟨o, ?_, o2⟩
    unfold Instr.fill
    rw [← h3, hp _ _ e1]
    simp only
    rw [if_neg (by have := hv.1; have := hc.1; simp; omega), hzip]
    exact o1
  | [], _ :: _, _, _, _, _, hl, _, _ => by simp at hl
  | _ :: _, [], _, _, _, _, hl, _, _ => by simp at hl

/-- So many rows of zeros. -/
def zerosR (c : Nat) (zs : List RV) : List RV := (List.replicate c zs).flatten
theorem zerosR_len (c : Nat) (zs : List RV) : (zerosR c zs).length = c * zs.length := by unfold zerosR; simp
theorem zerosR_get : ∀ (c : Nat) (zs : List RV) (j : Nat), j < c * zs.length → (zerosR c zs)[j]? = zs[j % zs.length]?
  | 0, zs, j, h => by simp at h
  | c + 1, zs, j, h => by
    unfold zerosR
    rw [List.replicate_succ, List.flatten_cons, List.getElem?_append]
    split
    · rename_i h1; rw [Nat.mod_eq_of_lt h1]
    · rename_i h1
      have h' : j < c * zs.length + zs.length := by rw [← Nat.succ_mul]; exact h
      have := zerosR_get c zs (j - zs.length) (by omega)
      unfold zerosR at this
      rw [this]
      congr 1
      exact (Nat.mod_eq_sub_mod (by omega)).symm
theorem zerosR_ok (E : Emb) {zc : Array Value} (h1 : ∀ u ∈ zc.toList, u.oneCell' = true) (c : Nat) : CR E (zerosR c (zc.toList.map cv1)) ((Array.range (c * zc.size)).map (zc[· % zc.size]!)) := by
  have hidx : ∀ j, j < c * zc.size → j % zc.size < zc.size := fun j hj => Nat.mod_lt _ (by
    rcases Nat.eq_zero_or_pos zc.size with h | h
    · rw [h] at hj; simp at hj
    · exact h)
  refine ⟨by rw [zerosR_len]; simp, fun u hu => ?_, fun j d u hd hu => ?_⟩
  · simp only [Array.toList_map, List.mem_map] at hu
    obtain ⟨j, hj, rfl⟩ := hu
    have hj : j < c * zc.size := by simpa using hj
    rw [getElem!_pos zc _ (hidx j hj)]
    exact h1 _ (by simp)
  · simp only [Array.getElem?_map, Option.map_eq_some_iff] at hu
    obtain ⟨q, hq, rfl⟩ := hu
    have hj : j < c * zc.size := by
      rcases Nat.lt_or_ge j (c * zc.size) with h | h
      · exact h
      · rw [Array.getElem?_eq_none (by simpa using h)] at hq; cases hq
    rw [Array.getElem?_range, if_pos hj] at hq
    cases hq
    rw [zerosR_get _ _ _ (by simpa using hj)] at hd
    rw [getElem!_pos zc _ (hidx j hj)]
    rw [List.getElem?_map, Option.map_eq_some_iff] at hd
    obtain ⟨y, hy, rfl⟩ := hd
    simp only [List.length_map, Array.length_toList, Array.getElem?_toList] at hy
    rw [Array.getElem?_eq_getElem (hidx j hj)] at hy
    cases hy
    exact cv1_ok E _

/-- What an append's second operand holds: so many elements, their cells. -/
def srcR (h : Hp) (z : Nat) (x : RV) : Option (Nat × List RV) :=
  match x with
  | .nils => some (0, [])
  | .em => some (0, [])
  | .sl b off len _ _ _ => match h b with
    | some (.cells _ cs) => bif decide (off + len * z ≤ cs.length) then some (len, (cs.drop off).take (len * z)) else none
    | _ => none
  | _ => none

/-- A step that makes or turns memory: the value (none: no value is given), the heap, the next number. -/
abbrev Mv := Option RV × Tr Blk × Nat

def appR (P : Program) (lo : Nat) (h : Tr Blk) (n : Nat) (t t2 : TypeId) (x y : RV) : Option Mv :=
  match slE P t with
  | none => none
  | some (e, z, by_) => match zcOf P e with
    | none => none
    | some zs => bif decide (zs.length = z) && decide (0 < z) && decide (n < ub) then
      (match x, y with
      | .nils, .int _ k => bif decide (tk P t2 = 4) && decide (0 < k) && decide (k ≤ 4611686018427387904) && decide (k.toNat * by_ ≤ 140737488355328) then
          some (some (.sl n 0 k.toNat z none true), h.set n (some (.cells e (zerosR k.toNat (zs.map cv1)))), n + 1) else none
      | x, y => bif decide (t2 = t) then (match srcR h.get z y with
        | none => none
        | some (0, _) => (match x with
          | .nils => some (some .nils, h, n)
          | .sl b off len z' cap full => some (some (.sl b off len z' cap full), h, n)
          | _ => none)
        | some (m + 1, news) => (match x with
          | .nils => bif decide (m + 1 ≤ 4611686018427387904) && decide ((m + 1) * by_ ≤ 140737488355328) then
              some (some (.sl n 0 (m + 1) z none true), h.set n (some (.cells e news)), n + 1) else none
          | .sl b off len z' cap full => (match h.get b with
            | some (.cells e' cs) => bif decide (e' = e) && decide (z' = z) && decide (len + (m + 1) ≤ 4611686018427387904) && decide ((len + (m + 1)) * by_ ≤ 140737488355328) && decide (off + len * z ≤ cs.length) then
                (match cap with
                | some c => bif decide (len + (m + 1) ≤ c) then
                    (bif decide (lo ≤ b) && decide (b < n) && decide (off + (len + (m + 1)) * z ≤ cs.length) then some (some (.sl b off (len + (m + 1)) z (some c) full), h.set b (some (.cells e (splR (off + len * z) news cs))), n) else none)
                  else some (some (.sl n 0 (len + (m + 1)) z none true), h.set n (some (.cells e ((cs.drop off).take (len * z) ++ news))), n + 1)
                | none => bif full && decide (off = 0) && decide (lo ≤ b) && decide (b < n) then
                    some (some (.sl n 0 (len + (m + 1)) z none true), (h.set b none).set n (some (.cells e (cs.take (len * z) ++ news))), n + 1) else none) else none
            | _ => none)
          | _ => none)) else none) else none

/-- Maps are made and turned. -/
def mkmOk (P : Program) (ty : TypeId) : Option RV → Bool
  | none => true
  | some (.int _ _) => (match P.underlying ty with
    | some (.map _ _) => true
    | _ => false)
  | some _ => false
def updR (P : Program) (lo : Nat) (h : Tr Blk) (n : Nat) (ty : TypeId) (m k x : RV) : Option Mv :=
  match P.underlying ty, m, keyV k with
  | some (.map kt _), .mp b, some kv => (match h.get b with
    | some (.map es c) => bif decide (lo ≤ b) && decide (b < n) && decide (b < ub) then (match findR P kt kv es with
      | some none => some (none, h.set b (some (.map (es ++ [(kv, x, c)]) (c + 1))), n)
      | some (some (j, _, c0)) => some (none, h.set b (some (.map (es.set j (kv, x, c0)) c)), n)
      | none => none) else none
    | _ => none)
  | _, _, _ => none
def delR (P : Program) (lo : Nat) (h : Tr Blk) (n : Nat) (ty : TypeId) (m k : RV) : Option Mv :=
  match P.underlying ty, m, keyV k with
  | some (.map kt _), .mp b, some kv => (match h.get b with
    | some (.map es c) => bif decide (lo ≤ b) && decide (b < n) && decide (b < ub) then (match findR P kt kv es with
      | some none => some (some (.tup []), h.set b (some (.map es c)), n)
      | some (some (j, _, _)) => some (some (.tup []), h.set b (some (.map (es.eraseIdx j) c)), n)
      | none => none) else none
    | _ => none)
  | _, _, _ => none

def mvR (P : Program) (lo : Nat) (t : Tr RV) (h : Tr Blk) (n : Nat) (op : Op) : Option Mv :=
  match op with
  | .range ty x => (match evR t x with
    | .str s => bif (tk P ty == 1) && decide (n < ub) then some (some (.ptr n 0), h.set n (some (.it s 0)), n + 1) else none
    | _ => none)
  | .next x true => (match evR t x with
    | .ptr b 0 => (match h.get b with
      | some (.it s pos) => bif decide (lo ≤ b) && decide (b < n) && decide (b < ub) then
          (bif decide (pos < s.size) then some (some (.tup [.bool true, .int .i64 pos, .int .i32 (Utf8.decode s pos).1]), h.set b (some (.it s (pos + (Utf8.decode s pos).2))), n)
           else some (some (.tup [.bool false]), h, n)) else none
      | _ => none)
    | _ => none)
  | .makeMap ty hint => bif mkmOk P ty (hint.map (evR t)) && decide (n < ub) then some (some (.mp n), h.set n (some (.map [] 0)), n + 1) else none
  | .mapUpdate ty m k x => updR P lo h n ty (evR t m) (evR t k) (evR t x)
  | .insert ty m k x => updR P lo h n ty (evR t m) (evR t k) (evR t x)
  | .call ⟨.builtin .delete, args, ts⟩ => (match args.toList, ts.toList with
    | [m, k], t1 :: _ => delR P lo h n t1 (evR t m) (evR t k)
    | _, _ => none)
  | .alloc ty => (match zcOf P ty with
    | some zs => bif decide (n < ub) then some (some (.ptr n 0), h.set n (some (.cells ty (zs.map cv1))), n + 1) else none
    | none => none)
  | .box ty x => (match cellsO (evR t x) with
    | some cs => bif decide (n < ub) then some (some (.ptr n 0), h.set n (some (.cells ty cs)), n + 1) else none
    | none => none)
  | .build ty parts => (match zcOf P ty with
    | some zs => bif bldOk P ty then (fillR (plOf P ty) (zs.map cv1) (parts.toList.map fun p => (p.1, evR t p.2))).map fun cs => (some (.agg cs), h, n)
      else (match elOf P ty with
      | some (some _, z) => (fillR (fun i => some (i * z, z)) (zs.map cv1) (parts.toList.map fun p => (p.1, evR t p.2))).map fun cs => (some (.agg cs), h, n)
      | _ => none)
    | none => none)
  | .buildSlice ty k parts => (match slE P ty with
    | some (e, z, _) => (match zcOf P e with
      | some zs => bif decide (zs.length = z) && decide (k * z ≤ 16777216) && decide (k ≤ 16777216) && decide (n < ub) then
          (fillR (fun i => some (i * z, z)) (zerosR k (zs.map cv1)) (parts.toList.map fun p => (p.1, evR t p.2))).map fun cs => (some (.sl n 0 k z (some k) true), h.set n (some (.cells e cs)), n + 1) else none
      | none => none)
    | none => none)
  | .makeSlice ty x y => (match slE P ty, evR t x, evR t y with
    | some (e, z, by_), .int _ l, .int _ c => (match zcOf P e with
      | some zs => bif decide (zs.length = z) && decide (0 ≤ l) && decide (l ≤ c) && decide (c ≤ 4611686018427387904) && decide (c * by_ ≤ 140737488355328) && decide (n < ub) then
          some (some (.sl n 0 l.toNat z (some c.toNat) true), h.set n (some (.cells e (zerosR c.toNat (zs.map cv1)))), n + 1) else none
      | none => none)
    | _, _, _ => none)
  | .store ty ad x => (match szOf P ty, evR t ad, cellsO (evR t x) with
    | some s, .ptr b off, some vs => (match h.get b with
      | some (.cells e cs) => bif decide (vs.length = s) && decide (off + s ≤ cs.length) && decide (lo ≤ b) && decide (b < n) && decide (b < ub) then some (none, h.set b (some (.cells e (splR off vs cs))), n) else none
      | _ => none)
    | _, _, _ => none)
  | .call ⟨.builtin .append, args, ts⟩ => (match args.toList, ts.toList with
    | [x, y], [t1, t2] => appR P lo h n t1 t2 (evR t x) (evR t y)
    | _, _ => none)
  | _ => none

/-- Numbers below lo keep their blocks; so do those not reached yet. -/
structure KH (lo : Nat) (h h' : Tr Blk) (n n' : Nat) : Prop where
  nn : n ≤ n'
  kp : ∀ b, b < lo ∨ n' ≤ b → h'.get b = h.get b
theorem KH.refl (lo : Nat) (h : Tr Blk) (n : Nat) : KH lo h h n n := ⟨Nat.le_refl _, fun _ _ => rfl⟩
theorem KH.trans {lo : Nat} {h h1 h2 : Tr Blk} {n n1 n2 : Nat} (x : KH lo h h1 n n1) (y : KH lo h1 h2 n1 n2) : KH lo h h2 n n2 := ⟨Nat.le_trans x.nn y.nn, fun b hb => (y.kp b hb).trans (x.kp b (hb.imp id fun q => Nat.le_trans y.nn q))⟩
theorem KH.new {lo : Nat} {h : Tr Blk} {n : Nat} (hlo : lo ≤ n) (hub : n < ub) (k : Option Blk) : KH lo h (h.set n k) n (n + 1) := ⟨by omega, fun b hb => by rw [Tr.get_set hub, if_neg (by omega)]⟩
theorem KH.turn {lo : Nat} {h : Tr Blk} {n b : Nat} (hlo : lo ≤ b) (hb : b < n) (hub : b < ub) (k : Option Blk) : KH lo h (h.set b k) n n := ⟨Nat.le_refl _, fun c hc => by rw [Tr.get_set hub, if_neg (by omega)]⟩

/-- What such a step means. -/
def MOk (P : Program) (lo : Nat) (t : Tr RV) (h : Tr Blk) (n : Nat) (o : Oper) (r : Mv) : Prop :=
  KH lo h r.2.1 n r.2.2 ∧ ∀ (m : Nat) (E : Emb) (a : Act) (w : World), r.2.2 ≤ m → OpdOk E t a o → HS E h.get n m w → ∃ E' w', HS E' r.2.1.get r.2.2 m w' ∧ RX lo E h.get n w E' r.2.1.get r.2.2 w' ∧
    (match r.1 with
    | some v => ∃ y, (execOp a.eval o).run P w = .ok (.value y) w' ∧ Rr E' v y
    | none => (execOp a.eval o).run P w = .ok .skip w')

section
variable {P : Program} {lo : Nat} {t : Tr RV} {h : Tr Blk} {n : Nat} {o : Oper} {r : Mv}

theorem CR.br {E : Emb} {w : World} {e : TypeId} {cs : List RV} {us : Array Value} {g : Nat} (hc : CR' E cs us) (hg : w.heap[g]? = some (.cells us e (0, 0))) : BR E w (.cells e cs) g us.size := ⟨us, hg, rfl, hc.1, hc.2⟩
theorem CR.toCR' {E : Emb} {cs : List RV} {us : Array Value} (h : CR E cs us) : CR' E cs us := ⟨Nat.le_of_eq h.1, fun j d u hd hu => ⟨h.2.1 u (by simpa using Array.mem_of_getElem? hu), h.2.2 j d u hd hu⟩⟩

/-- One more block of cells. -/
theorem new_ok {E : Emb} {m : Nat} {w : World} (hs : HS E h.get n m w) (hm : n + 1 ≤ m) (hlo : lo ≤ n) (hub : n < ub) (e : TypeId) {cs : List RV} {us : Array Value} {w' : World} (h1 : w'.heap = w.heap.push (.cells us e)) (h2 : w'.os = w.os) (h3 : w'.tape = w.tape) (h4 : w'.output = w.output)
    (hc : CR' (updE E n (some (w.heap.size, us.size))) cs us) :
    HS (updE E n (some (w.heap.size, us.size))) (h.set n (some (.cells e cs))).get (n + 1) m w' ∧ RX lo E h.get n w (updE E n (some (w.heap.size, us.size))) (h.set n (some (.cells e cs))).get (n + 1) w' := by
  rw [get_set_fun hub]
  obtain ⟨q1, q2, q3⟩ := hs.new (lo := lo) (by omega) hlo h1 h2 h3 h4 (k := .cells e cs) (s := us.size) (CR.br hc (by rw [h1]; simp))
  exact ⟨q1, q2⟩

theorem mv_alloc {ty : TypeId} (hop : o.op = .alloc ty) (hlo : lo ≤ n) (hr : mvR P lo t h n o.op = some r) : MOk P lo t h n o r := by
  rw [hop] at hr
  simp only [mvR] at hr
  split at hr <;> try cases hr
  rename_i zs hz
  obtain ⟨hub, rfl⟩ := bif_some hr
  have hub := of_decide_eq_true hub
  refine ⟨KH.new hlo hub _, fun m E a w hm hs hh => ?_⟩
  obtain ⟨i, z, h1, h2, h3, h4⟩ := zcOf_spec hz
  obtain ⟨q1, q2⟩ := new_ok (us := z.cells) (cs := zs.map cv1) hh hm hlo hub ty (w' := w.alloc (.cells z.cells ty)) rfl rfl rfl rfl (zc_ok _ h3 h4).toCR'
  exact ⟨_, _, q1, q2, .pointer (some ⟨w.heap.size, 0, none⟩), by simp [execOp, hop, Instr.alloc, zeroValue, typeInfo, h1, h2, newVar, newRow], .ptr n 0 w.heap.size _ (updE_same _ _ _)⟩

theorem up_of {E : Emb} {m : Nat} {w : World} (hh : HS E h.get n m w) {E' : Emb} {h' : Hp} {n' : Nat} {w' : World} (hx : RX lo E h.get n w E' h' n' w') (hm : n' ≤ m) : ∀ b p, E b = some p → E' b = some p := hh.up hx hm

theorem updE_up {E : Emb} {m : Nat} {w : World} (hh : HS E h.get n m w) (hm : n < m) (p : Option (Nat × Nat)) : ∀ b q, E b = some q → updE E n p b = some q := fun b q hq => by
  rw [updE_ne]; exact hq
  intro e; subst e; rw [hh.free b (Nat.le_refl _) hm] at hq; cases hq

theorem mv_box {ty : TypeId} {x : Operand} (hop : o.op = .box ty x) (hlo : lo ≤ n) (hr : mvR P lo t h n o.op = some r) : MOk P lo t h n o r := by
  rw [hop] at hr
  simp only [mvR] at hr
  split at hr <;> try cases hr
  rename_i cs hc
  obtain ⟨hub, rfl⟩ := bif_some hr
  have hub := of_decide_eq_true hub
  refine ⟨KH.new hlo hub _, fun m E a w hm hs hh => ?_⟩
  have hm : n + 1 ≤ m := hm
  have hx := hs x (by simp [hop, Op.operands])
  obtain ⟨q1, q2⟩ := new_ok (us := (a.eval x).cells) (cs := cs) hh hm hlo hub ty (w' := w.alloc (.cells (a.eval x).cells ty)) rfl rfl rfl rfl ((cells_okR hc hx).mono (updE_up hh (by omega) _)).toCR'
  exact ⟨_, _, q1, q2, .pointer (some ⟨w.heap.size, 0, none⟩), by simp [execOp, hop, Instr.box, newVar, newRow], .ptr n 0 w.heap.size _ (updE_same _ _ _)⟩

theorem parts_rel {E : Emb} {a : Act} {parts : Array (Nat × Operand)} (ho : ∀ p ∈ parts.toList, Rr E (evR t p.2) (a.eval p.2)) : ∀ (j : Nat) (p : Nat × RV) (q : Nat × Value), (parts.toList.map fun p => (p.1, evR t p.2))[j]? = some p → (parts.toList.map fun p => (p.1, a.eval p.2))[j]? = some q → p.1 = q.1 ∧ Rr E p.2 q.2 := fun j p q hp hq => by
  simp only [List.getElem?_map, Option.map_eq_some_iff] at hp hq
  obtain ⟨x, hx, rfl⟩ := hp
  obtain ⟨y, hy, rfl⟩ := hq
  rw [hx] at hy
  cases hy
  exact ⟨rfl, ho x (List.mem_of_getElem? hx)⟩

theorem mv_build {ty : TypeId} {parts : Array (Nat × Operand)} (hop : o.op = .build ty parts) (hr : mvR P lo t h n o.op = some r) : MOk P lo t h n o r := by
  rw [hop] at hr
  simp only [mvR] at hr
  split at hr <;> try cases hr
  rename_i zs hz
  cases hb : bldOk P ty with
  | false =>
    rw [hb] at hr
    simp only [cond_false] at hr
    split at hr <;> try cases hr
    rename_i k z hel
    rw [Option.map_eq_some_iff] at hr
    obtain ⟨cs, hcs, rfl⟩ := hr
    refine ⟨KH.refl _ _ _, fun m E a w hm hs hh => ⟨E, w, hh, RX.refl _ _ _ _ _, ?_⟩⟩
    have ho : ∀ p ∈ parts.toList, Rr E (evR t p.2) (a.eval p.2) := fun p hp => hs p.2 (by
      simp only [hop, Op.operands]
      simp
      exact ⟨p.1, by simpa using hp⟩)
    obtain ⟨i, zv, hi, hzv, hzc, hone⟩ := zcOf_spec hz
    obtain ⟨out, o1, o2⟩ := fillR_ok (E := E) (fun i => some (i * z, z)) (fun i => some (i * z, z)) (fun _ _ h => h) _ (parts.toList.map fun p => (p.1, a.eval p.2)) _ zv.cells cs hcs (by simp) (parts_rel ho) (zc_ok E hzc hone)
    refine ⟨.agg out, ?_, .agg _ _ o2.1 o2.2.1 o2.2.2⟩
    have hm : (parts.map fun (i, x) => (i, a.eval x)).toList = parts.toList.map fun p => (p.1, a.eval p.2) := by simp
    unfold elOf at hel
    split at hel <;> simp at hel
    rename_i m' e' hu
    obtain ⟨i2, hi2, _, hz2⟩ := hel
    unfold execOp
    simp only [hop]
    unfold Instr.build
    simp [zeroValue, run_typeInfo w hi, hzv, run_underlying hu, run_sizeOf w hi2, Program.cellsOf, hi2, hz2, hm, o1]
  | true =>
  rw [hb] at hr
  simp only [cond_true] at hr
  rw [Option.map_eq_some_iff] at hr
  obtain ⟨cs, hcs, rfl⟩ := hr
  refine ⟨KH.refl _ _ _, fun m E a w hm hs hh => ⟨E, w, hh, RX.refl _ _ _ _ _, ?_⟩⟩
  have ho : ∀ p ∈ parts.toList, Rr E (evR t p.2) (a.eval p.2) := fun p hp => hs p.2 (by
    simp only [hop, Op.operands]
    simp
    exact ⟨p.1, by simpa using hp⟩)
  obtain ⟨i, zv, hi, hzv, hzc, hone⟩ := zcOf_spec hz
  have h1' := hb
  unfold bldOk at h1'
  split at h1'
  · rename_i fs hu
    rw [List.all_eq_true] at h1'
    let places : Array (Nat × Nat) := fs.map fun f => (f.offset, P.cellsOf f.type)
    have hpl : ∀ k p, plOf P ty k = some p → places[k]? = some p := fun k p hk => by
      unfold plOf at hk
      rw [hu] at hk
      simp only at hk
      split at hk <;> try cases hk
      rename_i f hf
      split at hk <;> try cases hk
      rename_i x hx
      simp only [places, Array.getElem?_map, hf, Option.map_some, Program.cellsOf, hx, Option.getD_some]
    have hrunp : (fs.mapM fun f => (do pure (f.offset, ← sizeOf f.type) : Sem (Nat × Nat))).run P w = .ok places w := by
      have := run_mapMβ (P := P) (w := w) (fun f : Field => (do pure (f.offset, ← sizeOf f.type) : Sem (Nat × Nat))) fs.toList places.toList (by simp [places]) (fun j f v hf hv => by
        have hf' : f ∈ fs.toList := List.mem_of_getElem? hf
        obtain ⟨x, hx⟩ := Option.isSome_iff_exists.1 (h1' f hf')
        have : v = (f.offset, P.cellsOf f.type) := by
          simp only [places, Array.toList_map, List.getElem?_map, hf, Option.map_some, Option.some.injEq] at hv
          exact hv.symm
        subst this
        simp [run_sizeOf w hx, Program.cellsOf, hx])
      have e : fs = fs.toList.toArray := by simp
      rw [e, List.mapM_toArray, Sem.run_map, this]
      show Result.ok places.toList.toArray w = Result.ok places w
      rw [Array.toArray_toList]
    obtain ⟨out, o1, o2⟩ := fillR_ok (E := E) (plOf P ty) (fun k => places[k]?) hpl _ (parts.toList.map fun p => (p.1, a.eval p.2)) _ zv.cells cs hcs (by simp) (parts_rel ho) (zc_ok E hzc hone)
    refine ⟨.agg out, ?_, .agg _ _ o2.1 o2.2.1 o2.2.2⟩
    have hm : (parts.map fun (i, x) => (i, a.eval x)).toList = parts.toList.map fun p => (p.1, a.eval p.2) := by simp
    have e2 : (fun f : Field => (do pure (f.offset, ← sizeOf f.type) : Sem (Nat × Nat))) = fun f => Prod.mk f.offset <$> sizeOf f.type := by funext f; simp
    rw [e2] at hrunp
    unfold execOp
    simp only [hop]
    unfold Instr.build
    simp [zeroValue, run_typeInfo w hi, hzv, run_underlying hu, hrunp, hm, o1]
  · cases h1'

theorem mv_lit {ty : TypeId} {k : Nat} {parts : Array (Nat × Operand)} (hop : o.op = .buildSlice ty k parts) (hlo : lo ≤ n) (hr : mvR P lo t h n o.op = some r) : MOk P lo t h n o r := by
  rw [hop] at hr
  simp only [mvR] at hr
  split at hr <;> try cases hr
  rename_i e z by_ hsl
  split at hr <;> try cases hr
  rename_i zs hz
  obtain ⟨hb, hr⟩ := bif_opt hr
  simp only [Bool.and_eq_true, decide_eq_true_eq] at hb
  obtain ⟨⟨⟨hzl, h24⟩, hk24⟩, hub⟩ := hb
  rw [Option.map_eq_some_iff] at hr
  obtain ⟨cs, hcs, rfl⟩ := hr
  obtain ⟨hu, i, hi, rfl, rfl⟩ := slE_spec hsl
  obtain ⟨i', zv, hi', hzv, rfl, hone⟩ := zcOf_spec hz
  rw [hi] at hi'
  cases hi'
  have hzs : zv.cells.size = i.size := by simpa using hzl
  refine ⟨KH.new hlo hub _, fun m E a w hm hs hh => ?_⟩
  have hm : n + 1 ≤ m := hm
  have ho : ∀ p ∈ parts.toList, Rr E (evR t p.2) (a.eval p.2) := fun p hp => hs p.2 (by
    simp only [hop, Op.operands]
    simp
    exact ⟨p.1, by simpa using hp⟩)
  obtain ⟨out, o1, o2⟩ := fillR_ok (E := E) (fun i' => some (i' * i.size, i.size)) (fun i' => some (i' * i.size, i.size)) (fun _ _ h => h) _ (parts.toList.map fun p => (p.1, a.eval p.2)) _ _ cs hcs (by simp) (parts_rel ho) (zerosR_ok E hone k)
  have hlen := hcs
  have hosz : out.size = k * i.size := by
    have : ∀ (l : List (Nat × RV)) (c0 c1 : List RV), fillR (fun i' => some (i' * i.size, i.size)) c0 l = some c1 → c1.length = c0.length := fun l => by
      induction l with
      | nil => intro c0 c1 h; cases h; rfl
      | cons p l ih =>
        intro c0 c1 h
        unfold fillR at h
        split at h <;> try cases h
        rename_i off s vs e1 e2
        obtain ⟨h1, h2⟩ := bif_opt h
        simp only [Bool.and_eq_true, decide_eq_true_eq] at h1
        rw [ih _ _ h2, splR_len (by omega)]
    have := this _ _ _ hcs
    rw [zerosR_len] at this
    rw [← o2.1, this]
    simp [hzs]
  obtain ⟨q1, q2⟩ := new_ok (us := out) (cs := cs) hh hm hlo hub e (w' := w.alloc (.cells out e)) rfl rfl rfl rfl (o2.mono (updE_up hh (by omega) _)).toCR'
  refine ⟨_, _, q1, q2, .slice (some ⟨w.heap.size, 0, none⟩) k k, ?_, .sl n 0 k _ _ true w.heap.size out.size k (updE_same _ _ _) (Nat.le_refl _) (by unfold maxLen; omega) (by omega) (fun _ => by omega) (fun _ h => by cases h; rfl)⟩
  have hmap : (parts.map fun p => (p.1, a.eval p.2)).toList = parts.toList.map fun p => (p.1, a.eval p.2) := by simp
  have h24' : ¬ (k * i.size > 2 ^ 24) := by
    have : (2 : Nat) ^ 24 = 16777216 := by decide
    omega
  have hzero : (if k * i.size = 0 then #[] else zv.cells) = (if k * i.size = 0 then #[] else zv.cells) := rfl
  by_cases h0 : k * i.size = 0
  · have e0 : (Array.range (k * zv.cells.size)).map (zv.cells[· % zv.cells.size]!) = #[] := by rw [hzs, h0]; simp [Array.range_zero']
    rw [e0] at o1
    simp only [execOp, hop, Instr.buildSlice, Sem.run_bind, run_underlying hu, Result.andThen_ok, run_sizeOf w hi, Program.cellsOf, hi, Option.map_some, Option.getD_some, h24', if_false, h0, if_true, Sem.run_pure, Sem.run_ite]
    simp only [hmap, Array.range_zero']
    simp [o1, newRow]
  · rw [hzs] at o1
    simp only [execOp, hop, Instr.buildSlice, Sem.run_bind, run_underlying hu, Result.andThen_ok, run_sizeOf w hi, Program.cellsOf, hi, Option.map_some, Option.getD_some, h24', if_false, h0, zeroValue, run_typeInfo w hi, hzv, Sem.run_pure, Sem.run_ite]
    simp only [hmap, hzs]
    rw [o1]
    simp [newRow]

theorem mv_make {ty : TypeId} {x y : Operand} (hop : o.op = .makeSlice ty x y) (hlo : lo ≤ n) (hr : mvR P lo t h n o.op = some r) : MOk P lo t h n o r := by
  rw [hop] at hr
  simp only [mvR] at hr
  split at hr <;> try cases hr
  rename_i e z by_ k l k' c hsl hx hy
  split at hr <;> try cases hr
  rename_i zs hz
  obtain ⟨hb, rfl⟩ := bif_some hr
  simp only [Bool.and_eq_true, decide_eq_true_eq] at hb
  obtain ⟨⟨⟨⟨⟨hzl, h0⟩, h1⟩, h2⟩, h3⟩, hub⟩ := hb
  obtain ⟨hu, i, hi, rfl, rfl⟩ := slE_spec hsl
  obtain ⟨i', zv, hi', hzv, rfl, hone⟩ := zcOf_spec hz
  rw [hi] at hi'
  cases hi'
  refine ⟨KH.new hlo hub _, fun m E a w hm hs hh => ?_⟩
  have hm : n + 1 ≤ m := hm
  have hxr := hs x (by simp [hop, Op.operands])
  have hyr := hs y (by simp [hop, Op.operands])
  rw [hx] at hxr
  rw [hy] at hyr
  have hxe : a.eval x = .int k l := by
    generalize a.eval x = q at hxr ⊢
    cases hxr; rfl
  have hye : a.eval y = .int k' c := by
    generalize a.eval y = q at hyr ⊢
    cases hyr; rfl
  have hwn : IntKind.i64.wrap l = l := IntWalk.i64_in l ⟨by omega, by omega⟩
  have hwc : IntKind.i64.wrap c = c := IntWalk.i64_in c ⟨by omega, by omega⟩
  have hzs : zv.cells.size = i.size := by simpa using hzl
  obtain ⟨us, husd⟩ : ∃ us : Array Value, us = (Array.range (c.toNat * i.size)).map (zv.cells[· % zv.cells.size]!) := ⟨_, rfl⟩
  have hus : us.size = c.toNat * i.size := by simp [husd]
  have hrun : (execOp a.eval o).run P w = .ok (.value (.slice (some ⟨w.heap.size, 0, none⟩) l.toNat c.toNat)) (w.alloc (.cells us e)) := by
    simp only [execOp, hop, hxe, hye, Instr.makeSlice, asInt, asIntOf, Sem.run_bind, run_underlying hu, Result.andThen_ok, Sem.run_pure, run_typeInfo w hi, hwn, hwc, run_askRoom, run_sizeOf w hi, Program.cellsOf, hi, Option.map_some, Option.getD_some]
    have hcond : (decide (c < 0) || decide ((i.bytes : Int) * c > 2 ^ 48) || decide (l < 0) || decide (l > c)) = false := by
      have hc48 : (i.bytes : Int) * c ≤ 140737488355328 := by rw [Int.mul_comm]; exact h3
      have e48 : (2 : Int) ^ 48 = 281474976710656 := by decide
      simp only [Bool.or_eq_false_iff, decide_eq_false_iff_not, e48]
      omega
    rw [hcond, if_neg (by simp)]
    simp only [Sem.run_bind, run_askRoom, Result.andThen_ok, run_sizeOf w hi, Program.cellsOf, hi, Option.map_some, Option.getD_some]
    by_cases hzero : c.toNat * i.size = 0
    · have he : us = #[] := by
        apply Array.eq_empty_of_size_eq_zero
        rw [hus, hzero]
      rw [if_pos hzero, he]
      simp [newRow, hzero, Array.range_zero']
    · rw [if_neg hzero]
      simp [zeroValue, run_typeInfo w hi, hzv, newRow, husd]
  have hcr := zerosR_ok (updE E n (some (w.heap.size, us.size))) hone c.toNat
  have hus2 : (Array.range (c.toNat * zv.cells.size)).map (zv.cells[· % zv.cells.size]!) = us := by rw [husd, hzs]
  rw [hus2] at hcr
  obtain ⟨q1, q2⟩ := new_ok (us := us) hh hm hlo hub e (w' := w.alloc (.cells us e)) rfl rfl rfl rfl hcr.toCR'
  exact ⟨_, _, q1, q2, _, hrun, .sl n 0 l.toNat _ _ true w.heap.size us.size c.toNat (updE_same _ _ _) (by omega) (by unfold maxLen; omega) (by omega) (fun _ => by omega) (fun _ h => by cases h; rfl)⟩

theorem mv_store {ty : TypeId} {ad x : Operand} (hop : o.op = .store ty ad x) (hr : mvR P lo t h n o.op = some r) : MOk P lo t h n o r := by
  rw [hop] at hr
  simp only [mvR] at hr
  split at hr <;> try cases hr
  rename_i s b off vs hsz had hvs
  split at hr <;> try cases hr
  rename_i e cs hb
  obtain ⟨hc, rfl⟩ := bif_some hr
  simp only [Bool.and_eq_true, decide_eq_true_eq] at hc
  obtain ⟨⟨⟨⟨h1, h2⟩, h3⟩, h4⟩, h5⟩ := hc
  refine ⟨KH.turn h3 h4 h5 _, fun m E a w hm hs hh => ?_⟩
  have hxr := hs x (by simp [hop, Op.operands])
  have har := hs ad (by simp [hop, Op.operands])
  rw [had] at har
  generalize hav : a.eval ad = av at har
  cases har with
  | ptr _ _ g s' hE =>
    obtain ⟨g2, s2, hE2, us, hg, hus, hlen, hrel⟩ := hh.blk b _ hb
    rw [hE] at hE2
    cases hE2
    have hcr := cells_okR hvs hxr
    have hrun := run_storeAt (P := P) (w := w) hsz (x := a.eval x) (by rw [← hcr.1]; exact h1) hg (o := off) (by omega) hcr.2.1
    have e1 : (us.toList.take off ++ (a.eval x).cells.toList ++ us.toList.drop (off + s)).toArray = splV off (a.eval x).cells us := by unfold splV; rw [← hcr.1, h1]
    rw [e1] at hrun
    have hsp := hcr.spl (off := off) (old := cs) (us := us) ⟨by omega, hrel⟩ (by omega)
    have hspsz : (splV off (a.eval x).cells us).size = us.size := splV_size (by rw [← hcr.1]; omega)
    obtain ⟨q1, q2⟩ := hh.turn (lo := lo) (b := b) (g := g) (s := s') h3 h4 (by rw [hb]; simp) hE (w' := w.setRow g (splV off (a.eval x).cells us)) (by simp [World.setRow]) (fun g' hg' => setRow_other w g g' _ hg') rfl rfl rfl
      (k := .cells e (splR off vs cs)) ⟨_, setRow_heap w g us _ e _ hg, hspsz.trans hus, by have := hsp.1; omega, hsp.2⟩
    rw [get_set_fun h5]
    exact ⟨E, _, q1, q2, by simp only [execOp, hop, Sem.run_bind, hav, hrun, Result.andThen_ok, Sem.run_pure]⟩

/-! ## Maps -/

theorem mv_map {ty : TypeId} {hint : Option Operand} (hop : o.op = .makeMap ty hint) (hlo : lo ≤ n) (hr : mvR P lo t h n o.op = some r) : MOk P lo t h n o r := by
  rw [hop] at hr
  simp only [mvR] at hr
  obtain ⟨hc, rfl⟩ := bif_some hr
  rw [Bool.and_eq_true, decide_eq_true_eq] at hc
  obtain ⟨hmk, hub⟩ := hc
  refine ⟨KH.new hlo hub _, fun m E a w hm hs hh => ?_⟩
  have hm : n + 1 ≤ m := hm
  obtain ⟨q1, q2, q3⟩ := hh.new (lo := lo) (by omega) hlo (w' := w.alloc (.map #[] 0)) rfl rfl rfl rfl (k := .map [] 0) (s := 0) ⟨[], by rw [show (w.alloc (.map #[] 0)).heap = w.heap.push (.map #[] 0) from rfl]; simp, rfl, fun j e m he => by simp at he⟩
  rw [get_set_fun hub]
  refine ⟨_, _, q1, q2, .map (some w.heap.size), ?_, .mp n w.heap.size 0 (updE_same _ _ _)⟩
  cases hint with
  | none => simp [execOp, hop, Instr.makeMap, newObj, Sem.run]
  | some x =>
    have hx := hs x (by simp [hop, Op.operands])
    simp only [Option.map_some] at hmk
    generalize evR t x = ex at hmk hx
    cases ex with
    | int kk q =>
      generalize hq : a.eval x = qv at hx
      cases hx
      unfold mkmOk at hmk
      simp only at hmk
      split at hmk <;> try cases hmk
      rename_i hu
      simp [execOp, hop, Instr.makeMap, hq, run_underlying hu, asInt, asIntOf, newObj, Sem.run]
    | _ => cases hmk

theorem map_turn {E : Emb} {m : Nat} {w : World} (hh : HS E h.get n m w) {b g s c c' : Nat} {es es' : List (Value × RV × Nat)} {vs vs' : List MapEntry} (hb : h.get b = some (.map es c)) (hE : E b = some (g, s)) (hg : w.heap[g]? = some (.map vs.toArray c))
    (h3 : lo ≤ b) (h4 : b < n) (h5 : b < ub) (hr : ER E es' vs') :
    HS E (h.set b (some (.map es' c'))).get n m { w with heap := w.heap.setIfInBounds g (.map vs'.toArray c') } ∧ RX lo E h.get n w E (h.set b (some (.map es' c'))).get n { w with heap := w.heap.setIfInBounds g (.map vs'.toArray c') } := by
  rw [get_set_fun h5]
  have hs := MapKept.heap_set (o' := .map vs'.toArray c') hg
  exact hh.turn (lo := lo) (b := b) (g := g) (s := s) h3 h4 (by rw [hb]; simp) hE (w' := { w with heap := w.heap.setIfInBounds g (.map vs'.toArray c') }) (by simp) (fun g' hg' => hs.2 g' hg') rfl rfl rfl (k := .map es' c') ⟨vs', hs.1, hr.1, hr.2⟩

theorem ER.app {E : Emb} {es : List (Value × RV × Nat)} {vs : List MapEntry} (h : ER E es vs) {e : Value × RV × Nat} {m : MapEntry} (h1 : m.key = e.1) (h2 : Rr E e.2.1 m.val) (h3 : m.born = e.2.2) : ER E (es ++ [e]) (vs ++ [m]) := by
  refine ⟨by simp [h.1], fun j a b ha hb => ?_⟩
  rw [List.getElem?_append] at ha hb
  rw [h.1] at ha
  split at ha
  · rename_i hj
    rw [if_pos hj] at hb
    exact h.2 j a b ha hb
  · rename_i hj
    rw [if_neg hj] at hb
    rcases hk : j - vs.length with _ | q
    · rw [hk] at ha hb; simp at ha hb; subst ha; subst hb; exact ⟨h1, h2, h3⟩
    · rw [hk] at ha; simp at ha
theorem ER.set {E : Emb} {es : List (Value × RV × Nat)} {vs : List MapEntry} (h : ER E es vs) {j : Nat} {m : MapEntry} (hm : vs[j]? = some m) {e : Value × RV × Nat} {f : MapEntry → MapEntry} (h1 : (f m).key = e.1) (h2 : Rr E e.2.1 (f m).val) (h3 : (f m).born = e.2.2) : ER E (es.set j e) (vs.modify j f) := by
  refine ⟨by simp [h.1], fun i a b ha hb => ?_⟩
  rw [List.getElem?_set] at ha
  rw [List.getElem?_modify] at hb
  by_cases hij : j = i
  · subst hij
    rw [if_pos rfl] at ha
    rw [hm] at hb
    split at ha <;> cases ha
    simp at hb
    subst hb
    exact ⟨h1, h2, h3⟩
  · rw [if_neg hij] at ha
    simp [hij] at hb
    exact h.2 i a b ha hb
theorem ER.erase {E : Emb} {es : List (Value × RV × Nat)} {vs : List MapEntry} (h : ER E es vs) (j : Nat) : ER E (es.eraseIdx j) (vs.eraseIdx j) := by
  refine ⟨by simp [List.length_eraseIdx, h.1], fun i a b ha hb => ?_⟩
  rw [List.getElem?_eraseIdx] at ha hb
  split at ha
  · rename_i hi; rw [if_pos hi] at hb; exact h.2 _ a b ha hb
  · rename_i hi; rw [if_neg hi] at hb; exact h.2 _ a b ha hb

theorem mp_inv {E : Emb} {b : Nat} {v : Value} (h : Rr E (.mp b) v) : ∃ g s, v = .map (some g) ∧ E b = some (g, s) := by
  cases h with
  | mp _ g s hE => exact ⟨g, s, rfl, hE⟩

theorem mv_upd {ty : TypeId} {mo k x : Operand} (hop : o.op = .mapUpdate ty mo k x ∨ o.op = .insert ty mo k x) (hr : updR P lo h n ty (evR t mo) (evR t k) (evR t x) = some r) : MOk P lo t h n o r := by
  have hopd : ∀ y ∈ [mo, k, x], y ∈ o.op.operands := fun y hy => by
    rcases hop with hop | hop <;> rw [hop] <;> simp [Op.operands] at hy ⊢ <;> exact hy
  have hex : ∀ (a : Act), execOp a.eval o = (Instr.mapUpdate ty (a.eval mo) (a.eval k) (a.eval x) >>= fun _ => pure .skip) := fun a => by
    rcases hop with hop | hop <;> simp only [execOp, hop]
  unfold updR at hr
  split at hr <;> try cases hr
  rename_i kt et b kv hu hmo hkv
  split at hr <;> try cases hr
  rename_i es c hb
  obtain ⟨hc, hr⟩ := bif_opt hr
  simp only [Bool.and_eq_true, decide_eq_true_eq] at hc
  obtain ⟨⟨h3, h4⟩, h5⟩ := hc
  split at hr <;> cases hr
  all_goals
    rename_i hf
    refine ⟨KH.turn h3 h4 h5 _, fun m E a w hm hs hh => ?_⟩
    have hmr := hs mo (hopd _ (by simp))
    have hkr := hs k (hopd _ (by simp))
    have hxr := hs x (hopd _ (by simp))
    rw [hmo] at hmr
    generalize hmv : a.eval mo = mv at hmr
    obtain rfl := keyV_ok hkv hkr
    obtain ⟨g, s, rfl, hE⟩ := mp_inv hmr
    obtain ⟨g2, s2, hE2, vs, hg, hlen, hrel⟩ := hh.blk b _ hb
    rw [hE] at hE2; cases hE2
    have hER : ER E es vs := ⟨hlen, hrel⟩
    obtain ⟨c1, c2, c3⟩ := findR_ok hf hER w
  · obtain ⟨q1, q2⟩ := map_turn (lo := lo) (c' := c + 1) hh hb hE hg h3 h4 h5 (hER.app (e := (a.eval k, evR t x, c)) (m := ⟨a.eval k, a.eval x, c⟩) rfl hxr rfl)
    exact ⟨E, _, q1, q2, by simp [hex, hmv, Instr.mapUpdate, run_underlying hu, MapKept.run_getObj_map hg, c1, c3, MapKept.run_setObj_map _ hg]⟩
  · obtain ⟨mm, c3, c4, c5, c6, c7⟩ := c3
    rename_i j d c0
    obtain ⟨q1, q2⟩ := map_turn (lo := lo) (c' := c) hh hb hE hg h3 h4 h5 (hER.set c4 (e := (a.eval k, evR t x, c0)) (f := fun e => { e with key := a.eval k, val := a.eval x }) rfl hxr c7)
    have hj : vs.toArray[j]? = some mm := by simpa using c4
    refine ⟨E, _, q1, q2, ?_⟩
    simp [hex, hmv, Instr.mapUpdate, run_underlying hu, MapKept.run_getObj_map hg, c1, c3, c4, c5, c2, MapKept.run_setObj_map _ hg]

theorem mv_del {args : Array Operand} {ts : Array TypeId} {mo k : Operand} {t1 : TypeId} {tl : List TypeId} (hop : o.op = .call ⟨.builtin .delete, args, ts⟩) (hargs : args.toList = [mo, k]) (hts : ts.toList = t1 :: tl) (hr : delR P lo h n t1 (evR t mo) (evR t k) = some r) : MOk P lo t h n o r := by
  obtain rfl : args = #[mo, k] := by apply Array.ext'; simpa using hargs
  have h0 : ts[0]? = some t1 := by rw [← Array.getElem?_toList, hts]; rfl
  unfold delR at hr
  split at hr <;> try cases hr
  rename_i kt et b kv hu hmo hkv
  split at hr <;> try cases hr
  rename_i es c hb
  obtain ⟨hc, hr⟩ := bif_opt hr
  simp only [Bool.and_eq_true, decide_eq_true_eq] at hc
  obtain ⟨⟨h3, h4⟩, h5⟩ := hc
  split at hr <;> cases hr
  all_goals
    rename_i hf
    refine ⟨KH.turn h3 h4 h5 _, fun m E a w hm hs hh => ?_⟩
    have hmr := hs mo (by simp [hop, Op.operands, Call.operands])
    have hkr := hs k (by simp [hop, Op.operands, Call.operands])
    rw [hmo] at hmr
    generalize hmv : a.eval mo = mv at hmr
    obtain rfl := keyV_ok hkv hkr
    obtain ⟨g, s, rfl, hE⟩ := mp_inv hmr
    obtain ⟨g2, s2, hE2, vs, hg, hlen, hrel⟩ := hh.blk b _ hb
    rw [hE] at hE2; cases hE2
    have hER : ER E es vs := ⟨hlen, hrel⟩
    obtain ⟨c1, c2, c3⟩ := findR_ok hf hER w
  · obtain ⟨q1, q2⟩ := map_turn (lo := lo) (c' := c) hh hb hE hg h3 h4 h5 hER
    exact ⟨E, _, q1, q2, .tuple #[], by simp [execOp, hop, hmv, resolve, invoke, builtin, Builtin.delete_, h0, run_underlying hu, MapKept.run_getObj_map hg, c1, c3, MapKept.run_setObj_map _ hg], .tup [] #[] rfl fun j d u hd => by simp at hd⟩
  · obtain ⟨mm, c3, c4, c5, c6, c7⟩ := c3
    rename_i j d c0
    obtain ⟨q1, q2⟩ := map_turn (lo := lo) (c' := c) hh hb hE hg h3 h4 h5 (hER.erase j)
    have e1 : vs.toArray.eraseIdxIfInBounds j = (vs.eraseIdx j).toArray := by simp
    exact ⟨E, _, q1, q2, .tuple #[], by simp [execOp, hop, hmv, resolve, invoke, builtin, Builtin.delete_, h0, run_underlying hu, MapKept.run_getObj_map hg, c1, c3, MapKept.run_setObj_map _ hg], .tup [] #[] rfl fun j d u hd => by simp at hd⟩

theorem mv_range {ty : TypeId} {x : Operand} (hop : o.op = .range ty x) (hlo : lo ≤ n) (hr : mvR P lo t h n o.op = some r) : MOk P lo t h n o r := by
  rw [hop] at hr
  simp only [mvR] at hr
  split at hr <;> try cases hr
  rename_i s hs0
  obtain ⟨hc, rfl⟩ := bif_some hr
  rw [Bool.and_eq_true, decide_eq_true_eq, beq_iff_eq] at hc
  obtain ⟨hty, hub⟩ := hc
  refine ⟨KH.new hlo hub _, fun m E a w hm hs hh => ?_⟩
  have hm : n + 1 ≤ m := hm
  have hx := hs x (by simp [hop, Op.operands])
  rw [hs0] at hx
  generalize hq : a.eval x = q at hx
  cases hx
  obtain ⟨q1, q2, q3⟩ := hh.new (lo := lo) (by omega) hlo (w' := w.alloc (.stringIter s 0)) rfl rfl rfl rfl (k := .it s 0) (s := 0) (show (w.heap.push (.stringIter s 0))[w.heap.size]? = _ by simp)
  rw [get_set_fun hub]
  exact ⟨_, _, q1, q2, .pointer (some ⟨w.heap.size, 0, none⟩), by simp [execOp, hop, hq, Instr.range, run_underlying (tk_string hty), newObj, Sem.run], .ptr n 0 w.heap.size 0 (updE_same _ _ _)⟩

theorem mv_next {x : Operand} (hop : o.op = .next x true) (hr : mvR P lo t h n o.op = some r) : MOk P lo t h n o r := by
  rw [hop] at hr
  simp only [mvR] at hr
  split at hr <;> try cases hr
  rename_i b hx0
  split at hr <;> try cases hr
  rename_i s pos hb
  obtain ⟨hc, hr⟩ := bif_opt hr
  simp only [Bool.and_eq_true, decide_eq_true_eq] at hc
  obtain ⟨⟨h3, h4⟩, h5⟩ := hc
  have common : ∀ {E : Emb} {m : Nat} {a : Act} {w : World}, OpdOk E t a o → HS E h.get n m w → ∃ g s', a.eval x = .pointer (some ⟨g, 0, none⟩) ∧ E b = some (g, s') ∧ w.heap[g]? = some (.stringIter s pos) := fun {E m a w} hs hh => by
    have hx := hs x (by simp [hop, Op.operands])
    rw [hx0] at hx
    generalize a.eval x = q at hx
    cases hx with
    | ptr _ _ g s' hE =>
      obtain ⟨g2, s2, hE2, hg⟩ := hh.blk b _ hb
      rw [hE] at hE2; cases hE2
      exact ⟨g, s', rfl, hE, hg⟩
  have hobj : ∀ {w : World} {g : Nat}, w.heap[g]? = some (.stringIter s pos) → (getObj g).run P w = .ok (.stringIter s pos) w := fun {w g} hg => by simp [getObj, Sem.run, hg]
  cases hp : decide (pos < s.size) with
  | true =>
    rw [hp] at hr
    obtain rfl := Option.some.inj hr
    have hp := of_decide_eq_true hp
    refine ⟨KH.turn h3 h4 h5 _, fun m E a w hm hs hh => ?_⟩
    obtain ⟨g, s', hav, hE, hg⟩ := common hs hh
    have hset : (setObj g (.stringIter s (pos + (Utf8.decode s pos).2))).run P w = .ok () { w with heap := w.heap.setIfInBounds g (.stringIter s (pos + (Utf8.decode s pos).2)) } := by simp [setObj, Sem.run, hg]
    have hs2 := MapKept.heap_set (o' := .stringIter s (pos + (Utf8.decode s pos).2)) hg
    obtain ⟨q1, q2⟩ := hh.turn (lo := lo) (b := b) (g := g) (s := s') h3 h4 (by rw [hb]; simp) hE (w' := { w with heap := w.heap.setIfInBounds g (.stringIter s (pos + (Utf8.decode s pos).2)) }) (by simp) (fun g' hg' => hs2.2 g' hg') rfl rfl rfl (k := .it s (pos + (Utf8.decode s pos).2)) hs2.1
    rw [get_set_fun h5]
    refine ⟨E, _, q1, q2, .tuple #[.bool true, goInt pos, .int .i32 (Utf8.decode s pos).1], by simp [execOp, hop, hav, Instr.next, hobj hg, hp, hset], ?_⟩
    refine .tup _ _ rfl fun j d u hd hu => ?_
    rcases j with _ | _ | _ | j
    · simp at hd hu; subst hd; subst hu; exact .bool _
    · simp at hd hu; subst hd; subst hu; exact .int _ _
    · simp at hd hu; subst hd; subst hu; exact .int _ _
    · simp at hd
  | false =>
    rw [hp] at hr
    obtain rfl := Option.some.inj hr
    have hp := of_decide_eq_false hp
    refine ⟨KH.refl _ _ _, fun m E a w hm hs hh => ?_⟩
    obtain ⟨g, s', hav, hE, hg⟩ := common hs hh
    refine ⟨E, w, hh, RX.refl _ _ _ _ _, .tuple #[.bool false], by simp [execOp, hop, hav, Instr.next, hobj hg, hp], ?_⟩
    refine .tup _ _ rfl fun j d u hd hu => ?_
    rcases j with _ | j
    · simp at hd hu; subst hd; subst hu; exact .bool _
    · simp at hd
end
end Go.Rv
