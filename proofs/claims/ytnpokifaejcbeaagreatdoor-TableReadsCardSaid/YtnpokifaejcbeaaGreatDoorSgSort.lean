/- Sorting an own row by a function of its own: from the kit's contract over the world to one over environments. -/
import Derived.Test.YtnpokifaejcbeaaGreatDoorSgLib
import Derived.Shelf.SlSortCmp.InsertionK
set_option linter.unusedVariables false
set_option linter.unusedSimpArgs false
namespace Go.Sg
open Go.RowKit Go.Proofs Go.Sort

theorem world_grow {w w' : World} (h1 : w'.os = w.os) (h2 : w'.tape = w.tape) (h3 : w'.output = w.output) (h4 : w.heap.size ≤ w'.heap.size) (h5 : w.drawn ≤ w'.drawn) (h6 : ∀ g, g < w.heap.size → w'.heap[g]? = w.heap[g]?) :
    ∃ q os, w' = Sort.grow (w.drewN q) os := by
  refine ⟨w'.drawn - w.drawn, w'.heap.extract w.heap.size w'.heap.size, ?_⟩
  have hh : w'.heap = w.heap ++ w'.heap.extract w.heap.size w'.heap.size := by
    apply Array.ext_getElem?
    intro i
    rw [Array.getElem?_append]
    split
    · rename_i h; exact h6 i h
    · rename_i h
      rw [Array.getElem?_extract]
      split
      · congr 1; omega
      · rw [Array.getElem?_eq_none (by omega)]
  have hd : w.drawn + (w'.drawn - w.drawn) = w'.drawn := by omega
  cases w'
  cases w
  simp only [World.drewN, Sort.grow] at *
  subst h1; subst h2; subst h3
  rw [hd, ← hh]

/-- A comparison that has a contract may be handed to a sort. -/
theorem cmp_lays {P : Program} {α : Type} [Inhabited α] {enc : α → List Value} {k g blk size : Nat} {cf : α → α → Int} {w : World} {I : Nat → Prop} (hi : Imm w I) (hb : ¬ I blk)
    (h1 : ∀ x, ∀ v ∈ enc x, v.oneCell' = true)
    (hC : ∀ x y : α, PCall P (fun _ => .any) g [.agg ((enc x).map .v), .agg ((enc y).map .v)] (.v (.int .i64 (cf x y)))) : CmpLays P g #[] enc k cf blk 0 size w := by
  intro m os dk hs x y
  have hsz : w.heap.size ≤ (sortWorldK enc k w blk 0 m dk os).heap.size := by
    show w.heap.size ≤ (w.heap.modify blk _ ++ os).size
    simp
  have hheap : ∀ g', g' < w.heap.size → g' ≠ blk → (sortWorldK enc k w blk 0 m dk os).heap[g']? = w.heap[g']? := fun g' hg hne => by
    show (w.heap.modify blk _ ++ os)[g']? = _
    rw [Array.getElem?_append_left (by simpa using hg), Array.getElem?_modify, if_neg (Ne.symm hne)]
  have hO : OSim (sortWorldK enc k w blk 0 m dk os) I noOwn (fun _ => .any) := by
    refine ⟨fun _ => trivial, fun s t g c c' h => absurd h (by simp), fun s g c h => absurd h (by simp), ⟨fun g' hg => Nat.lt_of_lt_of_le (hi g' hg) hsz, fun g' us e hg => ?_⟩⟩
    obtain ⟨k1, k2⟩ := hi.glob g' us e hg
    exact ⟨k1, (hheap g' (hi g' k1) fun e => hb (e ▸ k1)).trans k2⟩
  have hrel : ∀ z : α, Rel (sortWorldK enc k w blk 0 m dk os) I noOwn (.agg ((enc z).map .v)) (.agg (enc z).toArray) := fun z => by
    refine .agg _ _ _ (by simp) (fun u hu => h1 z u (by simpa using hu)) fun j d u hd hu => ?_
    rw [List.getElem?_map, Option.map_eq_some_iff] at hd
    obtain ⟨v, hv, rfl⟩ := hd
    have : u = v := by simpa [hv] using hu.symm
    subst this
    exact .v _ _
  refine (hC x y _ I noOwn #[.agg (enc x).toArray, .agg (enc y).toArray] hO rfl (fun j d u hd hu => ?_)).mono fun e w' ⟨v, I', O', r, q1, q2, q3, q4, q5, q6, q7, q8⟩ => ?_
  · match j with
    | 0 => simp at hd hu; subst hd; subst hu; exact hrel x
    | 1 => simp at hd hu; subst hd; subst hu; exact hrel y
    | j + 2 => simp at hd
  · subst q8
    have q6 : Rel w' I' noOwn (.v (.int .i64 (cf x y))) v := q6
    cases q6
    exact ⟨q1, world_grow q5.os q5.tape.1 q5.output q5.size q5.tape.2 fun g' hg => (q5.old g' hg fun s c h => by cases h).1⟩

theorem putCells_id {F c : Array Value} {t : Nat} (hi : t < F.size) (hc : t < c.size) : (Sort.putCells id 0 F c)[t]? = some F[t]! := by
  unfold Sort.putCells
  rw [Array.getElem?_mapIdx, Array.getElem?_eq_getElem hc, Option.map_some, if_pos ⟨Nat.zero_le _, by simpa using hi⟩]
  simp
theorem turned_putK {α : Type} [Inhabited α] {enc : α → List Value} {k : Nat} {w : World} {g : Nat} {us : Array Value} {e : TypeId} (h : w.heap[g]? = some (.cells us e (0, 0))) (n : Nat) (d : Array α) (os : Array Obj) :
    Turned w (sortWorldK enc k w g 0 n d os) g e (Sort.putCells id 0 (flatK enc k d) us) := by
  have hg : g < w.heap.size := (Array.getElem?_eq_some_iff.1 h).1
  have hsz : (w.heap.modify g (Sort.onCells (Sort.putCells id 0 (flatK enc k d)))).size = w.heap.size := by simp
  have hh : ∀ q, q < w.heap.size → (sortWorldK enc k w g 0 n d os).heap[q]? = (w.heap.modify g (Sort.onCells (Sort.putCells id 0 (flatK enc k d))))[q]? := fun q hq => by
    show (w.heap.modify g (Sort.onCells (Sort.putCells id 0 (flatK enc k d))) ++ os)[q]? = _
    rw [Array.getElem?_append_left (by rw [hsz]; exact hq)]
  refine ⟨rfl, ⟨rfl, Nat.le_add_right _ _⟩, rfl, ?_, ?_, fun q hq hne => ?_⟩
  · show w.heap.size ≤ (w.heap.modify g _ ++ os).size
    simp
  · rw [hh g hg, Array.getElem?_modify, if_pos rfl, h]; rfl
  · rw [hh q hq, Array.getElem?_modify, if_neg (Ne.symm hne)]

/-- slices.SortFunc on an own row, by a function without captured variables. -/
theorem ecall_sortK {P : Program} {f g : FuncId} {O : Env} {s : Nat} {e : TypeId} {z : Nat} {α : Type} [Inhabited α] {en : α → List DV} {enc : α → List Value} {l l' : List α} {cf : α → α → Int}
    (hen : ∀ x, en x = (enc x).map .v) (hk : ∀ x, (enc x).length = z) (hz : 0 < z) (h1 : ∀ x, ∀ v ∈ enc x, v.oneCell' = true) (hs : O s = rowL e z en l) (hlen : l'.length = l.length)
    (H0 : l = [] → ∀ b c w, Calls P f #[.slice b 0 c, .func (.func g) #[] #[]] w fun x w' => x = .returned (.tuple #[]) ∧ w' = w)
    (H : ∀ w blk c, HoldsK enc z w blk 0 l.toArray → blk < w.heap.size → CmpLays P g #[] enc z cf blk 0 l.length w → Calls P f #[.slice (some ⟨blk, 0, none⟩) l.length c, .func (.func g) #[] #[]] w fun x w' =>
      x = .returned (.tuple #[]) ∧ ∃ n os, w' = sortWorldK enc z w blk 0 n l'.toArray os)
    (hC : ∀ x y : α, PCall P (fun _ => .any) g [.agg ((enc x).map .v), .agg ((enc y).map .v)] (.v (.int .i64 (cf x y)))) :
    ECall P O f [.own s l.length, .fn g [] []] fun O' x => O' = set O s (rowL e z en l') ∧ x = .tup [] := by
  intro w I A vals hO hl hv
  obtain ⟨x, y, rfl⟩ : ∃ x y, vals = #[x, y] := by
    rcases vals with ⟨_ | ⟨x, _ | ⟨y, _ | ⟨q, ys⟩⟩⟩⟩
    · simp at hl
    · simp at hl
    · exact ⟨x, y, rfl⟩
    · simp at hl
  have hx := hv 0 _ x rfl rfl
  have hy := hv 1 _ y rfl rfl
  obtain rfl : y = .func (.func g) #[] #[] := by
    cases hy with
    | fn _ _ _ _ us vs hf hc _ _ =>
      obtain rfl : us = #[] := by apply Array.eq_empty_of_size_eq_zero; simpa using hf.symm
      obtain rfl : vs = #[] := by apply Array.eq_empty_of_size_eq_zero; simpa using hc.symm
      rfl
  have hfr : ∀ t, frOk (O t) (set O s (rowL e z en l') t) := fun t => by
    rw [set_apply]; split
    · rename_i h; subst h; rw [hs]; exact ⟨rfl, rfl, by simp [hlen]⟩
    · exact frOk.refl _
  have hout : ∀ t, isOut (O t) → isOut (set O s (rowL e z en l') t) := fun t ht => by
    rw [set_apply]; split
    · rfl
    · exact ht
  have hres : ∀ w' I', ResRel w w' I' A (.tup []) (.tuple #[]) := fun w' I' => Rel.tup A [] #[] rfl (by simp)
  cases hx with
  | own _ _ _ B c b hA hb =>
    have ho := hO.own s
    rw [hs] at ho
    obtain ⟨B', c', q1, q2⟩ := ho
    rw [hA] at q1
    simp only [Option.some.injEq, Prod.mk.injEq] at q1
    obtain ⟨rfl, rfl⟩ := q1
    rcases Nat.eq_zero_or_pos l.length with h0 | h0
    · obtain rfl : l = [] := List.eq_nil_of_length_eq_zero h0
      obtain rfl : l' = [] := List.eq_nil_of_length_eq_zero (by simpa using hlen)
      refine (H0 rfl _ _ w).mono fun _ w' ⟨k1, k2⟩ => ?_
      subst k2
      refine ⟨_, I, set O s (rowL e z en []), _, k1, ⟨fun t => ?_, hO.inj, hO.sep, hO.imm⟩, hfr, hout, Ext.refl _ _ _, hres _ _, rfl, rfl⟩
      rw [set_apply]; split
      · rename_i h; subst h; have := hO.own t; rw [hs] at this; exact this
      · exact hO.own t
    · cases B with
      | none =>
        have := q2.1
        have : (l.map en).length = 0 := by rw [this]; rfl
        simp at this; subst this; simp at h0
      | some gb =>
        obtain rfl := baseOk_some hb
        obtain ⟨us, p1, p2, p3, p4, p5⟩ := q2
        have p4 : l.length ≤ c := by simpa using p4
        have hgl : ∀ (m : List α) (i : Nat), i < m.length → m.toArray[i]! = m.getD i default := fun m i hi => by
          rw [getElem!_pos m.toArray i (by simpa using hi)]; simp [List.getD_eq_getElem?_getD, List.getElem?_eq_getElem hi]
        have hdm : ∀ t, t < l.length * z → t / z < l.length ∧ t % z < z := fun t ht => ⟨Nat.div_lt_of_lt_mul (by rwa [Nat.mul_comm] at ht), Nat.mod_lt _ hz⟩
        have hcz : l.length * z ≤ c * z := Nat.mul_le_mul_right _ p4
        have hcont : ∀ t, t < l.length * z → us[t]? = some (enc (l.getD (t / z) default))[t % z]! := fun t ht => by
          obtain ⟨d1, d2⟩ := hdm t ht
          have e1 : (l.map en)[t / z]? = some (en (l.getD (t / z) default)) := by simp [List.getElem?_eq_getElem d1]
          have e2 : (en (l.getD (t / z) default))[t % z]? = some (.v (enc (l.getD (t / z) default))[t % z]!) := by
            rw [hen, List.getElem?_map, List.getElem?_eq_getElem (by rw [hk]; exact d2), Option.map_some, getElem!_pos _ _ (by rw [hk]; exact d2)]
          have hb' : t / z * z + t % z < us.size := by rw [Nat.mul_comm, Nat.div_add_mod]; omega
          have := ((p5 _ _ e1).2 _ _ _ e2 (Array.getElem?_eq_getElem hb')).2
          have e3 : us[t]? = some (us[t / z * z + t % z]'hb') := by rw [← Array.getElem?_eq_getElem hb']; congr 1; rw [Nat.mul_comm, Nat.div_add_mod]
          rw [e3]
          generalize us[t / z * z + t % z]'hb' = u at this
          cases this; rfl
        have hholds : HoldsK enc z w gb 0 l.toArray := fun t ht => by
          have ht : t < l.length * z := by simpa using ht
          obtain ⟨k1, k2⟩ := cell_heap p1 (0 + t)
          refine ⟨?_, k2⟩
          rw [k1, Nat.zero_add, hcont t ht]
          show _ = some ((flatK enc z l.toArray)[t]!)
          rw [get_flatK _ _ _ _ (by simpa using ht), hgl l _ (hdm t ht).1]
        obtain ⟨hgs, hgI⟩ := hO.sep s gb c hA
        refine (H w gb c hholds hgs (cmp_lays hO.imm hgI h1 hC)).mono fun _ w' ⟨k1, n, os, k2⟩ => ?_
        have kt : Turned w w' gb e _ := k2 ▸ turned_putK p1 n l'.toArray os
        have hrel : ∀ (B : Own) d v, Rel w I B d v → Rel w' I B d v := fun B d v hr => hr.mono fun k hkI => ⟨hkI, fun o => cell_of_heap (kt.other k (hO.imm k hkI) fun e => hgI (e ▸ hkI)) o⟩
        refine ⟨_, I, set O s (rowL e z en l'), _, k1, ⟨fun t => ?_, hO.inj, fun t k c' h => ⟨Nat.lt_of_lt_of_le (hO.sep t k c' h).1 kt.size, (hO.sep t k c' h).2⟩, hO.imm.step (fun k hkI => Nat.lt_of_lt_of_le (hO.imm k hkI) kt.size) fun k hkI => ⟨hkI, kt.other k (hO.imm k hkI) fun e => hgI (e ▸ hkI)⟩⟩, hfr, hout,
          ⟨kt.os, kt.tape, kt.output, kt.size, fun _ h => h, fun k hk h => ⟨kt.other k hk fun e => h s c (e ▸ hA), fun h => h, h⟩, fun t k c' h _ ht => ⟨t, c', ht, h⟩, fun _ _ => rfl⟩, hres _ _, rfl, rfl⟩
        rw [set_apply]; split
        · rename_i h; subst h
          refine ⟨some gb, c, hA, _, kt.here, by simpa [Sort.putCells] using p2, p3, by simpa [hlen] using p4, fun i x hx => ?_⟩
          rw [List.getElem?_map, Option.map_eq_some_iff] at hx
          obtain ⟨a, ha, rfl⟩ := hx
          have hlt : i < l'.length := (List.getElem?_eq_some_iff.1 ha).1
          refine ⟨by rw [hen, List.length_map, hk], fun j d u hd hu => ?_⟩
          rw [hen, List.getElem?_map, Option.map_eq_some_iff] at hd
          obtain ⟨v, hv', rfl⟩ := hd
          have hj : j < z := by
            rw [← hk a]
            exact (List.getElem?_eq_some_iff.1 hv').1
          have hb2 : i * z + j < l'.length * z := by
            have := Nat.mul_le_mul_right z (show i + 1 ≤ l'.length by omega)
            rw [Nat.succ_mul] at this; omega
          have hdv : (i * z + j) / z = i := by rw [Nat.mul_comm, Nat.mul_add_div hz, Nat.div_eq_of_lt hj, Nat.add_zero]
          have hmd : (i * z + j) % z = j := by rw [Nat.mul_comm, Nat.mul_add_mod, Nat.mod_eq_of_lt hj]
          rw [putCells_id (by simpa using hb2) (by rw [p2]; rw [hlen] at hb2; omega), get_flatK _ _ _ _ (by simpa using hb2), hdv, hmd, hgl l' i hlt] at hu
          have ea : l'.getD i default = a := by rw [List.getD_eq_getElem?_getD, ha]; rfl
          rw [ea] at hu
          have hjl : j < (enc a).length := (List.getElem?_eq_some_iff.1 hv').1
          rw [getElem!_pos (enc a) j hjl] at hu
          have : u = v := by
            have h2 := (List.getElem?_eq_some_iff.1 hv').2
            simp only [Option.some.injEq] at hu
            rw [← hu, ← h2]
          subst this
          exact ⟨h1 a u (List.mem_of_getElem? hv'), .v _ _⟩
        · rename_i hne
          refine (hO.own t).keep (fun k c' h => kt.other k (hO.sep t k c' h).1 fun e => hne (hO.inj t s gb c' c (e ▸ h) hA)) hrel
end Go.Sg
