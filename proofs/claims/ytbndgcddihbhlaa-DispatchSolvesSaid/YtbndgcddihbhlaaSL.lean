/- Several texts as one. -/
import Derived.Shelf.Small.Wraps
import Derived.Shelf.Sort.Plain
import Derived.Shelf.Slices.Turned
import Derived.Ground.Names2Prog
import Derived.Shelf.Slices.CompactI
import Derived.Shelf.Slices.Cells
import Derived.Shelf.Slices.In.SortNone
import Derived.Test.YtbndgcddihbhlaaProg
import Derived.Test.YtbndgcddihbhlaaSgC
import Derived.Sort.Grow
import Derived.Lib.SlicesCompact
namespace Go.Proofs
open Go.Shelf
def Try.lays189_ren : Go.Shelf.Ren := ⟨fun | 189 => 81 | 125 => 85 | 257 => 84 | 128 => 97 | 129 => 98 | 294 => 88 | 295 => 89 | 296 => 90 | 297 => 91 | 298 => 92 | 299 => 93 | 216 => 94 | 300 => 95 | 301 => 96 | 328 => 99 | 329 => 100 | 330 => 101 | 331 => 102 | 332 => 103 | 215 => 71 | 343 => 104 | n => n, fun | 28 => 23 | 3 => 3 | 46 => 128 | 0 => 0 | 51 => 140 | 53 => 142 | 4 => 4 | 183 => 132 | 182 => 131 | 131 => 137 | 5 => 5 | 9 => 9 | 218 => 143 | 222 => 147 | 228 => 149 | 229 => 150 | n => n, fun | n => n⟩
theorem Try.lays189 : Go.Proofs.Lays.n189 Try.prog Try.lays189_ren := {
  mixed := by kernel_rfl
  f125 := Try.func85.trans (congrArg some (by kernel_rfl))
  f128 := Try.func97.trans (congrArg some (by kernel_rfl))
  f129 := Try.func98.trans (congrArg some (by kernel_rfl))
  f189 := Try.func81.trans (congrArg some (by kernel_rfl))
  f215 := Try.func71.trans (congrArg some (by kernel_rfl))
  f216 := Try.func94.trans (congrArg some (by kernel_rfl))
  f257 := Try.func84.trans (congrArg some (by kernel_rfl))
  f294 := Try.func88.trans (congrArg some (by kernel_rfl))
  f295 := Try.func89.trans (congrArg some (by kernel_rfl))
  f296 := Try.func90.trans (congrArg some (by kernel_rfl))
  f297 := Try.func91.trans (congrArg some (by kernel_rfl))
  f298 := Try.func92.trans (congrArg some (by kernel_rfl))
  f299 := Try.func93.trans (congrArg some (by kernel_rfl))
  f300 := Try.func95.trans (congrArg some (by kernel_rfl))
  f301 := Try.func96.trans (congrArg some (by kernel_rfl))
  f328 := Try.func99.trans (congrArg some (by kernel_rfl))
  f329 := Try.func100.trans (congrArg some (by kernel_rfl))
  f330 := Try.func101.trans (congrArg some (by kernel_rfl))
  f331 := Try.func102.trans (congrArg some (by kernel_rfl))
  f332 := Try.func103.trans (congrArg some (by kernel_rfl))
  f343 := Try.func104.trans (congrArg some (by kernel_rfl))
  t0 := Try.underlying0
  a0 := Try.isAgg0
  z0 := Try.sizeOf0
  v0 := Try.zeroValue0
  t3 := Try.underlying3
  a3 := Try.isAgg3
  z3 := Try.sizeOf3
  v3 := Try.zeroValue3
  t4 := Try.underlying4
  a4 := Try.isAgg4
  z4 := Try.sizeOf4
  v4 := Try.zeroValue4
  t5 := Try.underlying5
  a5 := Try.isAgg5
  z5 := Try.sizeOf5
  v5 := Try.zeroValue5
  t9 := Try.underlying9
  a9 := Try.isAgg9
  z9 := Try.sizeOf9
  v9 := Try.zeroValue9
  t28 := Try.underlying23
  a28 := Try.isAgg23
  z28 := Try.sizeOf23
  v28 := Try.zeroValue23
  t46 := Try.underlying128
  a46 := Try.isAgg128
  z46 := Try.sizeOf128
  v46 := Try.zeroValue128
  t51 := Try.underlying140
  a51 := Try.isAgg140
  z51 := Try.sizeOf140
  v51 := Try.zeroValue140
  t53 := Try.underlying142
  a53 := Try.isAgg142
  z53 := Try.sizeOf142
  v53 := Try.zeroValue142
  t131 := Try.underlying137
  a131 := Try.isAgg137
  z131 := Try.sizeOf137
  v131 := Try.zeroValue137
  t182 := Try.underlying131
  a182 := Try.isAgg131
  z182 := Try.sizeOf131
  v182 := Try.zeroValue131
  t183 := Try.underlying132
  a183 := Try.isAgg132
  z183 := Try.sizeOf132
  v183 := Try.zeroValue132
  t218 := Try.underlying143
  a218 := Try.isAgg143
  z218 := Try.sizeOf143
  v218 := Try.zeroValue143
  t222 := Try.underlying147
  a222 := Try.isAgg147
  z222 := Try.sizeOf147
  v222 := Try.zeroValue147
  t228 := Try.underlying149
  a228 := Try.isAgg149
  z228 := Try.sizeOf149
  v228 := Try.zeroValue149
  t229 := Try.underlying150
  a229 := Try.isAgg150
  z229 := Try.sizeOf150
  v229 := Try.zeroValue150 }
open Go.Sort Go.RowKit in
theorem Try.slices_Sort_int (blk off cap : Nat) (zs : List Int) (w : World) (hH : Holds (Value.int .i64) w blk off zs.toArray) (hblk : blk < w.heap.size) (hsz : zs.length < 4611686018427387904) :
    Calls Try.prog 81 #[.slice (some ⟨blk, off, none⟩) zs.length cap] w fun e w' =>
      e = .returned (.tuple #[]) ∧ ∃ n os, w' = grow (putRow (Value.int .i64) (Sort.ahead w n) blk off (zs.mergeSort fun x y => decide (x ≤ y)).toArray) os := Any.slices_Sort_int Try.lays189 blk off cap zs w hH hblk hsz
def Try.laysNm220_ren : Go.Shelf.Ren := ⟨fun | 20 => 82 | n => n, fun | 22 => 23 | 3 => 3 | 4 => 4 | 0 => 0 | n => n, fun | n => n⟩
theorem Try.laysNm220 : Go.Proofs.Lays2.n20 Try.prog Try.laysNm220_ren := {
  mixed := by kernel_rfl
  f20 := Try.func82.trans (congrArg some (by kernel_rfl))
  t0 := Try.underlying0
  a0 := Try.isAgg0
  z0 := Try.sizeOf0
  v0 := Try.zeroValue0
  t3 := Try.underlying3
  a3 := Try.isAgg3
  z3 := Try.sizeOf3
  v3 := Try.zeroValue3
  t4 := Try.underlying4
  a4 := Try.isAgg4
  z4 := Try.sizeOf4
  v4 := Try.zeroValue4
  t22 := Try.underlying23
  a22 := Try.isAgg23
  z22 := Try.sizeOf23
  v22 := Try.zeroValue23
  i3 := by kernel_rfl }
open Go.RowKit Go.Lib Go.Sort in
theorem Try.slices_Compact_int (blk off cap : Nat) (zs : List Int) (w : World) (hH : Holds (Value.int .i64) w blk off zs.toArray) (hsz : zs.length ≤ 9223372036854775807) (hcap : zs.length ≤ cap) :
    Calls Try.prog 82 #[.slice (some ⟨blk, off, none⟩) zs.length cap] w fun e w' => e = .returned (.slice (some ⟨blk, off, none⟩) (Lib.compact zs).length cap) ∧ ∃ q, w' = putRow (Value.int .i64) (Sort.ahead w q) blk off (Lib.compact zs ++ List.replicate (zs.length - (Lib.compact zs).length) 0).toArray := Any.slices_Compact_int Try.laysNm220 blk off cap zs w hH hsz hcap
open Go.RowKit Go.Lib Go.Sort in
theorem Try.slices_Compact_int_empty (a : Option Addr) (cap : Nat) (w : World) :
    Calls Try.prog 82 #[.slice a 0 cap] w fun e w' => e = .returned (.slice a 0 cap) ∧ w' = w := Any.slices_Compact_int_empty Try.laysNm220 a cap w
open Go.RowKit Go.Sort in
theorem Try.slices_Sort_int_none (p : Option Addr) (cap : Nat) (w : World) :
    Calls Try.prog 81 #[.slice p 0 cap] w fun e w' => e = .returned (.tuple #[]) ∧ w' = w := Any.slices_Sort_int_none Try.lays189 p cap w
end Go.Proofs
set_option linter.unusedVariables false
set_option linter.unusedSimpArgs false
namespace Go.Sg
open Go.RowKit
structure Turned (w w' : World) (g : Nat) (e : TypeId) (us : Array Value) : Prop where
  os : w'.os = w.os
  tape : w'.tape = w.tape ∧ w.drawn ≤ w'.drawn
  output : w'.output = w.output
  size : w.heap.size ≤ w'.heap.size
  here : w'.heap[g]? = some (.cells us e (0, 0))
  other : ∀ k, k < w.heap.size → k ≠ g → w'.heap[k]? = w.heap[k]?
theorem ecall_ints {P : Program} {f : FuncId} {O : Env} {s : Nat} {e : TypeId} {l l' : List Int} (hs : O s = rowL e 1 eI l) (hlen : l'.length = l.length) (r : DV) (rv : Option Addr → Nat → Value) (hown : isOwn r = false)
    (hr : ∀ w I A B c b, A s = some (B, c) → BaseOk B b → Rel w I A r (rv b c))
    (H0 : l = [] → ∀ b c w, Calls P f #[.slice b 0 c] w fun x w' => x = .returned (rv b c) ∧ w' = w)
    (H : ∀ w g c us, w.heap[g]? = some (.cells us e (0, 0)) → us.size = c → l.length ≤ c → c ≤ maxLen → 0 < l.length → (∀ i, i < l.length → us[i]? = some (.int .i64 (l.getD i 0))) →
      Calls P f #[.slice (some ⟨g, 0, none⟩) l.length c] w fun x w' => x = .returned (rv (some ⟨g, 0, none⟩) c) ∧ ∃ us', Turned w w' g e us' ∧ us'.size = us.size ∧ ∀ i, i < l'.length → us'[i]? = some (.int .i64 (l'.getD i 0))) :
    ECall P O f [.own s l.length] fun O' x => O' = set O s (rowL e 1 eI l') ∧ x = r := by
  intro w I A vals hO hl hv
  obtain ⟨x, rfl⟩ : ∃ x, vals = #[x] := by
    rcases vals with ⟨_ | ⟨x, _ | ⟨y, ys⟩⟩⟩
    · simp at hl
    · exact ⟨x, rfl⟩
    · simp at hl
  have hx := hv 0 _ x rfl rfl
  cases hx with
  | own _ _ _ B c b hA hb =>
    have ho := hO.own s
    rw [hs] at ho
    obtain ⟨B', c', q1, q2⟩ := ho
    rw [hA] at q1
    simp only [Option.some.injEq, Prod.mk.injEq] at q1
    obtain ⟨rfl, rfl⟩ := q1
    have hfr : ∀ t, frOk (O t) (set O s (rowL e 1 eI l') t) := fun t => by
      rw [set_apply]; split
      · rename_i h; subst h; rw [hs]; exact ⟨rfl, rfl, by simp [hlen]⟩
      · exact frOk.refl _
    have hout : ∀ t, isOut (O t) → isOut (set O s (rowL e 1 eI l') t) := fun t ht => by
      rw [set_apply]; split
      · rfl
      · exact ht
    have hres : ∀ w' I', ResRel w w' I' A r (rv b c) := fun w' I' => by
      have := hr w' I' A B c b hA hb
      cases r <;> first | exact this | cases hown
    rcases Nat.eq_zero_or_pos l.length with h0 | h0
    · obtain rfl : l = [] := List.eq_nil_of_length_eq_zero h0
      obtain rfl : l' = [] := List.eq_nil_of_length_eq_zero (by simpa using hlen)
      refine (H0 rfl _ _ w).mono fun _ w' ⟨k1, k2⟩ => ?_
      subst k2
      refine ⟨_, I, set O s (rowL e 1 eI []), r, k1, ⟨fun t => ?_, hO.inj, hO.sep, hO.imm⟩, hfr, hout, Ext.refl _ _ _, hres _ _, rfl, rfl⟩
      rw [set_apply]; split
      · rename_i h; subst h; have := hO.own t; rw [hs] at this; exact this
      · exact hO.own t
    · cases B with
      | none =>
        have := q2.1
        have : (List.map eI l).length = 0 := by rw [this]; rfl
        simp at this; subst this; simp at h0
      | some g =>
        obtain rfl := baseOk_some hb
        obtain ⟨us, p1, p2, p3, p4, p5⟩ := q2
        have hcont : ∀ i, i < l.length → us[i]? = some (.int .i64 (l.getD i 0)) := fun i hi => by
          have h1 : (l.map eI)[i]? = some (eI (l.getD i 0)) := by simp [List.getElem?_eq_getElem hi]
          have hb : i * 1 + 0 < us.size := by simp at p4; omega
          have := ((p5 i _ h1).2 0 _ _ rfl (Array.getElem?_eq_getElem hb)).2
          rw [show us[i]? = some (us[i * 1 + 0]'hb) by rw [← Array.getElem?_eq_getElem hb]; simp]
          generalize us[i * 1 + 0]'hb = u at this
          cases this; rfl
        refine (H w g c us p1 (by omega) (by simpa using p4) p3 h0 hcont).mono fun _ w' ⟨k1, us', k2, k3, k4⟩ => ?_
        obtain ⟨hgs, hgI⟩ := hO.sep s g c hA
        have hrel : ∀ B d x, Rel w I B d x → Rel w' I B d x := fun B d x h => h.mono fun k hk => ⟨hk, fun o => cell_of_heap (k2.other k (hO.imm k hk) fun e => hgI (e ▸ hk)) o⟩
        refine ⟨_, I, set O s (rowL e 1 eI l'), r, k1, ⟨fun t => ?_, hO.inj, fun t k c' h => ⟨Nat.lt_of_lt_of_le (hO.sep t k c' h).1 k2.size, (hO.sep t k c' h).2⟩, hO.imm.step (fun k hk => Nat.lt_of_lt_of_le (hO.imm k hk) k2.size) fun k hk => ⟨hk, k2.other k (hO.imm k hk) fun e => hgI (e ▸ hk)⟩⟩, hfr, hout,
          ⟨k2.os, k2.tape, k2.output, k2.size, fun _ h => h, fun k hk h => ⟨k2.other k hk fun e => h s c (e ▸ hA), fun h => h, h⟩, fun t k c' h _ ht => ⟨t, c', ht, h⟩, fun _ _ => rfl⟩, hres _ _, rfl, rfl⟩
        rw [set_apply]; split
        · rename_i h; subst h
          refine ⟨some g, c, hA, us', k2.here, by omega, p3, by simp at p4 ⊢; omega, fun i y hy => ?_⟩
          rw [List.getElem?_map] at hy
          cases hi : l'[i]? with
          | none => rw [hi] at hy; cases hy
          | some a =>
            rw [hi] at hy
            cases hy
            have hlt : i < l'.length := (List.getElem?_eq_some_iff.1 hi).1
            refine ⟨rfl, fun j d u hd hu => ?_⟩
            cases j with
            | zero =>
              cases hd
              have := k4 i hlt
              rw [show i * 1 + 0 = i by omega, this] at hu
              cases hu
              rw [List.getD_eq_getElem?_getD, hi]
              exact ⟨rfl, .v _ _⟩
            | succ j => simp [eI] at hd
        · rename_i hne
          refine (hO.own t).keep (fun k c' h => k2.other k (hO.sep t k c' h).1 fun e => hne (hO.inj t s g c' c (e ▸ h) hA)) hrel
theorem putCells_get {off : Nat} (l : List Int) (c : Array Value) {i : Nat} (hi : i < l.length) (hc : i < c.size) : (Sort.putCells (Value.int .i64) 0 l.toArray c)[i]? = some (.int .i64 (l.getD i 0)) := by
  unfold Sort.putCells
  rw [Array.getElem?_mapIdx, Array.getElem?_eq_getElem hc, Option.map_some, if_pos ⟨Nat.zero_le _, by simpa using hi⟩]
  simp [List.getD_eq_getElem?_getD, List.getElem?_eq_getElem hi, getElem!_pos, hi]
theorem turned_put {w : World} {g : Nat} {us : Array Value} {e : TypeId} (h : w.heap[g]? = some (.cells us e (0, 0))) (n : Nat) (l : List Int) (os : Array Obj) :
    Turned w (Sort.grow (Sort.putRow (Value.int .i64) (Sort.ahead w n) g 0 l.toArray) os) g e (Sort.putCells (Value.int .i64) 0 l.toArray us) := by
  have hg : g < w.heap.size := (Array.getElem?_eq_some_iff.1 h).1
  have hsz : (w.heap.modify g (Sort.onCells (Sort.putCells (Value.int .i64) 0 l.toArray))).size = w.heap.size := by simp
  have hh : ∀ k, k < w.heap.size → (Sort.grow (Sort.putRow (Value.int .i64) (Sort.ahead w n) g 0 l.toArray) os).heap[k]? = (w.heap.modify g (Sort.onCells (Sort.putCells (Value.int .i64) 0 l.toArray)))[k]? := fun k hk => by
    show (w.heap.modify g (Sort.onCells (Sort.putCells (Value.int .i64) 0 l.toArray)) ++ os)[k]? = _
    rw [Array.getElem?_append_left (by rw [hsz]; exact hk)]
  refine ⟨rfl, ⟨rfl, Nat.le_add_right _ _⟩, rfl, by simp [Sort.ahead], ?_, fun k hk hne => ?_⟩
  · rw [hh g hg, Array.getElem?_modify, if_pos rfl, h]; rfl
  · rw [hh k hk, Array.getElem?_modify, if_neg (Ne.symm hne)]
theorem cell_heap {w : World} {g : Nat} {us : Array Value} {e : TypeId} (h : w.heap[g]? = some (.cells us e (0, 0))) (o : Nat) : w.cell? ⟨g, o, none⟩ = us[o]? ∧ w.frozen? ⟨g, o, none⟩ = false := by
  constructor
  · unfold World.cell?; rw [h]; rfl
  · unfold World.frozen?; rw [h]; simp
theorem holds_of {w : World} {g c : Nat} {us : Array Value} {e : TypeId} {l : List Int} (h : w.heap[g]? = some (.cells us e (0, 0))) (hc : ∀ i, i < l.length → us[i]? = some (.int .i64 (l.getD i 0))) : Sort.Holds (Value.int .i64) w g 0 l.toArray := fun j hj => by
  have hj' : j < l.length := by simpa using hj
  obtain ⟨k1, k2⟩ := cell_heap h (0 + j)
  refine ⟨?_, k2⟩
  rw [k1, Nat.zero_add, hc j hj']
  simp [List.getD_eq_getElem?_getD, List.getElem?_eq_getElem hj', getElem!_pos, hj']
abbrev srt (l : List Int) : List Int := l.mergeSort fun x y => decide (x ≤ y)
theorem ecall_sort {P : Program} {f : FuncId} {O : Env} {s : Nat} {e : TypeId} {l : List Int} (hs : O s = rowL e 1 eI l)
    (H0 : ∀ b c w, Calls P f #[.slice b 0 c] w fun x w' => x = .returned (.tuple #[]) ∧ w' = w)
    (H : ∀ (blk off cap : Nat) (zs : List Int) (w : World), Sort.Holds (Value.int .i64) w blk off zs.toArray → blk < w.heap.size → zs.length < 4611686018427387904 →
      Calls P f #[.slice (some ⟨blk, off, none⟩) zs.length cap] w fun e w' => e = .returned (.tuple #[]) ∧ ∃ n os, w' = Sort.grow (Sort.putRow (Value.int .i64) (Sort.ahead w n) blk off (zs.mergeSort fun x y => decide (x ≤ y)).toArray) os)
    (hb : l.length < 4611686018427387904) :
    ECall P O f [.own s l.length] fun O' x => O' = set O s (rowL e 1 eI (srt l)) ∧ x = .tup [] :=
  ecall_ints hs (by simp) _ (fun _ _ => .tuple #[]) rfl (fun w I A B c _ _ _ => Rel.tup A [] #[] rfl (by simp)) (fun _ => H0) fun w g c us h1 h2 h3 h4 h5 h6 =>
    (H g 0 c l w (holds_of (c := c) h1 h6) (Array.getElem?_eq_some_iff.1 h1).1 hb).mono fun _ w' ⟨k1, n, os, k2⟩ => ⟨k1, _, k2 ▸ turned_put h1 n _ os, by simp [Sort.putCells], fun i hi => putCells_get (off := 0) _ _ hi (by simp at hi; omega)⟩
theorem ecall_compact {P : Program} {f : FuncId} {O : Env} {s : Nat} {e : TypeId} {l : List Int} (hs : O s = rowL e 1 eI l)
    (H0 : ∀ b c w, Calls P f #[.slice b 0 c] w fun x w' => x = .returned (.slice b 0 c) ∧ w' = w)
    (H : ∀ (blk off cap : Nat) (zs : List Int) (w : World), Sort.Holds (Value.int .i64) w blk off zs.toArray → zs.length ≤ 9223372036854775807 → zs.length ≤ cap →
      Calls P f #[.slice (some ⟨blk, off, none⟩) zs.length cap] w fun e w' => e = .returned (.slice (some ⟨blk, off, none⟩) (Lib.compact zs).length cap) ∧ ∃ q, w' = Sort.putRow (Value.int .i64) (Sort.ahead w q) blk off (Lib.compact zs ++ List.replicate (zs.length - (Lib.compact zs).length) 0).toArray)
    (hle : (Lib.compact l).length ≤ l.length) :
    ECall P O f [.own s l.length] fun O' x => O' = set O s (rowL e 1 eI (Lib.compact l ++ List.replicate (l.length - (Lib.compact l).length) 0)) ∧ x = .own s (Lib.compact l).length :=
  ecall_ints hs (by simp; omega) _ (fun b c => .slice b (Lib.compact l).length c) rfl (fun w I A B c b h hb => .own A s _ B c b h hb)
    (fun h b c w => by
      have : (Lib.compact l).length = 0 := by subst h; simpa using hle
      rw [this]; exact H0 b c w) fun w g c us h1 h2 h3 h4 h5 h6 =>
    (H g 0 c l w (holds_of (c := c) h1 h6) (Nat.le_trans h3 h4) h3).mono fun _ w' ⟨k1, n, k2⟩ => ⟨k1, _, by
      have := turned_put h1 n (Lib.compact l ++ List.replicate (l.length - (Lib.compact l).length) 0) #[]
      rw [Sort.grow_empty, ← k2] at this
      exact this, by simp [Sort.putCells], fun i hi => putCells_get (off := 0) _ _ hi (by simp at hi; omega)⟩
end Go.Sg
