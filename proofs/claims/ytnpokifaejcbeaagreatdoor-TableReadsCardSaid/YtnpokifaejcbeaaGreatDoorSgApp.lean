/- append onto a slice of the call's own; a store into one. -/
import Derived.Test.YtnpokifaejcbeaaGreatDoorSgBuild
set_option linter.unusedVariables false
set_option linter.unusedSimpArgs false

namespace Go.Sg
open Go.RowKit

section
variable {P : Program} {nt : Nat} {ρ : Env} {ops : Array Oper}

/-- The elements that are appended. -/
def srcL (ρ : Env) : DV → List (List DV)
  | .sl _ m f => (List.range m).map f
  | .own s m => match ρ s with
    | .row _ _ xs => xs.take m
    | _ => []
  | _ => []

def srcOk (ρ : Env) (z : Nat) : DV → Prop
  | .sl z' _ _ => z' = z
  | .own s m => ∃ e xs, ρ s = .row e z xs ∧ m ≤ xs.length
  | .v (.slice none 0 _) => True
  | .ez => True
  | _ => False

theorem src_ok {w : World} {I : Nat → Prop} {A : Own} {a : Act} (hs : Sim nt w I A ρ a) {z : Nat} {d : DV} {u : Value} (h : Rel w I A d u) (ho : srcOk ρ z d) :
    ∃ b m c, u = .slice b m c ∧ (srcL ρ d).length = m ∧ ((b = none ∧ m = 0) ∨ ∃ (ad : Addr) (news : List Value), b = some ad ∧ news.length = m * z ∧ (∀ j v, news[j]? = some v → w.cell? (ad.add j) = some v) ∧ (∀ v ∈ news, v.oneCell' = true) ∧
      ∀ (i : Nat) (x : List DV), (srcL ρ d)[i]? = some x → x.length = z ∧ ∀ (j : Nat) (e : DV) (v : Value), x[j]? = some e → news[i * z + j]? = some v → Rel w I noOwn e v) := by
  have mk : ∀ (bk o m : Nat) (us : Nat → Nat → Value) (src : List (List DV)), src.length = m →
      (∀ i j, i < m → j < z → w.cell? ⟨bk, o + (i * z + j), none⟩ = some (us i j)) → (∀ i j, i < m → j < z → (us i j).oneCell' = true) →
      (∀ (i : Nat) (x : List DV), src[i]? = some x → x.length = z ∧ ∀ (j : Nat) (e : DV), x[j]? = some e → Rel w I noOwn e (us i j)) →
      ∃ (news : List Value), news.length = m * z ∧ (∀ j v, news[j]? = some v → w.cell? ((⟨bk, o, none⟩ : Addr).add j) = some v) ∧ (∀ v ∈ news, v.oneCell' = true) ∧
        ∀ (i : Nat) (x : List DV), src[i]? = some x → x.length = z ∧ ∀ (j : Nat) (e : DV) (v : Value), x[j]? = some e → news[i * z + j]? = some v → Rel w I noOwn e v := by
    intro bk o m us src hl hcell hone hrel
    have hdm : ∀ j, j < m * z → j / z < m ∧ j % z < z := fun j hj => by
      have hz : 0 < z := by
        rcases Nat.eq_zero_or_pos z with h | h
        · subst h; simp at hj
        · exact h
      exact ⟨Nat.div_lt_of_lt_mul (by rwa [Nat.mul_comm] at hj), Nat.mod_lt _ hz⟩
    refine ⟨(List.range (m * z)).map fun j => us (j / z) (j % z), by simp, fun j v hj => ?_, fun v hv => ?_, fun i x hx => ⟨(hrel i x hx).1, fun j e v he hv => ?_⟩⟩
    · simp only [List.getElem?_map, Option.map_eq_some_iff] at hj
      obtain ⟨q, hq, rfl⟩ := hj
      have hlt : j < m * z := by
        rcases Nat.lt_or_ge j (m * z) with h | h
        · exact h
        · rw [List.getElem?_eq_none (by simpa using h)] at hq; cases hq
      rw [List.getElem?_range hlt] at hq
      cases hq
      obtain ⟨h1, h2⟩ := hdm j hlt
      rw [Addr.add_lit, ← hcell _ _ h1 h2]
      congr 3
      rw [Nat.mul_comm]
      exact (Nat.div_add_mod j z).symm
    · simp only [List.mem_map, List.mem_range] at hv
      obtain ⟨j, hj, rfl⟩ := hv
      exact hone _ _ (hdm j hj).1 (hdm j hj).2
    · simp only [List.getElem?_map, Option.map_eq_some_iff] at hv
      obtain ⟨q, hq, rfl⟩ := hv
      have hi : i < m := by
        rw [← hl]
        rcases Nat.lt_or_ge i src.length with h | h
        · exact h
        · rw [List.getElem?_eq_none h] at hx; cases hx
      have hj : j < z := by
        rw [← (hrel i x hx).1]
        rcases Nat.lt_or_ge j x.length with h | h
        · exact h
        · rw [List.getElem?_eq_none h] at he; cases he
      have hlt : i * z + j < m * z := by
        have : (i + 1) * z ≤ m * z := Nat.mul_le_mul_right _ hi
        rw [Nat.succ_mul] at this
        omega
      rw [List.getElem?_range hlt] at hq
      cases hq
      have e1 := mul_range (z := z) (i := i) (q := i * z + j) (by omega) (by omega) (by omega)
      have e2 : (i * z + j) % z = j := by rw [Nat.mul_comm, Nat.mul_add_mod, Nat.mod_eq_of_lt hj]
      rw [e1, e2]
      exact (hrel i x hx).2 j e he
  cases h with
  | sl0 _ z' f b c =>
    refine ⟨b, 0, c, rfl, rfl, ?_⟩
    cases b with
    | none => exact .inl ⟨rfl, rfl⟩
    | some ad => exact .inr ⟨ad, [], rfl, by simp, by simp, by simp, fun i x hx => by simp [srcL] at hx⟩
  | sl _ z' n f b o c us hn hc hm hI hzz hcell hone hrel =>
    obtain rfl : z' = z := ho
    refine ⟨_, n, c, rfl, by simp [srcL], .inr ?_⟩
    have hget : ∀ (i : Nat) (x : List DV), ((List.range n).map f)[i]? = some x → i < n ∧ x = f i := fun i x hx => by
      simp only [List.getElem?_map, Option.map_eq_some_iff] at hx
      obtain ⟨q, hq, rfl⟩ := hx
      have hlt : i < n := by
        rcases Nat.lt_or_ge i n with h | h
        · exact h
        · rw [List.getElem?_eq_none (by simpa using h)] at hq; cases hq
      rw [List.getElem?_range hlt] at hq
      cases hq
      exact ⟨hlt, rfl⟩
    obtain ⟨news, h1, h2, h3, h4⟩ := mk b o n us ((List.range n).map f) (by simp) hcell hone fun i x hx => by
      obtain ⟨hi, rfl⟩ := hget i x hx
      exact ⟨hzz i hi, fun j e he => hrel i j e hi he⟩
    exact ⟨_, news, rfl, h1, h2, h3, h4⟩
  | ez _ b =>
    refine ⟨b, 0, 0, rfl, rfl, ?_⟩
    cases b with
    | none => exact .inl ⟨rfl, rfl⟩
    | some ad => exact .inr ⟨ad, [], rfl, by simp, by simp, by simp, by simp [srcL]⟩
  | own _ s n B c b hA hb =>
    obtain ⟨e', xs, hρ, hle⟩ := ho
    have hown := hs.osim.own s
    rw [hρ] at hown
    obtain ⟨B', c', hA', hrow⟩ := hown
    rw [hA] at hA'
    simp only [Option.some.injEq, Prod.mk.injEq] at hA'
    obtain ⟨rfl, rfl⟩ := hA'
    simp only [srcL, hρ]
    cases B with
    | none =>
      obtain ⟨rfl, _⟩ := hrow
      simp at hle
      subst hle
      refine ⟨b, 0, c, rfl, by simp, ?_⟩
      cases b with
      | none => exact .inl ⟨rfl, rfl⟩
      | some ad => exact .inr ⟨ad, [], rfl, by simp, by simp, by simp, by simp⟩
    | some g =>
      obtain ⟨us, q1, q2, q3, q4, q5⟩ := hrow
      have hx : ∀ i, i < n → xs[i]? = some (xs.getD i []) := fun i hi => by rw [List.getD_eq_getElem?_getD, List.getElem?_eq_getElem (by omega)]; rfl
      have hin : ∀ i j, i < n → j < z → i * z + j < us.size := fun i j hi hj => by
        rw [q2]
        have : (i + 1) * z ≤ c * z := Nat.mul_le_mul_right _ (by omega)
        rw [Nat.succ_mul] at this
        omega
      have hus : ∀ i j, i < n → j < z → us[i * z + j]? = some (us.getD (i * z + j) undef) := fun i j hi hj => by simp [Array.getElem?_eq_getElem (hin i j hi hj)]
      obtain ⟨news, h1, h2, h3, h4⟩ := mk g 0 n (fun i j => us.getD (i * z + j) undef) (xs.take n) (by simp; omega)
        (fun i j hi hj => by unfold World.cell?; simp only [q1, Nat.zero_add]; simpa using hus i j hi hj)
        (fun i j hi hj => by
          obtain ⟨k1, k2⟩ := q5 i _ (hx i hi)
          exact (k2 j _ _ (List.getElem?_eq_getElem (by omega)) (hus i j hi hj)).1)
        (fun i x hx' => by
          rw [List.getElem?_take] at hx'
          split at hx' <;> try cases hx'
          rename_i hi
          obtain ⟨k1, k2⟩ := q5 i x hx'
          refine ⟨k1, fun j e he => ?_⟩
          have hj : j < z := by
            rw [← k1]
            rcases Nat.lt_or_ge j x.length with h | h
            · exact h
            · rw [List.getElem?_eq_none h] at he; cases he
          exact (k2 j e _ he (hus i j hi hj)).2)
      exact ⟨_, n, c, rfl, by simp; omega, .inr ⟨_, news, baseOk_some hb, h1, h2, h3, h4⟩⟩
  | v _ x =>
    cases u <;> try exact ho.elim
    rename_i b n c
    cases b <;> cases n <;> try exact ho.elim
    exact ⟨none, 0, c, rfl, rfl, .inl ⟨rfl, rfl⟩⟩
  | _ => exact ho.elim

/-- The walk's state when blocks that nobody holds have turned. -/
theorem Sim.steady {w w' : World} {I : Nat → Prop} {A : Own} {a : Act} (hs : Sim nt w I A ρ a) (h1 : ∀ g, I g → w'.heap[g]? = w.heap[g]?) (h2 : ∀ s g c, A s = some (some g, c) → w'.heap[g]? = w.heap[g]?)
    (h3 : w.heap.size ≤ w'.heap.size) : Sim nt w' I A ρ a := by
  have hrel : ∀ B d x, Rel w I B d x → Rel w' I B d x := fun B d x hr => hr.mono fun g hg => ⟨hg, fun o => cell_of_heap (h1 g hg) o⟩
  refine ⟨⟨fun s => (hs.osim.own s).keep (fun g c hg => h2 s g c hg) hrel, hs.osim.inj, fun s g c hA => ⟨Nat.lt_of_lt_of_le (hs.osim.sep s g c hA).1 h3, (hs.osim.sep s g c hA).2⟩, hs.osim.imm.step (fun g hg => Nat.lt_of_lt_of_le (hs.osim.imm g hg) h3) fun g hg => ⟨hg, h1 g hg⟩⟩, hs.size, hs.bound, fun i hi => ?_, hs.out⟩
  have hsl := hs.slot i hi
  generalize a.tmps.getD i undef = x at *
  cases hd : ρ i with
  | bx cs => rw [hd] at hsl; exact hsl
  | row e z xs => rw [hd] at hsl; exact hsl
  | cond g y => rw [hd] at hsl; exact ⟨fun hg => hrel _ _ _ (hsl.1 hg), hsl.2⟩
  | any => exact .any A x
  | v y => rw [hd] at hsl; exact hrel _ _ _ hsl
  | sl z n f => rw [hd] at hsl; exact hrel _ _ _ hsl
  | agg cs => rw [hd] at hsl; exact hrel _ _ _ hsl
  | tup cs => rw [hd] at hsl; exact hrel _ _ _ hsl
  | dp cs => rw [hd] at hsl; exact hrel _ _ _ hsl
  | bp t o => rw [hd] at hsl; exact hrel _ _ _ hsl
  | own t n => rw [hd] at hsl; exact hrel _ _ _ hsl
  | rp t z i o => rw [hd] at hsl; exact hrel _ _ _ hsl
  | fn f b c => rw [hd] at hsl; exact hrel _ _ _ hsl
  | iface t y => rw [hd] at hsl; exact hrel _ _ _ hsl
  | mr t => rw [hd] at hsl; exact hrel _ _ _ hsl
  | ez => rw [hd] at hsl; exact hrel _ _ _ hsl
  | mo es => rw [hd] at hsl; exact hsl

theorem run_append_of_nil' {w : World} (base : Nat) (t ty e : TypeId) (i : TypeInfo) (size : Nat) (ht : P.underlying t = some (.slice e)) (hi : P.info? e = some i)
    (v : Value) (n : Nat) (xs : List Value) (hown : w.ownsRow base e size v n xs) (c : Nat) : (Builtin.append_ #[t, t] ty #[v, .slice none 0 c]).run P w = .ok v w := by
  rcases hown.2 with ⟨rfl, rfl⟩ | ⟨g, cap, cur, rfl, _, _, hnc, _⟩
  · simp [Builtin.append_, run_underlying ht, sizeOf, typeInfo, hi, Builtin.lenOf, Builtin.firstCells]
  · simp [Builtin.append_, run_underlying ht, sizeOf, typeInfo, hi, Builtin.lenOf, Builtin.firstCells, hnc, storeCells]

/-- The heart of append: an owned row (the owner given up), the elements that come. -/
theorem append_core {w : World} {I : Nat → Prop} {A A1 : Own} {a : Act} {ρ1 : Env} (hs1 : Sim nt w I A1 ρ1 a) {d : Nat} (hd : d < nt) {t ty e : TypeId} {z by_ : Nat} {zs : List Value} (hsl : slE P t = some (e, z, by_)) (hz : zcOf P e = some zs) (hz0 : 0 < z) (hzl : zs.length = z)
    {v : Value} {n : Nat} {xs : List (List DV)} {xsV : List Value} (hown : w.ownsRow 0 e z v n xsV) (hxl : xs.length = n)
    (hxr : ∀ (i : Nat) (x : List DV), xs[i]? = some x → x.length = z ∧ ∀ (j : Nat) (d : DV) (u : Value), x[j]? = some d → xsV[i * z + j]? = some u → u.oneCell' = true ∧ Rel w I noOwn d u)
    {src : List (List DV)} {b : Option Addr} {m c : Nat} (hsrcl : src.length = m)
    (hsrc : (b = none ∧ m = 0) ∨ ∃ (ad : Addr) (news : List Value), b = some ad ∧ news.length = m * z ∧ (∀ j v, news[j]? = some v → w.cell? (ad.add j) = some v) ∧ (∀ v ∈ news, v.oneCell' = true) ∧
      ∀ (i : Nat) (x : List DV), src[i]? = some x → x.length = z ∧ ∀ (j : Nat) (e : DV) (v : Value), x[j]? = some e → news[i * z + j]? = some v → Rel w I noOwn e v)
    (hb1 : n + m ≤ 9223372036854775807) (hb2 : (n + m) * by_ ≤ 140737488355328)
    (hfree : ∀ g, v.ownBlock = some g → g < w.heap.size ∧ ¬ I g ∧ ∀ s c, A1 s ≠ some (some g, c)) (hA1 : ∀ s y, A1 s = some y → A s = some y)
    (hAv : ∀ g, v.ownBlock = some g → ∃ s c, s < 100000 ∧ A s = some (some g, c)) (hout : ∀ s, 100000 ≤ s → A1 s = A s) :
    ∃ x w' A', (Builtin.append_ #[t, t] ty #[v, .slice b m c]).run P w = .ok x w' ∧ Sim nt w' I A' (set (kill d ρ1) d (.row e z (xs ++ src))) (a.put (some d) x) ∧ Ext w I A w' I A' := by
  obtain ⟨hu, i, hi, rfl, rfl⟩ := slE_spec hsl
  obtain ⟨i', zv, hi', hzv, rfl, _⟩ := zcOf_spec hz
  rw [hi] at hi'
  cases hi'
  have hbnd := hs1.bound
  obtain ⟨x, w', news, hrun, hown', hgr, hat, hnr⟩ : ∃ x w' news, (Builtin.append_ #[t, t] ty #[v, .slice b m c]).run P w = .ok x w' ∧ w'.ownsRow 0 e i.size x (n + m) (xsV ++ news) ∧ w.grownBy w' v.ownBlock ∧
      (x.ownBlock = v.ownBlock ∨ x.ownBlock = some w.heap.size) ∧ (∀ (k : Nat) (y : List DV), src[k]? = some y → y.length = i.size ∧ ∀ (j : Nat) (e : DV) (u : Value), y[j]? = some e → news[k * i.size + j]? = some u → u.oneCell' = true ∧ Rel w I noOwn e u) := by
    rcases hsrc with ⟨rfl, rfl⟩ | ⟨ad, news, rfl, h1, h2, h3, h4⟩
    · obtain rfl : src = [] := List.eq_nil_of_length_eq_zero hsrcl
      exact ⟨v, w, [], run_append_of_nil' 0 t ty e i i.size hu hi v n xsV hown c, by simpa using hown, ⟨rfl, rfl, rfl, Nat.le_refl _, fun _ _ _ => rfl⟩, .inl rfl, by simp⟩
    · obtain ⟨x, w', k1, k2, k3, _, k5⟩ := run_append_own_at (P := P) w 0 t ty e i zv i.size i.bytes hu hi hzv rfl rfl (by simpa using hzl) hz0 v n xsV hown ad m c news h1 h2 h3 (by unfold maxLen; omega) hb2 (Nat.zero_le _)
      exact ⟨x, w', news, k1, k2, k3, k5, fun k y hy => ⟨(h4 k y hy).1, fun j e u he hu => ⟨h3 u (List.mem_of_getElem? hu), (h4 k y hy).2 j e u he hu⟩⟩⟩
  have hblk : ∀ g, g < w.heap.size → some g ≠ v.ownBlock → w'.heap[g]? = w.heap[g]? := hgr.block
  have hs2 : Sim nt w' I A1 ρ1 a := hs1.steady (fun g hg => hblk g (hs1.osim.imm g hg) fun e => (hfree g e.symm).2.1 hg)
    (fun s g c hA => hblk g (hs1.osim.sep s g c hA).1 fun e => (hfree g e.symm).2.2 s c hA) hgr.size
  have hrel : ∀ d y, Rel w I noOwn d y → Rel w' I noOwn d y := fun d y hr => hr.mono fun g hg => ⟨hg, fun o => cell_of_heap (hblk g (hs1.osim.imm g hg) fun e => (hfree g e.symm).2.1 hg) o⟩
  have hlen : xsV.length = n * i.size := hown.1
  -- the elements of the new row
  have helem : ∀ (cur : List Value), cur.take ((n + m) * i.size) = xsV ++ news → ∀ (k : Nat) (y : List DV), (xs ++ src)[k]? = some y → y.length = i.size ∧ ∀ (j : Nat) (e : DV) (u : Value), y[j]? = some e → cur[k * i.size + j]? = some u →
      u.oneCell' = true ∧ Rel w' I noOwn e u := fun cur hcur k y hy => by
    have hk : k < n + m := by
      rw [← hxl, ← hsrcl, ← List.length_append]
      rcases Nat.lt_or_ge k (xs ++ src).length with h | h
      · exact h
      · rw [List.getElem?_eq_none h] at hy; cases hy
    have hcg : ∀ j, j < i.size → cur[k * i.size + j]? = (xsV ++ news)[k * i.size + j]? := fun j hj => by
      rw [← hcur, List.getElem?_take, if_pos]
      have : (k + 1) * i.size ≤ (n + m) * i.size := Nat.mul_le_mul_right _ hk
      rw [Nat.succ_mul] at this
      omega
    rw [List.getElem?_append, hxl] at hy
    split at hy
    · rename_i hkn
      obtain ⟨k1, k2⟩ := hxr k y hy
      refine ⟨k1, fun j e u he hu => ?_⟩
      have hj : j < i.size := by
        rw [← k1]
        rcases Nat.lt_or_ge j y.length with h | h
        · exact h
        · rw [List.getElem?_eq_none h] at he; cases he
      rw [hcg j hj, List.getElem?_append, if_pos (by
        rw [hlen]
        have : (k + 1) * i.size ≤ n * i.size := Nat.mul_le_mul_right _ hkn
        rw [Nat.succ_mul] at this
        omega)] at hu
      exact ⟨(k2 j e u he hu).1, hrel _ _ (k2 j e u he hu).2⟩
    · rename_i hkn
      obtain ⟨k1, k2⟩ := hnr (k - n) y hy
      refine ⟨k1, fun j e u he hu => ?_⟩
      have hj : j < i.size := by
        rw [← k1]
        rcases Nat.lt_or_ge j y.length with h | h
        · exact h
        · rw [List.getElem?_eq_none h] at he; cases he
      have hge : n * i.size ≤ k * i.size := Nat.mul_le_mul_right _ (by omega)
      rw [hcg j hj, List.getElem?_append, if_neg (by rw [hlen]; omega), hlen] at hu
      have e1 : k * i.size + j - n * i.size = (k - n) * i.size + j := by rw [Nat.sub_mul]; omega
      rw [e1] at hu
      exact ⟨(k2 j e u he hu).1, hrel _ _ (k2 j e u he hu).2⟩
  have hext : ∀ (B : Option Nat) (cap : Nat), B = x.ownBlock → Ext w I A w' I (upd A1 d (some (B, cap))) := fun B cap hB => by
    have hin : ∀ g, B = some g → g < w.heap.size → v.ownBlock = some g := fun g hg hlt => by
      subst hg
      rcases hat with h | h
      · rw [← h, ← hB]
      · rw [← hB] at h; cases h; omega
    refine ⟨hgr.os, ⟨hgr.tape, run_drawn _ hrun⟩, hgr.output, hgr.size, fun _ h => h, fun g hg hA => ⟨hblk g hg fun e => ?_, fun h => h, fun s c' hc => ?_⟩, fun s g c' hc hg hl => ?_, fun s hs' => ?_⟩
    · obtain ⟨s, c', _, hAs⟩ := hAv g e.symm
      exact hA s c' hAs
    · rcases upd_eq_some hc with ⟨_, h⟩ | ⟨_, h⟩
      · simp only [Option.some.injEq, Prod.mk.injEq] at h
        obtain ⟨s', c2, _, hAs⟩ := hAv g (hin g h.1 hg)
        exact hA s' c2 hAs
      · exact hA s c' (hA1 s _ h)
    · rcases upd_eq_some hc with ⟨_, h⟩ | ⟨_, h⟩
      · simp only [Option.some.injEq, Prod.mk.injEq] at h
        obtain ⟨s', c2, hs', hAs⟩ := hAv g (hin g h.1 hg)
        exact ⟨s', c2, hs', hAs⟩
      · exact ⟨s, c', hl, hA1 s _ h⟩
    · rw [upd_ne _ _ (by omega), hout s hs']
  have hxlen : (xs ++ src).length = n + m := by rw [List.length_append, hxl, hsrcl]
  rcases hown'.2 with ⟨rfl, h0⟩ | ⟨g, cap, cur, rfl, _, hg, hnc, hcm, hcs, htake⟩
  · have hx0 : xs = [] := List.eq_nil_of_length_eq_zero (by omega)
    have hs0 : src = [] := List.eq_nil_of_length_eq_zero (by omega)
    refine ⟨.slice none 0 0, w', upd A1 d (some (none, 0)), hrun, ?_, hext none 0 rfl⟩
    refine hs2.own hd (fun g hg => by cases hg) ⟨none, 0, upd_same _ _ _, none, baseOk_none _, by simp [hx0, hs0]⟩ ⟨none, 0, upd_same _ _ _, ?_⟩
    exact ⟨by simp [hx0, hs0], rfl⟩
  · refine ⟨.slice (some ⟨g, 0, none⟩) (n + m) cap, w', upd A1 d (some (some g, cap)), hrun, ?_, hext (some g) cap rfl⟩
    refine hs2.own hd (fun g' hg' => ?_) ⟨some g, cap, upd_same _ _ _, _, baseOk_mk _, by rw [hxlen]⟩ ⟨some g, cap, upd_same _ _ _, cur, hg, hcs, hcm, by rw [hxlen]; exact hnc, fun k y hy => ?_⟩
    · cases hg'
      have hlt : g < w'.heap.size := by
        rcases Nat.lt_or_ge g w'.heap.size with h | h
        · exact h
        · rw [Array.getElem?_eq_none h] at hg; cases hg
      rcases hat with h | h
      · have h : some g = v.ownBlock := h
        obtain ⟨q1, q2, q3⟩ := hfree g h.symm
        exact ⟨hlt, q2, fun s c' _ => q3 s c'⟩
      · have h : some g = some w.heap.size := h
        cases h
        exact ⟨hlt, fun hI => by have := hs1.osim.imm _ hI; omega, fun s c' _ hc => by have := (hs1.osim.sep s _ c' hc).1; omega⟩
    · obtain ⟨k1, k2⟩ := helem cur.toList htake k y hy
      exact ⟨k1, fun j e u he hu => k2 j e u he (by rw [Array.getElem?_toList]; exact hu)⟩

theorem run_append_base {w : World} {t ty e : TypeId} {i : TypeInfo} (ht : P.underlying t = some (.slice e)) (hi : P.info? e = some i) (b0 b : Option Addr) (m c : Nat) (hm : 0 < m) (hb : m * i.bytes ≤ 140737488355328) (hb1 : m ≤ 9223372036854775807) :
    (Builtin.append_ #[t, t] ty #[.slice b0 0 0, .slice b m c]).run P w = (Builtin.append_ #[t, t] ty #[.slice none 0 0, .slice b m c]).run P w := by
  have h1 : ¬ m = 0 := by omega
  have h4 : ¬ (9223372036854775807 : Int) < (m : Int) := by omega
  have h2 : Builtin.nextslicecap m 0 = m := by unfold Builtin.nextslicecap; rw [if_pos (by omega)]
  have h3 : ¬ 281474976710656 < m * i.bytes := by omega
  cases b0 with
  | none => rfl
  | some a => simp [Builtin.append_, run_underlying ht, sizeOf, run_typeInfo w hi, hi, Builtin.lenOf, Builtin.firstCells, h1, h2, h3, h4, loadCells, loadCellsFrom]

/-- append onto a slice without room, whatever its base. -/
theorem append_core0 {w : World} {I : Nat → Prop} {A A1 : Own} {a : Act} {ρ1 : Env} (hs1 : Sim nt w I A1 ρ1 a) {d : Nat} (hd : d < nt) {t ty e : TypeId} {z by_ : Nat} {zs : List Value} (hsl : slE P t = some (e, z, by_)) (hz : zcOf P e = some zs) (hz0 : 0 < z) (hzl : zs.length = z)
    (b0 : Option Addr) {src : List (List DV)} {b : Option Addr} {m c : Nat} (hsrcl : src.length = m)
    (hsrc : (b = none ∧ m = 0) ∨ ∃ (ad : Addr) (news : List Value), b = some ad ∧ news.length = m * z ∧ (∀ j v, news[j]? = some v → w.cell? (ad.add j) = some v) ∧ (∀ v ∈ news, v.oneCell' = true) ∧
      ∀ (i : Nat) (x : List DV), src[i]? = some x → x.length = z ∧ ∀ (j : Nat) (e : DV) (v : Value), x[j]? = some e → news[i * z + j]? = some v → Rel w I noOwn e v)
    (hb1 : m ≤ 9223372036854775807) (hb2 : m * by_ ≤ 140737488355328) (hA1 : ∀ s y, A1 s = some y → A s = some y) (hout : ∀ s, 100000 ≤ s → A1 s = A s) :
    ∃ x w' A', (Builtin.append_ #[t, t] ty #[.slice b0 0 0, .slice b m c]).run P w = .ok x w' ∧ Sim nt w' I A' (set (kill d ρ1) d (.row e z src)) (a.put (some d) x) ∧ Ext w I A w' I A' := by
  obtain ⟨hu, i, hi, he1, he2⟩ := slE_spec hsl
  have hbnd := hs1.bound
  rcases Nat.eq_zero_or_pos m with h0 | h0
  · subst h0
    obtain rfl : src = [] := List.eq_nil_of_length_eq_zero hsrcl
    refine ⟨.slice b0 0 0, w, upd A1 d (some (none, 0)), ?_, ?_, ?_⟩
    · rcases hsrc with ⟨rfl, _⟩ | ⟨ad, news, rfl, _⟩ <;> cases b0 <;> simp [Builtin.append_, run_underlying hu, sizeOf, run_typeInfo w hi, hi, Builtin.lenOf, Builtin.firstCells, loadCells, loadCellsFrom, storeCells]
    · exact hs1.own hd (fun g hg => by cases hg) ⟨none, 0, upd_same _ _ _, b0, baseOk_none _, rfl⟩ ⟨none, 0, upd_same _ _ _, ⟨rfl, rfl⟩⟩
    · refine ⟨rfl, ⟨rfl, Nat.le_refl _⟩, rfl, Nat.le_refl _, fun _ h => h, fun g hg hA => ⟨rfl, fun h => h, fun s c' hc => ?_⟩, fun s g c' hc hg hl => ?_, fun s hs' => ?_⟩
      · rcases upd_eq_some hc with ⟨_, h⟩ | ⟨_, h⟩
        · cases h
        · exact hA s c' (hA1 s _ h)
      · rcases upd_eq_some hc with ⟨_, h⟩ | ⟨_, h⟩
        · cases h
        · exact ⟨s, c', hl, hA1 s _ h⟩
      · rw [upd_ne _ _ (by omega), hout s hs']
  · obtain ⟨x, w', A', k1, k2, k3⟩ := append_core (P := P) (A := A) (A1 := A1) (ty := ty) hs1 hd hsl hz hz0 hzl (v := .slice none 0 0) (n := 0) (xs := []) (xsV := []) (World.ownsRow_nil w 0 e z) rfl (by simp) (c := c) hsrcl hsrc (by omega) (by simpa using hb2)
      (fun g h => by cases h) hA1 (fun g h => by cases h) hout
    refine ⟨x, w', A', ?_, by simpa using k2, k3⟩
    rw [run_append_base hu hi b0 b m c h0 (by rw [he2]; exact hb2) hb1]
    exact k1

/-- append onto a slice that slot s owns. -/
theorem ow_append {o : Oper} {K : Env → Prop} {t : TypeId} {x y : Operand} {d s n : Nat} {e : TypeId} {z by_ : Nat} {zs : List Value} {xs : List (List DV)} (hop : o.op = .call ⟨.builtin .append, #[x, y], #[t, t]⟩) (hg : o.guard = none) (hdst : o.dst = some d) (hd : d < nt)
    (ho : opsOk nt o = true) (hx : ev ρ x = .own s n) (hρ : ρ s = .row e z xs) (hs : s < 100000) (hn : n ≤ xs.length) (hy : gd (ev ρ y)) (hsl : slE P t = some (e, z, by_)) (hz : zcOf P e = some zs) (hz0 : 0 < z) (hzl : zs.length = z)
    (hsrc : srcOk ρ z (un (ev ρ y))) (hb1 : n + (srcL ρ (un (ev ρ y))).length ≤ 9223372036854775807) (hb2 : (n + (srcL ρ (un (ev ρ y))).length) * by_ ≤ 140737488355328)
    (hK : K (set (kill d (set (kill s ρ) s .any)) d (.row e z (xs.take n ++ srcL ρ (un (ev ρ y)))))) : OW P nt ops o K ρ := by
  refine ow_val hg fun I A a w hsim => ?_
  have hxr := hsim.opd x (opsOk_mem ho (by simp [hop, Op.operands, Call.operands])) (by rw [hx]; trivial)
  rw [hx] at hxr
  have hxr : Rel w I A (.own s n) (a.eval x) := hxr
  have hyr := hsim.opd y (opsOk_mem ho (by simp [hop, Op.operands, Call.operands])) hy
  obtain ⟨b, m, c, hye, hsl', hsrc'⟩ := src_ok hsim hyr hsrc
  rw [hsl'] at hb1 hb2
  generalize hxe : a.eval x = v at hxr
  have hown := hsim.osim.own s
  rw [hρ] at hown
  obtain ⟨B, cc, hA, hrow⟩ := hown
  cases hxr with
  | own _ _ _ B' c' b' hA' hb' =>
    rw [hA] at hA'
    simp only [Option.some.injEq, Prod.mk.injEq] at hA'
    obtain ⟨rfl, rfl⟩ := hA'
    have hs1 := hsim.disown hs
    have huu := slE_spec hsl
    have hA1 : ∀ s' y', upd A s none s' = some y' → A s' = some y' := fun s' y' h => by
      rcases upd_eq_some h with ⟨_, h⟩ | ⟨_, h⟩
      · cases h
      · exact h
    have fin : ∀ q w' A', (Builtin.append_ #[t, t] o.type #[.slice b' n cc, .slice b m c]).run P w = .ok q w' → Sim nt w' I A' (set (kill d (set (kill s ρ) s .any)) d (.row e z (xs.take n ++ srcL ρ (un (ev ρ y))))) (a.put (some d) q) → Ext w I A w' I A' →
        ∃ v w' I' A' ρ', (execOp a.eval o).run P w = .ok (.value v) w' ∧ Sim nt w' I' A' ρ' (a.put o.dst v) ∧ Ext w I A w' I' A' ∧ K ρ' := fun q w' A' k1 k2 k3 => by
      refine ⟨q, w', I, A', _, ?_, by rw [hdst]; exact k2, k3, hK⟩
      simp only [execOp, hop, resolve, Sem.run_bind, Sem.run_pure, Result.andThen_ok, invoke, builtin, List.map_toArray, List.map_cons, List.map_nil, hxe, hye]
      rw [k1]
      rfl
    cases B with
    | none =>
      obtain ⟨rfl, rfl⟩ := hrow
      obtain rfl : n = 0 := by simpa using hn
      obtain ⟨q, w', A', k1, k2, k3⟩ := append_core0 (P := P) (A := A) (ty := o.type) hs1 hd hsl hz hz0 hzl b' (c := c) hsl' hsrc' (by omega) (by simpa using hb2) hA1 (fun s' h => upd_ne A _ (by omega))
      exact fin q w' A' k1 (by simpa using k2) k3
    | some g =>
      obtain rfl := baseOk_some hb'
      obtain ⟨us, q1, q2, q3, q4, q5⟩ := hrow
      obtain ⟨xsV, hov, hov2⟩ : ∃ xsV, w.ownsRow 0 e z (.slice (some ⟨g, 0, none⟩) n cc) n xsV ∧
          ∀ (i : Nat) (q : List DV), (xs.take n)[i]? = some q → q.length = z ∧ ∀ (j : Nat) (d : DV) (u : Value), q[j]? = some d → xsV[i * z + j]? = some u → u.oneCell' = true ∧ Rel w I noOwn d u := by
        refine ⟨us.toList.take (n * z), ⟨?_, .inr ⟨g, cc, us, rfl, Nat.zero_le _, q1, by omega, q3, q2, rfl⟩⟩, fun i q hq => ?_⟩
        · rw [List.length_take, Array.length_toList, q2, Nat.min_eq_left]
          exact Nat.mul_le_mul_right _ (by omega)
        · rw [List.getElem?_take] at hq
          split at hq <;> try cases hq
          rename_i hi
          obtain ⟨k1, k2⟩ := q5 i q hq
          refine ⟨k1, fun j d u hd hu => ?_⟩
          rw [List.getElem?_take] at hu
          split at hu <;> try cases hu
          rw [Array.getElem?_toList] at hu
          exact k2 j d u hd hu
      have hfree : ∀ g', (Value.slice (some ⟨g, 0, none⟩) n cc).ownBlock = some g' → g' = g := fun g' h => by
        simp [Value.ownBlock] at h; exact h.symm
      obtain ⟨q, w', A', k1, k2, k3⟩ := append_core (P := P) (A := A) (ty := o.type) hs1 hd hsl hz hz0 hzl hov (by simp; omega) hov2 (c := c) hsl' hsrc' hb1 hb2
        (fun g' h => by
          obtain rfl := hfree g' h
          refine ⟨(hsim.osim.sep s _ cc hA).1, (hsim.osim.sep s _ cc hA).2, fun s' c' hc => ?_⟩
          rcases upd_eq_some hc with ⟨_, h⟩ | ⟨h1, h2⟩
          · cases h
          · exact h1 (hsim.osim.inj s' s _ c' cc h2 hA))
        hA1
        (fun g' h => by obtain rfl := hfree g' h; exact ⟨s, cc, hs, hA⟩)
        (fun s' h => upd_ne A _ (by omega))
      exact fin q w' A' k1 k2 k3

/-- append onto a slice without room. -/
theorem ow_appendE {o : Oper} {K : Env → Prop} {t : TypeId} {x y : Operand} {d : Nat} {e : TypeId} {z by_ : Nat} {zs : List Value} (hop : o.op = .call ⟨.builtin .append, #[x, y], #[t, t]⟩) (hg : o.guard = none) (hdst : o.dst = some d) (hd : d < nt)
    (ho : opsOk nt o = true) (hx : ev ρ x = .ez) (hy : gd (ev ρ y)) (hsl : slE P t = some (e, z, by_)) (hz : zcOf P e = some zs) (hz0 : 0 < z) (hzl : zs.length = z)
    (hsrc : srcOk ρ z (un (ev ρ y))) (hb1 : (srcL ρ (un (ev ρ y))).length ≤ 9223372036854775807) (hb2 : (srcL ρ (un (ev ρ y))).length * by_ ≤ 140737488355328)
    (hK : K (set (kill d ρ) d (.row e z (srcL ρ (un (ev ρ y)))))) : OW P nt ops o K ρ := by
  refine ow_val hg fun I A a w hsim => ?_
  have hxr := hsim.opd x (opsOk_mem ho (by simp [hop, Op.operands, Call.operands])) (by rw [hx]; trivial)
  rw [hx] at hxr
  have hxr : Rel w I A .ez (a.eval x) := hxr
  have hyr := hsim.opd y (opsOk_mem ho (by simp [hop, Op.operands, Call.operands])) hy
  obtain ⟨b, m, c, hye, hsl', hsrc'⟩ := src_ok hsim hyr hsrc
  rw [hsl'] at hb1 hb2
  generalize hxe : a.eval x = v at hxr
  cases hxr with
  | ez _ b' =>
    obtain ⟨q, w', A', k1, k2, k3⟩ := append_core0 (P := P) (A := A) (A1 := A) (ty := o.type) hsim hd hsl hz hz0 hzl b' (c := c) hsl' hsrc' hb1 hb2 (fun _ _ h => h) (fun _ _ => rfl)
    refine ⟨q, w', I, A', _, ?_, by rw [hdst]; exact k2, k3, hK⟩
    simp only [execOp, hop, resolve, Sem.run_bind, Sem.run_pure, Result.andThen_ok, invoke, builtin, List.map_toArray, List.map_cons, List.map_nil, hxe, hye]
    rw [k1]
    rfl

/-- append onto nil. -/
theorem ow_append0 {o : Oper} {K : Env → Prop} {t : TypeId} {x y : Operand} {d : Nat} {e : TypeId} {z by_ : Nat} {zs : List Value} (hop : o.op = .call ⟨.builtin .append, #[x, y], #[t, t]⟩) (hg : o.guard = none) (hdst : o.dst = some d) (hd : d < nt)
    (ho : opsOk nt o = true) (hx : ev ρ x = .v (.slice none 0 0)) (hy : gd (ev ρ y)) (hsl : slE P t = some (e, z, by_)) (hz : zcOf P e = some zs) (hz0 : 0 < z) (hzl : zs.length = z)
    (hsrc : srcOk ρ z (un (ev ρ y))) (hb1 : (srcL ρ (un (ev ρ y))).length ≤ 9223372036854775807) (hb2 : (srcL ρ (un (ev ρ y))).length * by_ ≤ 140737488355328)
    (hK : K (set (kill d ρ) d (.row e z (srcL ρ (un (ev ρ y)))))) : OW P nt ops o K ρ := by
  refine ow_val hg fun I A a w hsim => ?_
  have hxr := hsim.opd x (opsOk_mem ho (by simp [hop, Op.operands, Call.operands])) (by rw [hx]; trivial)
  rw [hx] at hxr
  have hxr : Rel w I A (.v (.slice none 0 0)) (a.eval x) := hxr
  have hyr := hsim.opd y (opsOk_mem ho (by simp [hop, Op.operands, Call.operands])) hy
  obtain ⟨b, m, c, hye, hsl', hsrc'⟩ := src_ok hsim hyr hsrc
  rw [hsl'] at hb1 hb2
  generalize hxe : a.eval x = v at hxr
  cases hxr
  obtain ⟨q, w', A', k1, k2, k3⟩ := append_core (P := P) (A := A) (A1 := A) (ty := o.type) hsim hd hsl hz hz0 hzl (v := .slice none 0 0) (n := 0) (xs := []) (xsV := []) (World.ownsRow_nil w 0 e z) rfl (by simp) (c := c) hsl' hsrc' (by omega) (by simpa using hb2)
    (fun g h => by cases h) (fun _ _ h => h) (fun g h => by cases h) (fun _ _ => rfl)
  refine ⟨q, w', I, A', _, ?_, by rw [hdst]; exact k2, k3, by simpa using hK⟩
  simp only [execOp, hop, resolve, Sem.run_bind, Sem.run_pure, Result.andThen_ok, invoke, builtin, List.map_toArray, List.map_cons, List.map_nil, hxe, hye]
  rw [k1]
  rfl

end
end Go.Sg
