/- append on the heap of numbers. -/
import Derived.Test.YtnpokifaejcbeaaGreatDoorRvMem
set_option linter.unusedVariables false
set_option linter.unusedSimpArgs false
namespace Go.Rv
open Go.RowKit Go.Sg

section
variable {P : Program} {lo : Nat} {t : Tr RV} {h : Tr Blk} {n : Nat} {o : Oper} {r : Mv}

theorem one_of {E : Emb} {cs : List RV} {us : Array Value} (hrel : ∀ (j : Nat) (v : RV) (u : Value), cs[j]? = some v → us[j]? = some u → u.oneCell' = true ∧ Rr E v u) {off k : Nat} (h1 : off + k ≤ cs.length) (h2 : cs.length ≤ us.size) : ∀ u ∈ (us.toList.drop off).take k, u.oneCell' = true := fun u hu => by
  obtain ⟨j, hj⟩ := List.getElem?_of_mem hu
  rw [List.getElem?_take] at hj
  split at hj <;> try cases hj
  rw [List.getElem?_drop, Array.getElem?_toList] at hj
  exact (hrel (off + j) _ u (List.getElem?_eq_getElem (by omega)) hj).1

/-- What the second operand holds, in the model. -/
theorem src_okR {E : Emb} {m : Nat} {w : World} (hh : HS E h.get n m w) {z : Nat} {x : RV} {u : Value} (hx : Rr E x u) {k : Nat} {news : List RV} (hs : srcR h.get z x = some (k, news)) :
    ∃ b c, u = .slice b k c ∧ ((b = none ∧ k = 0) ∨ ∃ (ad : Addr) (nv : List Value), b = some ad ∧ nv.length = k * z ∧ (∀ j v, nv[j]? = some v → w.cell? (ad.add j) = some v) ∧ CR E news nv.toArray) := by
  unfold srcR at hs
  split at hs
  · cases hs; cases hx
    exact ⟨none, 0, rfl, .inl ⟨rfl, rfl⟩⟩
  · cases hs
    cases hx with
    | em b c =>
      cases b with
      | none => exact ⟨none, c, rfl, .inl ⟨rfl, rfl⟩⟩
      | some ad => exact ⟨_, c, rfl, .inr ⟨ad, [], rfl, by simp, by simp, rfl, by simp, by simp⟩⟩
  · rename_i b off len z' cap full
    split at hs <;> try cases hs
    rename_i e cs hb
    obtain ⟨h1, h2⟩ := bif_some hs
    cases h2
    have h1 : off + k * z ≤ cs.length := of_decide_eq_true h1
    obtain ⟨g, s, hE, us, hg, hus, hlen, hrel⟩ := hh.blk b _ hb
    cases hx with
    | sl _ _ _ _ _ _ g2 s2 c hE2 hl hm hs' hf hc =>
      rw [hE] at hE2
      cases hE2
      refine ⟨_, c, rfl, .inr ⟨_, (us.toList.drop off).take (k * z), rfl, by simp; omega, fun j v hv => ?_, ?_, fun u hu => ?_, fun j d u hd hu => ?_⟩⟩
      · rw [List.getElem?_take] at hv
        split at hv <;> try cases hv
        rw [List.getElem?_drop, Array.getElem?_toList] at hv
        rw [Addr.add_lit]
        unfold World.cell?
        simp only [hg]
        simpa using hv
      · simp; omega
      · exact one_of (off := off) (k := k * z) hrel h1 (by omega) u hu
      · rw [List.getElem?_toArray, List.getElem?_take] at hu
        rw [List.getElem?_take] at hd
        split at hd <;> try cases hd
        rename_i hj
        rw [if_pos hj, List.getElem?_drop, Array.getElem?_toList] at hu
        rw [List.getElem?_drop] at hd
        exact (hrel _ d u hd hu).2
  · cases hs

theorem run_append_nothing' {w : World} {t ty e : TypeId} {i : TypeInfo} (ht : P.underlying t = some (.slice e)) (hi : P.info? e = some i) (base : Option Addr) (sLen sCap : Nat) (hle : sLen ≤ sCap) {b : Option Addr} {c : Nat} :
    (Builtin.append_ #[t, t] ty #[.slice base sLen sCap, .slice b 0 c]).run P w = .ok (.slice base sLen sCap) w := by
  cases base <;> cases b <;> simp [Builtin.append_, run_underlying ht, sizeOf, typeInfo, hi, Builtin.lenOf, hle, Builtin.firstCells, loadCells, loadCellsFrom, storeCells]

theorem run_append_room' {w : World} {t ty e : TypeId} {i : TypeInfo} (ht : P.underlying t = some (.slice e)) (hi : P.info? e = some i)
    {g off sLen sCap : Nat} {cur : Array Value} {e2 : TypeId} (hg : w.heap[g]? = some (.cells cur e2 (0, 0)))
    {a : Addr} {m c : Nat} {news : List Value} (hl : news.length = m * i.size) (hnews : ∀ j u, news[j]? = some u → w.cell? (a.add j) = some u) (h1 : ∀ u ∈ news, u.oneCell' = true)
    (hroom : sLen + m ≤ sCap) (hfit : off + sLen * i.size + news.length ≤ cur.size) :
    (Builtin.append_ #[t, t] ty #[.slice (some ⟨g, off, none⟩) sLen sCap, .slice (some a) m c]).run P w =
      .ok (.slice (some ⟨g, off, none⟩) (sLen + m) sCap) (w.setRow g (splV (off + sLen * i.size) news.toArray cur)) := by
  have hf := run_firstCells_some (P := P) w i.size m a m c news hl hnews
  have hst := run_storeCells_at P g (off + sLen * i.size) e2 news 0 cur w hg (by simpa using hfit) h1
  simp only [Nat.add_zero] at hst
  simp [Builtin.append_, run_underlying ht, sizeOf, typeInfo, hi, Builtin.lenOf, hroom, hf, Addr.add_lit, hst, splV]

theorem exec_append {a : Act} {x y : Operand} {t1 t2 : TypeId} (hop : o.op = .call ⟨.builtin .append, #[x, y], #[t1, t2]⟩) {w w' : World} {v : Value} (h : (Builtin.append_ #[t1, t2] o.type #[a.eval x, a.eval y]).run P w = .ok v w') :
    (execOp a.eval o).run P w = .ok (.value v) w' := by
  simp only [execOp, hop, resolve, Sem.run_bind, Sem.run_pure, Result.andThen_ok, invoke, builtin, List.map_toArray, List.map_cons, List.map_nil, h]

theorem CR.append {E : Emb} {xs ys : List RV} {us vs : Array Value} (h : CR E xs us) (k : CR E ys vs) : CR E (xs ++ ys) (us ++ vs) := by
  obtain ⟨h1, h2, h3⟩ := h
  obtain ⟨k1, k2, k3⟩ := k
  refine ⟨by simp [h1, k1], fun u hu => ?_, fun j d u hd hu => ?_⟩
  · rw [Array.toList_append, List.mem_append] at hu
    exact hu.elim (h2 u) (k2 u)
  · rw [List.getElem?_append, h1] at hd
    rw [Array.getElem?_append] at hu
    split at hd
    · rename_i hj; rw [if_pos hj] at hu; exact h3 j d u hd hu
    · rename_i hj; rw [if_neg hj] at hu; exact k3 _ d u hd hu

theorem CR.more {E : Emb} {xs : List RV} {us : Array Value} (h : CR E xs us) (vs : Array Value) : CR' E xs (us ++ vs) := by
  obtain ⟨h1, h2, h3⟩ := h
  refine ⟨by simp [h1], fun j d u hd hu => ?_⟩
  rw [Array.getElem?_append] at hu
  have hj : j < us.size := by
    rw [← h1]
    rcases Nat.lt_or_ge j xs.length with h | h
    · exact h
    · rw [List.getElem?_eq_none h] at hd; cases hd
  rw [if_pos hj] at hu
  exact ⟨h2 u (by simpa using Array.mem_of_getElem? hu), h3 j d u hd hu⟩

theorem mv_append {x y : Operand} {t1 t2 : TypeId} (hop : o.op = .call ⟨.builtin .append, #[x, y], #[t1, t2]⟩) (hlo : lo ≤ n) (hr : appR P lo h n t1 t2 (evR t x) (evR t y) = some r) : MOk P lo t h n o r := by
  unfold appR at hr
  split at hr <;> try cases hr
  rename_i e z by_ hsl
  split at hr <;> try cases hr
  rename_i zs hz
  have hb := (bif_opt hr).1
  replace hr := (bif_opt hr).2
  simp only [Bool.and_eq_true, decide_eq_true_eq] at hb
  obtain ⟨⟨hzl, hz0⟩, hub⟩ := hb
  obtain ⟨hu, i, hi, rfl, rfl⟩ := slE_spec hsl
  obtain ⟨i', zv, hi', hzv, rfl, hone⟩ := zcOf_spec hz
  rw [hi] at hi'
  cases hi'
  have hzs : zv.cells.size = i.size := by simpa using hzl
  have hxr := fun {E : Emb} {a : Act} (hs : OpdOk E t a o) => hs x (by simp [hop, Op.operands, Call.operands])
  have hyr := fun {E : Emb} {a : Act} (hs : OpdOk E t a o) => hs y (by simp [hop, Op.operands, Call.operands])
  split at hr
  · -- zeros onto nil
    rename_i kk k hx hy
    obtain ⟨hc, rfl⟩ := bif_some hr
    simp only [Bool.and_eq_true, decide_eq_true_eq] at hc
    obtain ⟨⟨⟨h1, h2⟩, h3⟩, h4⟩ := hc
    refine ⟨KH.new hlo hub _, fun m E a w hm hs hh => ?_⟩
    have hm : n + 1 ≤ m := hm
    have hxe := hxr hs
    have hye := hyr hs
    rw [hx] at hxe
    rw [hy] at hye
    generalize hxq : a.eval x = xq at hxe
    generalize hyq : a.eval y = yq at hye
    cases hxe
    cases hye
    have htn : ∃ kn, P.underlying t2 = some (.int kn) := by
      unfold tk at h1
      split at h1 <;> simp_all
    obtain ⟨kn, htn⟩ := htn
    have hk : ((k.toNat : Nat) : Int) = k := Int.toNat_of_nonneg (by omega)
    have hrun := Go.Lib.run_append_nil_zeros (P := P) w t1 t2 o.type e i zv kk kn hu htn hi hzv k.toNat (by omega) hz0 (by omega) (by omega)
    rw [hk] at hrun
    have hge := grownCap_ge w k.toNat 0 e
    have hcm := grownCap_le_maxLen w k.toNat 0 e (by unfold maxLen; omega)
    have hcr : CR' E (zerosR k.toNat (zv.cells.toList.map cv1)) (Builtin.zeroCells zv.cells k.toNat ++ Builtin.zeroCells zv.cells (grownCap w k.toNat 0 e - k.toNat)) := (zerosR_ok E hone k.toNat).more _
    have hsz : (Builtin.zeroCells zv.cells k.toNat ++ Builtin.zeroCells zv.cells (grownCap w k.toNat 0 e - k.toNat)).size = grownCap w k.toNat 0 e * i.size := by
      rw [Array.size_append, size_zeroCells, size_zeroCells, hzs, ← Nat.add_mul]
      congr 1
      omega
    generalize hus : Builtin.zeroCells zv.cells k.toNat ++ Builtin.zeroCells zv.cells (grownCap w k.toNat 0 e - k.toNat) = us at *
    obtain ⟨q1, q2⟩ := new_ok (us := us) hh hm hlo hub e (w' := w.drew.alloc (.cells us e)) rfl rfl rfl rfl (hcr.mono (updE_up hh (by omega) _))
    exact ⟨_, _, q1, q2, _, exec_append hop (by rw [hxq, hyq]; exact hrun), .sl n 0 k.toNat _ none true w.heap.size us.size _ (updE_same _ _ _) hge hcm (by omega) (fun _ => by omega) (fun _ h => by cases h)⟩
  · have ht2 := (bif_opt hr).1
    replace hr := (bif_opt hr).2
    obtain rfl : t2 = t1 := of_decide_eq_true ht2
    split at hr
    · cases hr
    · -- nothing
      rename_i news hsrc
      have key : ∀ (m : Nat) (E : Emb) (a : Act) (w : World), OpdOk E t a o → HS E h.get n m w → ∀ base l c, l ≤ c → a.eval x = .slice base l c → (execOp a.eval o).run P w = .ok (.value (.slice base l c)) w := fun m E a w hs hh base l c hle hxq => by
        obtain ⟨b, c2, hyq, _⟩ := src_okR hh (hyr hs) hsrc
        refine exec_append hop ?_
        rw [hxq, hyq]
        exact run_append_nothing' hu hi base l c hle
      split at hr <;> cases hr
      · rename_i hx
        refine ⟨KH.refl _ _ _, fun m E a w hm hs hh => ⟨E, w, hh, RX.refl _ _ _ _ _, .slice none 0 0, ?_, .nils⟩⟩
        have hxe := hxr hs
        rw [hx] at hxe
        generalize hxq : a.eval x = xq at hxe
        cases hxe
        exact key m E a w hs hh _ _ _ (Nat.le_refl _) hxq
      · rename_i b off len z' cap full hx
        refine ⟨KH.refl _ _ _, fun m E a w hm hs hh => ?_⟩
        have hxe := hxr hs
        rw [hx] at hxe
        have hxe0 := hxe
        generalize hxq : a.eval x = xq at hxe
        cases hxe with
        | sl _ _ _ _ _ _ g s c hE hl hmx hs' hf hc =>
          refine ⟨E, w, hh, RX.refl _ _ _ _ _, _, key m E a w hs hh _ _ _ hl hxq, ?_⟩
          rw [← hxq]; exact hxe0
    · rename_i k news hsrc
      split at hr
      · -- onto nil
        rename_i hx
        obtain ⟨hc, rfl⟩ := bif_some hr
        simp only [Bool.and_eq_true, decide_eq_true_eq] at hc
        refine ⟨KH.new hlo hub _, fun m E a w hm hs hh => ?_⟩
        have hm : n + 1 ≤ m := hm
        have hxe := hxr hs
        rw [hx] at hxe
        generalize hxq : a.eval x = xq at hxe
        cases hxe
        obtain ⟨b, c2, hyq, h0 | ⟨ad, nv, rfl, n1, n2, n3⟩⟩ := src_okR hh (hyr hs) hsrc
        · omega
        · have hrun := run_append_nil (P := P) w t2 o.type e i zv hu hi hzv ad (k + 1) c2 nv n1 n2 (by omega) (by omega) (by omega)
          have hge := grownCap_ge w (k + 1) 0 e
          have hcm := grownCap_le_maxLen w (k + 1) 0 e (by unfold maxLen; omega)
          have hcr : CR' E news (nv.toArray ++ Builtin.zeroCells zv.cells (grownCap w (k + 1) 0 e - (k + 1))) := n3.more _
          have hsz : (nv.toArray ++ Builtin.zeroCells zv.cells (grownCap w (k + 1) 0 e - (k + 1))).size = grownCap w (k + 1) 0 e * i.size := by
            rw [Array.size_append, size_zeroCells, hzs, List.size_toArray, n1, ← Nat.add_mul]
            congr 1
            omega
          generalize hus : nv.toArray ++ Builtin.zeroCells zv.cells (grownCap w (k + 1) 0 e - (k + 1)) = us at *
          obtain ⟨q1, q2⟩ := new_ok (us := us) hh hm hlo hub e (w' := w.drew.alloc (.cells us e)) rfl rfl rfl rfl (hcr.mono (updE_up hh (by omega) _))
          exact ⟨_, _, q1, q2, _, exec_append hop (by rw [hxq, hyq]; exact hrun), .sl n 0 (k + 1) _ none true w.heap.size us.size _ (updE_same _ _ _) hge hcm (by omega) (fun _ => by omega) (fun _ h => by cases h)⟩
      · rename_i b off len z' cap full hx
        split at hr <;> try cases hr
        rename_i e' cs hb
        have hc := (bif_opt hr).1
        replace hr := (bif_opt hr).2
        simp only [Bool.and_eq_true, decide_eq_true_eq] at hc
        obtain ⟨⟨⟨⟨he, rfl⟩, hb1⟩, hb2⟩, hb3⟩ := hc
        subst he
        have hgrow : Builtin.nextslicecap (len + (k + 1)) 0 = Builtin.nextslicecap (len + (k + 1)) 0 := rfl
        split at hr
        · rename_i c
          cases hroom : decide (len + (k + 1) ≤ c) with
          | true =>
            -- there is room
            rw [hroom] at hr
            have hroom : len + (k + 1) ≤ c := of_decide_eq_true hroom
            obtain ⟨hc, rfl⟩ := bif_some hr
            simp only [Bool.and_eq_true, decide_eq_true_eq] at hc
            obtain ⟨⟨h1, h2⟩, h3⟩ := hc
            refine ⟨KH.turn h1 h2 (by omega) _, fun m E a w hm hs hh => ?_⟩
            have hxe := hxr hs
            rw [hx] at hxe
            generalize hxq : a.eval x = xq at hxe
            cases hxe with
            | sl _ _ _ _ _ _ g s c' hE hl hmx hs' hf hc =>
              obtain rfl := hc _ rfl
              obtain ⟨g2, s2, hE2, us, hg, hus, hlen, hrel⟩ := hh.blk b _ hb
              rw [hE] at hE2
              cases hE2
              obtain ⟨bb, c2, hyq, h0 | ⟨ad, nv, rfl, n1, n2, n3⟩⟩ := src_okR hh (hyr hs) hsrc
              · omega
              · have hnl : news.length = (k + 1) * i.size := by rw [n3.1, List.size_toArray, n1]
                have hfit : off + len * i.size + news.length ≤ cs.length := by rw [hnl, Nat.add_assoc, ← Nat.add_mul]; exact h3
                have hrun := run_append_room' (P := P) (ty := o.type) (off := off) (sLen := len) (c := c2) hu hi hg n1 n2 (fun u hu => n3.2.1 u (by simpa using hu)) hroom (by rw [n1, ← hnl]; omega)
                have hsp := n3.spl (off := off + len * i.size) (old := cs) (us := us) ⟨by omega, hrel⟩ hfit
                have hspsz : (splV (off + len * i.size) nv.toArray us).size = us.size := splV_size (by rw [List.size_toArray, n1, ← hnl]; omega)
                obtain ⟨q1, q2⟩ := hh.turn (lo := lo) (b := b) (g := g) (s := s) h1 h2 (by rw [hb]; simp) hE (w' := w.setRow g (splV (off + len * i.size) nv.toArray us)) (by simp [World.setRow]) (fun g' hg' => setRow_other w g g' _ hg') rfl rfl rfl
                  (k := .cells e' (splR (off + len * i.size) news cs)) ⟨_, setRow_heap w g us _ e' _ hg, hspsz.trans hus, by have := hsp.1; omega, hsp.2⟩
                rw [get_set_fun (by omega)]
                exact ⟨E, _, q1, q2, _, exec_append hop (by rw [hxq, hyq]; exact hrun), .sl b off (len + (k + 1)) _ _ full g s c' hE hroom hmx hs' hf hc⟩
          | false =>
            -- there is none
            rw [hroom] at hr
            have hroom : ¬ (len + (k + 1) ≤ c) := of_decide_eq_false hroom
            cases hr
            refine ⟨KH.new hlo hub _, fun m E a w hm hs hh => ?_⟩
            have hm : n + 1 ≤ m := hm
            have hxe := hxr hs
            rw [hx] at hxe
            generalize hxq : a.eval x = xq at hxe
            cases hxe with
            | sl _ _ _ _ _ _ g s c' hE hl hmx hs' hf hc =>
              obtain rfl := hc _ rfl
              obtain ⟨g2, s2, hE2, us, hg, hus, hlen, hrel⟩ := hh.blk b _ hb
              rw [hE] at hE2
              cases hE2
              obtain ⟨bb, c2, hyq, h0 | ⟨ad, nv, rfl, n1, n2, n3⟩⟩ := src_okR hh (hyr hs) hsrc
              · omega
              · have holds : ∀ j v, ((us.toList.drop off).take (len * i.size))[j]? = some v → w.cell? ((⟨g, off, none⟩ : Addr).add j) = some v := fun j v hv => by
                  rw [List.getElem?_take] at hv
                  split at hv <;> try cases hv
                  rw [List.getElem?_drop, Array.getElem?_toList] at hv
                  rw [Addr.add_lit]
                  unfold World.cell?
                  simp only [hg]
                  simpa using hv
                have hrun := run_append_grow (P := P) w t2 o.type e' i zv hu hi hzv ⟨g, off, none⟩ len c' ((us.toList.drop off).take (len * i.size)) (by simp; omega) holds ad (k + 1) c2 nv n1 n2 (by omega) (by omega) (growslice_fits (by omega) hb2)
                have hge := grownCap_ge w (len + (k + 1)) c' e'
                have hcm := grownCap_le_maxLen w (len + (k + 1)) c' e' (by unfold maxLen; omega)
                have hcro : CR E ((cs.drop off).take (len * i.size)) ((us.toList.drop off).take (len * i.size)).toArray := by
                  refine ⟨by simp; omega, one_of hrel hb3 (by omega), fun j d u hd hu => ?_⟩
                  rw [List.getElem?_toArray, List.getElem?_take] at hu
                  rw [List.getElem?_take] at hd
                  split at hd <;> try cases hd
                  rename_i hj
                  rw [if_pos hj, List.getElem?_drop, Array.getElem?_toList] at hu
                  rw [List.getElem?_drop] at hd
                  exact (hrel _ d u hd hu).2
                have hcr := (hcro.append n3).more (Builtin.zeroCells zv.cells (grownCap w (len + (k + 1)) c' e' - (len + (k + 1))))
                have hsz : (((us.toList.drop off).take (len * i.size)).toArray ++ nv.toArray ++ Builtin.zeroCells zv.cells (grownCap w (len + (k + 1)) c' e' - (len + (k + 1)))).size = grownCap w (len + (k + 1)) c' e' * i.size := by
                  have e1 : ((us.toList.drop off).take (len * i.size)).length = len * i.size := by simp; omega
                  rw [Array.size_append, Array.size_append, size_zeroCells, hzs, List.size_toArray, List.size_toArray, n1, e1, ← Nat.add_mul, ← Nat.add_mul]
                  congr 1
                  omega
                generalize hus2 : ((us.toList.drop off).take (len * i.size)).toArray ++ nv.toArray ++ Builtin.zeroCells zv.cells (grownCap w (len + (k + 1)) c' e' - (len + (k + 1))) = us2 at *
                obtain ⟨q1, q2⟩ := new_ok (us := us2) hh hm hlo hub e' (w' := w.drew.alloc (.cells us2 e')) rfl rfl rfl rfl (hcr.mono (updE_up hh (by omega) _))
                exact ⟨_, _, q1, q2, _, exec_append hop (by rw [hxq, hyq]; exact hrun), .sl n 0 (len + (k + 1)) _ none true w.heap.size us2.size _ (updE_same _ _ _) hge hcm (by omega) (fun _ => by omega) (fun _ h => by cases h)⟩
        · -- the room is not known
          obtain ⟨hc, rfl⟩ := bif_some hr
          simp only [Bool.and_eq_true, decide_eq_true_eq] at hc
          obtain ⟨⟨⟨hfull, hoff⟩, h1⟩, h2⟩ := hc
          subst hoff
          refine ⟨(KH.turn h1 h2 (by omega) _).trans (KH.new hlo hub _), fun m E a w hm hs hh => ?_⟩
          have hm : n + 1 ≤ m := hm
          have hxe := hxr hs
          rw [hx] at hxe
          generalize hxq : a.eval x = xq at hxe
          cases hxe with
          | sl _ _ _ _ _ _ g s c' hE hl hmx hs' hf hc =>
            have hcs := hf hfull
            obtain ⟨g2, s2, hE2, us, hg, hus, hlen, hrel⟩ := hh.blk b _ hb
            rw [hE] at hE2
            cases hE2
            obtain ⟨bb, c2, hyq, h0 | ⟨ad, nv, rfl, n1, n2, n3⟩⟩ := src_okR hh (hyr hs) hsrc
            · omega
            · have hown : w.ownsRow 0 e' i.size (.slice (some ⟨g, 0, none⟩) len c') len (us.toList.take (len * i.size)) :=
                ⟨by simp; omega, .inr ⟨g, c', us, rfl, Nat.zero_le _, hg, hl, hmx, by omega, rfl⟩⟩
              obtain ⟨x', w', hrun, hown', hgr, _, hat⟩ := run_append_own_at (P := P) w 0 t2 o.type e' i zv i.size i.bytes hu hi hzv rfl rfl hzs hz0 _ len _ hown ad (k + 1) c2 nv n1 n2 (fun u hu => n3.2.1 u (by simpa using hu)) (by unfold maxLen; omega) hb2 (Nat.zero_le _)
              have hcro : CR E (cs.take (len * i.size)) (us.toList.take (len * i.size)).toArray := by
                refine ⟨by simp; omega, one_of (off := 0) hrel (by omega) (by omega), fun j d u hd hu => ?_⟩
                rw [List.getElem?_toArray, List.getElem?_take] at hu
                rw [List.getElem?_take] at hd
                split at hd <;> try cases hd
                rename_i hj
                rw [if_pos hj, Array.getElem?_toList] at hu
                exact (hrel _ d u hd hu).2
              have hcr := hcro.append n3
              rcases hown'.2 with ⟨rfl, h0⟩ | ⟨g2, cap2, cur, rfl, _, hg2, hnc, hcm, hcsz, htake⟩
              · omega
              · have hcr' : CR' E (cs.take (len * i.size) ++ news) cur := by
                  obtain ⟨r1, r2, r3⟩ := hcr
                  have r1 : (cs.take (len * i.size) ++ news).length = (len + (k + 1)) * i.size := by
                    rw [r1, Array.size_append, List.size_toArray, List.size_toArray, n1, Nat.add_mul]
                    simp; omega
                  refine ⟨by rw [r1, hcsz]; exact Nat.mul_le_mul_right _ hnc, fun j d u hd hu => ?_⟩
                  have hj : j < (len + (k + 1)) * i.size := by
                    rw [← r1]
                    rcases Nat.lt_or_ge j (cs.take (len * i.size) ++ news).length with h | h
                    · exact h
                    · rw [List.getElem?_eq_none h] at hd; cases hd
                  have h9 : (us.toList.take (len * i.size) ++ nv)[j]? = some u := by
                    rw [← htake, List.getElem?_take, if_pos hj, Array.getElem?_toList]; exact hu
                  have h9 : ((us.toList.take (len * i.size)).toArray ++ nv.toArray)[j]? = some u := by simpa using h9
                  exact ⟨r2 u (by simpa using Array.mem_of_getElem? h9), r3 j d u hd h9⟩
                have hsize : g < w.heap.size := hh.old b g s hE
                have hat2 : g2 = g ∨ g2 = w.heap.size := by
                  rcases hat with h | h
                  · have : some g2 = some g := h
                    exact .inl (by cases this; rfl)
                  · have : some g2 = some w.heap.size := h
                    exact .inr (by cases this; rfl)
                obtain ⟨q1, q2, q3⟩ := hh.regrow (lo := lo) (by omega) hlo h1 h2 (by rw [hb]; simp) hE (w' := w') hgr.os hgr.tape hgr.output hgr.size (fun g' hg' hne => hgr.block g' hg' (by intro e; cases e; exact hne rfl)) (g2 := g2) (s2 := cur.size) hat2
                  (by rcases Nat.lt_or_ge g2 w'.heap.size with h | h
                      · exact h
                      · rw [Array.getElem?_eq_none h] at hg2; cases hg2) (k := .cells e' (cs.take (len * i.size) ++ news)) ⟨cur, hg2, rfl, hcr'.1, (hcr'.mono (updE_up hh (by omega) _)).2⟩
                rw [get_set_fun hub, get_set_fun (by omega)]
                exact ⟨_, _, q1, q2, _, exec_append hop (by rw [hxq, hyq]; exact hrun), .sl n 0 (len + (k + 1)) _ none true g2 cur.size cap2 (updE_same _ _ _) hnc hcm (by omega) (fun _ => by omega) (fun _ h => by cases h)⟩
      · cases hr
end
end Go.Rv
