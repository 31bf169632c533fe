/- Several texts as one. -/
import Derived.Test.YtnpokifaejcbeaaGreatDoorRvA
import Derived.Orders
import Derived.OrdersIn
import Derived.RangeFuncRecord
import Derived.TacticsIn
import Derived.LoopNIn
import Derived.LoopN
import Derived.RangeFuncLeaves
/- append on the heap of numbers. -/
set_option linter.unusedVariables false
set_option linter.unusedSimpArgs false
namespace Go.Rv
open Go.RowKit Go.Sg

section
variable {P : Program} {lo : Nat} {t : Tr RV} {h : Tr Blk} {n : Nat} {o : Oper} {r : Mv}

theorem one_of {E : Emb} {cs : List RV} {us : Array Value} (hrel : ∀ (j : Nat) (v : RV) (u : Value), cs[j]? = some v → us[j]? = some u → u.oneCell' = true ∧ Rr E v u) {off k : Nat} (h1 : off + k ≤ cs.length) (h2 : cs.length ≤ us.size) : ∀ u ∈ (us.toList.drop off).take k, u.oneCell' = true := fun u hu => by
  obtain ⟨j, hj⟩ := List.getElem?_of_mem hu
  rw [List.getElem?_take] at hj
  split at hj <;> try cases hj
  rw [List.getElem?_drop, Array.getElem?_toList] at hj
  exact (hrel (off + j) _ u (List.getElem?_eq_getElem (by omega)) hj).1

/-- What the second operand holds, in the model. -/
theorem src_okR {E : Emb} {m : Nat} {w : World} (hh : HS E h.get n m w) {z : Nat} {x : RV} {u : Value} (hx : Rr E x u) {k : Nat} {news : List RV} (hs : srcR h.get z x = some (k, news)) :
    ∃ b c, u = .slice b k c ∧ ((b = none ∧ k = 0) ∨ ∃ (ad : Addr) (nv : List Value), b = some ad ∧ nv.length = k * z ∧ (∀ j v, nv[j]? = some v → w.cell? (ad.add j) = some v) ∧ CR E news nv.toArray) := by
  unfold srcR at hs
  split at hs
  · cases hs; cases hx
    exact ⟨none, 0, rfl, .inl ⟨rfl, rfl⟩⟩
  · cases hs
    cases hx with
    | em b c =>
      cases b with
      | none => exact ⟨none, c, rfl, .inl ⟨rfl, rfl⟩⟩
      | some ad => exact ⟨_, c, rfl, .inr ⟨ad, [], rfl, by simp, by simp, rfl, by simp, by simp⟩⟩
  · rename_i b off len z' cap full
    split at hs <;> try cases hs
    rename_i e cs hb
    obtain ⟨h1, h2⟩ := bif_some hs
    cases h2
    have h1 : off + k * z ≤ cs.length := of_decide_eq_true h1
    obtain ⟨g, s, hE, us, hg, hus, hlen, hrel⟩ := hh.blk b _ hb
    cases hx with
    | sl _ _ _ _ _ _ g2 s2 c hE2 hl hm hs' hf hc =>
      rw [hE] at hE2
      cases hE2
      refine ⟨_, c, rfl, .inr ⟨_, (us.toList.drop off).take (k * z), rfl, by simp; omega, fun j v hv => ?_, ?_, fun u hu => ?_, fun j d u hd hu => ?_⟩⟩
      · rw [List.getElem?_take] at hv
        split at hv <;> try cases hv
        rw [List.getElem?_drop, Array.getElem?_toList] at hv
        rw [Addr.add_lit]
        unfold World.cell?
        simp only [hg]
        simpa using hv
      · simp; omega
      · exact one_of (off := off) (k := k * z) hrel h1 (by omega) u hu
      · rw [List.getElem?_toArray, List.getElem?_take] at hu
        rw [List.getElem?_take] at hd
        split at hd <;> try cases hd
        rename_i hj
        rw [if_pos hj, List.getElem?_drop, Array.getElem?_toList] at hu
        rw [List.getElem?_drop] at hd
        exact (hrel _ d u hd hu).2
  · cases hs

theorem run_append_nothing' {w : World} {t ty e : TypeId} {i : TypeInfo} (ht : P.underlying t = some (.slice e)) (hi : P.info? e = some i) (base : Option Addr) (sLen sCap : Nat) (hle : sLen ≤ sCap) {b : Option Addr} {c : Nat} :
    (Builtin.append_ #[t, t] ty #[.slice base sLen sCap, .slice b 0 c]).run P w = .ok (.slice base sLen sCap) w := by
  cases base <;> cases b <;> simp [Builtin.append_, run_underlying ht, sizeOf, typeInfo, hi, Builtin.lenOf, hle, Builtin.firstCells, loadCells, loadCellsFrom, storeCells]

theorem run_append_room' {w : World} {t ty e : TypeId} {i : TypeInfo} (ht : P.underlying t = some (.slice e)) (hi : P.info? e = some i)
    {g off sLen sCap : Nat} {cur : Array Value} {e2 : TypeId} (hg : w.heap[g]? = some (.cells cur e2 (0, 0)))
    {a : Addr} {m c : Nat} {news : List Value} (hl : news.length = m * i.size) (hnews : ∀ j u, news[j]? = some u → w.cell? (a.add j) = some u) (h1 : ∀ u ∈ news, u.oneCell' = true)
    (hroom : sLen + m ≤ sCap) (hfit : off + sLen * i.size + news.length ≤ cur.size) :
    (Builtin.append_ #[t, t] ty #[.slice (some ⟨g, off, none⟩) sLen sCap, .slice (some a) m c]).run P w =
      .ok (.slice (some ⟨g, off, none⟩) (sLen + m) sCap) (w.setRow g (splV (off + sLen * i.size) news.toArray cur)) := by
  have hf := run_firstCells_some (P := P) w i.size m a m c news hl hnews
  have hst := run_storeCells_at P g (off + sLen * i.size) e2 news 0 cur w hg (by simpa using hfit) h1
  simp only [Nat.add_zero] at hst
  simp [Builtin.append_, run_underlying ht, sizeOf, typeInfo, hi, Builtin.lenOf, hroom, hf, Addr.add_lit, hst, splV]

theorem exec_append {a : Act} {x y : Operand} {t1 t2 : TypeId} (hop : o.op = .call ⟨.builtin .append, #[x, y], #[t1, t2]⟩) {w w' : World} {v : Value} (h : (Builtin.append_ #[t1, t2] o.type #[a.eval x, a.eval y]).run P w = .ok v w') :
    (execOp a.eval o).run P w = .ok (.value v) w' := by
  simp only [execOp, hop, resolve, Sem.run_bind, Sem.run_pure, Result.andThen_ok, invoke, builtin, List.map_toArray, List.map_cons, List.map_nil, h]

theorem CR.append {E : Emb} {xs ys : List RV} {us vs : Array Value} (h : CR E xs us) (k : CR E ys vs) : CR E (xs ++ ys) (us ++ vs) := by
  obtain ⟨h1, h2, h3⟩ := h
  obtain ⟨k1, k2, k3⟩ := k
  refine ⟨by simp [h1, k1], fun u hu => ?_, fun j d u hd hu => ?_⟩
  · rw [Array.toList_append, List.mem_append] at hu
    exact hu.elim (h2 u) (k2 u)
  · rw [List.getElem?_append, h1] at hd
    rw [Array.getElem?_append] at hu
    split at hd
    · rename_i hj; rw [if_pos hj] at hu; exact h3 j d u hd hu
    · rename_i hj; rw [if_neg hj] at hu; exact k3 _ d u hd hu

theorem CR.more {E : Emb} {xs : List RV} {us : Array Value} (h : CR E xs us) (vs : Array Value) : CR' E xs (us ++ vs) := by
  obtain ⟨h1, h2, h3⟩ := h
  refine ⟨by simp [h1], fun j d u hd hu => ?_⟩
  rw [Array.getElem?_append] at hu
  have hj : j < us.size := by
    rw [← h1]
    rcases Nat.lt_or_ge j xs.length with h | h
    · exact h
    · rw [List.getElem?_eq_none h] at hd; cases hd
  rw [if_pos hj] at hu
  exact ⟨h2 u (by simpa using Array.mem_of_getElem? hu), h3 j d u hd hu⟩

theorem mv_append {x y : Operand} {t1 t2 : TypeId} (hop : o.op = .call ⟨.builtin .append, #[x, y], #[t1, t2]⟩) (hlo : lo ≤ n) (hr : appR P lo h n t1 t2 (evR t x) (evR t y) = some r) : MOk P lo t h n o r := by
  unfold appR at hr
  split at hr <;> try cases hr
  rename_i e z by_ hsl
  split at hr <;> try cases hr
  rename_i zs hz
  have hb := (bif_opt hr).1
  replace hr := (bif_opt hr).2
  simp only [Bool.and_eq_true, decide_eq_true_eq] at hb
  obtain ⟨⟨hzl, hz0⟩, hub⟩ := hb
  obtain ⟨hu, i, hi, rfl, rfl⟩ := slE_spec hsl
  obtain ⟨i', zv, hi', hzv, rfl, hone⟩ := zcOf_spec hz
  rw [hi] at hi'
  cases hi'
  have hzs : zv.cells.size = i.size := by simpa using hzl
  have hxr := fun {E : Emb} {a : Act} (hs : OpdOk E t a o) => hs x (by simp [hop, Op.operands, Call.operands])
  have hyr := fun {E : Emb} {a : Act} (hs : OpdOk E t a o) => hs y (by simp [hop, Op.operands, Call.operands])
  split at hr
  · -- zeros onto nil
    rename_i kk k hx hy
    obtain ⟨hc, rfl⟩ := bif_some hr
    simp only [Bool.and_eq_true, decide_eq_true_eq] at hc
    obtain ⟨⟨⟨h1, h2⟩, h3⟩, h4⟩ := hc
    refine ⟨KH.new hlo hub _, fun m E a w hm hs hh => ?_⟩
    have hm : n + 1 ≤ m := hm
    have hxe := hxr hs
    have hye := hyr hs
    rw [hx] at hxe
    rw [hy] at hye
    generalize hxq : a.eval x = xq at hxe
    generalize hyq : a.eval y = yq at hye
    cases hxe
    cases hye
    have htn : ∃ kn, P.underlying t2 = some (.int kn) := by
      unfold tk at h1
      split at h1 <;> simp_all
    obtain ⟨kn, htn⟩ := htn
    have hk : ((k.toNat : Nat) : Int) = k := Int.toNat_of_nonneg (by omega)
    have hrun := Go.Lib.run_append_nil_zeros (P := P) w t1 t2 o.type e i zv kk kn hu htn hi hzv k.toNat (by omega) hz0 (by omega) (by omega)
    rw [hk] at hrun
    have hge := grownCap_ge w k.toNat 0 e
    have hcm := grownCap_le_maxLen w k.toNat 0 e (by unfold maxLen; omega)
    have hcr : CR' E (zerosR k.toNat (zv.cells.toList.map cv1)) (Builtin.zeroCells zv.cells k.toNat ++ Builtin.zeroCells zv.cells (grownCap w k.toNat 0 e - k.toNat)) := (zerosR_ok E hone k.toNat).more _
    have hsz : (Builtin.zeroCells zv.cells k.toNat ++ Builtin.zeroCells zv.cells (grownCap w k.toNat 0 e - k.toNat)).size = grownCap w k.toNat 0 e * i.size := by
      rw [Array.size_append, size_zeroCells, size_zeroCells, hzs, ← Nat.add_mul]
      congr 1
      omega
    generalize hus : Builtin.zeroCells zv.cells k.toNat ++ Builtin.zeroCells zv.cells (grownCap w k.toNat 0 e - k.toNat) = us at *
    obtain ⟨q1, q2⟩ := new_ok (us := us) hh hm hlo hub e (w' := w.drew.alloc (.cells us e)) rfl rfl ⟨rfl, Nat.le_succ _⟩ rfl (hcr.mono (updE_up hh (by omega) _))
    exact ⟨_, _, q1, q2, _, exec_append hop (by rw [hxq, hyq]; exact hrun), .sl n 0 k.toNat _ none true w.heap.size us.size _ (updE_same _ _ _) hge hcm (by omega) (fun _ => by omega) (fun _ h => by cases h)⟩
  · have ht2 := (bif_opt hr).1
    replace hr := (bif_opt hr).2
    obtain rfl : t2 = t1 := of_decide_eq_true ht2
    split at hr
    · cases hr
    · -- nothing
      rename_i news hsrc
      have key : ∀ (m : Nat) (E : Emb) (a : Act) (w : World), OpdOk E t a o → HS E h.get n m w → ∀ base l c, l ≤ c → a.eval x = .slice base l c → (execOp a.eval o).run P w = .ok (.value (.slice base l c)) w := fun m E a w hs hh base l c hle hxq => by
        obtain ⟨b, c2, hyq, _⟩ := src_okR hh (hyr hs) hsrc
        refine exec_append hop ?_
        rw [hxq, hyq]
        exact run_append_nothing' hu hi base l c hle
      split at hr <;> cases hr
      · rename_i hx
        refine ⟨KH.refl _ _ _, fun m E a w hm hs hh => ⟨E, w, hh, RX.refl _ _ _ _ _, .slice none 0 0, ?_, .nils⟩⟩
        have hxe := hxr hs
        rw [hx] at hxe
        generalize hxq : a.eval x = xq at hxe
        cases hxe
        exact key m E a w hs hh _ _ _ (Nat.le_refl _) hxq
      · rename_i b off len z' cap full hx
        refine ⟨KH.refl _ _ _, fun m E a w hm hs hh => ?_⟩
        have hxe := hxr hs
        rw [hx] at hxe
        have hxe0 := hxe
        generalize hxq : a.eval x = xq at hxe
        cases hxe with
        | sl _ _ _ _ _ _ g s c hE hl hmx hs' hf hc =>
          refine ⟨E, w, hh, RX.refl _ _ _ _ _, _, key m E a w hs hh _ _ _ hl hxq, ?_⟩
          rw [← hxq]; exact hxe0
    · rename_i k news hsrc
      split at hr
      · -- onto nil
        rename_i hx
        obtain ⟨hc, rfl⟩ := bif_some hr
        simp only [Bool.and_eq_true, decide_eq_true_eq] at hc
        refine ⟨KH.new hlo hub _, fun m E a w hm hs hh => ?_⟩
        have hm : n + 1 ≤ m := hm
        have hxe := hxr hs
        rw [hx] at hxe
        generalize hxq : a.eval x = xq at hxe
        cases hxe
        obtain ⟨b, c2, hyq, h0 | ⟨ad, nv, rfl, n1, n2, n3⟩⟩ := src_okR hh (hyr hs) hsrc
        · omega
        · have hrun := run_append_nil (P := P) w t2 o.type e i zv hu hi hzv ad (k + 1) c2 nv n1 n2 (by omega) (by omega) (by omega)
          have hge := grownCap_ge w (k + 1) 0 e
          have hcm := grownCap_le_maxLen w (k + 1) 0 e (by unfold maxLen; omega)
          have hcr : CR' E news (nv.toArray ++ Builtin.zeroCells zv.cells (grownCap w (k + 1) 0 e - (k + 1))) := n3.more _
          have hsz : (nv.toArray ++ Builtin.zeroCells zv.cells (grownCap w (k + 1) 0 e - (k + 1))).size = grownCap w (k + 1) 0 e * i.size := by
            rw [Array.size_append, size_zeroCells, hzs, List.size_toArray, n1, ← Nat.add_mul]
            congr 1
            omega
          generalize hus : nv.toArray ++ Builtin.zeroCells zv.cells (grownCap w (k + 1) 0 e - (k + 1)) = us at *
          obtain ⟨q1, q2⟩ := new_ok (us := us) hh hm hlo hub e (w' := w.drew.alloc (.cells us e)) rfl rfl ⟨rfl, Nat.le_succ _⟩ rfl (hcr.mono (updE_up hh (by omega) _))
          exact ⟨_, _, q1, q2, _, exec_append hop (by rw [hxq, hyq]; exact hrun), .sl n 0 (k + 1) _ none true w.heap.size us.size _ (updE_same _ _ _) hge hcm (by omega) (fun _ => by omega) (fun _ h => by cases h)⟩
      · rename_i b off len z' cap full hx
        split at hr <;> try cases hr
        rename_i e' cs hb
        have hc := (bif_opt hr).1
        replace hr := (bif_opt hr).2
        simp only [Bool.and_eq_true, decide_eq_true_eq] at hc
        obtain ⟨⟨⟨⟨he, rfl⟩, hb1⟩, hb2⟩, hb3⟩ := hc
        subst he
        have hgrow : Builtin.nextslicecap (len + (k + 1)) 0 = Builtin.nextslicecap (len + (k + 1)) 0 := rfl
        split at hr
        · rename_i c
          cases hroom : decide (len + (k + 1) ≤ c) with
          | true =>
            -- there is room
            rw [hroom] at hr
            have hroom : len + (k + 1) ≤ c := of_decide_eq_true hroom
            obtain ⟨hc, rfl⟩ := bif_some hr
            simp only [Bool.and_eq_true, decide_eq_true_eq] at hc
            obtain ⟨⟨h1, h2⟩, h3⟩ := hc
            refine ⟨KH.turn h1 h2 (by omega) _, fun m E a w hm hs hh => ?_⟩
            have hxe := hxr hs
            rw [hx] at hxe
            generalize hxq : a.eval x = xq at hxe
            cases hxe with
            | sl _ _ _ _ _ _ g s c' hE hl hmx hs' hf hc =>
              obtain rfl := hc _ rfl
              obtain ⟨g2, s2, hE2, us, hg, hus, hlen, hrel⟩ := hh.blk b _ hb
              rw [hE] at hE2
              cases hE2
              obtain ⟨bb, c2, hyq, h0 | ⟨ad, nv, rfl, n1, n2, n3⟩⟩ := src_okR hh (hyr hs) hsrc
              · omega
              · have hnl : news.length = (k + 1) * i.size := by rw [n3.1, List.size_toArray, n1]
                have hfit : off + len * i.size + news.length ≤ cs.length := by rw [hnl, Nat.add_assoc, ← Nat.add_mul]; exact h3
                have hrun := run_append_room' (P := P) (ty := o.type) (off := off) (sLen := len) (c := c2) hu hi hg n1 n2 (fun u hu => n3.2.1 u (by simpa using hu)) hroom (by rw [n1, ← hnl]; omega)
                have hsp := n3.spl (off := off + len * i.size) (old := cs) (us := us) ⟨by omega, hrel⟩ hfit
                have hspsz : (splV (off + len * i.size) nv.toArray us).size = us.size := splV_size (by rw [List.size_toArray, n1, ← hnl]; omega)
                obtain ⟨q1, q2⟩ := hh.turn (lo := lo) (b := b) (g := g) (s := s) h1 h2 (by rw [hb]; simp) hE (w' := w.setRow g (splV (off + len * i.size) nv.toArray us)) (by simp [World.setRow]) (fun g' hg' => setRow_other w g g' _ hg') rfl ⟨rfl, Nat.le_refl _⟩ rfl
                  (k := .cells e' (splR (off + len * i.size) news cs)) ⟨_, setRow_heap w g us _ e' _ hg, hspsz.trans hus, by have := hsp.1; omega, hsp.2⟩
                rw [get_set_fun (by omega)]
                exact ⟨E, _, q1, q2, _, exec_append hop (by rw [hxq, hyq]; exact hrun), .sl b off (len + (k + 1)) _ _ full g s c' hE hroom hmx hs' hf hc⟩
          | false =>
            -- there is none
            rw [hroom] at hr
            have hroom : ¬ (len + (k + 1) ≤ c) := of_decide_eq_false hroom
            cases hr
            refine ⟨KH.new hlo hub _, fun m E a w hm hs hh => ?_⟩
            have hm : n + 1 ≤ m := hm
            have hxe := hxr hs
            rw [hx] at hxe
            generalize hxq : a.eval x = xq at hxe
            cases hxe with
            | sl _ _ _ _ _ _ g s c' hE hl hmx hs' hf hc =>
              obtain rfl := hc _ rfl
              obtain ⟨g2, s2, hE2, us, hg, hus, hlen, hrel⟩ := hh.blk b _ hb
              rw [hE] at hE2
              cases hE2
              obtain ⟨bb, c2, hyq, h0 | ⟨ad, nv, rfl, n1, n2, n3⟩⟩ := src_okR hh (hyr hs) hsrc
              · omega
              · have holds : ∀ j v, ((us.toList.drop off).take (len * i.size))[j]? = some v → w.cell? ((⟨g, off, none⟩ : Addr).add j) = some v := fun j v hv => by
                  rw [List.getElem?_take] at hv
                  split at hv <;> try cases hv
                  rw [List.getElem?_drop, Array.getElem?_toList] at hv
                  rw [Addr.add_lit]
                  unfold World.cell?
                  simp only [hg]
                  simpa using hv
                have hrun := run_append_grow (P := P) w t2 o.type e' i zv hu hi hzv ⟨g, off, none⟩ len c' ((us.toList.drop off).take (len * i.size)) (by simp; omega) holds ad (k + 1) c2 nv n1 n2 (by omega) (by omega) (growslice_fits (by omega) hb2)
                have hge := grownCap_ge w (len + (k + 1)) c' e'
                have hcm := grownCap_le_maxLen w (len + (k + 1)) c' e' (by unfold maxLen; omega)
                have hcro : CR E ((cs.drop off).take (len * i.size)) ((us.toList.drop off).take (len * i.size)).toArray := by
                  refine ⟨by simp; omega, one_of hrel hb3 (by omega), fun j d u hd hu => ?_⟩
                  rw [List.getElem?_toArray, List.getElem?_take] at hu
                  rw [List.getElem?_take] at hd
                  split at hd <;> try cases hd
                  rename_i hj
                  rw [if_pos hj, List.getElem?_drop, Array.getElem?_toList] at hu
                  rw [List.getElem?_drop] at hd
                  exact (hrel _ d u hd hu).2
                have hcr := (hcro.append n3).more (Builtin.zeroCells zv.cells (grownCap w (len + (k + 1)) c' e' - (len + (k + 1))))
                have hsz : (((us.toList.drop off).take (len * i.size)).toArray ++ nv.toArray ++ Builtin.zeroCells zv.cells (grownCap w (len + (k + 1)) c' e' - (len + (k + 1)))).size = grownCap w (len + (k + 1)) c' e' * i.size := by
                  have e1 : ((us.toList.drop off).take (len * i.size)).length = len * i.size := by simp; omega
                  rw [Array.size_append, Array.size_append, size_zeroCells, hzs, List.size_toArray, List.size_toArray, n1, e1, ← Nat.add_mul, ← Nat.add_mul]
                  congr 1
                  omega
                generalize hus2 : ((us.toList.drop off).take (len * i.size)).toArray ++ nv.toArray ++ Builtin.zeroCells zv.cells (grownCap w (len + (k + 1)) c' e' - (len + (k + 1))) = us2 at *
                obtain ⟨q1, q2⟩ := new_ok (us := us2) hh hm hlo hub e' (w' := w.drew.alloc (.cells us2 e')) rfl rfl ⟨rfl, Nat.le_succ _⟩ rfl (hcr.mono (updE_up hh (by omega) _))
                exact ⟨_, _, q1, q2, _, exec_append hop (by rw [hxq, hyq]; exact hrun), .sl n 0 (len + (k + 1)) _ none true w.heap.size us2.size _ (updE_same _ _ _) hge hcm (by omega) (fun _ => by omega) (fun _ h => by cases h)⟩
        · -- the room is not known
          obtain ⟨hc, rfl⟩ := bif_some hr
          simp only [Bool.and_eq_true, decide_eq_true_eq] at hc
          obtain ⟨⟨⟨hfull, hoff⟩, h1⟩, h2⟩ := hc
          subst hoff
          refine ⟨(KH.turn h1 h2 (by omega) _).trans (KH.new hlo hub _), fun m E a w hm hs hh => ?_⟩
          have hm : n + 1 ≤ m := hm
          have hxe := hxr hs
          rw [hx] at hxe
          generalize hxq : a.eval x = xq at hxe
          cases hxe with
          | sl _ _ _ _ _ _ g s c' hE hl hmx hs' hf hc =>
            have hcs := hf hfull
            obtain ⟨g2, s2, hE2, us, hg, hus, hlen, hrel⟩ := hh.blk b _ hb
            rw [hE] at hE2
            cases hE2
            obtain ⟨bb, c2, hyq, h0 | ⟨ad, nv, rfl, n1, n2, n3⟩⟩ := src_okR hh (hyr hs) hsrc
            · omega
            · have hown : w.ownsRow 0 e' i.size (.slice (some ⟨g, 0, none⟩) len c') len (us.toList.take (len * i.size)) :=
                ⟨by simp; omega, .inr ⟨g, c', us, rfl, Nat.zero_le _, hg, hl, hmx, by omega, rfl⟩⟩
              obtain ⟨x', w', hrun, hown', hgr, _, hat⟩ := run_append_own_at (P := P) w 0 t2 o.type e' i zv i.size i.bytes hu hi hzv rfl rfl hzs hz0 _ len _ hown ad (k + 1) c2 nv n1 n2 (fun u hu => n3.2.1 u (by simpa using hu)) (by unfold maxLen; omega) hb2 (Nat.zero_le _)
              have hcro : CR E (cs.take (len * i.size)) (us.toList.take (len * i.size)).toArray := by
                refine ⟨by simp; omega, one_of (off := 0) hrel (by omega) (by omega), fun j d u hd hu => ?_⟩
                rw [List.getElem?_toArray, List.getElem?_take] at hu
                rw [List.getElem?_take] at hd
                split at hd <;> try cases hd
                rename_i hj
                rw [if_pos hj, Array.getElem?_toList] at hu
                exact (hrel _ d u hd hu).2
              have hcr := hcro.append n3
              rcases hown'.2 with ⟨rfl, h0⟩ | ⟨g2, cap2, cur, rfl, _, hg2, hnc, hcm, hcsz, htake⟩
              · omega
              · have hcr' : CR' E (cs.take (len * i.size) ++ news) cur := by
                  obtain ⟨r1, r2, r3⟩ := hcr
                  have r1 : (cs.take (len * i.size) ++ news).length = (len + (k + 1)) * i.size := by
                    rw [r1, Array.size_append, List.size_toArray, List.size_toArray, n1, Nat.add_mul]
                    simp; omega
                  refine ⟨by rw [r1, hcsz]; exact Nat.mul_le_mul_right _ hnc, fun j d u hd hu => ?_⟩
                  have hj : j < (len + (k + 1)) * i.size := by
                    rw [← r1]
                    rcases Nat.lt_or_ge j (cs.take (len * i.size) ++ news).length with h | h
                    · exact h
                    · rw [List.getElem?_eq_none h] at hd; cases hd
                  have h9 : (us.toList.take (len * i.size) ++ nv)[j]? = some u := by
                    rw [← htake, List.getElem?_take, if_pos hj, Array.getElem?_toList]; exact hu
                  have h9 : ((us.toList.take (len * i.size)).toArray ++ nv.toArray)[j]? = some u := by simpa using h9
                  exact ⟨r2 u (by simpa using Array.mem_of_getElem? h9), r3 j d u hd h9⟩
                have hsize : g < w.heap.size := hh.old b g s hE
                have hat2 : g2 = g ∨ g2 = w.heap.size := by
                  rcases hat with h | h
                  · have : some g2 = some g := h
                    exact .inl (by cases this; rfl)
                  · have : some g2 = some w.heap.size := h
                    exact .inr (by cases this; rfl)
                obtain ⟨q1, q2, q3⟩ := hh.regrow (lo := lo) (by omega) hlo h1 h2 (by rw [hb]; simp) hE (w' := w') hgr.os ⟨hgr.tape, Go.Sg.run_drawn _ hrun⟩ hgr.output hgr.size (fun g' hg' hne => hgr.block g' hg' (by intro e; cases e; exact hne rfl)) (g2 := g2) (s2 := cur.size) hat2
                  (by rcases Nat.lt_or_ge g2 w'.heap.size with h | h
                      · exact h
                      · rw [Array.getElem?_eq_none h] at hg2; cases hg2) (k := .cells e' (cs.take (len * i.size) ++ news)) ⟨cur, hg2, rfl, hcr'.1, (hcr'.mono (updE_up hh (by omega) _)).2⟩
                rw [get_set_fun hub, get_set_fun (by omega)]
                exact ⟨_, _, q1, q2, _, exec_append hop (by rw [hxq, hyq]; exact hrun), .sl n 0 (len + (k + 1)) _ none true g2 cur.size cap2 (updE_same _ _ _) hnc hcm (by omega) (fun _ => by omega) (fun _ h => by cases h)⟩
      · cases hr
end
end Go.Rv

/- Running code on the heap of numbers: calls, regions in the text's order, regions in any order, code, functions. -/
set_option linter.unusedVariables false
set_option linter.unusedSimpArgs false
namespace Go.Rv
open Go.RowKit Go.Sg

/-- The fence that lets everything in; in a round of a range over a function or not. -/
def FR (ro : Option Nat) : Fence := { Fence.wide with round := ro }
theorem FR_none : FR none = Fence.wide := rfl
theorem room_FR (ro : Option Nat) (n : Nat) : (FR ro).room n := fun _ h => by simp [FR, Fence.wide] at h
theorem depth_FR (ro : Option Nat) {n k : Nat} : (FR ro).depth.isSome = true → k ≤ n := fun h => by simp [FR, Fence.wide] at h
theorem callsIn_FR {ro : Option Nat} {n : Nat} {P : Program} {f : FuncId} {args : Array Value} {w : World} {R : Ending → World → Prop} (h : Calls P f args w R) : CallsIn (FR ro) n P f args w R :=
  ⟨trivial, fun cs _ => let ⟨e, w', fr, r, s, x⟩ := h cs; ⟨e, w', fr, r, comesIn_wide.2 s, x⟩⟩
theorem roundIn_FR {ro : Option Nat} {n k : Nat} {P : Program} {l : Nat} {f : FuncId} {tmps : Array Value} {asg body : Code} {w : World} {R : Ending → World → Prop} (h : RoundIn (FR none) n P l f tmps asg body w R) : RoundIn (FR ro) k P l f tmps asg body w R :=
  ⟨trivial, fun c cs _ => h.2 c cs (room_FR _ _)⟩

/-- Calls: the barrier, the function or the loop's record, its arguments, the heap, the next number. -/
abbrev Calr := Nat → FuncId ⊕ Nat → List RV → Tr Blk → Nat → Option (RV × Tr Blk × Nat)

def EndsIn (lo : Nat) (E : Emb) (h : Tr Blk) (n : Nat) (w : World) (r : RV) (h' : Tr Blk) (n' m : Nat) (e : Ending) (w' : World) : Prop :=
  ∃ y E', e = .returned y ∧ HS E' h'.get n' m w' ∧ RX lo E h.get n w E' h'.get n' w' ∧ Rr E' r y
def CallOk (P : Program) (lo : Nat) (f : FuncId ⊕ Nat) (l : List RV) (h : Tr Blk) (n : Nat) (r : RV) (h' : Tr Blk) (n' : Nat) : Prop :=
  KH lo h h' n n' ∧ ∀ (m : Nat) (E : Emb) (w : World) (vals : Array Value), n' ≤ m → HS E h.get n m w → vals.size = l.length → (∀ (j : Nat) (d : RV) (u : Value), l[j]? = some d → vals[j]? = some u → Rr E d u) →
    match f with
    | .inl f => Calls P f vals w (EndsIn lo E h n w r h' n' m)
    | .inr b => ∀ g s, E b = some (g, s) → ∃ fn tmps asg body, (Instr.yield g vals).run P w = .ok (.round g fn tmps asg body) w ∧ RoundIn (FR none) 0 P g fn tmps asg body w (EndsIn lo E h n w r h' n' m)
def CallsOk (P : Program) (call : Calr) : Prop := ∀ lo f l h n r h' n', call lo f l h n = some (r, h', n') → lo ≤ n → CallOk P lo f l h n r h' n'

def calleeR (d : RV) (args : List RV) : Option ((FuncId ⊕ Nat) × List RV) :=
  match d with
  | .fn f a b => some (.inl f, a ++ args ++ b)
  | .yl b => some (.inr b, args)
  | _ => none

def okC (P : Program) : FuncId ⊕ Nat → Bool
  | .inl f => hasBody P f
  | .inr _ => true
def runR (P : Program) (call : Calr) (lo : Nat) (t : Tr RV) (h : Tr Blk) (n : Nat) (op : Op) : Option Mv :=
  match op with
  | .call ⟨.value f, args, _⟩ => (match calleeR (evR t f) (args.toList.map (evR t)) with
    | some (fid, l) => bif okC P fid then (call lo fid l h n).map fun q => (some q.1, q.2.1, q.2.2) else none
    | none => none)
  | op => match puR P t h.get op with
    | some v => some (some v, h, n)
    | none => mvR P lo t h n op

/-- An operation that is run. -/
def SOk (P : Program) (lo : Nat) (t : Tr RV) (h : Tr Blk) (n : Nat) (o : Oper) (r : Mv) : Prop :=
  KH lo h r.2.1 n r.2.2 ∧ ∀ (ro : Option Nat) (m : Nat) (E : Emb) (a : Act) (w : World), r.2.2 ≤ m → OpdOk E t a o → HS E h.get n m w → ∀ (next : Act → World → Prop) (Q' : Exit → Act → World → Prop),
    (∀ E' y w', HS E' r.2.1.get r.2.2 m w' → RX lo E h.get n w E' r.2.1.get r.2.2 w' → Rr E' (r.1.getD .nov) y → next (a.put o.dst y) w') → o.wpIn (FR ro) 0 P a w next Q'

section
variable {P : Program} {nt lo : Nat} {t : Tr RV} {h : Tr Blk} {n : Nat} {o : Oper} {r : Mv} {call : Calr}

/-- An operation that gives a value or none is no deferring one. -/
theorem semAt_value {ro : Option Nat} {ρ : Operand → Value} {w w' : World} {y : Value} (h : (execOp ρ o).run P w = .ok (.value y) w') : (o.semAt ro ρ).run P w = .ok (.value y) w' := by
  rw [Oper.semAt_eq ro ρ o fun c hc => ?_]
  · exact h
  · simp only [execOp, hc, Sem.run_bind] at h
    cases hq : (resolve ρ c o.type).run P w with
    | ok d w2 => rw [hq] at h; simp at h
    | halt x w2 => rw [hq] at h; simp [Result.andThen] at h
theorem semAt_skip {ro : Option Nat} {ρ : Operand → Value} {w w' : World} (h : (execOp ρ o).run P w = .ok .skip w') : (o.semAt ro ρ).run P w = .ok .skip w' := by
  rw [Oper.semAt_eq ro ρ o fun c hc => ?_]
  · exact h
  · simp only [execOp, hc, Sem.run_bind] at h
    cases hq : (resolve ρ c o.type).run P w with
    | ok d w2 => rw [hq] at h; simp at h
    | halt x w2 => rw [hq] at h; simp [Result.andThen] at h

theorem MOk.sOk (hm : MOk P lo t h n o r) : SOk P lo t h n o r := by
  refine ⟨hm.1, fun ro m E a w hle hs hh next Q' hn => ⟨fun _ _ => trivial, ?_⟩⟩
  obtain ⟨E', w', h1, h2, h3⟩ := hm.2 m E a w hle hs hh
  cases hr : r.1 with
  | none =>
    rw [hr] at h3
    simp only at h3
    rw [semAt_skip h3]
    exact hn E' _ w' h1 h2 (by rw [hr]; exact .nov)
  | some v =>
    rw [hr] at h3
    obtain ⟨y, h4, h5⟩ := h3
    rw [semAt_value h4]
    exact hn E' y w' h1 h2 (by rw [hr]; exact h5)

theorem mv_ok (hlo : lo ≤ n) (hr : mvR P lo t h n o.op = some r) : MOk P lo t h n o r := by
  cases hop : o.op with
  | alloc ty => exact mv_alloc hop hlo hr
  | box ty x => exact mv_box hop hlo hr
  | build ty parts => exact mv_build hop hr
  | buildSlice ty k parts => exact mv_lit hop hlo hr
  | makeSlice ty x y => exact mv_make hop hlo hr
  | store ty ad x => exact mv_store hop hr
  | makeMap ty x => exact mv_map hop hlo hr
  | range ty x => exact mv_range hop hlo hr
  | next x st =>
    cases st with
    | true => exact mv_next hop hr
    | false => rw [hop] at hr; cases hr
  | mapUpdate ty m k x => rw [hop] at hr; exact mv_upd (.inl hop) hr
  | insert ty m k x => rw [hop] at hr; exact mv_upd (.inr hop) hr
  | call c =>
    obtain ⟨cl, args, ts⟩ := c
    cases cl with
    | builtin b =>
      cases b with
      | append =>
        rw [hop] at hr
        simp only [mvR] at hr
        split at hr
        · rename_i x y t1 t2 hargs hts
          obtain rfl : args = #[x, y] := by apply Array.ext'; simpa using hargs
          obtain rfl : ts = #[t1, t2] := by apply Array.ext'; simpa using hts
          exact mv_append hop hlo hr
        · cases hr
      | delete =>
        rw [hop] at hr
        simp only [mvR] at hr
        split at hr
        · rename_i m k t1 tl hargs hts
          exact mv_del hop hargs hts hr
        · cases hr
      | _ => rw [hop] at hr; cases hr
    | _ => rw [hop] at hr; cases hr
  | _ => rw [hop] at hr; cases hr

theorem call_ok (hc : CallsOk P call) {f : Operand} {args : Array Operand} {ts : Array TypeId} (hop : o.op = .call ⟨.value f, args, ts⟩) (hlo : lo ≤ n) (hr : runR P call lo t h n o.op = some r) : SOk P lo t h n o r := by
  rw [hop] at hr
  simp only [runR] at hr
  split at hr <;> try cases hr
  rename_i fid l hl
  obtain ⟨hb, hr⟩ := bif_opt hr
  rw [Option.map_eq_some_iff] at hr
  obtain ⟨⟨v, h', n'⟩, hq, rfl⟩ := hr
  obtain ⟨k1, k2⟩ := hc _ _ _ _ _ _ _ _ hq hlo
  refine ⟨k1, fun ro m E a w hm hs hh next Q' hn => ⟨fun _ _ => trivial, ?_⟩⟩
  rw [Oper.semAt_eq _ _ _ fun c hc => by rw [hop] at hc; cases hc]
  unfold OpdOk at hs
  rw [hop] at hs
  have hf := hs f (by simp [Op.operands, Call.operands])
  have hargs : ∀ x ∈ args.toList, Rr E (evR t x) (a.eval x) := fun x hx => hs x (by simp [Op.operands, Call.operands]; exact .inr (by simpa using hx))
  generalize evR t f = d at *
  unfold calleeR at hl
  split at hl <;> cases hl
  rotate_left
  · rename_i b
    generalize hv : a.eval f = fv at *
    cases hf with
    | yl _ g s hE =>
      obtain ⟨fn, tmps, asg, body, q1, q2⟩ := k2 m E w (args.map a.eval) hm hh (by simp) (fun j d u hd hu => by
        simp only [List.getElem?_map, Option.map_eq_some_iff, Array.getElem?_toList, Array.getElem?_map] at hd hu
        obtain ⟨x, hx, rfl⟩ := hd
        obtain ⟨y, hy, rfl⟩ := hu
        rw [hx] at hy
        cases hy
        exact hargs x (by simpa using Array.mem_of_getElem? hx)) g s hE
      have hrun : (execOp a.eval o).run P w = .ok (.round g fn tmps asg body) w := by simp [execOp, hop, resolve, hv, Deferred.ofValue, invoke, q1]
      rw [hrun, Oper.uponIn_round]
      refine ⟨depth_FR _, roundIn_FR (q2.mono ?_)⟩
      rintro e w' ⟨y, E', rfl, p1, p2, p3⟩
      exact hn E' y w' p1 p2 p3
  rename_i fid first captured
  have hb : hasBody P fid = true := hb
  generalize hv : a.eval f = fv at *
  cases hf with
  | fn _ _ _ us vs hf1 hc1 hfr hcr =>
    have hcf : ∀ vals : Array Value, (callFunc fid vals).run P w = .ok (.enter fid vals) w := fun vals => by
      unfold hasBody at hb
      cases hP : P.funcs[fid]? with
      | none => rw [hP] at hb; cases hb
      | some fn =>
        rw [hP] at hb
        simp only [Bool.and_eq_true, Bool.not_eq_true'] at hb
        have hn : fn.body.isNone = false := by cases h : fn.body <;> simp_all
        simp only [callFunc, Sem.run_bind, run_program, Result.andThen_ok, hP, hb.2, hn, Bool.false_eq_true, if_false, Sem.run_pure]
    have hrun : (execOp a.eval o).run P w = .ok (.enter fid (us ++ args.map a.eval ++ vs)) w := by simp [execOp, hop, resolve, hv, Deferred.ofValue, invoke, hcf]
    rw [hrun, Oper.uponIn_enter]
    refine ⟨depth_FR _, callsIn_FR (Calls.mono (k2 m E w (us ++ args.map a.eval ++ vs) hm hh (by simp [hf1, hc1]) fun j d u hd hu => ?_) ?_)⟩
    · rw [List.getElem?_append, List.getElem?_append] at hd
      rw [Array.getElem?_append, Array.getElem?_append] at hu
      simp only [List.length_append, List.length_map, Array.length_toList, Array.size_append, Array.size_map] at hd hu
      rw [hf1] at hd
      split at hd
      · rename_i h1
        rw [if_pos h1] at hu
        split at hd
        · rename_i h2
          rw [if_pos h2] at hu
          exact hfr j d u hd hu
        · rename_i h2
          rw [if_neg h2] at hu
          simp only [List.getElem?_map, Option.map_eq_some_iff, Array.getElem?_toList, Array.getElem?_map] at hd hu
          obtain ⟨x, hx, rfl⟩ := hd
          obtain ⟨y, hy, rfl⟩ := hu
          rw [hx] at hy
          cases hy
          exact hargs x (by simpa using Array.mem_of_getElem? hx)
      · rename_i h1
        rw [if_neg h1] at hu
        exact hcr _ d u hd hu
    · rintro e w' ⟨y, E', rfl, q1, q2, q3⟩
      exact hn E' y w' q1 q2 q3

theorem runR_ok (hc : CallsOk P call) (hlo : lo ≤ n) (hr : runR P call lo t h n o.op = some r) : SOk P lo t h n o r := by
  by_cases hcl : ∃ f args ts, o.op = .call ⟨.value f, args, ts⟩
  · obtain ⟨f, args, ts, hop⟩ := hcl
    exact call_ok hc hop hlo hr
  · have hr' : (match puR P t h.get o.op with
      | some v => some (some v, h, n)
      | none => mvR P lo t h n o.op) = some r := by
      cases hop : o.op with
      | call c =>
        obtain ⟨cl, args, ts⟩ := c
        cases cl with
        | value f => exact absurd ⟨f, args, ts, hop⟩ hcl
        | _ => rw [hop] at hr; exact hr
      | _ => rw [hop] at hr; exact hr
    split at hr'
    · rename_i v hv
      cases hr'
      refine ⟨KH.refl _ _ _, fun ro m E a w hm hs hh next Q' hn => ⟨fun _ _ => trivial, ?_⟩⟩
      obtain ⟨y, h1, h2⟩ := puR_ok hh o hs hv
      rw [semAt_value h1]
      exact hn E y w hh (RX.refl _ _ _ _ _) h2
    · exact (mv_ok hlo hr').sOk

/-! ## Guards -/

def gAt (ops : List Oper) (t : Tr RV) (j : Nat) (want : Bool) : Option Bool :=
  match ops[j]? with
  | some o => match o.dst with
    | some d => gW want ((t.get d).getD .nov)
    | none => none
  | none => none

/-- The slot that a guard looks at. -/
def gSlot (ops : List Oper) (o : Oper) : Option Nat :=
  match o.guard with
  | none => none
  | some (j, _) => match ops[j]? with
    | some oj => oj.dst
    | none => none

def evO (P : Program) (call : Calr) (lo : Nat) (ops : List Oper) (t : Tr RV) (h : Tr Blk) (n : Nat) (o : Oper) : Option Mv :=
  match o.guard with
  | none => runR P call lo t h n o.op
  | some (j, want) => match gAt ops t j want with
    | some true => runR P call lo t h n o.op
    | some false => some (some .nov, h, n)
    | none => none

def GOk (P : Program) (lo : Nat) (ops : List Oper) (t : Tr RV) (h : Tr Blk) (n : Nat) (o : Oper) (r : Mv) : Prop :=
  KH lo h r.2.1 n r.2.2 ∧ ∀ (ro : Option Nat) (m : Nat) (E : Emb) (a : Act) (w : World), r.2.2 ≤ m → OpdOk E t a o → (∀ d, gSlot ops o = some d → d < a.tmps.size ∧ Rr E ((t.get d).getD .nov) (a.tmps.getD d undef)) → HS E h.get n m w →
    ∀ (next : Act → World → Prop) (Q' : Exit → Act → World → Prop), (∀ E' y w', HS E' r.2.1.get r.2.2 m w' → RX lo E h.get n w E' r.2.1.get r.2.2 w' → Rr E' (r.1.getD .nov) y → next (a.put o.dst y) w') →
    if Region.wanted o (yielded ops.toArray a.tmps) = true then o.wpIn (FR ro) 0 P a w next Q' else (∀ f, o.about P w a.eval = some f → (FR ro).fn f) ∧ next (a.put o.dst undef) w

theorem gAt_sound {ops : List Oper} {E : Emb} {a : Act} {j : Nat} {want g : Bool} (hg : o.guard = some (j, want)) (hs : ∀ d, gSlot ops o = some d → d < a.tmps.size ∧ Rr E ((t.get d).getD .nov) (a.tmps.getD d undef)) (h : gAt ops t j want = some g) :
    Region.wanted o (yielded ops.toArray a.tmps) = g := by
  unfold gAt at h
  split at h <;> try cases h
  rename_i oj hj
  split at h <;> try cases h
  rename_i d hd
  obtain ⟨hlt, hsl⟩ := hs d (by unfold gSlot; rw [hg]; simp only [hj, hd])
  have hy : yielded ops.toArray a.tmps j = match a.tmps.getD d undef with | .bool b => some b | _ => none := by
    unfold yielded
    simp only [List.getElem?_toArray, hj, Option.bind_some, hd, Array.getElem?_eq_getElem hlt, Array.getD_eq_getD_getElem?, Option.getD_some]
    cases a.tmps[d] <;> rfl
  unfold Region.wanted
  rw [hg]
  simp only [hy]
  generalize a.tmps.getD d undef = x at *
  unfold gW at h
  split at h
  · rename_i b hρ
    rw [hρ] at hsl
    cases hsl
    cases h
    cases b <;> cases want <;> rfl
  · rename_i hρ
    rw [hρ] at hsl
    cases hsl
    cases h
    rfl
  · cases h

theorem evO_ok (hc : CallsOk P call) (hlo : lo ≤ n) {ops : List Oper} (hr : evO P call lo ops t h n o = some r) : GOk P lo ops t h n o r := by
  unfold evO at hr
  split at hr
  · rename_i hg
    obtain ⟨k1, k2⟩ := runR_ok hc hlo hr
    refine ⟨k1, fun ro m E a w hm hs hgs hh next Q' hn => ?_⟩
    rw [if_pos (by simp [Region.wanted, hg])]
    exact k2 ro m E a w hm hs hh next Q' hn
  · rename_i j want hg
    split at hr
    · rename_i hgt
      obtain ⟨k1, k2⟩ := runR_ok hc hlo hr
      refine ⟨k1, fun ro m E a w hm hs hgs hh next Q' hn => ?_⟩
      rw [gAt_sound hg hgs hgt, if_pos rfl]
      exact k2 ro m E a w hm hs hh next Q' hn
    · rename_i hgt
      cases hr
      refine ⟨KH.refl _ _ _, fun ro m E a w hm hs hgs hh next Q' hn => ?_⟩
      rw [gAt_sound hg hgs hgt, if_neg (by simp)]
      exact ⟨fun _ _ => trivial, hn E undef w hh (RX.refl _ _ _ _ _) .nov⟩
    · cases hr

/-! ## Regions in the text's order -/

structure St where
  t : Tr RV
  h : Tr Blk
  n : Nat

def setD (t : Tr RV) (dst : Option Nat) (v : RV) : Tr RV := match dst with
  | some d => t.set d (some v)
  | none => t

def evOps (P : Program) (call : Calr) (lo : Nat) (ops : List Oper) : List Oper → St → Option St
  | [], s => some s
  | o :: l, ⟨t, h, n⟩ => match evO P call lo ops t h n o with
    | some (v, h', n') => evOps P call lo ops l ⟨setD t o.dst (v.getD .nov), h', n'⟩
    | none => none

def regOkR (nt : Nat) (l : List Oper) : Bool := decide (nt ≤ ub) && l.all fun o => opsOk nt o && dstOk nt o
theorem regOkR_get {l : List Oper} (h : regOkR nt l = true) : nt ≤ ub ∧ ∀ o ∈ l, opsOk nt o = true ∧ dstOk nt o = true := by
  unfold regOkR at h
  simp only [Bool.and_eq_true, decide_eq_true_eq, List.all_eq_true] at h
  exact ⟨h.1, fun o ho => h.2 o ho⟩

theorem SS.putD {E : Emb} {a : Act} (hs : SS nt E t a) (hnt : nt ≤ ub) {dst : Option Nat} (hd : ∀ d, dst = some d → d < nt) {v : RV} {x : Value} (hr : Rr E v x) : SS nt E (setD t dst v) (a.put dst x) := by
  cases dst with
  | none => exact hs
  | some d => exact hs.put (hd d rfl) (by have := hd d rfl; omega) hr

theorem dstOk_lt (h : dstOk nt o = true) : ∀ d, o.dst = some d → d < nt := fun d hd => by unfold dstOk at h; rw [hd] at h; simpa using h

theorem gSlot_lt {ops : List Oper} (hall : ∀ o ∈ ops, dstOk nt o = true) : ∀ d, gSlot ops o = some d → d < nt := fun d hd => by
  unfold gSlot at hd
  split at hd <;> try cases hd
  split at hd <;> try cases hd
  rename_i oj hj
  exact dstOk_lt (hall oj (List.mem_of_getElem? hj)) d hd

theorem SS.gslot {E : Emb} {a : Act} (hs : SS nt E t a) {ops : List Oper} (hall : ∀ o ∈ ops, dstOk nt o = true) : ∀ d, gSlot ops o = some d → d < a.tmps.size ∧ Rr E ((t.get d).getD .nov) (a.tmps.getD d undef) := fun d hd =>
  have := gSlot_lt hall d hd
  ⟨by rw [hs.size]; exact this, hs.slot d this⟩

theorem evOps_ok (hc : CallsOk P call) {ops : List Oper} (hreg : regOkR nt ops = true) : ∀ (l : List Oper) (s s' : St), (∀ o ∈ l, o ∈ ops) → evOps P call lo ops l s = some s' → lo ≤ s.n → KH lo s.h s'.h s.n s'.n ∧
    ∀ (ro : Option Nat) (m : Nat) (E : Emb) (a : Act) (w : World) (Q' : Exit → Act → World → Prop), s'.n ≤ m → SS nt E s.t a → HS E s.h.get s.n m w → (∀ E' a' w', SS nt E' s'.t a' → a'.defers = a.defers → HS E' s'.h.get s'.n m w' → RX lo E s.h.get s.n w E' s'.h.get s'.n w' → Q' .normal a' w') → wpListIn (FR ro) 0 P ops.toArray Q' l a w
  | [], s, s', _, hr, hlo => by
    unfold evOps at hr
    cases hr
    exact ⟨KH.refl _ _ _, fun ro m E a w Q' hm hs hh hq => hq E a w hs rfl hh (RX.refl _ _ _ _ _)⟩
  | o :: l, ⟨t, h, n⟩, s', hmem, hr, hlo => by
    unfold evOps at hr
    split at hr
    · rename_i v h' n' hv
      obtain ⟨k1, k2⟩ := evO_ok hc hlo hv
      obtain ⟨i1, i2⟩ := evOps_ok hc hreg l _ s' (fun o ho => hmem o (by simp [ho])) hr (Nat.le_trans hlo k1.nn)
      obtain ⟨hnt, hall⟩ := regOkR_get hreg
      obtain ⟨ho1, ho2⟩ := hall o (hmem o (by simp))
      refine ⟨k1.trans i1, fun ro m E a w Q' hm hs hh hq => wpListIn_step fun K hK => ?_⟩
      have hm1 : n' ≤ m := Nat.le_trans i1.nn hm
      refine k2 ro m E a w hm1 (hs.opds ho1) (hs.gslot fun o ho => (hall o ho).2) hh K Q' fun E' y w' q1 q2 q3 => hK _ _ ?_
      refine i2 ro m E' _ w' Q' hm ((hs.mono (hh.up q2 hm1)).putD hnt (dstOk_lt ho2) q3) q1 fun E2 a2 w2 p1 p2 p3 p4 => hq E2 a2 w2 p1 (by rw [p2, put_defers]) p3 (q2.trans p4 hh hm1 hlo)
    · cases hr
end
end Go.Rv

/- Regions that draw their order, on the heap of numbers: what an operation gives is found in the part of the heap that is there in every order. -/
set_option linter.unusedVariables false
set_option linter.unusedSimpArgs false
namespace Go.Rv
open Go.RowKit Go.Sg

/-! ## Who waits for whom -/

def mask1 (acc : List Nat) : List Edge → Nat → Nat
  | [], s => s
  | e :: l, s => mask1 acc l (bif Region.binds .any e then s ||| 2 ^ e.on ||| acc.getD e.on 0 else s)
def masks : List Oper → List Nat → List Nat
  | [], acc => acc
  | o :: l, acc => masks l (acc ++ [mask1 acc o.after.toList 0])

theorem mask1_bit (acc : List Nat) (j : Nat) : ∀ (l : List Edge) (s : Nat), (mask1 acc l s).testBit j = true → s.testBit j = true ∨ ∃ e ∈ l, Region.binds .any e = true ∧ (e.on = j ∨ (acc.getD e.on 0).testBit j = true)
  | [], s, h => .inl h
  | e :: l, s, h => by
    unfold mask1 at h
    rcases mask1_bit acc j l _ h with h1 | ⟨e', he, h1⟩
    · cases hb : Region.binds .any e with
      | false => rw [hb] at h1; exact .inl h1
      | true =>
        rw [hb] at h1
        simp only [cond_true, Nat.testBit_or, Bool.or_eq_true, Nat.testBit_two_pow, decide_eq_true_eq] at h1
        rcases h1 with (h1 | h1) | h1
        · exact .inl h1
        · exact .inr ⟨e, by simp, hb, .inl h1⟩
        · exact .inr ⟨e, by simp, hb, .inr h1⟩
    · exact .inr ⟨e', by simp [he], h1⟩

theorem masks_pre : ∀ (l : List Oper) (acc : List Nat) (q : Nat), q < acc.length → (masks l acc).getD q 0 = acc.getD q 0
  | [], acc, q, h => rfl
  | o :: l, acc, q, h => by
    unfold masks
    rw [masks_pre l _ q (by simp; omega)]
    simp [List.getD_eq_getElem?_getD, List.getElem?_append, h]

theorem masks_bit : ∀ (l : List Oper) (acc : List Nat) (i : Nat) (o : Oper) (j : Nat), l[i]? = some o → ((masks l acc).getD (acc.length + i) 0).testBit j = true →
    ∃ e ∈ o.after.toList, Region.binds .any e = true ∧ (e.on = j ∨ (e.on < acc.length + i ∧ ((masks l acc).getD e.on 0).testBit j = true))
  | [], acc, i, o, j, h, _ => by simp at h
  | q :: l, acc, 0, o, j, h, hb => by
    obtain rfl : q = o := by simpa using h
    unfold masks at hb ⊢
    rw [masks_pre l _ _ (by simp)] at hb
    have : (acc ++ [mask1 acc q.after.toList 0]).getD (acc.length + 0) 0 = mask1 acc q.after.toList 0 := by simp [List.getD_eq_getElem?_getD]
    rw [this] at hb
    rcases mask1_bit acc j _ _ hb with h1 | ⟨e, he, h1, h2⟩
    · simp at h1
    · refine ⟨e, he, h1, h2.imp id fun h3 => ?_⟩
      have hlt : e.on < acc.length := by
        rcases Nat.lt_or_ge e.on acc.length with h | h
        · exact h
        · simp [List.getD_eq_getElem?_getD, List.getElem?_eq_none h] at h3
      refine ⟨by omega, ?_⟩
      rw [masks_pre l _ _ (by simp; omega)]
      simpa [List.getD_eq_getElem?_getD, List.getElem?_append, hlt] using h3
  | q :: l, acc, i + 1, o, j, h, hb => by
    unfold masks at hb ⊢
    have := masks_bit l (acc ++ [mask1 acc q.after.toList 0]) i o j (by simpa using h) (by simpa [Nat.add_assoc, Nat.add_comm 1 i] using hb)
    simpa [Nat.add_assoc, Nat.add_comm 1 i] using this

def looks (ops : List Oper) (o : Oper) : List Nat := (o.op.operands.toList.filterMap fun x => match x with | .tmp t => some t | _ => none) ++ (gSlot ops o).toList

def drawOk (ops : List Oper) (M : List Nat) : Bool :=
  (List.range ops.length).all fun i => match ops[i]? with
    | none => true
    | some o => (o.after.toList.all fun e => !Region.binds .any e || decide (e.on < i)) &&
      (List.range ops.length).all fun j => j == i || match ops[j]? with
        | none => true
        | some oj => match oj.dst with
          | none => true
          | some q => !decide (o.dst = some q) && (!(looks ops o).contains q || (M.getD i 0).testBit j || (M.getD j 0).testBit i)

/-! ## Parts of the heap -/

def delRng (h : Tr Blk) (b : Nat) : Nat → Tr Blk
  | 0 => h
  | k + 1 => (delRng h b k).set (b + k) none
def resRng (h src : Tr Blk) (b : Nat) : Nat → Tr Blk
  | 0 => h
  | k + 1 => (resRng h src b k).set (b + k) (src.get (b + k))
theorem delRng_get (h : Tr Blk) (b : Nat) : ∀ (k : Nat), b + k ≤ ub → ∀ c, (delRng h b k).get c = if b ≤ c ∧ c < b + k then none else h.get c
  | 0, _, c => by rw [if_neg (by omega)]; rfl
  | k + 1, hk, c => by
    unfold delRng
    rw [Tr.get_set (by omega), delRng_get h b k (by omega)]
    by_cases e : c = b + k
    · rw [if_pos e, if_pos (by omega)]
    · rw [if_neg e]
      by_cases e2 : b ≤ c ∧ c < b + k
      · rw [if_pos e2, if_pos (by omega)]
      · rw [if_neg e2, if_neg (by omega)]
theorem resRng_get (h src : Tr Blk) (b : Nat) : ∀ (k : Nat), b + k ≤ ub → ∀ c, (resRng h src b k).get c = if b ≤ c ∧ c < b + k then src.get c else h.get c
  | 0, _, c => by rw [if_neg (by omega)]; rfl
  | k + 1, hk, c => by
    unfold resRng
    rw [Tr.get_set (by omega), resRng_get h src b k (by omega)]
    by_cases e : c = b + k
    · rw [if_pos e, if_pos (by omega), e]
    · rw [if_neg e]
      by_cases e2 : b ≤ c ∧ c < b + k
      · rw [if_pos e2, if_pos (by omega)]
      · rw [if_neg e2, if_neg (by omega)]

/-- Without the blocks that an operation need not find. -/
def masked (mk : Nat) : List (Nat × Nat × Nat) → Tr Blk → Tr Blk
  | [], h => h
  | x :: l, h => bif mk.testBit x.1 then masked mk l h else masked mk l (delRng h x.2.1 x.2.2)
def restored (mk : Nat) : List (Nat × Nat × Nat) → Tr Blk → Tr Blk → Tr Blk
  | [], _, h => h
  | x :: l, src, h => bif mk.testBit x.1 then restored mk l src h else restored mk l src (resRng h src x.2.1 x.2.2)
def Hid (mk : Nat) (l : List (Nat × Nat × Nat)) (c : Nat) : Prop := ∃ x ∈ l, mk.testBit x.1 = false ∧ x.2.1 ≤ c ∧ c < x.2.1 + x.2.2
theorem masked_get (mk : Nat) : ∀ (l : List (Nat × Nat × Nat)) (h : Tr Blk), (∀ x ∈ l, x.2.1 + x.2.2 ≤ ub) → ∀ c, (Hid mk l c → (masked mk l h).get c = none) ∧ (¬ Hid mk l c → (masked mk l h).get c = h.get c)
  | [], h, _, c => ⟨fun ⟨x, hx, _⟩ => (by cases hx), fun _ => rfl⟩
  | x :: l, h, hb, c => by
    unfold masked
    cases hm : mk.testBit x.1 with
    | true =>
      obtain ⟨i1, i2⟩ := masked_get mk l h (fun y hy => hb y (by simp [hy])) c
      have he : Hid mk (x :: l) c ↔ Hid mk l c := ⟨fun ⟨y, hy, h1, h2⟩ => by
        rcases List.mem_cons.1 hy with rfl | hy
        · rw [hm] at h1; cases h1
        · exact ⟨y, hy, h1, h2⟩, fun ⟨y, hy, h1⟩ => ⟨y, by simp [hy], h1⟩⟩
      exact ⟨fun q => i1 (he.1 q), fun q => i2 fun r => q (he.2 r)⟩
    | false =>
      obtain ⟨i1, i2⟩ := masked_get mk l (delRng h x.2.1 x.2.2) (fun y hy => hb y (by simp [hy])) c
      have hg := delRng_get h x.2.1 x.2.2 (hb x (by simp)) c
      refine ⟨fun ⟨y, hy, h1, h2⟩ => ?_, fun q => ?_⟩
      · by_cases hl : Hid mk l c
        · exact i1 hl
        · rcases List.mem_cons.1 hy with rfl | hy
          · show (masked mk l (delRng h y.2.1 y.2.2)).get c = none
            rw [i2 hl, hg, if_pos h2]
          · exact absurd ⟨y, hy, h1, h2⟩ hl
      · show (masked mk l (delRng h x.2.1 x.2.2)).get c = h.get c
        rw [i2 fun ⟨y, hy, r⟩ => q ⟨y, by simp [hy], r⟩, hg, if_neg fun r => q ⟨x, by simp, hm, r⟩]
theorem restored_get (mk : Nat) (src : Tr Blk) : ∀ (l : List (Nat × Nat × Nat)) (h : Tr Blk), (∀ x ∈ l, x.2.1 + x.2.2 ≤ ub) → ∀ c, (Hid mk l c → (restored mk l src h).get c = src.get c) ∧ (¬ Hid mk l c → (restored mk l src h).get c = h.get c)
  | [], h, _, c => ⟨fun ⟨x, hx, _⟩ => (by cases hx), fun _ => rfl⟩
  | x :: l, h, hb, c => by
    unfold restored
    cases hm : mk.testBit x.1 with
    | true =>
      obtain ⟨i1, i2⟩ := restored_get mk src l h (fun y hy => hb y (by simp [hy])) c
      have he : Hid mk (x :: l) c ↔ Hid mk l c := ⟨fun ⟨y, hy, h1, h2⟩ => by
        rcases List.mem_cons.1 hy with rfl | hy
        · rw [hm] at h1; cases h1
        · exact ⟨y, hy, h1, h2⟩, fun ⟨y, hy, h1⟩ => ⟨y, by simp [hy], h1⟩⟩
      exact ⟨fun q => i1 (he.1 q), fun q => i2 fun r => q (he.2 r)⟩
    | false =>
      obtain ⟨i1, i2⟩ := restored_get mk src l (resRng h src x.2.1 x.2.2) (fun y hy => hb y (by simp [hy])) c
      have hg := resRng_get h src x.2.1 x.2.2 (hb x (by simp)) c
      refine ⟨fun ⟨y, hy, h1, h2⟩ => ?_, fun q => ?_⟩
      · by_cases hl : Hid mk l c
        · exact i1 hl
        · rcases List.mem_cons.1 hy with rfl | hy
          · show (restored mk l src (resRng h src y.2.1 y.2.2)).get c = src.get c
            rw [i2 hl, hg, if_pos h2]
          · exact absurd ⟨y, hy, h1, h2⟩ hl
      · show (restored mk l src (resRng h src x.2.1 x.2.2)).get c = h.get c
        rw [i2 fun ⟨y, hy, r⟩ => q ⟨y, by simp [hy], r⟩, hg, if_neg fun r => q ⟨x, by simp, hm, r⟩]

/-! ## Running -/

/-- The block that a store or an append may write. -/
def wbOf (t : Tr RV) (op : Op) : Option Nat :=
  match op with
  | .store _ ad _ => (match evR t ad with
    | .ptr b _ => some b
    | _ => none)
  | .call ⟨.builtin .append, args, _⟩ => (match args.toList with
    | x :: _ => (match evR t x with
      | .sl b _ _ _ _ _ => some b
      | _ => none)
    | _ => none)
  | .next x _ => (match evR t x with
    | .ptr b _ => some b
    | _ => none)
  | .mapUpdate _ m _ _ => (match evR t m with
    | .mp b => some b
    | _ => none)
  | .insert _ m _ _ => (match evR t m with
    | .mp b => some b
    | _ => none)
  | .call ⟨.builtin .delete, args, _⟩ => (match args.toList with
    | x :: _ => (match evR t x with
      | .mp b => some b
      | _ => none)
    | _ => none)
  | _ => none
/-- The same, if the phase made it and the operation finds it. -/
def wbF (HL : List (Nat × Nat)) (i n0 n : Nat) (t : Tr RV) (hm : Tr Blk) (op : Op) : Option Nat :=
  match wbOf t op with
  | some b => bif (decide (n0 ≤ b) || HL.contains (i, b)) && decide (b < n) && (hm.get b).isSome then some b else none
  | none => none
theorem wbF_ok {HL : List (Nat × Nat)} {i n0 n : Nat} {t : Tr RV} {hm : Tr Blk} {op : Op} {b : Nat} (h : wbF HL i n0 n t hm op = some b) : wbOf t op = some b ∧ (n0 ≤ b ∨ (i, b) ∈ HL) ∧ b < n ∧ hm.get b ≠ none := by
  unfold wbF at h
  split at h <;> try cases h
  rename_i b' hb
  obtain ⟨h1, h2⟩ := bif_some h
  subst h2
  simp only [Bool.and_eq_true, Bool.or_eq_true, decide_eq_true_eq, List.contains_iff_mem] at h1
  exact ⟨hb, h1.1.1, h1.1.2, fun e => by rw [e] at h1; cases h1.2⟩

/-- Operations that write what was there ahead of the phase. -/
def isEff (effF : FuncId → Bool) (n0 : Nat) (t : Tr RV) (op : Op) : Bool :=
  match wbOf t op with
  | some b => decide (b < n0)
  | none => match op with
    | .call ⟨.value f, _, _⟩ => (match evR t f with
      | .fn g _ _ => effF g
      | _ => true)
    | _ => false
def isRun (ops : List Oper) (t : Tr RV) (o : Oper) : Bool :=
  match o.guard with
  | none => true
  | some (j, want) => match gAt ops t j want with
    | some false => false
    | _ => true

def covers (x : Nat × Nat × Nat) (b : Nat) : Bool := decide (x.2.1 ≤ b) && decide (b < x.2.1 + x.2.2)
theorem covers_iff {x : Nat × Nat × Nat} {b : Nat} : covers x b = true ↔ x.2.1 ≤ b ∧ b < x.2.1 + x.2.2 := by unfold covers; simp
/-- Whoever can see the block has had its turn. -/
def wbOk (M : List Nat) (i : Nat) (info : List (Nat × Nat × Nat)) : Option Nat → Bool
  | none => true
  | some b => info.all fun x => !covers x b || ((M.getD i 0).testBit x.1 && (List.range i).all fun p => decide (p ≤ x.1) || !(M.getD p 0).testBit x.1 || (M.getD i 0).testBit p)
def wbInfo (i : Nat) (wb : Option Nat) (info : List (Nat × Nat × Nat)) : List (Nat × Nat × Nat) :=
  match wb with
  | none => info
  | some b => (i, b, 1) :: info
def wbLo (lo n : Nat) : Option Nat → Nat
  | none => n
  | some _ => lo

/-- Blocks that were there ahead of the phase and that operations of the phase write (HL: who writes which): whoever has no order with a writer does not see its block. -/
def offs (M : List Nat) (HL : List (Nat × Nat)) (i : Nat) : List (Nat × Nat × Nat) :=
  (HL.filter fun x => !(x.1 == i) && !(M.getD i 0).testBit x.1 && !(M.getD x.1 0).testBit i).map fun x => (0, x.2, 1)
def Off (M : List Nat) (HL : List (Nat × Nat)) (i b : Nat) : Prop := ∃ x ∈ HL, x.2 = b ∧ x.1 ≠ i ∧ (M.getD i 0).testBit x.1 = false ∧ (M.getD x.1 0).testBit i = false
theorem hid_offs {M : List Nat} {HL : List (Nat × Nat)} {i b : Nat} : Hid 0 (offs M HL i) b ↔ Off M HL i b := by
  unfold Hid offs Off
  constructor
  · rintro ⟨x, hx, _, h2, h3⟩
    rw [List.mem_map] at hx
    obtain ⟨y, hy, rfl⟩ := hx
    rw [List.mem_filter] at hy
    simp only [Bool.and_eq_true, Bool.not_eq_true', beq_eq_false_iff_ne] at hy
    simp at h2 h3
    exact ⟨y, hy.1, by omega, hy.2.1.1, hy.2.1.2, hy.2.2⟩
  · rintro ⟨y, hy, rfl, h2, h3, h4⟩
    refine ⟨(0, y.2, 1), ?_, by simp, Nat.le_refl _, by simp⟩
    rw [List.mem_map]
    refine ⟨y, ?_, rfl⟩
    rw [List.mem_filter]
    simp only [Bool.and_eq_true, Bool.not_eq_true', beq_eq_false_iff_ne]
    exact ⟨hy, ⟨h2, h3⟩, h4⟩
def msk (M : List Nat) (HL : List (Nat × Nat)) (i : Nat) (info : List (Nat × Nat × Nat)) (h : Tr Blk) : Tr Blk := masked 0 (offs M HL i) (masked (M.getD i 0) info h)
def rst (M : List Nat) (HL : List (Nat × Nat)) (i : Nat) (info : List (Nat × Nat × Nat)) (h h' : Tr Blk) : Tr Blk := restored 0 (offs M HL i) h (restored (M.getD i 0) info h h')
def HidB (M : List Nat) (HL : List (Nat × Nat)) (i : Nat) (info : List (Nat × Nat × Nat)) (b : Nat) : Prop := Hid (M.getD i 0) info b ∨ Off M HL i b
theorem offs_ub {M : List Nat} {HL : List (Nat × Nat)} {i : Nat} (h : ∀ x ∈ HL, x.2 < ub) : ∀ x ∈ offs M HL i, x.2.1 + x.2.2 ≤ ub := fun x hx => by
  unfold offs at hx
  rw [List.mem_map] at hx
  obtain ⟨y, hy, rfl⟩ := hx
  exact h y (List.mem_filter.1 hy).1
theorem msk_get (M : List Nat) (HL : List (Nat × Nat)) (i : Nat) (info : List (Nat × Nat × Nat)) (h : Tr Blk) (h1 : ∀ x ∈ info, x.2.1 + x.2.2 ≤ ub) (h2 : ∀ x ∈ HL, x.2 < ub) (b : Nat) :
    (HidB M HL i info b → (msk M HL i info h).get b = none) ∧ (¬ HidB M HL i info b → (msk M HL i info h).get b = h.get b) := by
  have q1 := masked_get (M.getD i 0) info h h1 b
  have q2 := masked_get 0 (offs M HL i) (masked (M.getD i 0) info h) (offs_ub h2) b
  unfold msk HidB
  by_cases e : Off M HL i b
  · exact ⟨fun _ => q2.1 (hid_offs.2 e), fun hn => absurd (Or.inr e) hn⟩
  · have q3 := q2.2 fun hh => e (hid_offs.1 hh)
    exact ⟨fun hh => by rw [q3]; exact q1.1 (hh.resolve_right e), fun hn => by rw [q3]; exact q1.2 fun hh => hn (.inl hh)⟩
theorem rst_get (M : List Nat) (HL : List (Nat × Nat)) (i : Nat) (info : List (Nat × Nat × Nat)) (h h' : Tr Blk) (h1 : ∀ x ∈ info, x.2.1 + x.2.2 ≤ ub) (h2 : ∀ x ∈ HL, x.2 < ub) (b : Nat) :
    (HidB M HL i info b → (rst M HL i info h h').get b = h.get b) ∧ (¬ HidB M HL i info b → (rst M HL i info h h').get b = h'.get b) := by
  have q1 := restored_get (M.getD i 0) h info h' h1 b
  have q2 := restored_get 0 h (offs M HL i) (restored (M.getD i 0) info h h') (offs_ub h2) b
  unfold rst HidB
  by_cases e : Off M HL i b
  · exact ⟨fun _ => q2.1 (hid_offs.2 e), fun hn => absurd (Or.inr e) hn⟩
  · have q3 := q2.2 fun hh => e (hid_offs.1 hh)
    exact ⟨fun hh => by rw [q3]; exact q1.1 (hh.resolve_right e), fun hn => by rw [q3]; exact q1.2 fun hh => hn (.inl hh)⟩

def phR (P : Program) (call : Calr) (lo : Nat) (ops : List Oper) (M : List Nat) (HL : List (Nat × Nat)) (effF : FuncId → Bool) (n0 : Nat) : Nat → List Oper → List (Nat × Nat × Nat) → St → Option (Nat × St × List Oper)
  | i, [], _, s => some (i, s, [])
  | i, o :: l, info, ⟨t, h, n⟩ => bif isRun ops t o && isEff effF n0 t o.op && !HL.any (fun x => x.1 == i) then some (i, ⟨t, h, n⟩, o :: l) else bif decide (n ≤ ub) && wbOk M i info (bif isRun ops t o then wbF HL i n0 n t (msk M HL i info h) o.op else none) then
      match evO P call (wbLo lo n (bif isRun ops t o then wbF HL i n0 n t (msk M HL i info h) o.op else none)) ops t (msk M HL i info h) n o with
      | some (v, h', n') => phR P call lo ops M HL effF n0 (i + 1) l (wbInfo i (bif isRun ops t o then wbF HL i n0 n t (msk M HL i info h) o.op else none) (bif decide (n' = n) then info else (i, n, n' - n) :: info)) ⟨setD t o.dst (v.getD .nov), rst M HL i info h h', n'⟩
      | none => none
      else none

def effAt (M : List Nat) (k N : Nat) : Bool := (List.range k).all (fun j => (M.getD k 0).testBit j) && (List.range N).all fun j => decide (j ≤ k) || (M.getD j 0).testBit k

def evDraw (P : Program) (call : Calr) (lo : Nat) (ops : List Oper) (M : List Nat) (effF : FuncId → Bool) : Nat → Nat → List (Nat × Nat) → List Oper → St → Option St
  | 0, _, _, _, _ => none
  | f + 1, i, HL, l, s => bif HL.all (fun x => decide (lo ≤ x.2) && decide (x.2 < s.n)) && decide (s.n ≤ ub) then match phR P call lo ops M HL effF s.n i l [] s with
    | none => none
    | some (_, s1, []) => some s1
    | some (k, ⟨t, h, n⟩, o :: l') => bif effAt M k ops.length then
        match evO P call lo ops t h n o with
        | some (v, h', n') => evDraw P call lo ops M effF f (k + 1) [] l' ⟨setD t o.dst (v.getD .nov), h', n'⟩
        | none => none
        else match wbOf t o.op with
        | some b => evDraw P call lo ops M effF f i ((k, b) :: HL) l s
        | none => none
    else none

/-- One operation of a phase. -/
structure Rc where
  o : Oper
  t : Tr RV
  hm : Tr Blk
  h' : Tr Blk
  n : Nat
  n' : Nat
  v : Option RV
  wb : Option Nat

/-- What block b holds till p's turn and on: what its next writer finds, or what is left in the end. -/
def Nx (rcs : List Rc) (s' : St) (p b : Nat) (v : Option Blk) : Prop :=
  (∃ p' rc', rcs[p']? = some rc' ∧ p ≤ p' ∧ rc'.wb = some b ∧ (∀ p2 rc2, rcs[p2]? = some rc2 → p ≤ p2 → p2 < p' → rc2.wb ≠ some b) ∧ rc'.hm.get b = v) ∨
  ((∀ p2 rc2, rcs[p2]? = some rc2 → p ≤ p2 → rc2.wb ≠ some b) ∧ s'.h.get b = v)

theorem Nx.shift {rc : Rc} {rcs : List Rc} {s' : St} {p b : Nat} {v : Option Blk} (h : Nx rcs s' p b v) : Nx (rc :: rcs) s' (p + 1) b v := by
  rcases h with ⟨p', rc', h1, h2, h3, h4, h5⟩ | ⟨h1, h2⟩
  · refine .inl ⟨p' + 1, rc', by simpa using h1, by omega, h3, fun p2 rc2 hp2 hle hlt => ?_, h5⟩
    obtain ⟨p3, rfl⟩ : ∃ p3, p2 = p3 + 1 := ⟨p2 - 1, by omega⟩
    exact h4 p3 rc2 (by simpa using hp2) (by omega) (by omega)
  · refine .inr ⟨fun p2 rc2 hp2 hle => ?_, h2⟩
    obtain ⟨p3, rfl⟩ : ∃ p3, p2 = p3 + 1 := ⟨p2 - 1, by omega⟩
    exact h1 p3 rc2 (by simpa using hp2) (by omega)
theorem Nx.skip {rcs : List Rc} {s' : St} {p b : Nat} {v : Option Blk} (h : Nx rcs s' (p + 1) b v) (hn : ∀ rc, rcs[p]? = some rc → rc.wb ≠ some b) : Nx rcs s' p b v := by
  rcases h with ⟨p', rc', h1, h2, h3, h4, h5⟩ | ⟨h1, h2⟩
  · refine .inl ⟨p', rc', h1, by omega, h3, fun p2 rc2 hp2 hle hlt => ?_, h5⟩
    by_cases e : p2 = p
    · subst e; exact hn rc2 hp2
    · exact h4 p2 rc2 hp2 (by omega) hlt
  · refine .inr ⟨fun p2 rc2 hp2 hle => ?_, h2⟩
    by_cases e : p2 = p
    · subst e; exact hn rc2 hp2
    · exact h1 p2 rc2 hp2 (by omega)
theorem Nx.next {rcs : List Rc} {s' : St} {p b : Nat} {v : Option Blk} (h : Nx rcs s' p b v) (hn : ∀ rc, rcs[p]? = some rc → rc.wb ≠ some b) : Nx rcs s' (p + 1) b v := by
  rcases h with ⟨p', rc', h1, h2, h3, h4, h5⟩ | ⟨h1, h2⟩
  · have : p' ≠ p := fun e => by subst e; exact hn rc' h1 h3
    exact .inl ⟨p', rc', h1, by omega, h3, fun p2 rc2 hp2 hle hlt => h4 p2 rc2 hp2 (by omega) hlt, h5⟩
  · exact .inr ⟨fun p2 rc2 hp2 hle => h1 p2 rc2 hp2 (by omega), h2⟩

structure RcOk (P : Program) (lo : Nat) (ops : List Oper) (M : List Nat) (HL : List (Nat × Nat)) (n0 : Nat) (info : List (Nat × Nat × Nat)) (i : Nat) (s s' : St) (rcs : List Rc) (p : Nat) (rc : Rc) : Prop where
  n1 : s.n ≤ rc.n
  n2 : rc.n ≤ rc.n'
  n3 : rc.n' ≤ s'.n
  nx : ∀ p' rc', rcs[p']? = some rc' → p < p' → rc.n' ≤ rc'.n
  ok : ∃ l, lo ≤ l ∧ l ≤ rc.n ∧ GOk P l ops rc.t rc.hm rc.n rc.o (rc.v, rc.h', rc.n')
  low : ∀ b, b < rc.n → rc.hm.get b ≠ none → Nx rcs s' p b (rc.hm.get b)
  hi : ∀ b, rc.n ≤ b → rc.hm.get b ≠ none → rc.hm.get b = s.h.get b
  new : ∀ b, rc.n ≤ b → b < rc.n' → Nx rcs s' (p + 1) b (rc.h'.get b)
  wr : ∀ b, rc.wb = some b → Nx rcs s' (p + 1) b (rc.h'.get b)
  wv : ∀ b, rc.wb = some b → (n0 ≤ b ∨ (i + p, b) ∈ HL) ∧ b < rc.n ∧ rc.hm.get b ≠ none
  st : ∀ b, b < rc.n → rc.wb ≠ some b → rc.h'.get b = rc.hm.get b
  hid : ∀ b, Hid (M.getD (i + p) 0) info b → rc.hm.get b = none
  hid' : ∀ p' rc', rcs[p']? = some rc' → p' < p → (M.getD (i + p) 0).testBit (i + p') = false → ∀ b, (rc'.n ≤ b ∧ b < rc'.n') ∨ rc'.wb = some b → rc.hm.get b = none
  see : ∀ p' rc' b, rcs[p']? = some rc' → p < p' → rc'.wb = some b → (b < rc.n ∧ rc.hm.get b ≠ none) ∨ (rc.n ≤ b ∧ b < rc.n') → (M.getD (i + p') 0).testBit (i + p) = true
  kk : ∀ b, rc.wb = some b → ∀ x ∈ info, covers x b = true → (M.getD (i + p) 0).testBit x.1 = true ∧ ∀ q, x.1 < q → q < i + p → (M.getD q 0).testBit x.1 = true → (M.getD (i + p) 0).testBit q = true
  cov : ∀ b, n0 ≤ b → b < rc.n → (∃ x ∈ info, covers x b = true) ∨ ∃ p' rc', rcs[p']? = some rc' ∧ p' < p ∧ rc'.n ≤ b ∧ b < rc'.n'
  t0 : ∀ q, (∀ p' rc', rcs[p']? = some rc' → p' < p → rc'.o.dst ≠ some q) → rc.t.get q = s.t.get q
  t1 : ∀ q p' rc', rcs[p']? = some rc' → p' < p → rc'.o.dst = some q → (∀ p2 rc2, rcs[p2]? = some rc2 → p2 ≠ p' → rc2.o.dst ≠ some q) → rc.t.get q = s'.t.get q
  dst : ∀ q, rc.o.dst = some q → (∀ p2 rc2, rcs[p2]? = some rc2 → p2 ≠ p → rc2.o.dst ≠ some q) → s'.t.get q = some (rc.v.getD .nov)

section
variable {P : Program} {nt lo : Nat} {call : Calr}

theorem setD_get {t : Tr RV} {dst : Option Nat} {v : RV} (hd : ∀ d, dst = some d → d < ub) (q : Nat) : (setD t dst v).get q = if dst = some q then some v else t.get q := by
  cases dst with
  | none => simp [setD]
  | some d =>
    simp only [setD, Tr.get_set (hd d rfl)]
    by_cases e : q = d
    · subst e; simp
    · rw [if_neg e, if_neg (fun h => e (Option.some.inj h).symm)]

theorem updR_st {h : Tr Blk} {n : Nat} {ty : TypeId} {k x : RV} {r : Mv} {b : Nat} (hr : updR P lo h n ty (.mp b) k x = some r) (hub : n ≤ ub) : ∀ c, c ≠ b → r.2.1.get c = h.get c := by
  unfold updR at hr
  split at hr <;> try cases hr
  rename_i b' kv hu hm hk
  cases hm
  split at hr <;> try cases hr
  obtain ⟨hc, hr⟩ := bif_opt hr
  simp only [Bool.and_eq_true, decide_eq_true_eq] at hc
  intro c hcb
  split at hr <;> cases hr
  all_goals
    show (h.set b _).get c = h.get c
    rw [Tr.get_set hc.2, if_neg hcb]
theorem delR_st {h : Tr Blk} {n : Nat} {ty : TypeId} {k : RV} {r : Mv} {b : Nat} (hr : delR P lo h n ty (.mp b) k = some r) (hub : n ≤ ub) : ∀ c, c ≠ b → r.2.1.get c = h.get c := by
  unfold delR at hr
  split at hr <;> try cases hr
  rename_i b' kv hu hm hk
  cases hm
  split at hr <;> try cases hr
  obtain ⟨hc, hr⟩ := bif_opt hr
  simp only [Bool.and_eq_true, decide_eq_true_eq] at hc
  intro c hcb
  split at hr <;> cases hr
  all_goals
    show (h.set b _).get c = h.get c
    rw [Tr.get_set hc.2, if_neg hcb]

/-- A store, an append: no other block turns. -/
theorem mv_st {t : Tr RV} {h : Tr Blk} {n : Nat} {op : Op} {r : Mv} {b : Nat} (hr : mvR P lo t h n op = some r) (hb : wbOf t op = some b) (hbn : b < n) (hub : n ≤ ub) : ∀ c, c < n → c ≠ b → r.2.1.get c = h.get c := by
  cases op with
  | store ty ad x =>
    simp only [mvR] at hr
    simp only [wbOf] at hb
    split at hr <;> try cases hr
    rename_i s b' off vs e1 e2 e3
    rw [e2] at hb
    obtain rfl : b' = b := Option.some.inj hb
    split at hr <;> try cases hr
    obtain ⟨h1, rfl⟩ := bif_some hr
    intro c hc hcb
    show (h.set b' _).get c = h.get c
    rw [Tr.get_set (by omega), if_neg hcb]
  | call c =>
    obtain ⟨cl, args, ts⟩ := c
    cases cl with
    | builtin bi =>
      cases bi with
      | append =>
        simp only [mvR] at hr
        simp only [wbOf] at hb
        split at hr <;> try cases hr
        rename_i x y t1 t2 hargs hts
        rw [hargs] at hb
        simp only at hb
        split at hb <;> try cases hb
        rename_i off len z cap full hx
        rw [hx] at hr
        unfold appR at hr
        split at hr <;> try cases hr
        split at hr <;> try cases hr
        have hck := (bif_opt hr).1
        simp only [Bool.and_eq_true, decide_eq_true_eq] at hck
        replace hr := (bif_opt hr).2
        simp only at hr
        replace hr := (bif_opt hr).2
        intro c hc hcb
        split at hr <;> try cases hr
        · rfl
        · split at hr <;> try cases hr
          replace hr := (bif_opt hr).2
          split at hr
          · generalize hq : decide (len + (_ + 1) ≤ _) = q at hr
            cases q with
            | true =>
              obtain ⟨_, rfl⟩ := bif_some hr
              show (h.set b _).get c = h.get c
              rw [Tr.get_set (by omega), if_neg hcb]
            | false =>
              obtain rfl := Option.some.inj hr
              show (h.set n _).get c = h.get c
              rw [Tr.get_set (by omega), if_neg (by omega)]
          · obtain ⟨_, rfl⟩ := bif_some hr
            show ((h.set b none).set n _).get c = h.get c
            rw [Tr.get_set (by omega), if_neg (by omega), Tr.get_set (by omega), if_neg hcb]
      | delete =>
        simp only [mvR] at hr
        simp only [wbOf] at hb
        split at hr <;> try cases hr
        rename_i m k t1 tl hargs hts
        rw [hargs] at hb
        simp only at hb
        split at hb <;> try cases hb
        rename_i hx
        rw [hx] at hr
        exact fun c _ hcb => delR_st hr hub c hcb
      | _ => first | (cases hb; done) | (cases hr; done)
    | _ => cases hb
  | next x st =>
    cases st with
    | false => cases hr
    | true =>
      simp only [mvR] at hr
      simp only [wbOf] at hb
      split at hr <;> try cases hr
      rename_i b' hx
      rw [hx] at hb
      cases hb
      split at hr <;> try cases hr
      rename_i s pos hb2
      obtain ⟨hc, hr⟩ := bif_opt hr
      simp only [Bool.and_eq_true, decide_eq_true_eq] at hc
      intro c _ hcb
      cases hp : decide (pos < s.size) with
      | true =>
        rw [hp] at hr
        obtain rfl := Option.some.inj hr
        show (h.set b _).get c = h.get c
        rw [Tr.get_set hc.2, if_neg hcb]
      | false =>
        rw [hp] at hr
        obtain rfl := Option.some.inj hr
        rfl
  | mapUpdate ty m k x =>
    simp only [mvR] at hr
    simp only [wbOf] at hb
    split at hb <;> try cases hb
    rename_i hx
    rw [hx] at hr
    exact fun c _ hcb => updR_st hr hub c hcb
  | insert ty m k x =>
    simp only [mvR] at hr
    simp only [wbOf] at hb
    split at hb <;> try cases hb
    rename_i hx
    rw [hx] at hr
    exact fun c _ hcb => updR_st hr hub c hcb
  | _ => cases hb
theorem evO_st {ops : List Oper} {t : Tr RV} {h : Tr Blk} {n : Nat} {o : Oper} {r : Mv} {b : Nat} (hr : evO P call lo ops t h n o = some r) (hrun : isRun ops t o = true) (hb : wbOf t o.op = some b) (hbn : b < n) (hub : n ≤ ub) : ∀ c, c < n → c ≠ b → r.2.1.get c = h.get c := by
  have key : runR P call lo t h n o.op = some r → ∀ c, c < n → c ≠ b → r.2.1.get c = h.get c := fun hr => by
    refine mv_st (P := P) (lo := lo) ?_ hb hbn hub
    cases hop : o.op with
    | store ty ad x => rw [hop] at hr; exact hr
    | next x st => rw [hop] at hr; exact hr
    | mapUpdate ty m k x => rw [hop] at hr; exact hr
    | insert ty m k x => rw [hop] at hr; exact hr
    | call c =>
      obtain ⟨cl, args, ts⟩ := c
      rw [hop] at hr hb
      cases cl with
      | builtin bi =>
        cases bi <;> first | (cases hb; done) | exact hr
      | _ => cases hb
    | _ => rw [hop] at hb; cases hb
  unfold evO at hr
  unfold isRun at hrun
  split at hr
  · exact key hr
  · rename_i j want hg
    rw [hg] at hrun
    simp only at hrun
    split at hr
    · exact key hr
    · rename_i hgt; rw [hgt] at hrun; cases hrun
    · cases hr

theorem phR_ok (hc : CallsOk P call) {ops : List Oper} {M : List Nat} {HL : List (Nat × Nat)} {effF : FuncId → Bool} {n0 : Nat} (hbits : ∀ i j, (M.getD i 0).testBit j = true → j < i) (hHL : ∀ x ∈ HL, x.2 < n0) (hln : lo ≤ n0) (hnub : n0 ≤ ub) : ∀ (l : List Oper) (i : Nat) (info : List (Nat × Nat × Nat)) (s : St) (i' : Nat) (s' : St) (rest : List Oper), phR P call lo ops M HL effF n0 i l info s = some (i', s', rest) →
    (∀ x ∈ info, x.2.1 + x.2.2 ≤ s.n) → (∀ x ∈ info, x.1 < i) → (∀ b, n0 ≤ b → b < s.n → ∃ x ∈ info, covers x b = true) → n0 ≤ s.n → (∀ o ∈ l, ∀ d, o.dst = some d → d < ub) →
    ∃ rcs : List Rc, l = rcs.map (·.o) ++ rest ∧ i' = i + rcs.length ∧ (s.n ≤ s'.n ∧ ∀ b, (b < n0 ∧ ∀ x ∈ HL, x.2 ≠ b) ∨ s'.n ≤ b → s'.h.get b = s.h.get b) ∧ (∀ q, (∀ rc ∈ rcs, rc.o.dst ≠ some q) → s'.t.get q = s.t.get q) ∧
      (∀ b, n0 ≤ b → (∀ x ∈ info, covers x b = false) → (∀ rc ∈ rcs, ¬ (rc.n ≤ b ∧ b < rc.n')) → s'.h.get b = s.h.get b) ∧ (∀ b, b < s.n → Nx rcs s' 0 b (s.h.get b)) ∧
      ∀ p rc, rcs[p]? = some rc → RcOk P lo ops M HL n0 info i s s' rcs p rc
  | [], i, info, s, i', s', rest, h, _, _, _, _, _ => by
    unfold phR at h
    cases h
    exact ⟨[], rfl, rfl, ⟨Nat.le_refl _, fun _ _ => rfl⟩, fun _ _ => rfl, fun _ _ _ _ => rfl, fun b _ => .inr ⟨fun p2 rc2 h => by simp at h, rfl⟩, fun p rc hp => by simp at hp⟩
  | o :: l, i, info, ⟨t, h, n⟩, i', s', rest, hr, hinfo, hidx, hcov, hn0, hdu => by
    unfold phR at hr
    cases he : isRun ops t o && isEff effF n0 t o.op && !HL.any (fun x => x.1 == i) with
    | true =>
      rw [he] at hr
      cases hr
      exact ⟨[], rfl, rfl, ⟨Nat.le_refl _, fun _ _ => rfl⟩, fun _ _ => rfl, fun _ _ _ _ => rfl, fun b _ => .inr ⟨fun p2 rc2 h => by simp at h, rfl⟩, fun p rc hp => by simp at hp⟩
    | false =>
      rw [he] at hr
      simp only [cond_false] at hr
      have hub := (bif_opt hr).1
      replace hr := (bif_opt hr).2
      simp only [Bool.and_eq_true, decide_eq_true_eq] at hub
      obtain ⟨hub, hwok⟩ := hub
      have hn0 : n0 ≤ n := hn0
      have hinfo : ∀ x ∈ info, x.2.1 + x.2.2 ≤ n := hinfo
      have hcov : ∀ b, n0 ≤ b → b < n → ∃ x ∈ info, covers x b = true := hcov
      have hwb : ∀ b, (bif isRun ops t o then wbF HL i n0 n t (msk M HL i info h) o.op else none) = some b → isRun ops t o = true ∧ wbOf t o.op = some b ∧ (n0 ≤ b ∨ (i, b) ∈ HL) ∧ b < n ∧ (msk M HL i info h).get b ≠ none := fun b hb => by
        obtain ⟨h1, h2⟩ := bif_opt hb
        obtain ⟨h3, h4, h5, h6⟩ := wbF_ok h2
        exact ⟨h1, h3, h4, h5, h6⟩
      generalize (bif isRun ops t o then wbF HL i n0 n t (msk M HL i info h) o.op else none) = wb at *
      split at hr <;> try cases hr
      rename_i v h' n' hv
      have hlo1 : lo ≤ wbLo lo n wb ∧ wbLo lo n wb ≤ n := by cases wb <;> simp [wbLo] <;> omega
      have hg := evO_ok hc hlo1.2 hv
      obtain ⟨k1, k2⟩ := hg.1
      have k1 : n ≤ n' := k1
      have k2 : ∀ b, b < wbLo lo n wb ∨ n' ≤ b → h'.get b = (msk M HL i info h).get b := k2
      have hst : ∀ b, b < n → wb ≠ some b → h'.get b = (msk M HL i info h).get b := fun b hb hne => by
        cases hwbv : wb with
        | none => rw [hwbv] at k2; exact k2 b (.inl hb)
        | some c =>
          obtain ⟨q1, q2, q3, q4, q5⟩ := hwb c hwbv
          exact evO_st hv q1 q2 q4 hub b hb fun e => hne (by rw [hwbv, e])
      have hHu : ∀ x ∈ HL, x.2 < ub := fun x hx => by have := hHL x hx; omega
      have hmk := msk_get M HL i info h (fun x hx => Nat.le_trans (hinfo x hx) hub) hHu
      have hrs := rst_get M HL i info h h' (fun x hx => Nat.le_trans (hinfo x hx) hub) hHu
      have hidlt : ∀ b, HidB M HL i info b → b < n := fun b hb => by
        rcases hb with ⟨x, hx, _, _, h3⟩ | ⟨x, hx, rfl, _⟩
        · have := hinfo x hx; omega
        · have := hHL x hx; omega
      have hwn : ∀ b, wb = some b → ¬ HidB M HL i info b := fun b hb hh => (hwb b hb).2.2.2.2 ((hmk b).1 hh)
      -- the whole heap behind the operation
      have hnext1 : ∀ b, wb = some b ∨ (n ≤ b ∧ b < n') → (rst M HL i info h h').get b = h'.get b := fun b hb => by
        refine (hrs b).2 fun hh => ?_
        rcases hb with hb | hb
        · exact hwn b hb hh
        · have := hidlt b hh; omega
      have hnext0 : ∀ b, wb ≠ some b → ¬ (n ≤ b ∧ b < n') → (rst M HL i info h h').get b = h.get b := fun b hb1 hb2 => by
        by_cases hh : HidB M HL i info b
        · exact (hrs b).1 hh
        · rw [(hrs b).2 hh]
          rcases Nat.lt_or_ge b n with h3 | h3
          · rw [hst b h3 hb1, (hmk b).2 hh]
          · rw [k2 b (.inr (by omega)), (hmk b).2 hh]
      have hsub0 : ∀ x ∈ info, x ∈ wbInfo i wb (bif decide (n' = n) then info else (i, n, n' - n) :: info) := fun x hx => by
        have : x ∈ (bif decide (n' = n) then info else (i, n, n' - n) :: info) := by
          cases decide (n' = n) with
          | true => exact hx
          | false => exact List.mem_cons_of_mem _ hx
        cases wb with
        | none => exact this
        | some b => exact List.mem_cons_of_mem _ this
      have hnewin : n < n' → (i, n, n' - n) ∈ wbInfo i wb (bif decide (n' = n) then info else (i, n, n' - n) :: info) := fun hlt => by
        rw [decide_eq_false (show ¬ n' = n by omega)]
        cases wb with
        | none => exact List.mem_cons_self
        | some b => exact List.mem_cons_of_mem _ List.mem_cons_self
      have hcases : ∀ x ∈ wbInfo i wb (bif decide (n' = n) then info else (i, n, n' - n) :: info), x ∈ info ∨ (x = (i, n, n' - n) ∧ n < n') ∨ ∃ b, wb = some b ∧ x = (i, b, 1) := fun x hx => by
        have key : x ∈ (bif decide (n' = n) then info else (i, n, n' - n) :: info) → x ∈ info ∨ (x = (i, n, n' - n) ∧ n < n') := fun hx => by
          cases hd : decide (n' = n) with
          | true => rw [hd] at hx; exact .inl hx
          | false =>
            rw [hd] at hx
            have := of_decide_eq_false hd
            rcases List.mem_cons.1 hx with rfl | hx
            · exact .inr ⟨rfl, by omega⟩
            · exact .inl hx
        cases hwbv : wb with
        | none => rw [hwbv] at hx; exact (key hx).imp id fun q => .inl q
        | some b =>
          rw [hwbv] at hx
          rcases List.mem_cons.1 hx with rfl | hx
          · exact .inr (.inr ⟨b, rfl, rfl⟩)
          · exact (key hx).imp id fun q => .inl q
      obtain ⟨rcs, j1, j2, j3, j4, j6, j7, j5⟩ := phR_ok hc hbits hHL hln hnub l (i + 1) _ _ i' s' rest hr (fun x hx => by
          rcases hcases x hx with hx | ⟨rfl, _⟩ | ⟨b, hb, rfl⟩
          · have := hinfo x hx; show x.2.1 + x.2.2 ≤ n'; omega
          · show n + (n' - n) ≤ n'; omega
          · have := (hwb b hb).2.2.2.1; show b + 1 ≤ n'; omega)
        (fun x hx => by
          rcases hcases x hx with hx | ⟨rfl, _⟩ | ⟨b, hb, rfl⟩
          · have := hidx x hx; omega
          · show i < i + 1; omega
          · show i < i + 1; omega)
        (fun b hb1 hb2 => by
          have hb2 : b < n' := hb2
          rcases Nat.lt_or_ge b n with h3 | h3
          · obtain ⟨x, hx, hc⟩ := hcov b hb1 h3
            exact ⟨x, hsub0 x hx, hc⟩
          · exact ⟨_, hnewin (by omega), covers_iff.2 ⟨h3, by show b < n + (n' - n); omega⟩⟩)
        (Nat.le_trans hn0 k1) fun o' ho' => hdu o' (by simp [ho'])
      have hdo := hdu o (by simp)
      obtain ⟨j3a, j3b⟩ := j3
      have j3a : n' ≤ s'.n := j3a
      have j3b : ∀ b, (b < n0 ∧ ∀ x ∈ HL, x.2 ≠ b) ∨ s'.n ≤ b → s'.h.get b = (rst M HL i info h h').get b := j3b
      have j7 : ∀ b, b < n' → Nx rcs s' 0 b ((rst M HL i info h h').get b) := j7
      have hwlt : ∀ b, wb = some b → (n0 ≤ b ∨ (i, b) ∈ HL) ∧ b < n := fun b hb => ⟨(hwb b hb).2.2.1, (hwb b hb).2.2.2.1⟩
      have hpersist : ∀ b, b < n → Nx (⟨o, t, msk M HL i info h, h', n, n', v, wb⟩ :: rcs) s' 0 b (h.get b) := fun b hb => by
        by_cases e : wb = some b
        · refine .inl ⟨0, _, rfl, Nat.le_refl _, e, fun p2 rc2 _ _ hlt => absurd hlt (Nat.not_lt_zero _), ?_⟩
          exact (hmk b).2 (hwn b e)
        · have := j7 b (by omega)
          rw [hnext0 b e (by omega)] at this
          exact this.shift.skip fun rc hrc => by simp at hrc; subst hrc; exact e
      refine ⟨⟨o, t, msk M HL i info h, h', n, n', v, wb⟩ :: rcs, by rw [j1]; rfl, by rw [j2]; simp; omega, ⟨Nat.le_trans k1 j3a, fun b hb => ?_⟩, fun q hq => ?_, fun b hb1 hb2 hb3 => ?_, hpersist, fun p rc hp => ?_⟩
      · rw [j3b b hb, hnext0 b (fun e => by
          obtain ⟨q1, q2⟩ := hwlt b e
          rcases hb with ⟨q3, q4⟩ | q3
          · rcases q1 with q1 | q1
            · omega
            · exact q4 _ q1 rfl
          · have q3 : s'.n ≤ b := q3
            omega) (by
          rcases hb with ⟨q3, q4⟩ | q3
          · omega
          · have q3 : s'.n ≤ b := q3
            omega)]
      · rw [j4 q fun rc hrc => hq rc (by simp [hrc])]
        show (setD t o.dst (v.getD .nov)).get q = t.get q
        have hne : o.dst ≠ some q := hq _ List.mem_cons_self
        rw [setD_get hdo, if_neg hne]
      · have hne : ¬ (n ≤ b ∧ b < n') := hb3 _ List.mem_cons_self
        have hnw : wb ≠ some b := fun e => by
          obtain ⟨x, hx, hc⟩ := hcov b hb1 (hwlt b e).2
          rw [hb2 x hx] at hc; cases hc
        rw [j6 b hb1 (fun x hx => ?_) fun rc hrc => hb3 rc (by simp [hrc])]
        · show (rst M HL i info h h').get b = h.get b
          exact hnext0 b hnw hne
        · rcases hcases x hx with hx | ⟨rfl, _⟩ | ⟨b', hb', rfl⟩
          · exact hb2 x hx
          · cases hc : covers (i, n, n' - n) b with
            | false => rfl
            | true => have := covers_iff.1 hc; exact absurd ⟨this.1, by have := this.2; show b < n'; simp at this; omega⟩ hne
          · cases hc : covers (i, b', 1) b with
            | false => rfl
            | true => have := covers_iff.1 hc; simp at this; exact absurd (by rw [hb']; congr 1; omega) hnw
      · cases p with
        | zero =>
          simp at hp
          subst hp
          refine ⟨Nat.le_refl _, k1, j3a, fun p' rc' hp' hlt => ?_, ⟨_, hlo1.1, hlo1.2, hg⟩, fun b hb hn => ?_, fun b hb hn => ?_, fun b hb1 hb2 => ?_, fun b hb => ?_, fun b hb => ⟨by simpa using (hwlt b hb).1, (hwlt b hb).2, (hwb b hb).2.2.2.2⟩, hst, fun b hb => (hmk b).1 (.inl (by simpa using hb)), fun p' rc' _ hlt => absurd hlt (Nat.not_lt_zero _), fun p' rc' b hp' hlt hw' hv' => ?_, fun b hb x hx hcx => ?_, fun b hb1 hb2 => .inl (hcov b hb1 hb2), fun q _ => rfl, fun q p' rc' _ hlt => absurd hlt (Nat.not_lt_zero _), fun q hq hu => ?_⟩
          · obtain ⟨p2, rfl⟩ : ∃ p2, p' = p2 + 1 := ⟨p' - 1, by omega⟩
            exact (j5 p2 rc' (by simpa using hp')).n1
          · have hnh : ¬ HidB M HL i info b := fun q => hn ((hmk b).1 q)
            show Nx _ s' 0 b ((msk M HL i info h).get b)
            rw [(hmk b).2 hnh]
            exact hpersist b hb
          · have hnh : ¬ HidB M HL i info b := fun q => hn ((hmk b).1 q)
            show (msk M HL i info h).get b = _
            rw [(hmk b).2 hnh]
          · have := j7 b hb2
            rw [hnext1 b (.inr ⟨hb1, hb2⟩)] at this
            exact this.shift
          · have hb : wb = some b := hb
            have := j7 b (by have := hwlt b hb; omega)
            rw [hnext1 b (.inl hb)] at this
            exact this.shift
          · obtain ⟨p2, rfl⟩ : ∃ p2, p' = p2 + 1 := ⟨p' - 1, by omega⟩
            have R := j5 p2 rc' (by simpa using hp')
            rw [show i + (p2 + 1) = i + 1 + p2 by omega, Nat.add_zero]
            rcases hv' with ⟨h1, h2⟩ | ⟨h1, h2⟩
            · have h1 : b < n := h1
              have h2 : (msk M HL i info h).get b ≠ none := h2
              rcases Nat.lt_or_ge b n0 with h0 | h0
              · have hm : (i + 1 + p2, b) ∈ HL := by
                  rcases (R.wv b hw').1 with h3 | h3
                  · omega
                  · exact h3
                cases hq : (M.getD (i + 1 + p2) 0).testBit i with
                | true => rfl
                | false =>
                  refine absurd ((hmk b).1 (.inr ⟨_, hm, rfl, by show i + 1 + p2 ≠ i; omega, ?_, hq⟩)) h2
                  cases hq2 : (M.getD i 0).testBit (i + 1 + p2) with
                  | false => rfl
                  | true => have := hbits _ _ hq2; omega
              obtain ⟨x, hx, hcx⟩ := hcov b h0 h1
              have hbit : (M.getD i 0).testBit x.1 = true := by
                cases hq : (M.getD i 0).testBit x.1 with
                | true => rfl
                | false => exact absurd ((hmk b).1 (.inl ⟨x, hx, hq, covers_iff.1 hcx⟩)) h2
              exact (R.kk b hw' x (hsub0 x hx) hcx).2 i (hidx x hx) (by omega) hbit
            · have h1 : n ≤ b := h1
              have h2 : b < n' := h2
              exact (R.kk b hw' _ (hnewin (by omega)) (covers_iff.2 ⟨h1, by show b < n + (n' - n); omega⟩)).1
          · have hb : wb = some b := hb
            rw [hb] at hwok
            unfold wbOk at hwok
            simp only [List.all_eq_true, Bool.or_eq_true, Bool.not_eq_true', Bool.and_eq_true, List.mem_range, decide_eq_true_eq] at hwok
            rcases hwok x hx with h1 | ⟨h1, h2⟩
            · rw [hcx] at h1; cases h1
            · refine ⟨h1, fun q hq1 hq2 hq3 => ?_⟩
              rcases h2 q hq2 with (h3 | h3) | h3
              · omega
              · rw [hq3] at h3; cases h3
              · exact h3
          · rw [j4 q fun rc hrc => ?_]
            · show (setD t o.dst (v.getD .nov)).get q = _
              rw [setD_get hdo, if_pos hq]
            · obtain ⟨p2, hp2⟩ := List.getElem?_of_mem hrc
              exact hu (p2 + 1) rc (by simpa using hp2) (by omega)
        | succ p =>
          have hp : rcs[p]? = some rc := by simpa using hp
          have R := j5 p rc hp
          have hip : i + 1 + p = i + (p + 1) := by omega
          have rn1 : n' ≤ rc.n := R.n1
          refine ⟨Nat.le_trans k1 R.n1, R.n2, R.n3, fun p' rc' hp' hlt => ?_, R.ok, fun b hb hn => (R.low b hb hn).shift, fun b hb hn => ?_, fun b hb1 hb2 => (R.new b hb1 hb2).shift, fun b hb => (R.wr b hb).shift, fun b hb => by have := R.wv b hb; rwa [hip] at this, R.st, fun b hb => ?_, fun p' rc' hp' hlt hbit b hb => ?_, fun p' rc' b hp' hlt hw' hv' => ?_, fun b hb x hx hcx => ?_, fun b hb1 hb2 => ?_, fun q hq => ?_, fun q p' rc' hp' hlt hd hu => ?_, fun q hq hu => ?_⟩
          · obtain ⟨p2, rfl⟩ : ∃ p2, p' = p2 + 1 := ⟨p' - 1, by omega⟩
            exact R.nx p2 rc' (by simpa using hp') (by omega)
          · have := R.hi b hb hn
            rw [this]
            show (rst M HL i info h h').get b = h.get b
            exact hnext0 b (fun e => by have := (hwlt b e).2; omega) (by omega)
          · refine R.hid b ?_
            rw [hip]
            obtain ⟨x, hx, q1⟩ := hb
            exact ⟨x, hsub0 x hx, q1⟩
          · cases p' with
            | zero =>
              simp at hp'
              subst hp'
              refine R.hid b ?_
              rw [hip]
              rcases hb with ⟨hb1, hb2⟩ | hb
              · have hb1 : n ≤ b := hb1
                have hb2 : b < n' := hb2
                exact ⟨_, hnewin (by omega), by simpa using hbit, hb1, by show b < n + (n' - n); omega⟩
              · have hb : wb = some b := hb
                refine ⟨(i, b, 1), ?_, by simpa using hbit, Nat.le_refl _, by show b < b + 1; omega⟩
                rw [hb]
                exact List.mem_cons_self
            | succ p' => exact R.hid' p' rc' (by simpa using hp') (by omega) (by rw [hip, show i + 1 + p' = i + (p' + 1) by omega]; exact hbit) b hb
          · obtain ⟨p2, rfl⟩ : ∃ p2, p' = p2 + 1 := ⟨p' - 1, by omega⟩
            have := R.see p2 rc' b (by simpa using hp') (by omega) hw' hv'
            rwa [hip, show i + 1 + p2 = i + (p2 + 1) by omega] at this
          · have := R.kk b hb x (hsub0 x hx) hcx
            rwa [hip] at this
          · rcases R.cov b hb1 hb2 with ⟨x, hx, hcx⟩ | ⟨p', rc', h1, h2, h3⟩
            · rcases hcases x hx with hx | ⟨rfl, _⟩ | ⟨b', hb', rfl⟩
              · exact .inl ⟨x, hx, hcx⟩
              · have := covers_iff.1 hcx
                exact .inr ⟨0, _, rfl, by omega, this.1, by have := this.2; show b < n'; simp at this; omega⟩
              · have := covers_iff.1 hcx
                simp at this
                obtain rfl : b = b' := by omega
                exact .inl (hcov b hb1 (hwlt b hb').2)
            · exact .inr ⟨p' + 1, rc', by simpa using h1, by omega, h3⟩
          · have h1 := R.t0 q fun p' rc' hp' hlt => hq (p' + 1) rc' (by simpa using hp') (by omega)
            rw [h1]
            show (setD t o.dst (v.getD .nov)).get q = t.get q
            have hne : o.dst ≠ some q := hq 0 _ rfl (by omega)
            rw [setD_get hdo, if_neg hne]
          · cases p' with
            | zero =>
              simp at hp'
              subst hp'
              have hd : o.dst = some q := hd
              have hne : ∀ (p2 : Nat) (rc2 : Rc), rcs[p2]? = some rc2 → rc2.o.dst ≠ some q := fun p2 rc2 h2 => hu (p2 + 1) rc2 (by simpa using h2) (by omega)
              rw [R.t0 q fun p2 rc2 h2 _ => hne p2 rc2 h2, j4 q fun rc2 hrc2 => ?_]
              obtain ⟨p2, hp2⟩ := List.getElem?_of_mem hrc2
              exact hne p2 rc2 hp2
            | succ p' => exact R.t1 q p' rc' (by simpa using hp') (by omega) hd fun p2 rc2 h2 hne => hu (p2 + 1) rc2 (by simpa using h2) (by omega)
          · exact R.dst q hq fun p2 rc2 h2 hne => hu (p2 + 1) rc2 (by simpa using h2) (by omega)
end
end Go.Rv

/- Regions that draw their order: every order gives what the text's order gives. -/
set_option linter.unusedVariables false
set_option linter.unusedSimpArgs false
namespace Go.Rv
open Go.RowKit Go.Sg

theorem drawOk_spec {ops : List Oper} {M : List Nat} (h : drawOk ops M = true) {i : Nat} {o : Oper} (hi : ops[i]? = some o) : (∀ e ∈ o.after.toList, Region.binds .any e = true → e.on < i) ∧
    ∀ j oj q, ops[j]? = some oj → j ≠ i → oj.dst = some q → o.dst ≠ some q ∧ (q ∈ looks ops o → (M.getD i 0).testBit j = true ∨ (M.getD j 0).testBit i = true) := by
  have hlt : ∀ {j : Nat} {oj : Oper}, ops[j]? = some oj → j < ops.length := fun {j oj} hj => by
    rcases Nat.lt_or_ge j ops.length with h | h
    · exact h
    · rw [List.getElem?_eq_none h] at hj; cases hj
  unfold drawOk at h
  rw [List.all_eq_true] at h
  have h1 := h i (List.mem_range.2 (hlt hi))
  simp only [hi, Bool.and_eq_true, List.all_eq_true, Bool.or_eq_true, Bool.not_eq_true', decide_eq_true_eq, List.mem_range, beq_iff_eq] at h1
  refine ⟨fun e he hb => ?_, fun j oj q hj hne hd => ?_⟩
  · rcases h1.1 e he with h2 | h2
    · rw [hb] at h2; cases h2
    · exact h2
  · rcases h1.2 j (hlt hj) with h2 | h2
    · exact absurd h2 hne
    · simp only [hj, hd, Bool.and_eq_true, Bool.not_eq_true', decide_eq_false_iff_not, Bool.or_eq_true] at h2
      refine ⟨h2.1, fun hq => ?_⟩
      rcases h2.2 with (h3 | h3) | h3
      · rw [List.contains_iff_mem.2 hq] at h3; cases h3
      · exact .inl h3
      · exact .inr h3

section
variable {ops : List Oper}

theorem getD_ff {listed : Array Bool} {j : Nat} (hj : j < listed.size) : listed.getD j true = listed.getD j false := by simp [Array.getD_eq_getD_getElem?, hj]

/-- Whoever is listed, those it waits for are. -/
def Cl (ops : List Oper) (listed : Array Bool) : Prop := ∀ i, i < ops.length → listed.getD i false = true → ∀ j, ((masks ops []).getD i 0).testBit j = true → listed.getD j false = true

theorem ready_cl {listed : Array Bool} (hc : Cl ops listed) {i : Nat} (hi : i ∈ Region.ready .any ops.toArray listed) : ∀ j, ((masks ops []).getD i 0).testBit j = true → listed.getD j false = true := fun j hb => by
  obtain ⟨_, o, ho, hall⟩ := mem_ready.1 hi
  have ho : ops[i]? = some o := by simpa using ho
  have hlt : i < ops.length := by
    rcases Nat.lt_or_ge i ops.length with h | h
    · exact h
    · rw [List.getElem?_eq_none h] at ho; cases ho
  obtain ⟨e, he, hbd, h1⟩ := masks_bit ops [] i o j ho (by simpa using hb)
  have hl := hall e (by simpa using he) hbd
  rcases h1 with rfl | ⟨h2, h3⟩
  · exact hl
  · exact hc e.on (by simp at h2; omega) hl j h3

theorem Cl.set {listed : Array Bool} (hc : Cl ops listed) {i : Nat} (hi : i ∈ Region.ready .any ops.toArray listed) : Cl ops (listed.setIfInBounds i true) := fun k hk hl j hb => by
  by_cases e : k = i
  · subst e
    exact getD_set_true (ready_cl hc hi j hb)
  · have : (listed.setIfInBounds i true).getD k false = listed.getD k false := getD_set_ne false (Ne.symm e)
    rw [this] at hl
    exact getD_set_true (hc k hk hl j hb)

theorem bit_lt (hd : drawOk ops (masks ops []) = true) : ∀ (i : Nat), i < ops.length → ∀ j, ((masks ops []).getD i 0).testBit j = true → j < i := fun i => by
  induction i using Nat.strongRecOn with
  | _ i ih =>
    intro hi j hb
    obtain ⟨o, ho⟩ : ∃ o, ops[i]? = some o := ⟨_, List.getElem?_eq_getElem hi⟩
    obtain ⟨e, he, hbd, h1⟩ := masks_bit ops [] i o j ho (by simpa using hb)
    have hlt := (drawOk_spec hd ho).1 e he hbd
    rcases h1 with rfl | ⟨h2, h3⟩
    · exact hlt
    · have := ih e.on hlt (by omega) j h3; omega

/-- While something is left, something is ready. -/
theorem ready_ne (hd : drawOk ops (masks ops []) = true) {listed : Array Bool} (hs : listed.size = ops.length) : ∀ (i : Nat), i < ops.length → listed.getD i true = false → Region.ready .any ops.toArray listed ≠ [] := fun i => by
  induction i using Nat.strongRecOn with
  | _ i ih =>
    intro hi hl hr
    obtain ⟨o, ho⟩ : ∃ o, ops[i]? = some o := ⟨_, List.getElem?_eq_getElem hi⟩
    have : i ∈ Region.ready .any ops.toArray listed := by
      refine mem_ready.2 ⟨hl, o, by simpa using ho, fun e he hb => ?_⟩
      have hlt := (drawOk_spec hd ho).1 e (by simpa using he) hb
      cases hq : listed.getD e.on false with
      | true => rfl
      | false =>
        refine absurd hr (ih e.on hlt (by omega) ?_)
        rw [getD_ff (by omega)]; exact hq
    rw [hr] at this
    cases this

/-- At most so many are left. -/
def Left (ops : List Oper) (listed : Array Bool) (fuel : Nat) : Prop := ∃ U : List Nat, U.length ≤ fuel ∧ ∀ j, j < ops.length → listed.getD j true = false → j ∈ U
theorem Left.set {listed : Array Bool} {fuel i : Nat} (h : Left ops listed (fuel + 1)) (hi : i < ops.length) (hs : listed.size = ops.length) (hl : listed.getD i true = false) : Left ops (listed.setIfInBounds i true) fuel := by
  obtain ⟨U, h1, h2⟩ := h
  refine ⟨U.erase i, ?_, fun j hj hlj => ?_⟩
  · have := List.length_erase_of_mem (h2 i hi hl)
    omega
  · have hne : j ≠ i := fun e => by
      subst e
      simp [Array.getD_eq_getD_getElem?, Array.getElem?_setIfInBounds, hs, hj] at hlj
    rw [getD_set_ne true (Ne.symm hne)] at hlj
    exact (List.mem_erase_of_ne hne).2 (h2 j hj hlj)
theorem Left.pos {listed : Array Bool} {i : Nat} (h : Left ops listed 0) (hi : i < ops.length) (hl : listed.getD i true = false) : False := by
  obtain ⟨U, h1, h2⟩ := h
  have := h2 i hi hl
  have h3 : U = [] := List.eq_nil_of_length_eq_zero (by omega)
  rw [h3] at this
  cases this

theorem getD_set_self {listed : Array Bool} {i : Nat} (h : i < listed.size) (d : Bool) : (listed.setIfInBounds i true).getD i d = true := by simp [Array.getD_eq_getD_getElem?, h]
end

/-- The first that is left and writes block b. -/
def fw (listed : Array Bool) (b : Nat) : Nat → List Rc → Option Rc
  | _, [] => none
  | j, rc :: l => if listed.getD j false = false ∧ rc.wb = some b then some rc else fw listed b (j + 1) l
theorem fw_some {listed : Array Bool} {b : Nat} : ∀ (l : List Rc) (j p : Nat) (rc : Rc), l[p]? = some rc → listed.getD (j + p) false = false → rc.wb = some b → (∀ p2 rc2, l[p2]? = some rc2 → p2 < p → listed.getD (j + p2) false = false → rc2.wb ≠ some b) → fw listed b j l = some rc
  | [], j, p, rc, h, _, _, _ => by simp at h
  | r :: l, j, 0, rc, h, h1, h2, _ => by
    simp at h; subst h
    unfold fw; rw [if_pos ⟨h1, h2⟩]
  | r :: l, j, p + 1, rc, h, h1, h2, h3 => by
    unfold fw
    rw [if_neg fun q => h3 0 r rfl (by omega) q.1 q.2]
    exact fw_some l (j + 1) p rc (by simpa using h) (by rw [show j + 1 + p = j + (p + 1) by omega]; exact h1) h2 fun p2 rc2 hp2 hlt hl => h3 (p2 + 1) rc2 (by simpa using hp2) (by omega) (by rw [show j + (p2 + 1) = j + 1 + p2 by omega]; exact hl)
theorem fw_none {listed : Array Bool} {b : Nat} : ∀ (l : List Rc) (j : Nat), (∀ p rc, l[p]? = some rc → listed.getD (j + p) false = false → rc.wb ≠ some b) → fw listed b j l = none
  | [], j, _ => rfl
  | r :: l, j, h => by
    unfold fw
    rw [if_neg fun q => h 0 r rfl q.1 q.2]
    exact fw_none l (j + 1) fun p rc hp hl => h (p + 1) rc (by simpa using hp) (by rw [show j + (p + 1) = j + 1 + p by omega]; exact hl)
theorem fw_congr {listed listed' : Array Bool} {b : Nat} : ∀ (l : List Rc) (j : Nat), (∀ p rc, l[p]? = some rc → rc.wb = some b → listed.getD (j + p) false = listed'.getD (j + p) false) → fw listed b j l = fw listed' b j l
  | [], j, _ => rfl
  | r :: l, j, h => by
    unfold fw
    have ih := fw_congr (listed := listed) (listed' := listed') l (j + 1) fun p rc hp hw => by
      have := h (p + 1) rc (by simpa using hp) hw
      rwa [show j + (p + 1) = j + 1 + p by omega] at this
    rw [ih]
    by_cases hw : r.wb = some b
    · have h0 := h 0 r rfl hw
      rw [Nat.add_zero] at h0
      rw [h0]
    · rw [if_neg fun q => hw q.2, if_neg fun q => hw q.2]

/-- Block b lies there while some of a phase are left. -/
def Lies (listed : Array Bool) (k n0 : Nat) (rcs : List Rc) (b : Nat) : Prop := b < n0 ∨ ∃ p rc, rcs[p]? = some rc ∧ listed.getD (k + p) false = true ∧ rc.n ≤ b ∧ b < rc.n'
/-- The heap while some of a phase are left. -/
noncomputable def HD (listed : Array Bool) (k n0 : Nat) (rcs : List Rc) (h : Hp) : Hp := fun b => by
  classical exact if Lies listed k n0 rcs b then (match fw listed b k rcs with
    | some rc => rc.hm.get b
    | none => h b) else none
section
variable {listed : Array Bool} {k n0 : Nat} {rcs : List Rc} {h : Hp} {b : Nat}
theorem HD_out (hb : n0 ≤ b) (hn : ∀ p rc, rcs[p]? = some rc → listed.getD (k + p) false = true → ¬ (rc.n ≤ b ∧ b < rc.n')) : HD listed k n0 rcs h b = none := by
  unfold HD; rw [if_neg]; rintro (h0 | ⟨p, rc, h1, h2, h3⟩)
  · omega
  · exact hn p rc h1 h2 h3
theorem HD_w (hb : Lies listed k n0 rcs b) {r : Rc} (hf : fw listed b k rcs = some r) : HD listed k n0 rcs h b = r.hm.get b := by
  unfold HD; rw [if_pos hb, hf]
theorem HD_nw (hb : Lies listed k n0 rcs b) (hf : fw listed b k rcs = none) : HD listed k n0 rcs h b = h b := by
  unfold HD; rw [if_pos hb, hf]
/-- What a block holds, read off what comes next. -/
theorem HD_nx {s' : St} {p : Nat} {v : Option Blk} (hb : Lies listed k n0 rcs b) (hx : Nx rcs s' p b v) (hlo : ∀ p2 rc2, rcs[p2]? = some rc2 → rc2.wb = some b → p2 < p → listed.getD (k + p2) false = true)
    (hhi : ∀ p2 rc2, rcs[p2]? = some rc2 → rc2.wb = some b → p ≤ p2 → listed.getD (k + p2) false = false) : HD listed k n0 rcs s'.h.get b = v := by
  rcases hx with ⟨p', rc', q1, q2, q3, q4, q5⟩ | ⟨q1, q2⟩
  · rw [HD_w hb (fw_some rcs k p' rc' q1 (hhi p' rc' q1 q3 q2) q3 fun p2 rc2 hp2 hlt hl hw => ?_), q5]
    rcases Nat.lt_or_ge p2 p with h | h
    · rw [hlo p2 rc2 hp2 hw h] at hl; cases hl
    · exact q4 p2 rc2 hp2 h hlt hw
  · rw [HD_nw hb (fw_none rcs k fun p2 rc2 hp2 hl hw => ?_), q2]
    rcases Nat.lt_or_ge p2 p with h | h
    · rw [hlo p2 rc2 hp2 hw h] at hl; cases hl
    · exact q1 p2 rc2 hp2 h hw
end

section
variable {P : Program} {nt lo : Nat} {ops : List Oper}

/-- **A phase, in whatever order.** -/
theorem ph_any (ro : Option Nat) (hreg : regOkR nt ops = true) (hd : drawOk ops (masks ops []) = true) {k : Nat} {HL : List (Nat × Nat)} {s s' : St} {rcs : List Rc} (hops : ∀ p rc, rcs[p]? = some rc → ops[k + p]? = some rc.o) (hkN : k + rcs.length ≤ ops.length)
    (hlate : k + rcs.length < ops.length → effAt (masks ops []) (k + rcs.length) ops.length = true) (hf : ∀ p rc, rcs[p]? = some rc → RcOk P lo ops (masks ops []) HL s.n [] k s s' rcs p rc) (hout : ∀ b, s.n ≤ b → (∀ rc ∈ rcs, ¬ (rc.n ≤ b ∧ b < rc.n')) → s'.h.get b = s.h.get b) (hft : ∀ q, (∀ rc ∈ rcs, rc.o.dst ≠ some q) → s'.t.get q = s.t.get q)
    {m : Nat} (hm : s'.n ≤ m) (hsn : ∀ b, s.n ≤ b → s.h.get b = none) (hlo : lo ≤ s.n) (hng : NG ≤ s.n) {E0 : Emb} {w0 : World} {d0 : List Deferred} {Q' : Exit → Act → World → Prop}
    (hend : ∀ fuel listed E a w, listed.size = ops.length → Cl ops listed → (∀ j, j < ops.length → listed.getD j true = decide (j < k + rcs.length)) → Left ops listed fuel → SS nt E s'.t a → a.defers = d0 → HS E s'.h.get s'.n m w → RX lo E0 s.h.get s.n w0 E s'.h.get s'.n w →
      wpAnyIn (FR ro) 0 P .any ops.toArray Q' fuel listed a w) : ∀ (fuel : Nat) (listed : Array Bool) (E : Emb) (a : Act) (w : World), listed.size = ops.length → Cl ops listed → (∀ j, j < k → listed.getD j false = true) → (∀ j, k + rcs.length ≤ j → j < ops.length → listed.getD j false = false) →
      Left ops listed fuel → a.tmps.size = nt → (∀ q, q < nt → ((∃ p rc, rcs[p]? = some rc ∧ listed.getD (k + p) false = false ∧ rc.o.dst = some q) → Rr E ((s.t.get q).getD .nov) (a.tmps.getD q undef)) ∧
        ((∀ p rc, rcs[p]? = some rc → listed.getD (k + p) false = false → rc.o.dst ≠ some q) → Rr E ((s'.t.get q).getD .nov) (a.tmps.getD q undef))) → a.defers = d0 → HS E (HD listed k s.n rcs s'.h.get) s'.n m w →
      (∀ p rc, rcs[p]? = some rc → listed.getD (k + p) false = false → ∀ b, rc.n ≤ b → b < rc.n' → E b = none) → RX lo E0 s.h.get s.n w0 E (HD listed k s.n rcs s'.h.get) s'.n w → wpAnyIn (FR ro) 0 P .any ops.toArray Q' fuel listed a w := by
  obtain ⟨hnt, hall⟩ := regOkR_get hreg
  have hplt : ∀ {p : Nat} {rc : Rc}, rcs[p]? = some rc → p < rcs.length := fun {p rc} h => by
    rcases Nat.lt_or_ge p rcs.length with h' | h'
    · exact h'
    · rw [List.getElem?_eq_none h'] at h; cases h
  have huniq : ∀ (p : Nat) (rc : Rc) (p2 : Nat) (rc2 : Rc) (q : Nat), rcs[p]? = some rc → rcs[p2]? = some rc2 → p2 ≠ p → rc2.o.dst = some q → rc.o.dst ≠ some q := fun p rc p2 rc2 q h1 h2 hne hd2 => ((drawOk_spec hd (hops p rc h1)).2 (k + p2) rc2.o q (hops p2 rc2 h2) (by omega) hd2).1
  have hfull : ∀ listed : Array Bool, (∀ p rc, rcs[p]? = some rc → listed.getD (k + p) false = true) → HD listed k s.n rcs s'.h.get = s'.h.get := fun listed hall => funext fun b => by
    rcases Nat.lt_or_ge b s.n with hb | hb
    · exact HD_nw (.inl hb) (fw_none rcs k fun p2 rc2 hp2 hl => by rw [hall p2 rc2 hp2] at hl; cases hl)
    · by_cases hr : ∃ (p : Nat) (rc : Rc), rcs[p]? = some rc ∧ rc.n ≤ b ∧ b < rc.n'
      · obtain ⟨p, rc, h1, h2⟩ := hr
        exact HD_nw (.inr ⟨p, rc, h1, hall p rc h1, h2⟩) (fw_none rcs k fun p2 rc2 hp2 hl => by rw [hall p2 rc2 hp2] at hl; cases hl)
      · rw [HD_out hb fun p rc h1 _ h2 => hr ⟨p, rc, h1, h2⟩, hout b hb fun rc hrc h2 => ?_, hsn b hb]
        obtain ⟨p, hp⟩ := List.getElem?_of_mem hrc
        exact hr ⟨p, rc, hp, h2⟩
  intro fuel
  induction fuel with
  | zero =>
    intro listed E a w hsz hcl hpre hpost hleft hasz hsl hdf hs hfr hx
    refine hend 0 listed E a w hsz hcl (fun j hj => ?_) hleft ?_ hdf ?_ ?_
    all_goals
      have hallL : ∀ j, j < ops.length → listed.getD j true = true := fun j hj => by
        cases hq : listed.getD j true with
        | true => rfl
        | false => exact (hleft.pos hj hq).elim
      have hnone : ∀ p rc, rcs[p]? = some rc → listed.getD (k + p) false ≠ false := fun p rc hp hq => by
        have h1 := hallL (k + p) (by have := hplt hp; omega)
        rw [getD_ff (by have := hplt hp; omega), hq] at h1; cases h1
    · rw [hallL j hj]
      rcases Nat.lt_or_ge j (k + rcs.length) with h | h
      · exact (decide_eq_true h).symm
      · have h1 := hallL j hj
        rw [getD_ff (by omega), hpost j h hj] at h1; cases h1
    · exact ⟨hasz, fun q hq => (hsl q hq).2 fun p rc hp hl => absurd hl (hnone p rc hp)⟩
    · have hh := hfull listed fun p rc hp => by
        cases hq : listed.getD (k + p) false with
        | true => rfl
        | false => exact absurd hq (hnone p rc hp)
      rw [hh] at hs; exact hs
    · have hh := hfull listed fun p rc hp => by
        cases hq : listed.getD (k + p) false with
        | true => rfl
        | false => exact absurd hq (hnone p rc hp)
      rw [hh] at hx; exact hx
  | succ fuel ih =>
    intro listed E a w hsz hcl hpre hpost hleft hasz hsl hdf hs hfr hx
    by_cases hdone : ∀ p rc, rcs[p]? = some rc → listed.getD (k + p) false = true
    · have hnone : ∀ p rc, rcs[p]? = some rc → listed.getD (k + p) false ≠ false := fun p rc hp hq => by rw [hdone p rc hp] at hq; cases hq
      refine hend (fuel + 1) listed E a w hsz hcl (fun j hj => ?_) hleft ⟨hasz, fun q hq => (hsl q hq).2 fun p rc hp hl => absurd hl (hnone p rc hp)⟩ hdf (by rw [hfull listed hdone] at hs; exact hs) ?_
      · rw [getD_ff (by omega)]
        rcases Nat.lt_or_ge j (k + rcs.length) with h | h
        · rw [decide_eq_true h]
          rcases Nat.lt_or_ge j k with h2 | h2
          · exact hpre j h2
          · obtain ⟨p, rfl⟩ : ∃ p, j = k + p := ⟨j - k, by omega⟩
            exact hdone p _ (List.getElem?_eq_getElem (by omega))
        · rw [decide_eq_false (by omega)]; exact hpost j h hj
      · rw [hfull listed hdone] at hx; exact hx
    · have hex : ∃ p rc, rcs[p]? = some rc ∧ listed.getD (k + p) false = false := by
        apply Classical.byContradiction
        intro hno
        refine hdone fun p rc hp => ?_
        cases hq : listed.getD (k + p) false with
        | true => rfl
        | false => exact absurd ⟨p, rc, hp, hq⟩ hno
      obtain ⟨p0, rc0, hp0, hl0⟩ := hex
      refine ⟨fun h => absurd h (ready_ne hd hsz (k + p0) (by have := hplt hp0; omega) (by rw [getD_ff (by have := hplt hp0; omega)]; exact hl0)), fun i hi => ?_⟩
      obtain ⟨hiu, o, ho, _⟩ := mem_ready.1 hi
      have ho : ops[i]? = some o := by simpa using ho
      have hiN : i < ops.length := by
        rcases Nat.lt_or_ge i ops.length with h | h
        · exact h
        · rw [List.getElem?_eq_none h] at ho; cases ho
      have hil : listed.getD i false = false := by rw [← getD_ff (by omega)]; exact hiu
      have hrc := ready_cl hcl hi
      -- it is of the phase
      obtain ⟨p, rc, hp, rfl⟩ : ∃ p rc, rcs[p]? = some rc ∧ i = k + p := by
        have h1 : k ≤ i := by
          rcases Nat.lt_or_ge i k with h | h
          · rw [hpre i h] at hil; cases hil
          · exact h
        have h2 : i < k + rcs.length := by
          rcases Nat.lt_or_ge i (k + rcs.length) with h | h
          · exact h
          · have he := hlate (by omega)
            unfold effAt at he
            simp only [Bool.and_eq_true, List.all_eq_true, List.mem_range, Bool.or_eq_true, decide_eq_true_eq] at he
            rcases Nat.lt_or_eq_of_le h with h3 | h3
            · rcases he.2 i hiN with h4 | h4
              · omega
              · have := hrc _ h4
                rw [hpost _ (Nat.le_refl _) (by omega)] at this; cases this
            · subst h3
              have := hrc _ (he.1 (k + p0) (by have := hplt hp0; omega))
              rw [hl0] at this; cases this
        exact ⟨i - k, rcs[i - k]'(by omega), List.getElem?_eq_getElem (by omega), by omega⟩
      have R := hf p rc hp
      have hro : rc.o = o := by have := hops p rc hp; rw [ho] at this; cases this; rfl
      obtain ⟨ho1, ho2⟩ := hall rc.o (by rw [hro]; exact List.mem_of_getElem? ho)
      have hnil : ∀ b, rc.n ≤ b → rc.hm.get b = none := fun b hb => by
        cases hq : rc.hm.get b with
        | none => rfl
        | some z => have := R.hi b hb (by rw [hq]; simp); rw [hq, hsn b (Nat.le_trans R.n1 hb)] at this; cases this
      have hwlate : ∀ (p2 : Nat) (rc2 : Rc) (b : Nat), rcs[p2]? = some rc2 → rc2.wb = some b → p ≤ p2 → (rc.hm.get b ≠ none ∧ b < rc.n) ∨ (rc.n ≤ b ∧ b < rc.n') → listed.getD (k + p2) false = false := fun p2 rc2 b hp2 hw hle hb => by
        rcases Nat.lt_or_eq_of_le hle with h | h
        · cases hq : listed.getD (k + p2) false with
          | false => rfl
          | true =>
            have hbit := R.see p2 rc2 b hp2 h hw (hb.imp (fun q => ⟨q.2, q.1⟩) id)
            rw [hcl (k + p2) (by have := hplt hp2; omega) hq _ hbit] at hil; cases hil
        · subst h; rw [hp] at hp2; cases hp2; exact hil
      have hwearly : ∀ (p2 : Nat) (rc2 : Rc) (b : Nat), rcs[p2]? = some rc2 → rc2.wb = some b → p2 < p → rc.hm.get b ≠ none → listed.getD (k + p2) false = true := fun p2 rc2 b hp2 hw hlt hb => by
        cases hbit : ((masks ops []).getD (k + p) 0).testBit (k + p2) with
        | true => exact hrc _ hbit
        | false => exact absurd (R.hid' p2 rc2 hp2 hlt hbit b (.inr hw)) hb
      have hmade : ∀ b, s.n ≤ b → b < rc.n → rc.hm.get b ≠ none → ∃ (p2 : Nat) (rc2 : Rc), rcs[p2]? = some rc2 ∧ listed.getD (k + p2) false = true ∧ rc2.n ≤ b ∧ b < rc2.n' := fun b h1 h2 h3 => by
        rcases R.cov b h1 h2 with ⟨x, hx, _⟩ | ⟨p2, rc2, q1, q2, q3⟩
        · cases hx
        · refine ⟨p2, rc2, q1, ?_, q3⟩
          cases hbit : ((masks ops []).getD (k + p) 0).testBit (k + p2) with
          | true => exact hrc _ hbit
          | false => exact absurd (R.hid' p2 rc2 q1 q2 hbit b (.inl q3)) h3
      have hsub : ∀ b, rc.hm.get b ≠ none → rc.hm.get b = HD listed k s.n rcs s'.h.get b := fun b hn => by
        rcases Nat.lt_or_ge b rc.n with hb | hb
        · have hx0 := R.low b hb hn
          have hl0 : Lies listed k s.n rcs b := by
            rcases Nat.lt_or_ge b s.n with h0 | h0
            · exact .inl h0
            · exact .inr (hmade b h0 hb hn)
          exact (HD_nx hl0 hx0 (fun p3 rc3 h1 h2 h3 => hwearly p3 rc3 b h1 h2 h3 hn) fun p3 rc3 h1 h2 h3 => hwlate p3 rc3 b h1 h2 h3 (.inl ⟨hn, hb⟩)).symm
        · exact absurd (hnil b hb) hn
      have hfri : ∀ b, rc.n ≤ b → b < rc.n' → E b = none := hfr p rc hp hil
      have hsi : HS E rc.hm.get rc.n rc.n' w := by
        have := hs.sub hsub
        exact ⟨this.blk, this.inj, this.old, hfri, fun b hb => hnil b (Nat.le_trans R.n2 hb), Nat.le_trans hng R.n1, this.glob⟩
      have hslot : ∀ q, q < nt → q ∈ looks ops rc.o → Rr E ((rc.t.get q).getD .nov) (a.tmps.getD q undef) := fun q hq hlk => by
        obtain ⟨s1, s2⟩ := hsl q hq
        by_cases hw : ∃ (p2 : Nat) (rc2 : Rc), rcs[p2]? = some rc2 ∧ rc2.o.dst = some q
        · obtain ⟨p2, rc2, hp2, hd2⟩ := hw
          have huq : ∀ (p3 : Nat) (rc3 : Rc), rcs[p3]? = some rc3 → p3 ≠ p2 → rc3.o.dst ≠ some q := fun p3 rc3 hp3 hne => huniq p3 rc3 p2 rc2 q hp3 hp2 (Ne.symm hne) hd2
          have hold : p ≤ p2 → rc.t.get q = s.t.get q := fun hle => R.t0 q fun p' rc' hp' hlt => huq p' rc' hp' (by omega)
          by_cases e : p2 = p
          · subst e
            rw [hp] at hp2; cases hp2
            rw [hold (Nat.le_refl _)]
            exact s1 ⟨p2, rc, hp, hil, hd2⟩
          · rcases ((drawOk_spec hd (hops p rc hp)).2 (k + p2) rc2.o q (hops p2 rc2 hp2) (by omega) hd2).2 hlk with hb | hb
            · have hlt := bit_lt hd _ hiN _ hb
              rw [R.t1 q p2 rc2 hp2 (by omega) hd2 huq]
              refine s2 fun p3 rc3 hp3 hl3 hd3 => ?_
              by_cases e3 : p3 = p2
              · subst e3; rw [hrc _ hb] at hl3; cases hl3
              · exact huq p3 rc3 hp3 e3 hd3
            · have hlt := bit_lt hd (k + p2) (by have := hplt hp2; omega) _ hb
              rw [hold (by omega)]
              refine s1 ⟨p2, rc2, hp2, ?_, hd2⟩
              cases hq2 : listed.getD (k + p2) false with
              | false => rfl
              | true => have := hcl (k + p2) (by have := hplt hp2; omega) hq2 _ hb; rw [hil] at this; cases this
        · have hno : ∀ (p2 : Nat) (rc2 : Rc), rcs[p2]? = some rc2 → rc2.o.dst ≠ some q := fun p2 rc2 h2 hd2 => hw ⟨p2, rc2, h2, hd2⟩
          rw [R.t0 q fun p' rc' hp' _ => hno p' rc' hp', ← hft q fun rc2 hrc2 => ?_]
          · exact s2 fun p3 rc3 hp3 _ => hno p3 rc3 hp3
          · obtain ⟨p2, hp2⟩ := List.getElem?_of_mem hrc2
            exact hno p2 rc2 hp2
      have hopd : OpdOk E rc.t a rc.o := fun x hx => opd_of x (opsOk_mem ho1 hx) fun q hq => by
        subst hq
        refine hslot q (by simpa [opdOk] using opsOk_mem ho1 hx) ?_
        unfold looks
        rw [List.mem_append, List.mem_filterMap]
        exact .inl ⟨.tmp q, by simpa using hx, rfl⟩
      have hgs : ∀ d, gSlot ops rc.o = some d → d < a.tmps.size ∧ Rr E ((rc.t.get d).getD .nov) (a.tmps.getD d undef) := fun d hdd => by
        have hlt := gSlot_lt (fun o ho => (hall o ho).2) d hdd
        refine ⟨by omega, hslot d hlt ?_⟩
        unfold looks
        rw [List.mem_append, hdd]
        exact .inr (by simp)
      obtain ⟨l, hl0, hl1, hgok⟩ := R.ok
      have run := hgok.2 ro rc.n' E a w (Nat.le_refl _) hopd hgs hsi (wpAnyIn (FR ro) 0 P .any ops.toArray Q' fuel (listed.setIfInBounds (k + p) true)) Q' fun E' y w' q1 q2 q3 => by
        have q1 : HS E' rc.h'.get rc.n' rc.n' w' := q1
        have q2 : RX l E rc.hm.get rc.n w E' rc.h'.get rc.n' w' := q2
        have q3 : Rr E' (rc.v.getD .nov) y := q3
        have hup : ∀ b z, E b = some z → E' b = some z := hsi.up q2 (Nat.le_refl _)
        have hset : ∀ p2, p2 ≠ p → (listed.setIfInBounds (k + p) true).getD (k + p2) false = listed.getD (k + p2) false := fun p2 hne => getD_set_ne false (by omega)
        have hself : (listed.setIfInBounds (k + p) true).getD (k + p) false = true := getD_set_self (by omega) false
        have hul : ∀ p2 rc2, rcs[p2]? = some rc2 → (listed.setIfInBounds (k + p) true).getD (k + p2) false = false → p2 ≠ p ∧ listed.getD (k + p2) false = false := fun p2 rc2 hp2 hl2 => by
          have hne : p2 ≠ p := fun e => by subst e; rw [hself] at hl2; cases hl2
          exact ⟨hne, by rw [← hset p2 hne]; exact hl2⟩
        have hdis : ∀ p2 rc2, rcs[p2]? = some rc2 → p2 ≠ p → ∀ b, rc2.n ≤ b → b < rc2.n' → b < rc.n ∨ rc.n' ≤ b := fun p2 rc2 hp2 hne b hb1 hb2 => by
          rcases Nat.lt_or_gt_of_ne hne with h | h
          · have := (hf p2 rc2 hp2).nx p rc hp h; omega
          · have := R.nx p2 rc2 hp2 h; omega
        have hmono : ∀ q, listed.getD q false = true → (listed.setIfInBounds (k + p) true).getD q false = true := fun q hq => getD_set_true hq
        have hnew : ∀ b, (rc.hm.get b ≠ none ∧ b < rc.n) ∨ (rc.n ≤ b ∧ b < rc.n') → Nx rcs s' (p + 1) b (rc.h'.get b) := fun b hb => by
          rcases hb with ⟨h1, h2⟩ | ⟨h1, h2⟩
          · by_cases hw : rc.wb = some b
            · exact R.wr b hw
            · rw [R.st b h2 hw]
              exact (R.low b h2 h1).next fun rc2 hrc2 => by rw [hp] at hrc2; cases hrc2; exact hw
          · exact R.new b h1 h2
        obtain ⟨r1, r2⟩ := hs.side (H' := HD (listed.setIfInBounds (k + p) true) k s.n rcs s'.h.get) hsub hnil q2 hl1 q1 R.n3 hm hfri
          (fun b hb => by
            have hb : (rc.hm.get b ≠ none ∧ b < rc.n) ∨ (rc.n ≤ b ∧ b < rc.n') := hb.imp (fun h => ⟨h, by
              rcases Nat.lt_or_ge b rc.n with h3 | h3
              · exact h3
              · exact absurd (hnil b h3) h⟩) id
            have hx1 := hnew b hb
            · have hl0 : Lies (listed.setIfInBounds (k + p) true) k s.n rcs b := by
                rcases Nat.lt_or_ge b s.n with h0 | h0
                · exact .inl h0
                · rcases hb with ⟨h1, h2⟩ | h1
                  · obtain ⟨p2, rc2, e1, e2, e3⟩ := hmade b h0 h2 h1
                    exact .inr ⟨p2, rc2, e1, hmono _ e2, e3⟩
                  · exact .inr ⟨p, rc, hp, hself, h1⟩
              refine HD_nx hl0 hx1 (fun p3 rc3 h1 h2 h3 => ?_) fun p3 rc3 h1 h2 h3 => ?_
              · by_cases e : p3 = p
                · subst e; exact hself
                · rcases hb with ⟨h4, _⟩ | ⟨h4, _⟩
                  · exact hmono _ (hwearly p3 rc3 b h1 h2 (by omega) h4)
                  · have g1 := ((hf p3 rc3 h1).wv b h2).2.1
                    have g2 := (hf p3 rc3 h1).nx p rc hp (by omega)
                    have g3 := (hf p3 rc3 h1).n2
                    omega
              · rw [hset p3 (by omega)]
                exact hwlate p3 rc3 b h1 h2 (by omega) hb)
          (fun b hb0 hb => by
            · have hfw : fw (listed.setIfInBounds (k + p) true) b k rcs = fw listed b k rcs := fw_congr rcs k fun p2 rc2 h1 h2 => by
                by_cases e : p2 = p
                · subst e; rw [hp] at h1; cases h1; exact absurd hb0 (R.wv b h2).2.2
                · exact hset p2 e
              by_cases hq : Lies listed k s.n rcs b
              · have hq' : Lies (listed.setIfInBounds (k + p) true) k s.n rcs b := hq.imp id fun ⟨p2, rc2, e1, e2, e3⟩ => ⟨p2, rc2, e1, hmono _ e2, e3⟩
                cases hfv : fw listed b k rcs with
                | none => rw [HD_nw hq hfv, HD_nw hq' (hfw.trans hfv)]
                | some r => rw [HD_w hq hfv, HD_w hq' (hfw.trans hfv)]
              · have h0 : s.n ≤ b := Nat.le_of_not_lt fun h => hq (.inl h)
                rw [HD_out h0 fun p2 rc2 h1 h2 h3 => hq (.inr ⟨p2, rc2, h1, h2, h3⟩), HD_out h0 fun p2 rc2 h1 h2 h3 => ?_]
                by_cases e : p2 = p
                · subst e; rw [hp] at h1; cases h1; omega
                · rw [hset p2 e] at h2; exact hq (.inr ⟨p2, rc2, h1, h2, h3⟩))
        have hputd : ∀ q, q < nt → (a.put rc.o.dst y).tmps.getD q undef = if rc.o.dst = some q then y else a.tmps.getD q undef := fun q hq => by
          cases hdst : rc.o.dst with
          | none => simp [Act.put]
          | some d =>
            have hdn := dstOk_lt ho2 d hdst
            rw [getD_put a d q y (by rw [hasz]; exact hdn)]
            by_cases e : q = d
            · subst e; simp
            · rw [if_neg e, if_neg (fun h => e (Option.some.inj h).symm)]
        refine ih (listed.setIfInBounds (k + p) true) E' _ w' (by simp [hsz]) (hcl.set hi) (fun j hj => getD_set_true (hpre j hj)) (fun j hj hjN => by rw [getD_set_ne false (by have := hplt hp; omega)]; exact hpost j hj hjN) (hleft.set hiN hsz hiu) ?_ (fun q hq => ⟨?_, fun hno => ?_⟩) (by rw [put_defers]; exact hdf) r1 (fun p2 rc2 hp2 hl2 b hb1 hb2 => ?_) (r2 hx (by omega) hlo R.n1)
        · cases hdst : rc.o.dst <;> simp [Act.put, hasz]
        · rintro ⟨p2, rc2, hp2, hl2, hd2⟩
          obtain ⟨e1, e2⟩ := hul p2 rc2 hp2 hl2
          rw [hputd q hq, if_neg (huniq p rc p2 rc2 q hp hp2 e1 hd2)]
          exact ((hsl q hq).1 ⟨p2, rc2, hp2, e2, hd2⟩).mono hup
        · rw [hputd q hq]
          by_cases hdq : rc.o.dst = some q
          · rw [if_pos hdq, R.dst q hdq fun p2 rc2 hp2 hne => huniq p2 rc2 p rc q hp2 hp (Ne.symm hne) hdq]
            exact q3
          · rw [if_neg hdq]
            refine ((hsl q hq).2 fun p2 rc2 hp2 hl2 => ?_).mono hup
            by_cases e : p2 = p
            · subst e; rw [hp] at hp2; cases hp2; exact hdq
            · exact hno p2 rc2 hp2 (by rw [hset p2 e]; exact hl2)
        · obtain ⟨e1, e2⟩ := hul p2 rc2 hp2 hl2
          rw [q2.emb b (hdis p2 rc2 hp2 e1 b hb1 hb2)]
          exact hfr p2 rc2 hp2 e2 b hb1 hb2
      unfold wpOpIn
      simp only [List.getElem?_toArray, ho]
      rw [hro] at run
      exact run
end
end Go.Rv

/- Running code and functions on the heap of numbers. -/
set_option linter.unusedVariables false
set_option linter.unusedSimpArgs false
namespace Go.Rv
open Go.RowKit Go.Sg

section
variable {P : Program} {nt lo : Nat} {ops : List Oper} {call : Calr} {effF : FuncId → Bool}

theorem masks_len : ∀ (l : List Oper) (acc : List Nat), (masks l acc).length = acc.length + l.length
  | [], acc => rfl
  | o :: l, acc => by unfold masks; rw [masks_len l]; simp; omega
theorem masks_out {i : Nat} (h : ops.length ≤ i) : (masks ops []).getD i 0 = 0 := by
  rw [List.getD_eq_getElem?_getD, List.getElem?_eq_none (by rw [masks_len]; simpa using h)]; rfl

theorem evDraw_ok (hc : CallsOk P call) (hreg : regOkR nt ops = true) (hd : drawOk ops (masks ops []) = true) : ∀ (f k : Nat) (HL : List (Nat × Nat)) (l : List Oper) (s s' : St), evDraw P call lo ops (masks ops []) effF f k HL l s = some s' → (∀ j, l[j]? = ops[k + j]?) → k + l.length = ops.length → lo ≤ s.n → KH lo s.h s'.h s.n s'.n ∧
    ∀ (ro : Option Nat) (m : Nat) (Q' : Exit → Act → World → Prop) (fuel : Nat) (listed : Array Bool) (E : Emb) (a : Act) (w : World), s'.n ≤ m → listed.size = ops.length → Cl ops listed → (∀ j, j < ops.length → listed.getD j true = decide (j < k)) → Left ops listed fuel → SS nt E s.t a → HS E s.h.get s.n m w →
      (∀ E' a' w', SS nt E' s'.t a' → a'.defers = a.defers → HS E' s'.h.get s'.n m w' → RX lo E s.h.get s.n w E' s'.h.get s'.n w' → Q' .normal a' w') → wpAnyIn (FR ro) 0 P .any ops.toArray Q' fuel listed a w
  | 0, k, HL, l, s, s', h, _, _, _ => by cases h
  | f + 1, k, HL, l, s, s', h, hl, hlen, hlo => by
    obtain ⟨hnt, hall⟩ := regOkR_get hreg
    have hmem : ∀ o ∈ l, o ∈ ops := fun o ho => by
      obtain ⟨j, hj⟩ := List.getElem?_of_mem ho
      rw [hl j] at hj
      exact List.mem_of_getElem? hj
    have hdu : ∀ o ∈ l, ∀ d, o.dst = some d → d < ub := fun o ho d hdd => Nat.lt_of_lt_of_le (dstOk_lt (hall o (hmem o ho)).2 d hdd) hnt
    unfold evDraw at h
    obtain ⟨hHLb, h⟩ := bif_opt h
    simp only [Bool.and_eq_true, List.all_eq_true, decide_eq_true_eq] at hHLb
    obtain ⟨hHL, hsub⟩ := hHLb
    have hbits : ∀ i j, ((masks ops []).getD i 0).testBit j = true → j < i := fun i j hb => by
      rcases Nat.lt_or_ge i ops.length with h1 | h1
      · exact bit_lt hd i h1 j hb
      · rw [masks_out h1] at hb; simp at hb
    -- the phase, whatever follows
    have phase : ∀ k' s1 rest, phR P call lo ops (masks ops []) HL effF s.n k l [] s = some (k', s1, rest) → (rest ≠ [] → effAt (masks ops []) k' ops.length = true) → k' + rest.length = ops.length ∧ (∀ j, rest[j]? = ops[k' + j]?) ∧ KH lo s.h s1.h s.n s1.n ∧
        ∀ (ro : Option Nat) (m : Nat) (Q' : Exit → Act → World → Prop) (fuel : Nat) (listed : Array Bool) (E : Emb) (a : Act) (w : World), s1.n ≤ m → listed.size = ops.length → Cl ops listed → (∀ j, j < ops.length → listed.getD j true = decide (j < k)) → Left ops listed fuel → SS nt E s.t a → HS E s.h.get s.n m w →
          (∀ fuel listed E' a' w', listed.size = ops.length → Cl ops listed → (∀ j, j < ops.length → listed.getD j true = decide (j < k')) → Left ops listed fuel → SS nt E' s1.t a' → a'.defers = a.defers → HS E' s1.h.get s1.n m w' → RX lo E s.h.get s.n w E' s1.h.get s1.n w' → wpAnyIn (FR ro) 0 P .any ops.toArray Q' fuel listed a' w') →
          wpAnyIn (FR ro) 0 P .any ops.toArray Q' fuel listed a w := fun k' s1 rest hph heff => by
      obtain ⟨rcs, j1, j2, j3, j4, j6, j7, j5⟩ := phR_ok hc hbits (fun x hx => (hHL x hx).2) hlo hsub l k [] s k' s1 rest hph (fun x hx => by cases hx) (fun x hx => by cases hx) (fun b h1 h2 => by omega) (Nat.le_refl _) hdu
      have hll : l.length = rcs.length + rest.length := by rw [j1]; simp
      obtain ⟨hnn, hkeep0⟩ := j3
      have hkeep : ∀ b, b < lo ∨ s1.n ≤ b → s1.h.get b = s.h.get b := fun b hb => hkeep0 b (hb.imp (fun h => ⟨by omega, fun x hx e => by have := (hHL x hx).1; omega⟩) id)
      refine ⟨by omega, fun j => ?_, ⟨hnn, fun b hb => hkeep b hb⟩, fun ro m Q' fuel listed E a w hm hsz hcl hpre hleft hss hs hend => ?_⟩
      · have := hl (rcs.length + j)
        rw [j1, List.getElem?_append_right (by simp)] at this
        rw [j2, Nat.add_assoc, ← this]
        simp
      · have hout : ∀ b, s1.n ≤ b ∨ b < s.n → ∀ (p : Nat) (rc : Rc), rcs[p]? = some rc → ¬ (rc.n ≤ b ∧ b < rc.n') := fun b hb p rc hp hr => by
          have R := j5 p rc hp
          have := R.n1; have := R.n2; have := R.n3
          omega
        have hun : ∀ p rc, rcs[p]? = some rc → listed.getD (k + p) false = false := fun p rc hp => by
          have hlt : p < rcs.length := by
            rcases Nat.lt_or_ge p rcs.length with h | h
            · exact h
            · rw [List.getElem?_eq_none h] at hp; cases hp
          rw [← getD_ff (by omega), hpre _ (by omega)]
          exact decide_eq_false (by omega)
        have hnl : ∀ b, s.n ≤ b → HD listed k s.n rcs s1.h.get b = none := fun b hb => HD_out hb fun p rc hp hl => by rw [hun p rc hp] at hl; cases hl
        have hbase : ∀ b, b < s.n → HD listed k s.n rcs s1.h.get b = s.h.get b := fun b hb => HD_nx (.inl hb) (j7 b hb) (fun p2 rc2 _ _ hlt => absurd hlt (Nat.not_lt_zero _)) fun p2 rc2 h1 _ _ => hun p2 rc2 h1
        have hHD : ∀ b, HD listed k s.n rcs s1.h.get b ≠ none → HD listed k s.n rcs s1.h.get b = s.h.get b := fun b hb => by
          rcases Nat.lt_or_ge b s.n with h | h
          · exact hbase b h
          · exact absurd (hnl b h) hb
        have hsn : ∀ b, s.n ≤ b → s.h.get b = none := fun b hb => hs.none_of hb
        have hs1 := hs.sub hHD
        refine ph_any ro hreg hd (k := k) (s := s) (s' := s1) (rcs := rcs) (fun p rc hp => ?_) (by omega) (fun hlt => ?_) j5 (fun b hb hr => j6 b hb (fun x hx => by cases hx) hr) j4 hm hsn hlo hs.ng (lo := lo) (E0 := E) (w0 := w) (d0 := a.defers) (fun fuel listed E' a' w' h1 h2 h3 h4 h5 h6 h7 h8 => hend fuel listed E' a' w' h1 h2 (by rw [j2]; exact h3) h4 h5 h6 h7 h8)
          fuel listed E a w hsz hcl (fun j hj => ?_) (fun j hj hjN => ?_) hleft hss.size (fun q hq => ⟨fun _ => hss.slot q hq, fun hno => ?_⟩) rfl ⟨hs1.blk, hs1.inj, hs1.old, fun b hb1 hb2 => hs.free b (by omega) hb2, hs1.top, Nat.le_trans hs.ng hnn, hs1.glob⟩ (fun p rc hp _ b hb1 hb2 => ?_)
          ⟨rfl, ⟨rfl, Nat.le_refl _⟩, rfl, Nat.le_refl _, hnn, fun _ _ => rfl, fun g hg hf => ⟨rfl, fun b s2 hb => hf b s2 (by rw [← hHD b hb]; exact hb)⟩, fun b hb => ⟨?_, fun _ _ _ _ => rfl⟩, fun b hb => ?_⟩
        · have hlt : p < rcs.length := by
            rcases Nat.lt_or_ge p rcs.length with h | h
            · exact h
            · rw [List.getElem?_eq_none h] at hp; cases hp
          rw [← hl p, j1, List.getElem?_append_left (by simpa using hlt), List.getElem?_map, hp]; rfl
        · rw [← j2]
          refine heff fun e => ?_
          subst e
          simp at hll
          omega
        · rw [← getD_ff (by omega), hpre j (by omega)]; exact decide_eq_true hj
        · rw [← getD_ff (by omega), hpre j hjN]; exact decide_eq_false (by omega)
        · have : s1.t.get q = s.t.get q := j4 q fun rc hrc => by
            obtain ⟨p, hp⟩ := List.getElem?_of_mem hrc
            exact hno p rc hp (hun p rc hp)
          rw [this]; exact hss.slot q hq
        · have R := j5 p rc hp
          have := R.n1; have := R.n3
          exact hs.free b (by omega) (by omega)
        · exact hbase b (by omega)
        · rw [hnl b (by omega), hsn b (by omega)]
    split at h
    · cases h
    · rename_i k' s1 hph
      cases h
      obtain ⟨p1, p2, p3, p4⟩ := phase _ _ _ hph (by simp)
      refine ⟨p3, fun ro m Q' fuel listed E a w hm hsz hcl hpre hleft hss hs hend => p4 ro m Q' fuel listed E a w hm hsz hcl hpre hleft hss hs fun fuel listed E' a' w' h1 h2 h3 h4 h5 h6 h7 h8 => ?_⟩
      have hready : Region.ready .any ops.toArray listed = [] := by
        cases hr : Region.ready .any ops.toArray listed with
        | nil => rfl
        | cons i r =>
          obtain ⟨q1, o, q2, _⟩ := mem_ready.1 (show i ∈ Region.ready .any ops.toArray listed by rw [hr]; simp)
          have hiN : i < ops.length := by
            rcases Nat.lt_or_ge i ops.length with h | h
            · exact h
            · rw [List.getElem?_toArray, List.getElem?_eq_none h] at q2; cases q2
          rw [h3 i hiN, decide_eq_true (by simp at p1; omega)] at q1
          cases q1
      cases fuel with
      | zero => exact ⟨hready, hend E' a' w' h5 h6 h7 h8⟩
      | succ fuel => exact ⟨fun _ => hend E' a' w' h5 h6 h7 h8, fun i hi => by rw [hready] at hi; cases hi⟩
    · rename_i k' t1 h1' n1 o l' hph
      cases heff : effAt (masks ops []) k' ops.length with
      | false =>
        rw [heff] at h
        simp only [cond_false] at h
        split at h <;> try cases h
        exact evDraw_ok hc hreg hd f k _ l s s' h hl hlen hlo
      | true =>
      rw [heff] at h
      simp only [cond_true] at h
      split at h <;> try cases h
      rename_i v h2' n2 hv
      obtain ⟨p1, p2, p3, p4⟩ := phase _ _ _ hph (fun _ => heff)
      have hn1 : lo ≤ n1 := Nat.le_trans hlo p3.nn
      obtain ⟨k1, k2⟩ := evO_ok hc hn1 hv
      have ho : ops[k']? = some o := by have := p2 0; simpa using this.symm
      have hkN : k' < ops.length := by simp at p1; omega
      obtain ⟨i1, i2⟩ := evDraw_ok hc hreg hd f (k' + 1) [] l' _ s' h (fun j => by have := p2 (j + 1); simpa [Nat.add_assoc, Nat.add_comm 1 j] using this) (by simp at p1 ⊢; omega) (Nat.le_trans hn1 k1.nn)
      have hmo := hall o (List.mem_of_getElem? ho)
      refine ⟨p3.trans (k1.trans i1), fun ro m Q' fuel listed E a w hm hsz hcl hpre hleft hss hs hend => p4 ro m Q' fuel listed E a w (Nat.le_trans (Nat.le_trans k1.nn i1.nn) hm) hsz hcl hpre hleft hss hs fun fuel listed E' a' w' h1 h2 h3 h4 h5 h6 h7 h8 => ?_⟩
      have hkl : listed.getD k' true = false := by rw [h3 k' hkN]; exact decide_eq_false (by omega)
      cases fuel with
      | zero => exact (h4.pos hkN hkl).elim
      | succ fuel =>
        refine ⟨fun hr => absurd hr (ready_ne hd h1 k' hkN hkl), fun i hi => ?_⟩
        have hrc := ready_cl h2 hi
        obtain ⟨hiu, oi, hoi, _⟩ := mem_ready.1 hi
        have hiN : i < ops.length := by
          rcases Nat.lt_or_ge i ops.length with h | h
          · exact h
          · rw [List.getElem?_toArray, List.getElem?_eq_none h] at hoi; cases hoi
        have hik : i = k' := by
          rw [h3 i hiN] at hiu
          have hge : ¬ i < k' := of_decide_eq_false hiu
          rcases Nat.lt_or_eq_of_le (Nat.le_of_not_lt hge) with hlt | he
          · unfold effAt at heff
            simp only [Bool.and_eq_true, List.all_eq_true, List.mem_range, Bool.or_eq_true, decide_eq_true_eq] at heff
            rcases heff.2 i hiN with h4 | h4
            · omega
            · have := hrc _ h4
              rw [← getD_ff (by omega), hkl] at this; cases this
          · exact he.symm
        subst hik
        have run := k2 ro m E' a' w' (Nat.le_trans i1.nn hm) (h5.opds hmo.1) (h5.gslot fun o ho => (hall o ho).2) h7 (wpAnyIn (FR ro) 0 P .any ops.toArray Q' fuel (listed.setIfInBounds i true)) Q' fun E2 y w2 q1 q2 q3 => by
          have hm1 : n2 ≤ m := Nat.le_trans i1.nn hm
          refine i2 ro m Q' fuel (listed.setIfInBounds i true) E2 _ w2 hm (by simp [h1]) (h2.set hi) (fun j hj => ?_) (h4.set hiN h1 hkl) ((h5.mono (h7.up q2 hm1)).putD hnt (dstOk_lt hmo.2) q3) q1 fun E3 a3 w3 r1 r2 r3 r4 => hend E3 a3 w3 r1 (by rw [r2, put_defers, h6]) r3 (h8.trans (q2.trans r4 h7 hm1 hn1) hs (Nat.le_trans k1.nn hm1) hlo)
          by_cases e : j = i
          · subst e; rw [getD_set_self (by omega) true]; exact (decide_eq_true (by omega)).symm
          · rw [getD_set_ne true (Ne.symm e), h3 j hj]
            by_cases e2 : j < i
            · rw [decide_eq_true e2, decide_eq_true (by omega)]
            · rw [decide_eq_false e2, decide_eq_false (by omega)]
        unfold wpOpIn
        simp only [List.getElem?_toArray, ho]
        exact run

/-! ## Code -/

def evC (P : Program) (call : Calr) (effF : FuncId → Bool) (rd : Bool) (lo nt : Nat) : Nat → Option Code → Code → St → Option (Exit × St)
  | 0, _, _, _ => none
  | f + 1, some c0, c, s => (match evC P call effF rd lo nt f none c s with
    | some (.goto l, s1) => (match findLabel c0 l with
      | some rest => evC P call effF rd lo nt f (some c0) rest s1
      | none => some (.goto l, s1))
    | r => r)
  | f + 1, none, c, s => match c with
    | .skip => some (.normal, s)
    | .exit i => some (.exit i, s)
    | .ret => some (.ret, s)
    | .label _ => some (.normal, s)
    | .goto l => some (.goto l, s)
    | .scope c => evC P call effF rd lo nt f (some c) c s
    | .seq x y => match evC P call effF rd lo nt f none x s with
      | some (.normal, s1) => evC P call effF rd lo nt f none y s1
      | r => r
    | .block id b => match evC P call effF rd lo nt f none b s with
      | some (.exit i, s1) => bif i == id then some (.normal, s1) else some (.exit i, s1)
      | r => r
    | .cond x a b => match evR s.t x with
      | .bool t => bif opdOk nt x then (bif t then evC P call effF rd lo nt f none a s else evC P call effF rd lo nt f none b s) else none
      | _ => none
    | .loop b => match evC P call effF rd lo nt f none b s with
      | some (.normal, s1) => evC P call effF rd lo nt f none (.loop b) s1
      | r => r
    | .region _ ops false => bif regOkR nt ops.toList then (evOps P call lo ops.toList ops.toList s).map fun s => (.normal, s) else none
    | .region _ ops true => bif regOkR nt ops.toList && drawOk ops.toList (masks ops.toList []) then (evDraw P call lo ops.toList (masks ops.toList []) effF (2 * ops.toList.length + 2) 0 [] ops.toList s).map fun s => (.normal, s) else none
    | .rangeFunc g ps asg body => (match evR s.t g with
      | .fn fid fs cs => bif !rd && (opdOk nt g && (hasBody P fid && decide (s.n < ub))) then
          (match call lo (.inl fid) (fs ++ [.yl s.n] ++ cs) (s.h.set s.n (some (.lp .ready none s.t nt ps.toList asg body))) (s.n + 1) with
          | some (_, h2, n2) => (match h2.get s.n with
            | some (.lp st pe t1 nt1 ps1 asg1 body1) => bif decide (st = .busy) then none else (match pe with
              | none => some (.normal, ⟨s.t, h2.set s.n (some (.lp .exhausted pe t1 nt1 ps1 asg1 body1)), n2⟩)
              | some .ret => some (.ret, ⟨s.t, h2.set s.n (some (.lp .exhausted pe t1 nt1 ps1 asg1 body1)), n2⟩)
              | some (.exit i) => some (.exit i, ⟨s.t, h2.set s.n (some (.lp .exhausted pe t1 nt1 ps1 asg1 body1)), n2⟩)
              | _ => none)
            | _ => none)
          | none => none) else none
      | _ => none)
    | _ => none

theorem HS.drew {E : Emb} {h : Hp} {n m : Nat} {w : World} (hs : HS E h n m w) : HS E h n m w.drew := ⟨fun b k hk => by
  obtain ⟨g, s, h1, h2⟩ := hs.blk b k hk
  exact ⟨g, s, h1, h2.mono (fun _ _ h => h) rfl⟩, hs.inj, hs.old, hs.free, hs.top, hs.ng, hs.glob⟩
theorem RX.drew {lo : Nat} {E : Emb} {h : Hp} {n : Nat} {w : World} {E' : Emb} {h' : Hp} {n' : Nat} {w' : World} (hx : RX lo E h n w.drew E' h' n' w') : RX lo E h n w E' h' n' w' := ⟨hx.os, ⟨hx.tape.1, Nat.le_trans (Nat.le_succ _) hx.tape.2⟩, hx.output, hx.size, hx.nn, hx.emb, hx.frame, hx.keep, hx.beyond⟩

/-- A block laid that no number names. -/
theorem HS.laid {E : Emb} {h : Hp} {n m : Nat} {w : World} (hs : HS E h n m w) (o : Obj) : HS E h n m (w.alloc o) := by
  have hold : ∀ g, g < w.heap.size → (w.alloc o).heap[g]? = w.heap[g]? := fun g hg => by
    show (w.heap.push o)[g]? = w.heap[g]?
    rw [Array.getElem?_push, if_neg (by omega)]
  refine ⟨fun b k hk => ?_, hs.inj, fun b g s hb => by rw [World.size_alloc]; have := hs.old b g s hb; omega, hs.free, hs.top, hs.ng, hs.glob⟩
  obtain ⟨g, s, h1, h2⟩ := hs.blk b k hk
  exact ⟨g, s, h1, h2.mono (fun _ _ h => h) (hold g (hs.old b g s h1))⟩
theorem RX.laid {lo : Nat} {E : Emb} {h : Hp} {n : Nat} {w : World} {E' : Emb} {h' : Hp} {n' m : Nat} {w' : World} (hs : HS E h n m w) (o : Obj) (hx : RX lo E h n (w.alloc o) E' h' n' w') : RX lo E h n w E' h' n' w' := by
  have hold : ∀ g, g < w.heap.size → (w.alloc o).heap[g]? = w.heap[g]? := fun g hg => by
    show (w.heap.push o)[g]? = w.heap[g]?
    rw [Array.getElem?_push, if_neg (by omega)]
  have hsz : (w.alloc o).heap.size = w.heap.size + 1 := World.size_alloc _ _
  refine ⟨hx.os, hx.tape, hx.output, by have := hx.size; omega, hx.nn, hx.emb, fun g hg hf => ?_, fun b hb => ?_, hx.beyond⟩
  · obtain ⟨h1, h2⟩ := hx.frame g (by omega) hf
    exact ⟨h1.trans (hold g hg), h2⟩
  · obtain ⟨h1, h2⟩ := hx.keep b hb
    exact ⟨h1, fun g s hn he => (h2 g s hn he).trans (hold g (hs.old b g s he))⟩
/-- A block that no number names turns. -/
theorem HS.aside {E : Emb} {h : Hp} {n m : Nat} {w : World} (hs : HS E h n m w) {r : Nat} (hr : ∀ b z, h b ≠ none → E b ≠ some (r, z)) (o : Obj) : HS E h n m (w.putObj r o) := by
  refine ⟨fun b k hk => ?_, hs.inj, fun b g s hb => by rw [World.putObj_size]; exact hs.old b g s hb, hs.free, hs.top, hs.ng, hs.glob⟩
  obtain ⟨g, s, h1, h2⟩ := hs.blk b k hk
  exact ⟨g, s, h1, h2.mono (fun _ _ h => h) (World.putObj_heap_other fun e => hr b s (by rw [hk]; simp) (by rw [h1, e]))⟩

theorem rounds_mono {F : Fence} {c : Code} {Q Q' : Exit → Act → World → Prop} (hq : ∀ e a w, Q e a w → Q' e a w) : ∀ (m : Nat) (a : Act) (w : World), Code.roundsIn F 0 P c Q m a w → Code.roundsIn F 0 P c Q' m a w
  | 0, _, _, h => h
  | m + 1, a, w, h => by
    rw [roundsIn_succ] at h ⊢
    refine wpIn_mono h fun e a' w' q => ?_
    cases e with
    | normal => exact rounds_mono hq m a' w' q
    | _ => exact hq _ _ _ q

/-- Code run at the top of a scope, up to k jumps back. -/
def ScRun (F : Fence) (P : Program) (c0 : Code) (Q : Exit → Act → World → Prop) : Nat → Code → Act → World → Prop
  | 0, _, _, _ => False
  | k + 1, c, a, w => c.wpIn F 0 P (fun e a' w' => match e with
    | .goto l => (match findLabel c0 l with
      | some rest => ScRun F P c0 Q k rest a' w'
      | none => Q (.goto l) a' w')
    | e => Q e a' w') a w
theorem stepR_scope {b : Frame} {a : Act} {k : List Item} {cs : List Frame} {w : World} {c : Code} : step P (lone (b.atR a (.code (.scope c) :: k)) cs w) = .next (lone (b.atR a (.code c :: .inScope c :: k)) cs w) :=
  step_lone_go (by simp [stepG, stepG.exec, Frame.atR])
theorem stepR_inScope {b : Frame} {a : Act} {k : List Item} {cs : List Frame} {w : World} {c : Code} : step P (lone (b.atR a (.inScope c :: k)) cs w) = .next (lone (b.atR a k) cs w) :=
  step_lone_go (by simp [stepG, stepG.exec, Frame.atR])
theorem scRun_arrives {F : Fence} {c0 : Code} {Q : Exit → Act → World → Prop} : ∀ (m : Nat) (c : Code) (a : Act) (w : World), ScRun F P c0 Q m c a w → ∀ (b : Frame) (k : List Item) (cs : List Frame), b.roundOf = F.round → F.fn b.fn → F.room (cs.length + 1 + 0) →
    ∃ e a' w', Q e a' w' ∧ ArrivesIn (Machine.fenced P F) P (lone (b.atR a (.code c :: .inScope c0 :: k)) cs w) b k cs e a' w'
  | 0, _, _, _, h => h.elim
  | m + 1, c, a, w, h => fun b k cs hro hb hr => by
    obtain ⟨e, a1, w1, hq, harr⟩ := h b (.inScope c0 :: k) cs hro hb hr
    cases e with
    | normal => exact ⟨.normal, a1, w1, hq, StepsIn.trans harr (.one (fenced_calm hb hr rfl) stepR_inScope)⟩
    | exit id => exact ⟨.exit id, a1, w1, hq, fun k' hk => harr.1 k' (by simp [exitTo, hk]), fun h1 h2 => harr.2 h1 (by simp [exitTo, h2])⟩
    | ret => exact ⟨.ret, a1, w1, hq, harr⟩
    | panic ch => exact ⟨.panic ch, a1, w1, hq, harr⟩
    | outgrown => exact ⟨.outgrown, a1, w1, hq, harr⟩
    | goto l =>
      cases hf : findLabel c0 l with
      | none =>
        simp only [hf] at hq
        exact ⟨.goto l, a1, w1, hq, fun k' hk => harr.1 k' (by simp [gotoIn, hf, hk]), fun h1 h2 => harr.2 h1 (by simp [gotoIn, hf, h2])⟩
      | some rest =>
        simp only [hf] at hq
        obtain ⟨e2, a2, w2, hq2, harr2⟩ := scRun_arrives m rest a1 w1 hq b k cs hro hb hr
        exact ⟨e2, a2, w2, hq2, .of_steps (harr.1 _ (by simp [gotoIn, hf])) harr2⟩
theorem wpIn_scope {F : Fence} {c : Code} {Q : Exit → Act → World → Prop} {a : Act} {w : World} (m : Nat) (h : ScRun F P c Q m c a w) : (Code.scope c).wpIn F 0 P Q a w := fun b k cs hro hb hr => by
  obtain ⟨e, a1, w1, hq, harr⟩ := scRun_arrives m c a w h b k cs hro hb hr
  exact ⟨e, a1, w1, hq, .of_steps (.one (fenced_calm hb hr rfl) stepR_scope) harr⟩
theorem scRun_mono {F : Fence} {c0 : Code} {Q Q' : Exit → Act → World → Prop} (hq : ∀ e a w, Q e a w → Q' e a w) : ∀ (m : Nat) (c : Code) (a : Act) (w : World), ScRun F P c0 Q m c a w → ScRun F P c0 Q' m c a w
  | 0, _, _, _, h => h
  | m + 1, c, a, w, h => by
    unfold ScRun at h ⊢
    refine wpIn_mono h fun e a' w' q => ?_
    cases e with
    | goto l =>
      cases hf : findLabel c0 l with
      | none => simp only [hf] at q ⊢; exact hq _ _ _ q
      | some rest => simp only [hf] at q ⊢; exact scRun_mono hq m rest a' w' q
    | _ => exact hq _ _ _ q

abbrev markOf (g : Nat) : Deferred := { target := .collected g, args := #[] }
/-- Marks of ranges over functions that have ended: their blocks, laid since w, hold no calls, and no number names them. -/
structure MarksOk (D : List Nat) (w w' : World) (E' : Emb) (h' : Hp) : Prop where
  nodup : D.Nodup
  late : ∀ g ∈ D, w.heap.size ≤ g
  held : ∀ g ∈ D, w'.heap[g]? = some (.deferred (some []))
  free : ∀ g ∈ D, ∀ b z, h' b ≠ none → E' b ≠ some (g, z)
theorem MarksOk.nil (w w' : World) (E' : Emb) (h' : Hp) : MarksOk [] w w' E' h' := ⟨.nil, by simp, by simp, by simp⟩
theorem heap_lt {w : World} {g : Nat} {o : Obj} (h : w.heap[g]? = some o) : g < w.heap.size := (Array.getElem?_eq_some_iff.1 h).1
theorem MarksOk.next {D : List Nat} {w w1 w2 : World} {E1 E2 : Emb} {h1 h2 : Hp} {n1 n2 : Nat} (k : MarksOk D w w1 E1 h1) (hx : RX lo E1 h1 n1 w1 E2 h2 n2 w2) : MarksOk D w w2 E2 h2 :=
  ⟨k.nodup, k.late, fun g hg => ((hx.frame g (heap_lt (k.held g hg)) fun b s hb => k.free g hg b s hb).1).trans (k.held g hg), fun g hg b z hb => (hx.frame g (heap_lt (k.held g hg)) fun b s hb => k.free g hg b s hb).2 b z hb⟩
theorem MarksOk.app {D1 D2 : List Nat} {w w1 w2 : World} {E1 E2 : Emb} {h1 h2 : Hp} {n1 n2 : Nat} (k : MarksOk D1 w w1 E1 h1) (hx : RX lo E1 h1 n1 w1 E2 h2 n2 w2) (j : MarksOk D2 w1 w2 E2 h2) (hsz : w.heap.size ≤ w1.heap.size) : MarksOk (D2 ++ D1) w w2 E2 h2 := by
  have k' := k.next hx
  refine ⟨?_, fun g hg => ?_, fun g hg => ?_, fun g hg => ?_⟩
  · rw [List.nodup_append]
    refine ⟨j.nodup, k.nodup, fun a ha b hb e => ?_⟩
    subst e
    have := j.late a ha
    have := heap_lt (k.held a hb)
    omega
  · rcases List.mem_append.1 hg with h | h
    · exact Nat.le_trans hsz (j.late g h)
    · exact k.late g h
  · rcases List.mem_append.1 hg with h | h
    · exact j.held g h
    · exact k'.held g h
  · rcases List.mem_append.1 hg with h | h
    · exact j.free g h
    · exact k'.free g h

/-- What a run of code ends in. -/
def CPost (nt lo : Nat) (m : Nat) (E : Emb) (s s' : St) (e : Exit) (a : Act) (w : World) (e' : Exit) (a' : Act) (w' : World) : Prop := e' = e ∧ ∃ E' D, SS nt E' s'.t a' ∧ (a'.defers = List.map markOf D ++ a.defers ∧ MarksOk D w w' E' s'.h.get) ∧ HS E' s'.h.get s'.n m w' ∧ RX lo E s.h.get s.n w E' s'.h.get s'.n w'

theorem CPost.trans {m : Nat} {E E1 : Emb} {s s1 s2 : St} {e : Exit} {a a1 : Act} {w w1 : World} {D : List Nat} (hs : HS E s.h.get s.n m w) (hm : s1.n ≤ m) (hlo : lo ≤ s.n) (hd : a1.defers = List.map markOf D ++ a.defers ∧ MarksOk D w w1 E1 s1.h.get) (hx : RX lo E s.h.get s.n w E1 s1.h.get s1.n w1) {e' : Exit} {a' : Act} {w' : World}
    (h : CPost nt lo m E1 s1 s2 e a1 w1 e' a' w') : CPost nt lo m E s s2 e a w e' a' w' := by
  obtain ⟨h1, E', D2, h2, h3, h4, h5⟩ := h
  exact ⟨h1, E', D2 ++ D, h2, ⟨by rw [h3.1, hd.1]; simp, hd.2.app h5 h3.2 hx.size⟩, h4, hx.trans h5 hs hm hlo⟩

set_option maxHeartbeats 400000 in
theorem evC_ok (hmx : P.follows .mixedOrders = true) (hc : CallsOk P call) (rd : Bool) : ∀ (f : Nat) (sc : Option Code) (c : Code) (s : St) (e : Exit) (s' : St), evC P call effF rd lo nt f sc c s = some (e, s') → lo ≤ s.n → KH lo s.h s'.h s.n s'.n ∧ ∃ k : Nat,
    ∀ (ro : Option Nat) (m : Nat) (E : Emb) (a : Act) (w : World), (rd = false → ro = none) → s'.n ≤ m → SS nt E s.t a → HS E s.h.get s.n m w → match sc with
      | none => c.wpIn (FR ro) 0 P (CPost nt lo m E s s' e a w) a w ∧ ∀ b, c = .loop b → Code.roundsIn (FR ro) 0 P b (CPost nt lo m E s s' e a w) k a w
      | some c0 => ScRun (FR ro) P c0 (CPost nt lo m E s s' e a w) k c a w
  | 0, _, _, _, _, _, h, _ => by cases h
  | f + 1, some c0, c, s, e, s', h, hlo => by
    unfold evC at h
    split at h
    · rename_i l s1 h1
      obtain ⟨k1, kn, k2⟩ := evC_ok hmx hc rd f none c s _ s1 h1 hlo
      cases hf : findLabel c0 l with
      | none =>
        rw [hf] at h
        cases h
        refine ⟨k1, 1, fun ro m E a w hro hm hss hs => ?_⟩
        unfold ScRun
        refine wpIn_mono (k2 ro m E a w hro hm hss hs).1 ?_
        rintro e1 a1 w1 ⟨rfl, r⟩
        simp only [hf]
        exact ⟨rfl, r⟩
      | some rest =>
        rw [hf] at h
        obtain ⟨j1, jn, j2⟩ := evC_ok hmx hc rd f (some c0) rest s1 e s' h (Nat.le_trans hlo k1.nn)
        refine ⟨k1.trans j1, jn + 1, fun ro m E a w hro hm hss hs => ?_⟩
        unfold ScRun
        refine wpIn_mono (k2 ro m E a w hro (Nat.le_trans j1.nn hm) hss hs).1 ?_
        rintro e1 a1 w1 ⟨rfl, E1, D1, q1, q2, q3, q4⟩
        simp only [hf]
        exact scRun_mono (fun e2 a2 w2 r => CPost.trans hs (Nat.le_trans j1.nn hm) hlo q2 q4 r) jn rest a1 w1 (j2 ro m E1 a1 w1 hro hm q1 q3)
    · rename_i h1
      obtain ⟨k1, kn, k2⟩ := evC_ok hmx hc rd f none c s e s' h hlo
      refine ⟨k1, 1, fun ro m E a w hro hm hss hs => ?_⟩
      unfold ScRun
      refine wpIn_mono (k2 ro m E a w hro hm hss hs).1 ?_
      rintro e1 a1 w1 ⟨rfl, r⟩
      cases e1 with
      | goto l => exact absurd h (h1 l s')
      | _ => exact ⟨rfl, r⟩
  | f + 1, none, c, s, e, s', h, hlo => by
    have ih := fun (c : Code) (s : St) (e : Exit) (s' : St) (h : evC P call effF rd lo nt f none c s = some (e, s')) (hlo : lo ≤ s.n) => evC_ok hmx hc rd f none c s e s' h hlo
    have nl : ∀ {ro : Option Nat} {c : Code} {s s' : St} {e : Exit} {m : Nat} {E : Emb} {a : Act} {w : World}, (∀ b, c ≠ .loop b) → c.wpIn (FR ro) 0 P (CPost nt lo m E s s' e a w) a w → c.wpIn (FR ro) 0 P (CPost nt lo m E s s' e a w) a w ∧ ∀ b, c = .loop b → Code.roundsIn (FR ro) 0 P b (CPost nt lo m E s s' e a w) 0 a w := fun hn h => ⟨h, fun b hb => absurd hb (hn b)⟩
    have triv : ∀ {m : Nat} {E : Emb} {a : Act} {w : World} {e : Exit}, SS nt E s.t a → HS E s.h.get s.n m w → CPost nt lo m E s s e a w e a w := fun hss hs => ⟨rfl, _, [], hss, ⟨rfl, .nil _ _ _ _⟩, hs, RX.refl _ _ _ _ _⟩
    unfold evC at h
    split at h
    · cases h; exact ⟨KH.refl _ _ _, 0, fun ro m E a w hro hm hss hs => nl (by simp) (wpIn_skip (triv hss hs))⟩
    · cases h; exact ⟨KH.refl _ _ _, 0, fun ro m E a w hro hm hss hs => nl (by simp) (wpIn_exit (triv hss hs))⟩
    · cases h; exact ⟨KH.refl _ _ _, 0, fun ro m E a w hro hm hss hs => nl (by simp) (wpIn_ret (triv hss hs))⟩
    · cases h; exact ⟨KH.refl _ _ _, 0, fun ro m E a w hro hm hss hs => nl (by simp) (wpIn_label (triv hss hs))⟩
    · cases h; exact ⟨KH.refl _ _ _, 0, fun ro m E a w hro hm hss hs => nl (by simp) (wpIn_goto (triv hss hs))⟩
    · rename_i c1
      obtain ⟨k1, kn, k2⟩ := evC_ok hmx hc rd f (some c1) c1 s e s' h hlo
      exact ⟨k1, 0, fun ro m E a w hro hm hss hs => nl (by simp) (wpIn_scope kn (k2 ro m E a w hro hm hss hs))⟩
    · rename_i x y
      split at h
      · rename_i s1 h1
        obtain ⟨k1, kn, k2⟩ := ih x s _ s1 h1 hlo
        obtain ⟨j1, jn, j2⟩ := ih y s1 e s' h (Nat.le_trans hlo k1.nn)
        refine ⟨k1.trans j1, 0, fun ro m E a w hro hm hss hs => nl (by simp) (wpIn_seq (wpIn_mono (k2 ro m E a w hro (Nat.le_trans j1.nn hm) hss hs).1 ?_))⟩
        rintro e1 a1 w1 ⟨rfl, E1, D1, q1, q2, q3, q4⟩
        exact wpIn_mono (j2 ro m E1 a1 w1 hro hm q1 q3).1 fun e2 a2 w2 r => CPost.trans hs (Nat.le_trans j1.nn hm) hlo q2 q4 r
      · rename_i h1
        obtain ⟨k1, kn, k2⟩ := ih x s e s' h hlo
        refine ⟨k1, 0, fun ro m E a w hro hm hss hs => nl (by simp) (wpIn_seq (wpIn_mono (k2 ro m E a w hro hm hss hs).1 ?_))⟩
        rintro e1 a1 w1 ⟨rfl, r⟩
        cases e1 with
        | normal => exact absurd h (h1 s')
        | _ => exact ⟨rfl, r⟩
    · rename_i id b
      split at h
      · rename_i i s1 h1
        obtain ⟨k1, kn, k2⟩ := ih b s _ s1 h1 hlo
        cases hi : i == id with
        | true =>
          rw [hi] at h
          cases h
          refine ⟨k1, 0, fun ro m E a w hro hm hss hs => nl (by simp) (wpIn_block (wpIn_mono (k2 ro m E a w hro hm hss hs).1 ?_))⟩
          rintro e1 a1 w1 ⟨rfl, r⟩
          simp only [Exit.inBlock]
          rw [if_pos (by simpa using hi)]
          exact ⟨rfl, r⟩
        | false =>
          rw [hi] at h
          cases h
          refine ⟨k1, 0, fun ro m E a w hro hm hss hs => nl (by simp) (wpIn_block (wpIn_mono (k2 ro m E a w hro hm hss hs).1 ?_))⟩
          rintro e1 a1 w1 ⟨rfl, r⟩
          simp only [Exit.inBlock]
          rw [if_neg (by simpa using hi)]
          exact ⟨rfl, r⟩
      · rename_i h1
        obtain ⟨k1, kn, k2⟩ := ih b s e s' h hlo
        refine ⟨k1, 0, fun ro m E a w hro hm hss hs => nl (by simp) (wpIn_block (wpIn_mono (k2 ro m E a w hro hm hss hs).1 ?_))⟩
        rintro e1 a1 w1 ⟨rfl, r⟩
        cases e1 with
        | exit i => exact absurd h (h1 i s')
        | _ => exact ⟨rfl, r⟩
    · rename_i x c1 c2
      split at h
      · rename_i t hx
        obtain ⟨ho, h⟩ := bif_opt h
        have hv : ∀ {E : Emb} {a : Act}, SS nt E s.t a → a.eval x = .bool t := fun hss => by
          have := hss.opd x ho
          rw [hx] at this
          generalize Act.eval _ x = y at this ⊢
          cases this; rfl
        cases t with
        | true =>
          obtain ⟨k1, kn, k2⟩ := ih c1 s e s' h hlo
          exact ⟨k1, 0, fun ro m E a w hro hm hss hs => nl (by simp) (wpIn_cond_true (hv hss) (k2 ro m E a w hro hm hss hs).1)⟩
        | false =>
          obtain ⟨k1, kn, k2⟩ := ih c2 s e s' h hlo
          exact ⟨k1, 0, fun ro m E a w hro hm hss hs => nl (by simp) (wpIn_cond_false (hv hss) (k2 ro m E a w hro hm hss hs).1)⟩
      · cases h
    · rename_i b
      split at h
      · rename_i s1 h1
        obtain ⟨k1, kn, k2⟩ := ih b s _ s1 h1 hlo
        obtain ⟨j1, jn, j2⟩ := ih (.loop b) s1 e s' h (Nat.le_trans hlo k1.nn)
        refine ⟨k1.trans j1, jn + 1, fun ro m E a w hro hm hss hs => ?_⟩
        have key : Code.roundsIn (FR ro) 0 P b (CPost nt lo m E s s' e a w) (jn + 1) a w := by
          rw [roundsIn_succ]
          refine wpIn_mono (k2 ro m E a w hro (Nat.le_trans j1.nn hm) hss hs).1 ?_
          rintro e1 a1 w1 ⟨rfl, E1, D1, q1, q2, q3, q4⟩
          exact rounds_mono (fun e2 a2 w2 r => CPost.trans hs (Nat.le_trans j1.nn hm) hlo q2 q4 r) jn a1 w1 ((j2 ro m E1 a1 w1 hro hm q1 q3).2 b rfl)
        exact ⟨wpIn_loop_rounds _ key, fun b' hb' => by cases hb'; exact key⟩
      · rename_i h1
        obtain ⟨k1, kn, k2⟩ := ih b s e s' h hlo
        refine ⟨k1, 1, fun ro m E a w hro hm hss hs => ?_⟩
        have key : Code.roundsIn (FR ro) 0 P b (CPost nt lo m E s s' e a w) 1 a w := by
          rw [roundsIn_succ]
          refine wpIn_mono (k2 ro m E a w hro hm hss hs).1 ?_
          rintro e1 a1 w1 ⟨rfl, r⟩
          cases e1 with
          | normal => exact absurd h (h1 s')
          | _ => exact ⟨rfl, r⟩
        exact ⟨wpIn_loop_rounds 1 key, fun b' hb' => by cases hb'; exact key⟩
    · rename_i id ops'
      obtain ⟨hr, h⟩ := bif_opt h
      rw [Option.map_eq_some_iff] at h
      obtain ⟨s1, h1, h2⟩ := h
      obtain ⟨rfl, rfl⟩ := Prod.mk.inj h2
      obtain ⟨k1, k2⟩ := evOps_ok hc hr ops'.toList s s1 (fun _ h => h) h1 hlo
      refine ⟨k1, 0, fun ro m E a w hro hm hss hs => nl (by simp) ?_⟩
      have := wpIn_region_lit (F := FR ro) (n := 0) (P := P) (id := id) (Q := CPost nt lo m E s s1 .normal a w) (l := ops'.toList) (k2 ro m E a w _ hm hss hs fun E' a' w' q1 q2 q3 q4 => ⟨rfl, E', [], q1, ⟨q2, .nil _ _ _ _⟩, q3, q4⟩)
      simpa using this
    · rename_i id ops'
      obtain ⟨hr, h⟩ := bif_opt h
      rw [Bool.and_eq_true] at hr
      rw [Option.map_eq_some_iff] at h
      obtain ⟨s1, h1, h2⟩ := h
      obtain ⟨rfl, rfl⟩ := Prod.mk.inj h2
      obtain ⟨k1, k2⟩ := evDraw_ok hc hr.1 hr.2 _ 0 [] ops'.toList s s1 h1 (fun j => by rw [Nat.zero_add]) (by simp) hlo
      refine ⟨k1, 0, fun ro m E a w hro hm hss hs => nl (by simp) (wpIn_region_any hmx ?_)⟩
      have := k2 ro m (CPost nt lo m E s s1 .normal a w) ops'.size (Array.replicate ops'.size false) E a w.drew hm (by simp) (fun i hi hl => by
          have hi' : i < ops'.size := by simpa using hi
          simp [Array.getD_eq_getD_getElem?, hi'] at hl) (fun j hj => by
          have hj' : j < ops'.size := by simpa using hj
          simp [Array.getD_eq_getD_getElem?, hj']) ⟨List.range ops'.size, by simp, fun j hj _ => by simpa using hj⟩ hss hs.drew
        fun E' a' w' q1 q2 q3 q4 => ⟨rfl, E', [], q1, ⟨q2, .nil _ _ _ _⟩, q3, q4.drew⟩
      simpa using this
    · -- a range over a function
      rename_i g ps asg body
      split at h <;> try cases h
      rename_i fid fs cs hg
      obtain ⟨hck, h⟩ := bif_opt h
      simp only [Bool.and_eq_true, Bool.not_eq_true', decide_eq_true_eq] at hck
      obtain ⟨hrd, hgo, hbd, hub⟩ := hck
      split at h <;> try cases h
      rename_i v h2 n2 hcall
      split at h <;> try cases h
      rename_i st pe t1 nt1 ps1 asg1 body1 hrec
      have hst : ¬ st = .busy := fun e => by rw [decide_eq_true e] at h; cases h
      rw [decide_eq_false hst] at h
      simp only [cond_false] at h
      generalize hh1 : s.h.set s.n (some (.lp .ready none s.t nt ps.toList asg body)) = h1 at hcall
      generalize hh3 : h2.set s.n (some (.lp .exhausted pe t1 nt1 ps1 asg1 body1)) = h3 at h
      obtain ⟨q1, q2⟩ := hc _ _ _ _ _ _ _ _ hcall (Nat.le_succ_of_le hlo)
      have q2 : ∀ (m : Nat) (E : Emb) (w : World) (vals : Array Value), n2 ≤ m → HS E h1.get (s.n + 1) m w → vals.size = (fs ++ [RV.yl s.n] ++ cs).length → (∀ (j : Nat) (d : RV) (u : Value), (fs ++ [RV.yl s.n] ++ cs)[j]? = some d → vals[j]? = some u → Rr E d u) →
        Calls P fid vals w (EndsIn lo E h1 (s.n + 1) w v h2 n2 m) := q2
      have hk1 : KH lo s.h h1 s.n (s.n + 1) := hh1 ▸ KH.new hlo hub _
      have hk3 : KH lo h2 h3 n2 n2 := hh3 ▸ KH.turn hlo (Nat.lt_of_succ_le q1.nn) hub _
      have hnn : s.n + 1 ≤ n2 := q1.nn
      have hs' : s' = ⟨s.t, h3, n2⟩ := by
        split at h <;> first | (cases h; rfl) | cases h
      subst hs'
      refine ⟨(hk1.trans q1).trans hk3, 0, fun ro m E a w hro hm hss hs => nl (by simp) (wpIn_rangeFunc fun fn _ => ?_)⟩
      have hm : n2 ≤ m := hm
      obtain rfl : ro = none := hro hrd
      have hgr := hss.opd g hgo
      rw [hg] at hgr
      generalize hgv : a.eval g = gv at hgr
      cases hgr with
      | fn _ _ _ us vs hf1 hc1 hfr hcr =>
        have hcf : ∀ (vals : Array Value) (w : World), (callFunc fid vals).run P w = .ok (.enter fid vals) w := fun vals w => by
          unfold hasBody at hbd
          cases hP : P.funcs[fid]? with
          | none => rw [hP] at hbd; cases hbd
          | some fn =>
            rw [hP] at hbd
            simp only [Bool.and_eq_true, Bool.not_eq_true'] at hbd
            have hn : fn.body.isNone = false := by cases h : fn.body <;> simp_all
            simp only [callFunc, Sem.run_bind, run_program, Result.andThen_ok, hP, hbd.2, hn, Bool.false_eq_true, if_false, Sem.run_pure]
        obtain ⟨rec, hrecd⟩ : ∃ rec : Loop, rec = { state := .ready, pending := none, fn, tmps := a.tmps, params := ps, assign := asg, body, defers := w.heap.size } := ⟨_, rfl⟩
        obtain ⟨W0, hW0⟩ : ∃ W0, w.alloc (.deferred (some [])) = W0 := ⟨_, rfl⟩
        obtain ⟨W1, hW1⟩ : ∃ W1, W0.alloc (.loop rec) = W1 := ⟨_, rfl⟩
        have hsz0 : W0.heap.size = w.heap.size + 1 := by rw [← hW0]; exact World.size_alloc _ _
        have hsz1 : W1.heap.size = w.heap.size + 2 := by rw [← hW1, World.size_alloc, hsz0]
        have hs0 : HS E s.h.get s.n m W0 := by rw [← hW0]; exact hs.laid _
        have hpush : W1.heap = W0.heap.push (.loop rec) := by rw [← hW1]; rfl
        have hL1 : W1.heap[w.heap.size + 1]? = some (.loop rec) := by rw [hpush, ← hsz0]; simp
        have hK0 : W0.heap[w.heap.size]? = some (.deferred (some [])) := by
          rw [← hW0]; show (w.heap.push _)[w.heap.size]? = _; simp
        have hK1 : W1.heap[w.heap.size]? = some (.deferred (some [])) := by
          rw [hpush, Array.getElem?_push, if_neg (by omega)]; exact hK0
        obtain ⟨r1, r2, r3⟩ := hs0.new (lo := lo) (by omega) hlo (w' := W1) hpush (by rw [← hW1]; rfl) (by rw [← hW1]; exact ⟨rfl, Nat.le_refl _⟩) (by rw [← hW1]; rfl) (k := .lp .ready none s.t nt ps.toList asg body) (s := 0)
          ⟨rec, by rw [hsz0]; exact hL1, by rw [hrecd], by rw [hrecd], by rw [hrecd], by rw [hrecd], by rw [hrecd], by rw [hrecd]; exact hss.size, fun i hi => by rw [hrecd]; exact (hss.slot i hi).mono (updE_up hs (by omega) _)⟩
        rw [hsz0] at r1 r2 r3
        rw [← get_set_fun hub, hh1] at r1 r2
        rw [← hW0] at r2
        replace r2 := RX.laid hs _ r2
        generalize hE1 : updE E s.n (some (w.heap.size + 1, 0)) = E1 at r1 r2 r3
        have hEn : E1 s.n = some (w.heap.size + 1, 0) := by rw [← hE1]; exact updE_same _ _ _
        -- nobody names the deferred calls' block
        have hun : ∀ b z, h1.get b ≠ none → E1 b ≠ some (w.heap.size, z) := fun b z hb he => by
          by_cases e : b = s.n
          · subst e; rw [hEn] at he; simp at he
          · rw [← hE1, updE_ne _ _ e] at he
            have := hs.old b _ z he
            omega
        refine ⟨w.heap.size + 1, [markOf w.heap.size], W1, { target := .fn (.func fid) vs, args := us ++ #[.func (.yield (w.heap.size + 1)) #[] #[]] }, W1, fid, us ++ #[.func (.yield (w.heap.size + 1)) #[] #[]] ++ vs, W1, ?_, ?_, fun _ _ => trivial, ?_, depth_FR _, ?_⟩
        · rw [← hW1, ← hW0, hrecd]; exact run_enterLoop_outer _ _ _ _ _
        · simp only [resolve, hgv]
          simp [Deferred.ofValue, Act.eval]
        · simp [invoke, hcf]
        · have hcl : Calls P fid (us ++ #[.func (.yield (w.heap.size + 1)) #[] #[]] ++ vs) W1 (EndsIn lo E1 h1 (s.n + 1) W1 v h2 n2 m) := q2 m E1 W1 _ hm r1 (by simp only [List.length_append, List.length_cons, List.length_nil, Array.size_append, List.size_toArray]; omega) (fun j d u hd hu => by
            rw [List.getElem?_append, List.getElem?_append] at hd
            rw [Array.getElem?_append, Array.getElem?_append] at hu
            simp only [List.length_append, List.length_cons, List.length_nil, Array.size_append, List.size_toArray] at hd hu
            rw [hf1] at hd
            split at hd
            · rename_i h1
              rw [if_pos h1] at hu
              split at hd
              · rename_i h2
                rw [if_pos h2] at hu
                exact (hfr j d u hd hu).mono r3
              · rename_i h2
                rw [if_neg h2] at hu
                obtain ⟨rfl⟩ : j = us.size := by omega
                simp at hd hu
                subst hd
                subst hu
                exact .yl _ _ _ hEn
            · rename_i h1
              rw [if_neg h1] at hu
              exact (hcr _ d u hd hu).mono r3)
          refine callsIn_FR (Calls.mono hcl ?_)
          rintro e2 w2 ⟨y, E2, rfl, p1, p2, p3⟩
          obtain ⟨g2, z2, u1, rr, u2, u3, u4, u5, u6, u7, u8, u9⟩ := p1.blk s.n _ hrec
          have hE2 : E2 s.n = some (w.heap.size + 1, 0) := by rw [p2.emb s.n (.inl (by omega))]; exact hEn
          rw [hE2] at u1
          cases u1
          have hfrm := p2.frame w.heap.size (by omega) fun b z hb => hun b z hb
          obtain ⟨t1', t2'⟩ := p1.turn (lo := lo) (b := s.n) (g := w.heap.size + 1) (s := 0) hlo (by omega) (by rw [hrec]; simp) hE2 (w' := w2.putObj (w.heap.size + 1) (.loop { rr with state := .exhausted })) (by simp) (fun g' hg' => World.putObj_heap_other hg') rfl ⟨rfl, Nat.le_refl _⟩ rfl
            (k := .lp .exhausted pe t1 nt1 ps1 asg1 body1) ⟨{ rr with state := .exhausted }, World.putObj_heap_same (heap_lt u2), rfl, u4, u5, u6, u7, u8, u9⟩
          rw [← get_set_fun hub, hh3] at t1' t2'
          have hpost : ∀ e0, CPost nt lo m E s ⟨s.t, h3, n2⟩ e0 a w e0 { a with defers := [markOf w.heap.size] ++ a.defers } (w2.putObj (w.heap.size + 1) (.loop { rr with state := .exhausted })) := fun e0 => by
            have hup : ∀ b p, E b = some p → E2 b = some p := fun b p hp => r1.up p2 hm b p (r3 b p hp)
            have hkk := t2'.frame w.heap.size (heap_lt (hfrm.1.trans hK1)) fun b z hb => hfrm.2 b z hb
            refine ⟨rfl, E2, [w.heap.size], (show SS nt E s.t { a with defers := [markOf w.heap.size] ++ a.defers } from ⟨hss.size, hss.slot⟩).mono hup, ⟨rfl, by simp, by simp, by simpa using hkk.1.trans (hfrm.1.trans hK1), by simpa using hkk.2⟩, t1', ?_⟩
            exact (r2.trans p2 hs (by omega) hlo).trans t2' hs hm hlo
          refine ⟨pe, w2.putObj (w.heap.size + 1) (.loop { rr with state := .exhausted }), ?_, ?_⟩
          · have := run_endLoop (P := P) u2 (by rw [u3]; exact hst)
            rw [← u4]
            exact this
          · split at h <;> cases h
            · exact hpost _
            · exact wpIn_ret (hpost _)
            · exact wpIn_exit (hpost _)
    · cases h
end
end Go.Rv

/- Running functions on the heap of numbers; a closed call as a contract. -/
set_option linter.unusedVariables false
set_option linter.unusedSimpArgs false
namespace Go.Rv
open Go.RowKit Go.Sg

def entryT : Nat → List RV → Tr RV → Tr RV
  | _, [], t => t
  | k, v :: l, t => entryT (k + 1) l (t.set k (some v))
theorem entryT_get : ∀ (l : List RV) (k : Nat) (t : Tr RV) (i : Nat), k + l.length ≤ ub → (entryT k l t).get i = if k ≤ i ∧ i < k + l.length then l[i - k]? else t.get i
  | [], k, t, i, _ => by rw [if_neg (by simp)]; rfl
  | v :: l, k, t, i, h => by
    unfold entryT
    have hl : (v :: l).length = l.length + 1 := rfl
    rw [hl] at h
    rw [entryT_get l (k + 1) _ i (by omega), Tr.get_set (by omega)]
    by_cases e : i = k
    · subst e
      rw [if_neg (by omega), if_pos rfl, if_pos (by rw [hl]; omega), Nat.sub_self]; rfl
    · by_cases e2 : k + 1 ≤ i ∧ i < k + 1 + l.length
      · rw [if_pos e2, if_pos (by rw [hl]; omega)]
        obtain ⟨j, rfl⟩ : ∃ j, i = k + 1 + j := ⟨i - (k + 1), by omega⟩
        rw [show k + 1 + j - (k + 1) = j by omega, show k + 1 + j - k = j + 1 by omega]
        rfl
      · rw [if_neg e2, if_neg e, if_neg (by rw [hl]; omega)]

def val1 (P : Program) (nt : Nat) (s : St) : ResultVar → Option RV
  | .tmp t => bif decide (t < nt) then some ((s.t.get t).getD .nov) else none
  | .cell t ty => bif decide (t < nt) then loadR P s.h.get ty ((s.t.get t).getD .nov) else none
def vals1 (P : Program) (nt : Nat) (s : St) : List ResultVar → Option (List RV)
  | [] => some []
  | v :: l => match val1 P nt s v, vals1 P nt s l with
    | some x, some xs => some (x :: xs)
    | _, _ => none
def retR (P : Program) (nt : Nat) (s : St) (rs : List ResultVar) : Option RV :=
  match rs with
  | [v] => val1 P nt s v
  | rs => (vals1 P nt s rs).map .tup

section
variable {P : Program} {nt lo : Nat}

theorem val1_ok {E : Emb} {s : St} {a : Act} {m : Nat} {w : World} (hss : SS nt E s.t a) (hs : HS E s.h.get s.n m w) {v : ResultVar} {r : RV} (h : val1 P nt s v = some r) : ∃ y, (res1 a.tmps v).run P w = .ok y w ∧ Rr E r y := by
  cases v with
  | tmp t =>
    obtain ⟨h1, rfl⟩ := bif_some h
    exact ⟨_, rfl, hss.slot t (of_decide_eq_true h1)⟩
  | cell t ty =>
    obtain ⟨h1, h2⟩ := bif_opt h
    have hsl := hss.slot t (of_decide_eq_true h1)
    obtain ⟨y, k1, k2⟩ := run_loadR hs hsl h2
    refine ⟨y, ?_, k2⟩
    unfold loadR at h2
    split at h2 <;> try cases h2
    rename_i b off hb
    unfold ptrR at hb
    simp only [res1]
    split at hb
    · rename_i hq
      rw [hq] at hsl
      generalize a.tmps.getD t undef = u at *
      cases hsl with
      | ptr _ _ g s' hE => simpa [Instr.loadAt, Instr.sureAddr, asAddr] using k1
    · rename_i hq
      rw [hq] at hsl
      generalize a.tmps.getD t undef = u at *
      cases hsl with
      | gp _ _ => simpa [Instr.loadAt, Instr.sureAddr, asAddr] using k1
    · cases hb

theorem vals1_ok {E : Emb} {s : St} {a : Act} {m : Nat} {w : World} (hss : SS nt E s.t a) (hs : HS E s.h.get s.n m w) : ∀ (l : List ResultVar) (r : List RV), vals1 P nt s l = some r → ∃ ys : List Value, (l.mapM (res1 a.tmps)).run P w = .ok ys w ∧ r.length = ys.length ∧ ys.length = l.length ∧ ∀ (j : Nat) (d : RV) (u : Value), r[j]? = some d → ys[j]? = some u → Rr E d u
  | [], r, h => by cases h; exact ⟨[], rfl, rfl, rfl, by simp⟩
  | v :: l, r, h => by
    unfold vals1 at h
    split at h <;> try cases h
    rename_i x xs h1 h2
    obtain ⟨y, k1, k2⟩ := val1_ok hss hs h1
    obtain ⟨ys, j1, j2, j3, j4⟩ := vals1_ok hss hs l xs h2
    refine ⟨y :: ys, by simp [List.mapM_cons, k1, j1], by simp [j2], by simp [j3], fun j d u hd hu => ?_⟩
    cases j with
    | zero => simp at hd hu; subst hd; subst hu; exact k2
    | succ j => exact j4 j d u (by simpa using hd) (by simpa using hu)

theorem retR_ok {E : Emb} {s : St} {a : Act} {m : Nat} {w : World} {fn : Func} (hss : SS nt E s.t a) (hs : HS E s.h.get s.n m w) {r : RV} (h : retR P nt s fn.results.toList = some r) : ∃ y, (results fn a.tmps).run P w = .ok y w ∧ Rr E r y := by
  generalize hl : fn.results.toList = rs at *
  have hres : fn.results = rs.toArray := by apply Array.ext'; rw [hl]
  unfold retR at h
  split at h
  · rename_i v
    obtain ⟨y, k1, k2⟩ := val1_ok hss hs h
    refine ⟨y, ?_, k2⟩
    have hm : (([v] : List ResultVar).mapM (res1 a.tmps)).run P w = .ok [y] w := by simp [List.mapM_cons, k1]
    rw [results_eq, hres, List.mapM_toArray, Sem.run_bind, Sem.run_map, hm]
    rfl
  · rename_i hne
    rw [Option.map_eq_some_iff] at h
    obtain ⟨l, h1, rfl⟩ := h
    obtain ⟨ys, j1, j2, j3, j4⟩ := vals1_ok hss hs rs l h1
    refine ⟨.tuple ys.toArray, ?_, .tup l _ (by simp [j2]) fun j d u hd hu => j4 j d u hd (by simpa using hu)⟩
    have hn1 : ys.length ≠ 1 := fun e => by
      rw [j3] at e
      match rs, e with
      | [v], _ => exact hne v rfl
    rw [results_eq, hres, List.mapM_toArray, Sem.run_bind, Sem.run_map, j1]
    simp [hn1]

/-- A round's parameters. -/
def setPs : List Tmp → List RV → Tr RV → Tr RV
  | p :: ps, v :: l, t => setPs ps l (t.set p (some v))
  | _, _, t => t
theorem setPs_ok {E : Emb} {D : List Deferred} (hnt : nt ≤ ub) : ∀ (ps : List Tmp) (l : List RV) (vs : List Value) (t : Tr RV) (tmps : Array Value), (∀ p ∈ ps, p < nt) → l.length = vs.length → (∀ (j : Nat) (d : RV) (u : Value), l[j]? = some d → vs[j]? = some u → Rr E d u) →
    SS nt E t { tmps := tmps, defers := D } → SS nt E (setPs ps l t) { tmps := (ps.zip vs).foldl (fun tmps (x : Tmp × Value) => tmps.setIfInBounds x.1 x.2) tmps, defers := D }
  | [], l, vs, t, tmps, _, _, _, h => by simp only [setPs, List.zip_nil_left, List.foldl_nil]; exact h
  | p :: ps, [], [], t, tmps, _, _, _, h => by simp only [setPs, List.zip_nil_right, List.foldl_nil]; exact h
  | p :: ps, [], _ :: _, t, tmps, _, hl, _, h => by simp at hl
  | p :: ps, _ :: _, [], t, tmps, _, hl, _, h => by simp at hl
  | p :: ps, v :: l, u :: vs, t, tmps, hp, hl, hr, h => by
    simp only [setPs, List.zip_cons_cons, List.foldl_cons]
    have hpn : p < nt := hp p (by simp)
    have := h.put hpn (Nat.lt_of_lt_of_le hpn hnt) (hr 0 v u rfl rfl)
    exact setPs_ok hnt ps l vs _ _ (fun q hq => hp q (by simp [hq])) (by simpa using hl) (fun j d u hd hu => hr (j + 1) d u (by simpa using hd) (by simpa using hu)) this

def jumpR : Exit → Option (Option Code)
  | .normal => some none
  | .ret => some (some .ret)
  | .exit i => some (some (.exit i))
  | _ => none

/-- A block's loop record, its state and its jump turned. -/
def recSt (b : Nat) (f : LoopState → Option Code → Option (LoopState × Option Code)) (s : St) : Option St :=
  match s.h.get b with
  | some (.lp st pe t nt ps asg body) => (match f st pe with
    | some (st', pe') => some ⟨s.t, s.h.set b (some (.lp st' pe' t nt ps asg body)), s.n⟩
    | none => none)
  | _ => none

def evFun (P : Program) (effF : FuncId → Bool) (f : Nat) : Nat → Calr
  | 0, _, _, _, _, _ => none
  | d + 1, lo, .inl fid, l, h, n => match P.funcs[fid]? with
    | some fn => (match fn.body with
      | some c => bif decide (l.length ≤ fn.ntmps) && decide (fn.ntmps ≤ ub) then (match evC P (evFun P effF f d) effF false lo fn.ntmps f none c ⟨entryT 0 l .e, h, n⟩ with
        | some (.ret, s) => (match retR P fn.ntmps s fn.results.toList with
          | some v => some (v, s.h, s.n)
          | none => none)
        | some (.normal, s) => (match retR P fn.ntmps s fn.results.toList with
          | some v => some (v, s.h, s.n)
          | none => none)
        | _ => none) else none
      | none => none)
    | none => none
  | d + 1, lo, .inr b, l, h, n => match h.get b with
    | some (.lp .ready pe t nt ps asg body) => bif decide (lo ≤ b) && (decide (b < n) && (decide (n ≤ ub) && (decide (l.length = ps.length) && (decide (nt ≤ ub) && ps.all fun p => decide (p < nt))))) then
        (match evC P (evFun P effF f d) effF true lo nt f none asg ⟨setPs ps l t, h, n⟩ with
        | some (.normal, s1) => (match recSt b (fun st pe => bif decide (st = .ready) then some (.busy, pe) else none) s1 with
          | some s2 => (match evC P (evFun P effF f d) effF true lo nt f none body s2 with
            | some (e, s3) => (match jumpR e with
              | some j => (match recSt b (fun _ _ => some (if j.isNone then .ready else .done, j)) s3 with
                | some s4 => some (.bool j.isNone, s4.h, s4.n)
                | none => none)
              | none => none)
            | none => none)
          | none => none)
        | _ => none) else none
    | _ => none

theorem HS.putObj_free {E : Emb} {h : Hp} {n m : Nat} {w : World} (hs : HS E h n m w) {D : List Nat} (hD : ∀ g ∈ D, ∀ b z, h b ≠ none → E b ≠ some (g, z)) {g : Nat} (hg : g ∈ D) : HS E h n m (w.putObj g (.deferred none)) := hs.aside (hD g hg) _

/-- The marks, at the function's end. -/
theorem leaves_marks {fn : Func} {tmps : Array Value} {R : Ending → World → Prop} {E : Emb} {h : Hp} {n m : Nat} (w0 : World) : ∀ (D : List Nat) (w : World), D.Nodup → (∀ g ∈ D, w0.heap.size ≤ g) → (∀ g ∈ D, w.heap[g]? = some (.deferred (some []))) → (∀ g ∈ D, ∀ b z, h b ≠ none → E b ≠ some (g, z)) → HS E h n m w →
    (∀ w', HS E h n m w' → w'.os = w.os → (w'.tape = w.tape ∧ w.drawn ≤ w'.drawn) → w'.output = w.output → w'.heap.size = w.heap.size → (∀ g, g < w0.heap.size ∨ (∃ b z, h b ≠ none ∧ E b = some (g, z)) → w'.heap[g]? = w.heap[g]?) → ∃ v, (results fn tmps).run P w' = .ok v w' ∧ R (.returned v) w') →
    LeavesInM (FR none) 0 P fn tmps R (D.map markOf ++ []) .returning w
  | [], w, _, _, _, _, hs, hend => by
    obtain ⟨v, h1, h2⟩ := hend w hs rfl ⟨rfl, Nat.le_refl _⟩ rfl rfl fun _ _ => rfl
    exact ⟨v, h1, h2⟩
  | g :: D, w, hnd, hlate, hheld, hfree, hs, hend => by
    rw [List.nodup_cons] at hnd
    refine ⟨by simp, .inl ⟨g, w.putObj g (.deferred none), rfl, run_takeDeferred (hheld g (by simp)), ?_⟩⟩
    refine leaves_marks w0 D _ hnd.2 (fun g' hg' => hlate g' (by simp [hg'])) (fun g' hg' => ?_) (fun g' hg' => hfree g' (by simp [hg'])) (hs.aside (hfree g (by simp)) _) fun w' h1 h2 h3 h4 h5 h6 => hend w' h1 h2 h3 h4 (by rw [h5, World.putObj_size]) fun g' hg' => ?_
    · rw [World.putObj_heap_other fun e => hnd.1 (by rw [← e]; exact hg')]
      exact hheld g' (by simp [hg'])
    · rw [h6 g' hg', World.putObj_heap_other fun e => ?_]
      subst e
      rcases hg' with h | ⟨b, z, hb, he⟩
      · have := hlate g' (by simp); omega
      · exact hfree g' (by simp) b z hb he

theorem recSt_ok {b : Nat} {f : LoopState → Option Code → Option (LoopState × Option Code)} {s s' : St} (h : recSt b f s = some s') (hlo : lo ≤ b) (hb : b < s.n) (hub : b < ub) : ∃ st pe t nt ps asg body st' pe', s.h.get b = some (.lp st pe t nt ps asg body) ∧ f st pe = some (st', pe') ∧ s'.t = s.t ∧ s'.n = s.n ∧ s'.h.get = updH s.h.get b (some (.lp st' pe' t nt ps asg body)) ∧ KH lo s.h s'.h s.n s'.n := by
  unfold recSt at h
  split at h <;> try cases h
  rename_i st pe t nt ps asg body hg
  split at h <;> cases h
  rename_i st' pe' hf
  exact ⟨st, pe, t, nt, ps, asg, body, st', pe', hg, hf, rfl, rfl, get_set_fun hub, KH.turn hlo hb hub _⟩

/-- The record's block turned in the world. -/
theorem rec_turn {E : Emb} {h : Hp} {n m b : Nat} {w : World} (hs : HS E h n m w) {st : LoopState} {pe : Option Code} {t : Tr RV} {nt' : Nat} {ps : List Tmp} {asg body : Code} (hg : h b = some (.lp st pe t nt' ps asg body)) {g z : Nat} (hE : E b = some (g, z)) (hlo : lo ≤ b) (hb : b < n) (st' : LoopState) (pe' : Option Code) :
    ∃ r : Loop, w.heap[g]? = some (.loop r) ∧ r.state = st ∧ r.pending = pe ∧ HS E (updH h b (some (.lp st' pe' t nt' ps asg body))) n m (w.putObj g (.loop { r with state := st', pending := pe' })) ∧ RX lo E h n w E (updH h b (some (.lp st' pe' t nt' ps asg body))) n (w.putObj g (.loop { r with state := st', pending := pe' })) := by
  obtain ⟨g2, z2, u1, r, u2, u3, u4, u5, u6, u7, u8, u9⟩ := hs.blk b _ hg
  rw [hE] at u1
  cases u1
  obtain ⟨t1', t2'⟩ := hs.turn (lo := lo) hlo hb (by rw [hg]; simp) hE (w' := w.putObj g (.loop { r with state := st', pending := pe' })) (by simp) (fun g' hg' => World.putObj_heap_other hg') rfl ⟨rfl, Nat.le_refl _⟩ rfl
    (k := .lp st' pe' t nt' ps asg body) ⟨{ r with state := st', pending := pe' }, World.putObj_heap_same (heap_lt u2), rfl, rfl, u5, u6, u7, u8, u9⟩
  exact ⟨r, u2, u3, u4, t1', t2'⟩

/-- **A function that is run is a contract.** -/
theorem evFun_ok (hmx : P.follows .mixedOrders = true) (effF : FuncId → Bool) (f : Nat) : ∀ d, CallsOk P (evFun P effF f d)
  | 0, _, _, _, _, _, _, _, _, h, _ => by cases h
  | d + 1, lo, .inl fid, l, h, n, r, h', n', hr, hlo => by
    unfold evFun at hr
    split at hr <;> try cases hr
    rename_i fn hf
    split at hr <;> try cases hr
    rename_i c hb
    obtain ⟨hck, hr⟩ := bif_opt hr
    simp only [Bool.and_eq_true, decide_eq_true_eq] at hck
    have key : ∀ e s, (e = .ret ∨ e = .normal) → evC P (evFun P effF f d) effF false lo fn.ntmps f none c ⟨entryT 0 l .e, h, n⟩ = some (e, s) → (match retR P fn.ntmps s fn.results.toList with
          | some v => some (v, s.h, s.n)
          | none => none) = some (r, h', n') → CallOk P lo (.inl fid) l h n r h' n' := fun e s he hev hret => by
      cases hv : retR P fn.ntmps s fn.results.toList with
      | none => rw [hv] at hret; cases hret
      | some v =>
      rw [hv] at hret
      cases hret
      obtain ⟨k1, k, k2⟩ := evC_ok hmx (evFun_ok hmx effF f d) false f none c _ e s hev hlo
      refine ⟨k1, fun m E w vals hm hs hsz hrel => ?_⟩
      have hss : SS fn.ntmps E (entryT 0 l .e) { tmps := vals ++ Array.replicate (fn.ntmps - vals.size) undef, defers := [] } := by
        refine ⟨by simp; omega, fun i hi => ?_⟩
        rw [entryT_get l 0 .e i (by omega)]
        simp only [Array.getD_eq_getD_getElem?]
        by_cases hil : i < l.length
        · rw [if_pos (by omega), Nat.sub_zero, List.getElem?_eq_getElem hil, Array.getElem?_append, if_pos (by omega), Array.getElem?_eq_getElem (by omega)]
          exact hrel i _ _ (List.getElem?_eq_getElem hil) (Array.getElem?_eq_getElem (by omega))
        · rw [if_neg (by omega), Tr.get_e, Array.getElem?_append, if_neg (by omega)]
          have : (Array.replicate (fn.ntmps - vals.size) undef)[i - vals.size]? = some undef := by
            rw [Array.getElem?_replicate, if_pos (by omega)]
          rw [this]
          exact .nov
      refine (callsIn_of_wp_marks (F := FR none) (n := 0) hf hb trivial (wpIn_mono (k2 none m E _ w (fun _ => rfl) hm hss hs).1 ?_)).calls (fun _ => room_FR _ _)
      rintro e' a' w' ⟨rfl, E', D, q1, q2, q3, q4⟩
      have fin : LeavesInM (FR none) 0 P fn a'.tmps (EndsIn lo E h n w r s.h s.n m) a'.defers .returning w' := by
        rw [q2.1]
        refine leaves_marks w D w' q2.2.nodup q2.2.late q2.2.held q2.2.free q3 fun w2 p1 p2 p3 p4 p5 p6 => ?_
        obtain ⟨y, u1, u2⟩ := retR_ok (w := w2) (fn := fn) q1 p1 hv
        refine ⟨y, u1, y, E', rfl, p1, ⟨p2.trans q4.os, ⟨p3.1.trans q4.tape.1, Nat.le_trans q4.tape.2 p3.2⟩, p4.trans q4.output, by rw [p5]; exact q4.size, q4.nn, q4.emb, fun g hg hfr => ?_, fun b hb => ?_, q4.beyond⟩, u2⟩
        · obtain ⟨v1, v2⟩ := q4.frame g hg hfr
          exact ⟨(p6 g (.inl hg)).trans v1, v2⟩
        · obtain ⟨v1, v2⟩ := q4.keep b hb
          exact ⟨v1, fun g z hn he => (p6 g (.inl (hs.old b g z he))).trans (v2 g z hn he)⟩
      rcases he with rfl | rfl <;> exact fin
    split at hr
    · rename_i s hev; exact key .ret s (.inl rfl) hev hr
    · rename_i s hev; exact key .normal s (.inr rfl) hev hr
    · cases hr
  | d + 1, lo, .inr b, l, h, n, r, h', n', hr, hlo => by
    unfold evFun at hr
    split at hr <;> try cases hr
    rename_i pe t nt ps asg body hb
    obtain ⟨hck, hr⟩ := bif_opt hr
    simp only [Bool.and_eq_true, decide_eq_true_eq, List.all_eq_true] at hck
    obtain ⟨hlb, hbn, hnu, hlen, hntu, hps⟩ := hck
    split at hr <;> try cases hr
    rename_i s1 hev1
    split at hr <;> try cases hr
    rename_i s2 hs2
    split at hr <;> try cases hr
    rename_i e s3 hev2
    split at hr <;> try cases hr
    rename_i j hj
    split at hr <;> cases hr
    rename_i s4 hs4
    obtain ⟨k1, _, k2⟩ := evC_ok hmx (evFun_ok hmx effF f d) true f none asg _ _ s1 hev1 hlo
    have hbu : b < ub := by omega
    have hn1 : n ≤ s1.n := k1.nn
    obtain ⟨st1, pe1, t1, nt1, ps1, asg1, body1, st1', pe1', a1, a2, a3, a4, a5, a6⟩ := recSt_ok hs2 hlb (by omega) hbu
    obtain ⟨a21, a22⟩ := bif_some a2
    obtain rfl : st1 = .ready := of_decide_eq_true a21
    cases a22
    have hn2 : s2.n = s1.n := a4
    obtain ⟨j1, _, j2⟩ := evC_ok hmx (evFun_ok hmx effF f d) true f none body _ _ s3 hev2 (by omega)
    have hn3 : s2.n ≤ s3.n := j1.nn
    obtain ⟨st3, pe3, t3, nt3, ps3, asg3, body3, st3', pe3', b1, b2, b3, b4, b5, b6⟩ := recSt_ok hs4 hlb (by omega) hbu
    cases b2
    refine ⟨((k1.trans a6).trans j1).trans b6, fun m E w vals hm hs hsz hrel g s hE => ?_⟩
    have hm : s4.n ≤ m := hm
    obtain ⟨g0, z0, u1, rr, u2, u3, u4, u5, u6, u7, u8, u9⟩ := hs.blk b _ hb
    rw [hE] at u1
    cases u1
    have hpsz : rr.params.size = ps.length := by rw [← u5]; simp
    refine ⟨rr.fn, _, rr.assign, rr.body, run_yield u2 (by omega), ?_⟩
    rw [u6, u7]
    refine roundIn_of_wpIn (F := FR none) trivial ?_
    have hss0 : SS nt E t { tmps := rr.tmps, defers := [] } := ⟨u8, u9⟩
    have hss1 := setPs_ok hntu ps l vals.toList t rr.tmps (fun p hp => hps p hp) (by simp [hsz]) (fun j d u hd hu => hrel j d u hd (by simpa using hu)) hss0
    have htm : (rr.params.zip vals).foldl (fun tmps (x : Tmp × Value) => tmps.setIfInBounds x.1 x.2) rr.tmps = (ps.zip vals.toList).foldl (fun tmps (x : Tmp × Value) => tmps.setIfInBounds x.1 x.2) rr.tmps := by
      rw [← Array.foldl_toList, Array.toList_zip, u5]
    have h1 := (k2 (some g) m E _ w (fun h => by cases h) (by omega) hss1 hs).1
    rw [← htm] at h1
    refine wpIn_mono (F := FR (some g)) h1 ?_
    rintro e1 c1 w1 ⟨rfl, E1, D1, q1, q2, q3, q4⟩
    have q4 : RX lo E h.get n w E1 s1.h.get s1.n w1 := q4
    have hE1 : E1 b = some (g, s) := by rw [q4.emb b (.inl hbn)]; exact hE
    obtain ⟨r1, v1, v2, v3, v4, v5⟩ := rec_turn (lo := lo) q3 a1 hE1 hlb (by omega) .busy pe1
    rw [← a5] at v4 v5
    have hbusy : ({ r1 with state := .busy, pending := pe1 } : Loop) = { r1 with state := .busy } := by rw [← v3]
    rw [hbusy] at v4 v5
    refine ⟨w1.putObj g (.loop { r1 with state := .busy }), run_beginRound v1 v2, ?_⟩
    generalize w1.putObj g (.loop { r1 with state := .busy }) = wb at v4 v5
    have v4 : HS E1 s2.h.get s2.n m wb := by rw [hn2]; exact v4
    have v5 : RX lo E1 s1.h.get s1.n w1 E1 s2.h.get s2.n wb := by rw [hn2]; exact v5
    have h2 := (j2 (some g) m E1 c1 _ (fun h => by cases h) (by omega) (by rw [a3]; exact q1) v4).1
    refine wpIn_mono (F := FR (some g)) h2 ?_
    rintro e2 c2 w3 ⟨rfl, E3, D3, x1, x2, x3, x4⟩
    have hE3 : E3 b = some (g, s) := by rw [x4.emb b (.inl (by omega))]; exact hE1
    obtain ⟨r3, y1, y2, y3, y4, y5⟩ := rec_turn (lo := lo) x3 b1 hE3 hlb (by omega) (if j.isNone then .ready else .done) j
    rw [← b5] at y4 y5
    have hrun := run_endRound (P := P) j y1
    generalize w3.putObj g (.loop { r3 with state := if j.isNone then .ready else .done, pending := j }) = we at y4 y5 hrun
    have y4 : HS E3 s4.h.get s4.n m we := by rw [b4]; exact y4
    have y5 : RX lo E3 s3.h.get s3.n w3 E3 s4.h.get s4.n we := by rw [b4]; exact y5
    have hfin : ∃ v w', (Instr.endRound g j).run P w3 = .ok v w' ∧ EndsIn lo E h n w (.bool j.isNone) s4.h s4.n m (.returned v) w' :=
      ⟨_, we, hrun, .bool j.isNone, E3, rfl, y4, ((q4.trans v5 hs (by omega) hlo).trans x4 hs (by omega) hlo).trans y5 hs (by omega) hlo, .bool _⟩
    unfold jumpR at hj
    split at hj <;> cases hj <;> exact hfin

theorem HS.nil (w : World) (m : Nat) : HS (fun _ => none) (Tr.e : Tr Blk).get NG m w := ⟨fun b k h => (by rw [Tr.get_e] at h; cases h), fun b c g s s' h => absurd (Tr.get_e b) h, fun b g s h => (by cases h), fun _ _ _ => rfl, fun b _ => Tr.get_e b, Nat.le_refl _, fun b _ h => absurd (Tr.get_e b) h⟩

/-- The package variables of a list, as the evaluator's first blocks. -/
def globH : List Nat → Tr Blk
  | [] => .e
  | g :: l => match GT g with
    | some (us, e) => (globH l).set g (some (.cells e (us.toList.map cv1)))
    | none => globH l
def globOk (l : List Nat) : Bool := l.all fun g => decide (g < NG) && (match GT g with
    | some (us, _) => us.toList.all (·.oneCell')
    | none => true)
theorem globH_get : ∀ {l : List Nat}, globOk l = true → ∀ b k, (globH l).get b = some k → b < NG ∧ ∃ us e, GT b = some (us, e) ∧ k = .cells e (us.toList.map cv1) ∧ ∀ u ∈ us.toList, u.oneCell' = true
  | [], _, b, k, h => by rw [show globH [] = .e from rfl, Tr.get_e] at h; cases h
  | g :: l, hl, b, k, h => by
    have hl' : globOk l = true := by
      unfold globOk at hl ⊢
      rw [List.all_cons, Bool.and_eq_true] at hl
      exact hl.2
    have hg : decide (g < NG) = true ∧ (match GT g with
    | some (us, _) => us.toList.all (·.oneCell')
    | none => true) = true := by
      unfold globOk at hl
      rw [List.all_cons, Bool.and_eq_true, Bool.and_eq_true] at hl
      exact hl.1
    have hlt : g < NG := of_decide_eq_true hg.1
    unfold globH at h
    cases e1 : GT g with
    | none => rw [e1] at h; exact globH_get hl' b k h
    | some p =>
      obtain ⟨us, e⟩ := p
      rw [e1] at h
      have h2 := hg.2
      rw [e1] at h2
      simp only at h h2
      rw [Tr.get_set (by unfold NG at hlt; unfold ub; omega)] at h
      split at h
      · rename_i e2; subst e2
        refine ⟨hlt, us, e, e1, ?_, List.all_eq_true.1 h2⟩
        cases h; rfl
      · exact globH_get hl' b k h

/-- **A closed call that is run**, with the package variables of a list. -/
theorem pcall_runG (l : List Nat) (hg : globOk l = true) {f : FuncId} {r : RV} {d : DV} {h' : Tr Blk} {n' : Nat} (h : CallOk P NG (.inl f) [] (globH l) NG r h' n') (hd : toD r = d) (hp : isPl d = true) (hr : allK (fun _ => false) d = true) (O : Env) : PCall P O f [] d := fun w I A vals hO hl _ => by
  subst hd
  have hE : ∃ E : Emb, (∀ b g s, E b = some (g, s) → b < NG ∧ g = b) ∧ HS E (globH l).get NG n' w := by
    refine ⟨fun b => match (globH l).get b with
      | some (.cells _ cs) => some (b, cs.length)
      | _ => none, fun b g s hb => ?_, ?_, ?_, ?_, ?_, ?_, Nat.le_refl _, ?_⟩
    · simp only at hb
      cases e1 : (globH l).get b with
      | none => rw [e1] at hb; cases hb
      | some k =>
        obtain ⟨h1, us, e, h2, rfl, h3⟩ := globH_get hg b k e1
        rw [e1] at hb
        cases hb
        exact ⟨h1, rfl⟩
    · intro b k hk
      obtain ⟨h1, us, e, h2, rfl, h3⟩ := globH_get hg b k hk
      refine ⟨b, (us.toList.map cv1).length, by simp only [hk], us, (hO.imm.glob b us e h2).2, by simp, Nat.le_refl _, fun j v u hv hu => ?_⟩
      have := zc_ok (fun b => match (globH l).get b with
        | some (.cells _ cs) => some (b, cs.length)
        | _ => none) (us := us) rfl h3
      exact ⟨h3 u (by rw [Array.mem_toList_iff]; exact Array.mem_of_getElem? hu), this.2.2 j v u hv hu⟩
    · intro b c g s s' hb hc h1 h2
      cases e1 : (globH l).get b with
      | none => rw [e1] at h1; cases h1
      | some k =>
        obtain ⟨_, us, e, _, rfl, _⟩ := globH_get hg b k e1
        rw [e1] at h1
        cases e2 : (globH l).get c with
        | none => rw [e2] at h2; cases h2
        | some k2 =>
          obtain ⟨_, us2, e', _, rfl, _⟩ := globH_get hg c k2 e2
          rw [e2] at h2
          simp only [Option.some.injEq, Prod.mk.injEq] at h1 h2
          exact h1.1.trans h2.1.symm
    · intro b g s hb
      cases e1 : (globH l).get b with
      | none => rw [e1] at hb; cases hb
      | some k =>
        obtain ⟨_, us, e, h2, rfl, _⟩ := globH_get hg b k e1
        rw [e1] at hb
        simp only [Option.some.injEq, Prod.mk.injEq] at hb
        obtain ⟨rfl, _⟩ := hb
        exact hO.imm _ (hO.imm.glob b us e h2).1
    · intro b hb _
      show (match (globH l).get b with
        | some (.cells _ cs) => some (b, cs.length)
        | _ => none) = none
      cases e1 : (globH l).get b with
      | none => rfl
      | some k => have := (globH_get hg b k e1).1; omega
    · intro b hb
      cases e1 : (globH l).get b with
      | none => rfl
      | some k => have := (globH_get hg b k e1).1; have := h.1.nn; omega
    · intro b hb hn
      cases e1 : (globH l).get b with
      | none => exact absurd e1 hn
      | some k =>
        obtain ⟨_, us, e, _, rfl, _⟩ := globH_get hg b k e1
        exact ⟨_, by simp only [e1]; rfl⟩
  obtain ⟨E, hE1, hE2⟩ := hE
  refine (h.2 n' E w vals (Nat.le_refl _) hE2 hl (fun j d u hd => by simp at hd)).mono ?_
  rintro e w' ⟨y, E', rfl, q1, q2, q3⟩
  have hold : ∀ g, g < w.heap.size → w'.heap[g]? = w.heap[g]? := fun g hgs => by
    by_cases hx : ∃ b s, (globH l).get b ≠ none ∧ E b = some (g, s)
    · obtain ⟨b, s, h1, h2⟩ := hx
      exact (q2.keep b (hE1 b g s h2).1).2 g s h1 h2
    · exact (q2.frame g hgs fun b s hb he => hx ⟨b, s, hb, he⟩).1
  have hrel : ∀ (B : Own) d x, Rel w I B d x → Rel w' I B d x := fun B d x hr => hr.mono fun g hg => ⟨hg, fun o => cell_of_heap (hold g (hO.imm g hg)) o⟩
  refine ⟨y, I, O, _, rfl, ⟨fun s => (hO.own s).keep (fun g c hA => hold g (hO.sep s g c hA).1) hrel, hO.inj, fun s g c hA => ⟨Nat.lt_of_lt_of_le (hO.sep s g c hA).1 q2.size, (hO.sep s g c hA).2⟩, hO.imm.step (fun g hg => Nat.lt_of_lt_of_le (hO.imm g hg) q2.size) fun g hg => ⟨hg, hold g (hO.imm g hg)⟩⟩,
    fun _ => frOk.refl _, fun _ h => h, ⟨q2.os, q2.tape, q2.output, q2.size, fun _ h => h, fun g hg hA => ⟨hold g hg, fun h => h, hA⟩, fun s g c hA _ hs => ⟨s, c, hs, hA⟩, fun _ _ => rfl⟩, ?_, rfl, rfl⟩
  have := (q3.toD (w := w')).mono (w' := w') (I' := I) fun g hg => hg.elim
  have := this.pure (A' := A) hr
  generalize toD r = d at *
  cases d <;> first | exact this | cases hp

/-- **A closed call that is run.** -/
theorem pcall_run {f : FuncId} {r : RV} {d : DV} {h' : Tr Blk} {n' : Nat} (h : CallOk P NG (.inl f) [] .e NG r h' n') (hd : toD r = d) (hp : isPl d = true) (hr : allK (fun _ => false) d = true) (O : Env) : PCall P O f [] d :=
  pcall_runG [] rfl h hd hp hr O
end
end Go.Rv
