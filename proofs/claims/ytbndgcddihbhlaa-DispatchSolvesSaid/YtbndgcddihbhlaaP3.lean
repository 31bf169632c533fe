/- The plain law of dispatching, third part: what holds of the fronts while they are visited. -/
import Derived.Test.YtbndgcddihbhlaaPA
import Derived.Test.YtbndgcddihbhlaaSgE
set_option linter.unusedVariables false
set_option linter.unusedSimpArgs false
namespace Go.Sg
open Go.Proofs
section
variable {tr : List Trip} {c : Cl}
theorem Gt.trans {a b d : Pl} (h : Gt tr a b) (k : Gt tr b d) : Gt tr a d := by
  obtain ⟨p, h1, h2, h3⟩ := h
  obtain ⟨q, k1, k2, k3⟩ := k
  rcases Nat.lt_trichotomy p q with g | g | g
  · exact ⟨p, h1, by have := k3 p g; omega, fun r hr => (h3 r hr).trans (k3 r (by omega))⟩
  · subst g; exact ⟨p, h1, by omega, fun r hr => (h3 r hr).trans (k3 r hr)⟩
  · exact ⟨q, k1, by have := h3 q g; omega, fun r hr => (h3 r (by omega)).trans (k3 r hr)⟩
theorem Gt.irr {a : Pl} (h : Gt tr a a) : False := by
  obtain ⟨p, _, h2, _⟩ := h; omega
def dnA (a : Pl) (i : Nat) : Pl := upA a i (a i - 1)
theorem dn_up (a : Pl) (i : Nat) : dnA (upA a i (a i + 1)) i = a := by
  funext x; unfold dnA upA; by_cases e : x = i
  · subst e; simp
  · simp [e]
open Classical in
noncomputable def viN (tr : List Trip) (at_ a : Pl) : Nat → Nat
  | 0 => 0
  | m + 1 => viN tr at_ a m + if 1 ≤ a m ∧ Gt tr at_ (dnA a m) then 1 else 0
theorem vi_le {at_ a : Pl} : ∀ m, viN tr at_ a m ≤ m
  | 0 => Nat.le_refl _
  | m + 1 => by have := @vi_le at_ a m; unfold viN; split <;> omega
theorem vi_mono {at_ b a : Pl} (h : Gt tr b at_) : ∀ m, viN tr at_ a m ≤ viN tr b a m
  | 0 => Nat.le_refl _
  | m + 1 => by
    have := vi_mono (a := a) h m
    unfold viN
    split
    · rename_i q; rw [if_pos ⟨q.1, h.trans q.2⟩]; omega
    · split <;> omega
theorem vi_more {at_ b a : Pl} (h : Gt tr b at_) {j : Nat} (hj : 1 ≤ a j) (hd : dnA a j = at_) : ∀ m, j < m → viN tr at_ a m + 1 ≤ viN tr b a m
  | 0, hm => by omega
  | m + 1, hm => by
    unfold viN
    by_cases e : j = m
    · subst e
      have := vi_mono (a := a) h j
      rw [if_neg (fun q => by rw [hd] at q; exact q.2.irr), if_pos ⟨hj, by rw [hd]; exact h⟩]
      omega
    · have := vi_more h hj hd m (by omega)
      split
      · rename_i q; rw [if_pos ⟨q.1, h.trans q.2⟩]; omega
      · split <;> omega
noncomputable def bdN (tr : List Trip) (at_ a : Pl) : Nat := viN tr at_ a tr.length * 4 ^ (sA a - 1) + (1 - sA a)
theorem bd_mono {at_ b a : Pl} (h : Gt tr b at_) : bdN tr at_ a ≤ bdN tr b a := by
  have := Nat.mul_le_mul_right (4 ^ (sA a - 1)) (vi_mono (a := a) h tr.length)
  unfold bdN; omega
theorem bd_top (ho : Ok tr) {at_ a : Pl} (ha : Vp tr a) : bdN tr at_ a ≤ 4 ^ sA a := by
  have hn := ho.n
  unfold bdN
  rcases Nat.eq_zero_or_pos (sA a) with h | h
  · have hz : ∀ m, m ≤ tr.length → viN tr at_ a m = 0 := by
      intro m
      induction m with
      | zero => intro _; rfl
      | succ m ih =>
        intro hm
        have hm0 : a m = 0 := by
          unfold sA at h
          rcases (show m = 0 ∨ m = 1 ∨ m = 2 ∨ m = 3 by omega) with rfl | rfl | rfl | rfl <;> omega
        unfold viN; rw [ih (by omega), if_neg (by omega)]
    rw [hz _ (Nat.le_refl _), h]; simp
  · obtain ⟨q, hq⟩ : ∃ q, sA a = q + 1 := ⟨sA a - 1, by omega⟩
    rw [hq, Nat.add_sub_cancel, Nat.pow_succ]
    have h1 := vi_le (tr := tr) (at_ := at_) (a := a) tr.length
    have h2 : viN tr at_ a tr.length * 4 ^ q ≤ 4 * 4 ^ q := Nat.mul_le_mul_right _ (by omega)
    have h3 : 1 - (q + 1) = 0 := by omega
    rw [h3, Nat.mul_comm (4 ^ q) 4]; omega
theorem bd_up (ho : Ok tr) {at_ b : Pl} {j : Nat} (hj : j < tr.length) (h : Gt tr b at_) : bdN tr at_ (upA at_ j (at_ j + 1)) + 4 ^ sA at_ ≤ bdN tr b (upA at_ j (at_ j + 1)) := by
  have hn := ho.n
  have hs := sA_s (a := at_) (i := j) (by omega)
  have := vi_more (a := upA at_ j (at_ j + 1)) h (j := j) (by simp [upA]) (dn_up at_ j) tr.length hj
  unfold bdN
  rw [hs, Nat.add_sub_cancel]
  have h2 := Nat.mul_le_mul_right (4 ^ sA at_) this
  rw [Nat.succ_mul] at h2
  omega
theorem Rch.le4' (ho : Ok tr) {a : Pl} {d : Dr} (h : Rch tr c a d) : ∀ k, k < tr.length → a k ≤ 4 := fun k _ => h.le4 ho k
abbrev Mp := List (Pl × Rw Dr)
def Pd (M : Mp) (a : Pl) (d : Dr) : Prop := ∃ x ∈ M, x.1 = a ∧ d ∈ x.2.l
structure InvO (tr : List Trip) (c : Cl) (kn : Dr) (at_ : Pl) (M : Mp) (best : Dr) : Prop where
  cv : Cvs tr c (Pd M) best
  key : ∀ x ∈ M, Ge tr x.1 at_ ∧ Vp tr x.1
  rch : ∀ x ∈ M, ∀ d ∈ x.2.l, Rch tr c x.1 d
  un : M.Pairwise fun x y => x.1 ≠ y.1
  nb : ∀ x ∈ M, x.2.l.length ≤ bdN tr at_ x.1
  full : Full tr c best
  le : cmD tr best kn (enA tr) ≤ 0
structure InvI (tr : List Trip) (c : Cl) (kn : Dr) (at_ : Pl) (M : Mp) (best : Dr) (k i : Nat) (Cu : Pl → Dr → Prop) : Prop where
  cv : Cvs tr c (fun a e => Pd M a e ∨ Cu a e) best
  key : ∀ x ∈ M, Gt tr x.1 at_ ∧ Vp tr x.1
  rch : ∀ x ∈ M, ∀ d ∈ x.2.l, Rch tr c x.1 d
  un : M.Pairwise fun x y => x.1 ≠ y.1
  nb : ∀ x ∈ M, (∀ j, j < tr.length → x.1 ≠ upA at_ j (at_ j + 1)) → x.2.l.length ≤ bdN tr at_ x.1
  nc : ∀ x ∈ M, ∀ j, j < tr.length → x.1 = upA at_ j (at_ j + 1) → x.2.l.length ≤ bdN tr at_ x.1 + k + if j < i then 1 else 0
  full : Full tr c best
  le : cmD tr best kn (enA tr) ≤ 0
theorem InvO.len (ho : Ok tr) {kn : Dr} {at_ : Pl} {M : Mp} {best : Dr} (h : InvO tr c kn at_ M best) {x : Pl × Rw Dr} (hx : x ∈ M) : x.2.l.length ≤ 4 ^ sA x.1 := Nat.le_trans (h.nb x hx) (bd_top ho (h.key x hx).2)
theorem InvO.visit (ho : Ok tr) {kn : Dr} {at_ : Pl} {M M' : Mp} {best : Dr} {fs : List Dr} (h : InvO tr c kn at_ M best)
    (hM : (M' = M ∧ (∀ x ∈ M, x.1 ≠ at_) ∧ fs = []) ∨ ∃ M1 r M2, M = M1 ++ (at_, r) :: M2 ∧ M' = M1 ++ M2 ∧ fs = r.l) : InvI tr c kn at_ M' best 0 0 (fun a e => a = at_ ∧ e ∈ fs.drop 0) ∧ (∀ d ∈ fs, Rch tr c at_ d) ∧ (fs.length ≤ 4 ^ sA at_) := by
  have hsub : ∀ x ∈ M', x ∈ M ∧ x.1 ≠ at_ := fun x hx => by
    rcases hM with ⟨rfl, h2, _⟩ | ⟨M1, r, M2, rfl, rfl, _⟩
    · exact ⟨hx, h2 x hx⟩
    · have hu := h.un
      rw [List.pairwise_append, List.pairwise_cons] at hu
      rcases List.mem_append.1 hx with q | q
      · exact ⟨by simp [q], hu.2.2 x q (at_, r) (by simp)⟩
      · exact ⟨by simp [q], fun e => hu.2.1.1 x q e.symm⟩
  refine ⟨⟨h.cv.sub ho fun a d ⟨x, hx, h1, h2⟩ => ?_, fun x hx => ?_, fun x hx => h.rch x (hsub x hx).1, ?_, fun x hx _ => h.nb x (hsub x hx).1, fun x hx j _ _ => by have := h.nb x (hsub x hx).1; omega, h.full, h.le⟩, fun d hd => ?_, ?_⟩
  · rcases hM with ⟨rfl, _, _⟩ | ⟨M1, r, M2, rfl, rfl, rfl⟩
    · exact .inl ⟨x, hx, h1, h2⟩
    · rw [List.mem_append, List.mem_cons] at hx
      rcases hx with q | rfl | q
      · exact .inl ⟨x, by simp [q], h1, h2⟩
      · exact .inr ⟨h1.symm, by simpa using h2⟩
      · exact .inl ⟨x, by simp [q], h1, h2⟩
  · obtain ⟨h1, h2⟩ := hsub x hx
    exact ⟨(h.key x h1).1.resolve_left h2, (h.key x h1).2⟩
  · rcases hM with ⟨rfl, _, _⟩ | ⟨M1, r, M2, rfl, rfl, _⟩
    · exact h.un
    · exact h.un.sublist (List.Sublist.append (List.Sublist.refl _) (List.sublist_cons_self _ _))
  · rcases hM with ⟨_, _, rfl⟩ | ⟨M1, r, M2, rfl, _, rfl⟩
    · cases hd
    · exact h.rch (at_, r) (by simp) d hd
  · rcases hM with ⟨_, _, rfl⟩ | ⟨M1, r, M2, rfl, _, rfl⟩
    · simp
    · exact h.len ho (x := (at_, r)) (by simp)
variable {kn : Dr} {at_ : Pl} {M M' : Mp} {best : Dr} {k i : Nat} {fs : List Dr} {d : Dr}
theorem InvI.take (ho : Ok tr) (hr : Rch tr c at_ d) (hf : fs.drop k = d :: fs.drop (k + 1)) (h : InvI tr c kn at_ M best k 0 (fun a e => a = at_ ∧ e ∈ fs.drop k)) :
    InvI tr c kn at_ M (if alB tr at_ = true ∧ beB tr d best = true then d else best) k 0 (fun a e => (a = at_ ∧ e ∈ fs.drop (k + 1)) ∨ Nx tr c at_ d 0 a e) := by
  have h1 := cvs_take (Pd := fun a e => Pd M a e ∨ (a = at_ ∧ e ∈ fs.drop (k + 1))) ho hr (h.cv.sub ho fun a e q => by
    rcases q with q | ⟨q1, q2⟩
    · exact .inl (.inl q)
    · rw [hf, List.mem_cons] at q2
      rcases q2 with q2 | q2
      · exact .inr ⟨q1, q2⟩
      · exact .inl (.inr ⟨q1, q2⟩))
  refine ⟨h1.sub ho fun a e q => ?_, h.key, h.rch, h.un, h.nb, h.nc, ?_, ?_⟩
  · rcases q with (q | q) | q
    · exact .inl q
    · exact .inr (.inl q)
    · exact .inr (.inr q)
  · split
    · rename_i q
      have : at_ = enA tr := by
        funext p
        unfold enA
        have hp := hr.pk ho
        split
        · rename_i hpl; have := al_iff.1 q.1 p hpl; have := hp.1 p hpl; omega
        · rename_i hpl; exact hp.2 p (by omega)
      rw [this] at hr
      exact hr
    · exact h.full
  · split
    · rename_i q
      have := of_decide_eq_true q.2
      exact cm_trans (en4 ho) (by omega) h.le
    · exact h.le
theorem InvI.imp (hc : ∀ best, Cvs tr c (fun a e => (Pd M a e ∨ (a = at_ ∧ e ∈ fs.drop (k + 1))) ∨ Nx tr c at_ d i a e) best → Cvs tr c (fun a e => (Pd M a e ∨ (a = at_ ∧ e ∈ fs.drop (k + 1))) ∨ Nx tr c at_ d (i + 1) a e) best) (ho : Ok tr)
    (h : InvI tr c kn at_ M best k i (fun a e => (a = at_ ∧ e ∈ fs.drop (k + 1)) ∨ Nx tr c at_ d i a e)) : InvI tr c kn at_ M best k (i + 1) (fun a e => (a = at_ ∧ e ∈ fs.drop (k + 1)) ∨ Nx tr c at_ d (i + 1) a e) := by
  refine ⟨(hc best (h.cv.sub ho fun a e q => ?_)).sub ho fun a e q => ?_, h.key, h.rch, h.un, h.nb, fun x hx j hj he => ?_, h.full, h.le⟩
  · rcases q with q | q | q
    · exact .inl (.inl q)
    · exact .inl (.inr q)
    · exact .inr q
  · rcases q with (q | q) | q
    · exact .inl q
    · exact .inr (.inl q)
    · exact .inr (.inr q)
  · have := h.nc x hx j hj he
    split at this <;> split <;> omega
theorem InvI.skip (ho : Ok tr) (he : at_ i = (tr.getD i default).fStops.length) (h : InvI tr c kn at_ M best k i (fun a e => (a = at_ ∧ e ∈ fs.drop (k + 1)) ∨ Nx tr c at_ d i a e)) :
    InvI tr c kn at_ M best k (i + 1) (fun a e => (a = at_ ∧ e ∈ fs.drop (k + 1)) ∨ Nx tr c at_ d (i + 1) a e) := h.imp (fun best q => cvs_skip ho he q) ho
theorem InvI.prune (ho : Ok tr) (hb : beB tr kn (plD tr c d at_ i) = true) (h : InvI tr c kn at_ M best k i (fun a e => (a = at_ ∧ e ∈ fs.drop (k + 1)) ∨ Nx tr c at_ d i a e)) :
    InvI tr c kn at_ M best k (i + 1) (fun a e => (a = at_ ∧ e ∈ fs.drop (k + 1)) ∨ Nx tr c at_ d (i + 1) a e) := by
  refine ⟨(cvs_prune ho h.le hb (Pd := fun a e => Pd M a e ∨ (a = at_ ∧ e ∈ fs.drop (k + 1))) (h.cv.sub ho fun a e q => ?_)).sub ho fun a e q => ?_, h.key, h.rch, h.un, h.nb, fun x hx j hj he => ?_, h.full, h.le⟩
  · rcases q with q | q | q
    · exact .inl (.inl q)
    · exact .inl (.inr q)
    · exact .inr q
  · rcases q with (q | q) | q
    · exact .inl q
    · exact .inr (.inl q)
    · exact .inr (.inr q)
  · have := h.nc x hx j hj he
    split at this <;> split <;> omega
theorem InvI.add (ho : Ok tr) (hr : Rch tr c at_ d) (hi : i < tr.length) (hai : at_ i < (tr.getD i default).fStops.length) {r' : Rw Dr} {old : List Dr}
    (hM : (M' = M ++ [(upA at_ i (at_ i + 1), r')] ∧ (∀ x ∈ M, x.1 ≠ upA at_ i (at_ i + 1)) ∧ old = []) ∨ ∃ M1 r M2, M = M1 ++ (upA at_ i (at_ i + 1), r) :: M2 ∧ M' = M1 ++ (upA at_ i (at_ i + 1), r') :: M2 ∧ old = r.l)
    (hl : r'.l = addF tr old (plD tr c d at_ i) (upA at_ i (at_ i + 1))) (h : InvI tr c kn at_ M best k i (fun a e => (a = at_ ∧ e ∈ fs.drop (k + 1)) ∨ Nx tr c at_ d i a e)) :
    InvI tr c kn at_ M' best k (i + 1) (fun a e => (a = at_ ∧ e ∈ fs.drop (k + 1)) ∨ Nx tr c at_ d (i + 1) a e) := by
  generalize hnx : upA at_ i (at_ i + 1) = nx at *
  have hrn : Rch tr c nx (plD tr c d at_ i) := hnx ▸ Rch.s hr hi hai
  have hgt : Gt tr nx at_ := hnx ▸ Gt.up hi (.inl rfl)
  have hmem : ∀ x ∈ M', x = (nx, r') ∨ (x ∈ M ∧ x.1 ≠ nx) := fun x hx => by
    rcases hM with ⟨rfl, h2, _⟩ | ⟨M1, r, M2, rfl, rfl, _⟩
    · rw [List.mem_append, List.mem_singleton] at hx
      rcases hx with q | q
      · exact .inr ⟨q, h2 x q⟩
      · exact .inl q
    · have hu := h.un
      rw [List.pairwise_append, List.pairwise_cons] at hu
      rw [List.mem_append, List.mem_cons] at hx
      rcases hx with q | q | q
      · exact .inr ⟨by simp [q], hu.2.2 x q (nx, r) (by simp)⟩
      · exact .inl q
      · exact .inr ⟨by simp [q], fun e => hu.2.1.1 x q e.symm⟩
  have hold : ∀ e ∈ old, Rch tr c nx e := fun e he => by
    rcases hM with ⟨_, _, rfl⟩ | ⟨M1, r, M2, rfl, _, rfl⟩
    · cases he
    · exact h.rch (nx, r) (by simp) e he
  have hnewm : (nx, r') ∈ M' := by
    rcases hM with ⟨rfl, _, _⟩ | ⟨M1, r, M2, _, rfl, _⟩ <;> simp
  have hkeep : ∀ x ∈ M, x.1 ≠ nx → x ∈ M' := fun x hx hne => by
    rcases hM with ⟨rfl, _, _⟩ | ⟨M1, r, M2, rfl, rfl, _⟩
    · simp [hx]
    · rw [List.mem_append, List.mem_cons] at hx ⊢
      rcases hx with q | rfl | q
      · exact .inl q
      · exact absurd rfl hne
      · exact .inr (.inr q)
  have hoM : ∀ a e, Pd M a e → a = nx → e ∈ old := fun a e ⟨x, hx, h1, h2⟩ hax => by
    rcases hM with ⟨_, q, _⟩ | ⟨M1, r, M2, rfl, _, rfl⟩
    · exact absurd (h1.trans hax) (q x hx)
    · have hu := h.un
      rw [List.pairwise_append, List.pairwise_cons] at hu
      rw [List.mem_append, List.mem_cons] at hx
      rcases hx with q | rfl | q
      · exact absurd (h1.trans hax) (hu.2.2 x q (nx, r) (by simp))
      · exact h2
      · exact absurd (h1.trans hax).symm (hu.2.1.1 x q)
  have hlen : (addF tr old (plD tr c d at_ i) nx).length ≤ old.length + 1 := by
    unfold addF
    split
    · omega
    · rw [List.length_append]; have := List.length_filter_le (fun e => !cvB tr (plD tr c d at_ i) e nx) old; simp; omega
  have hcv := cvs_add (i := i) (d := d) (at_ := at_) (Pd := fun a e => Pd M a e ∨ (a = at_ ∧ e ∈ fs.drop (k + 1))) (Pd' := fun a e => Pd M' a e ∨ (a = at_ ∧ e ∈ fs.drop (k + 1))) (best := best) ho (hr.le4' ho) (h.cv.sub ho fun a e q => by
      rcases q with q | q | q
      · exact .inl (.inl q)
      · exact .inl (.inr q)
      · exact .inr q)
    (fun a e q => by
      rcases q with ⟨x, hx, rfl, _⟩ | ⟨rfl, _⟩
      · exact fun p hp => by have := (h.key x hx).2.1 p hp; have := ho.l p hp; omega
      · exact hr.le4' ho)
    (fun a e q => by
      rcases q with q | q
      · by_cases e1 : a = nx
        · obtain ⟨y, y1, y2⟩ := (addF_cv (tr := tr) old (plD tr c d at_ i) nx).1 e (hoM a e q e1)
          exact ⟨y, .inl ⟨(nx, r'), hnewm, e1.symm, by rw [hl]; exact y1⟩, e1 ▸ y2⟩
        · obtain ⟨x, hx, h1, h2⟩ := q
          exact ⟨e, .inl ⟨x, hkeep x hx (by rw [h1]; exact e1), h1, h2⟩, .refl⟩
      · exact ⟨e, .inr q, .refl⟩)
    (fun _ _ => by
      rw [hnx]
      obtain ⟨y, y1, y2⟩ := (addF_cv (tr := tr) old (plD tr c d at_ i) nx).2
      exact ⟨y, .inl ⟨(nx, r'), hnewm, rfl, by rw [hl]; exact y1⟩, y2⟩)
  refine ⟨hcv.sub ho fun a e q => ?_, fun x hx => ?_, fun x hx e he => ?_, ?_, fun x hx hne => ?_, fun x hx j hj he => ?_, h.full, h.le⟩
  · rcases q with (q | q) | q
    · exact .inl q
    · exact .inr (.inl q)
    · exact .inr (.inr q)
  · rcases hmem x hx with rfl | ⟨q, _⟩
    · exact ⟨hgt, hrn.vp ho⟩
    · exact h.key x q
  · rcases hmem x hx with rfl | ⟨q, _⟩
    · have he : e ∈ r'.l := he
      rw [hl] at he
      rcases addF_mem he with q | q
      · exact hold e q
      · rw [q]; exact hrn
    · exact h.rch x q e he
  · rcases hM with ⟨rfl, h2, _⟩ | ⟨M1, r, M2, rfl, rfl, _⟩
    · rw [List.pairwise_append]
      exact ⟨h.un, by simp, fun x hx y hy => by simp at hy; subst hy; exact h2 x hx⟩
    · have hu := h.un
      rw [List.pairwise_append, List.pairwise_cons] at hu ⊢
      refine ⟨hu.1, ⟨fun y hy => hu.2.1.1 y hy, hu.2.1.2⟩, fun x hx y hy => ?_⟩
      rcases List.mem_cons.1 hy with rfl | hy
      · exact hu.2.2 x hx (nx, r) (by simp)
      · exact hu.2.2 x hx y (by simp [hy])
  · rcases hmem x hx with rfl | ⟨q, _⟩
    · exact absurd hnx.symm (hne i hi)
    · exact h.nb x q hne
  · rcases hmem x hx with rfl | ⟨q, hq⟩
    · have hji : j = i := by
        refine Classical.byContradiction fun hne => ?_
        have := congrFun (he.trans rfl) i
        simp only at this
        rw [← hnx] at this
        simp [upA, show i ≠ j from fun e => hne e.symm] at this
      subst hji
      rw [if_pos (by omega)]
      show r'.l.length ≤ _
      rw [hl]
      have hob : old.length ≤ bdN tr at_ nx + k := by
        rcases hM with ⟨_, _, rfl⟩ | ⟨M1, r, M2, rfl, _, rfl⟩
        · simp
        · have := h.nc (nx, r) (by simp) j hj he
          rw [if_neg (by omega)] at this
          simpa using this
      show (addF tr old (plD tr c d at_ j) nx).length ≤ bdN tr at_ nx + k + 1
      omega
    · have := h.nc x q j hj he
      split at this <;> split <;> omega
theorem InvI.next (ho : Ok tr) (h : InvI tr c kn at_ M best k tr.length (fun a e => (a = at_ ∧ e ∈ fs.drop (k + 1)) ∨ Nx tr c at_ d tr.length a e)) : InvI tr c kn at_ M best (k + 1) 0 (fun a e => a = at_ ∧ e ∈ fs.drop (k + 1)) :=
  ⟨(cvs_next (i := tr.length) (d := d) (at_ := at_) (c := c) (Pd := fun a e => Pd M a e ∨ (a = at_ ∧ e ∈ fs.drop (k + 1))) ho (Nat.le_refl _) (h.cv.sub ho fun a e q => by
      rcases q with q | q | q
      · exact .inl (.inl q)
      · exact .inl (.inr q)
      · exact .inr q)), h.key, h.rch, h.un, h.nb, fun x hx j hj he => by
    have := h.nc x hx j hj he
    rw [if_pos hj] at this
    rw [if_neg (by omega)]
    omega, h.full, h.le⟩
theorem InvI.done (ho : Ok tr) (hk : fs.length ≤ k) (hkb : k ≤ 4 ^ sA at_) (h : InvI tr c kn at_ M best k 0 (fun a e => a = at_ ∧ e ∈ fs.drop k)) {b : Pl} (hb : Gt tr b at_) (hge : ∀ a, Vp tr a → Gt tr a at_ → Ge tr a b) : InvO tr c kn b M best := by
  refine ⟨h.cv.sub ho fun a e q => ?_, fun x hx => ⟨hge _ (h.key x hx).2 (h.key x hx).1, (h.key x hx).2⟩, h.rch, h.un, fun x hx => ?_, h.full, h.le⟩
  · rcases q with q | ⟨_, q⟩
    · exact q
    · rw [List.drop_of_length_le hk] at q; cases q
  · by_cases e : ∃ j, j < tr.length ∧ x.1 = upA at_ j (at_ j + 1)
    · obtain ⟨j, hj, he⟩ := e
      have h1 := h.nc x hx j hj he
      rw [if_neg (by omega)] at h1
      have h2 := bd_up ho hj hb
      rw [← he] at h2
      omega
    · exact Nat.le_trans (h.nb x hx fun j hj he => e ⟨j, hj, he⟩) (bd_mono hb)
theorem InvI.last (ho : Ok tr) (hk : fs.length ≤ k) (h : InvI tr c kn at_ M best k 0 (fun a e => a = at_ ∧ e ∈ fs.drop k)) (hf : ∀ q, q < tr.length → at_ q = (tr.getD q default).fStops.length) : Full tr c best ∧ ∀ f, Full tr c f → cmD tr best f (enA tr) ≤ 0 :=
  ⟨h.full, fun f hf' => cvs_end (h.cv.sub ho fun a e q => by
    rcases q with ⟨x, hx, _, _⟩ | ⟨_, q⟩
    · exact gt_none (h.key x hx).2 hf (h.key x hx).1
    · rw [List.drop_of_length_le hk] at q; cases q) hf'⟩
theorem InvO.begin (ho : Ok tr) (hk : Full tr c kn) {r : Rw Dr} (hr : r.l = [bgD tr]) : InvO tr c kn (fun _ => 0) [((fun _ => 0), r)] kn := by
  refine ⟨cvs_begin ⟨((fun _ => 0), r), by simp, rfl, by rw [hr]; simp⟩ kn, fun x hx => ?_, fun x hx d hd => ?_, by simp, fun x hx => ?_, hk, cm_refl tr _ _⟩ <;> (simp only [List.mem_singleton] at hx; subst hx)
  · exact ⟨.inl rfl, fun _ _ => Nat.zero_le _, fun _ _ => rfl⟩
  · rw [hr] at hd; simp at hd; subst hd; exact .b
  · show r.l.length ≤ _; rw [hr]; unfold bdN; simp [sA]
end
end Go.Sg
