/- Several texts as one. -/
import Derived.Test.YtnpokifaejcbeaaGreatDoorK8
import Derived.Ground.Names2Prog
import Derived.Ground.SlgnProg
import Derived.Shelf.Slices.Cells
import Derived.Shelf.Slices.Clone
import Derived.Shelf.Slices.CompactI
import Derived.Shelf.Slices.In.SortNone
import Derived.Shelf.Slices.SearchI
import Derived.Shelf.Slices.Turned
import Derived.Shelf.SlicesE.Clone
import Derived.Shelf.Small.Bits
import Derived.Shelf.Small.Wraps
import Derived.Shelf.Sort.Plain
import Derived.Shelf.Spec.SlicesGrow
import Derived.Shelf.Strconv.Itoa0
set_option linter.unusedSectionVars false
set_option linter.unusedVariables false
set_option linter.unusedSimpArgs false
set_option maxRecDepth 20000
namespace Go.Sg
open Go.Proofs
def eG (q : List bB) (e : Int) : Bool := q.any fun s => decide (s.fEl = e)
def fY (q : List aM) (s : aM) : Bool := q.any fun x => decide (x = s)
theorem o7 (a : bB) (q : List bB) (e : Int) : eG (a :: q) e = (decide (a.fEl = e) || eG q e) := rfl
theorem aAi (a : aM) (q : List aM) (s : aM) : fY (a :: q) s = (decide (a = s) || fY q s) := rfl
theorem vH {q : List bB} {e : Int} : eG q e = true ↔ ∃ s ∈ q, s.fEl = e := by unfold eG; simp
theorem nQ {q : List aM} {s : aM} : fY q s = true ↔ s ∈ q := by unfold fY; simp
theorem bEt : ∀ (l : List Int) (x : Int), decide (0 ≤ xK l x l.length) = l.contains x := by
 intro l x
 have key : ∀ n, n ≤ l.length → (0 ≤ xK l x n ↔ x ∈ l.drop (l.length - n)) := by
  intro n
  induction n with
  | zero => intro _; simp [xK]
  | succ n ih =>
   intro h
   rw [bT default (show l.length - (n + 1) < l.length by omega), show l.length - (n + 1) + 1 = l.length - n by omega]
   unfold xK
   split
   ·rename_i hx; exact ⟨fun _ => by rw [hx]; exact List.mem_cons_self, fun _ => Int.natCast_nonneg _⟩
   rename_i hx; rw [ih (by omega), List.mem_cons]; exact ⟨.inr, fun h => h.resolve_left (fun e => hx e.symm)⟩
 have := key l.length (Nat.le_refl _)
 rw [Nat.sub_self, List.drop_zero] at this
 rw [Bool.eq_iff_iff, decide_eq_true_eq, this]; simp
def zH (l : List aM) (x : aM) : Nat → Int
 | 0 => -1
 | n + 1 => if l.getD (l.length - (n + 1)) default = x then ((l.length - (n + 1) : Nat) : Int) else zH l x n
theorem aTe {l : List aM} {x : aM} {i : Nat} (hi : i < l.length) : zH l x (l.length - i) = if l.getD i default = x then (i : Int) else zH l x (l.length - (i + 1)) := by
 rw [show l.length - i = (l.length - (i + 1)) + 1 by omega, zH, show l.length - (l.length - (i + 1) + 1) = i by omega]
theorem aYu : ∀ (l : List aM) (x : aM), decide (0 ≤ zH l x l.length) = fY l x := by
 intro l x
 have key : ∀ n, n ≤ l.length → (0 ≤ zH l x n ↔ x ∈ l.drop (l.length - n)) := by
  intro n
  induction n with
  | zero => intro _; simp [zH]
  | succ n ih =>
   intro h
   rw [bT default (show l.length - (n + 1) < l.length by omega), show l.length - (n + 1) + 1 = l.length - n by omega]
   unfold zH
   split
   ·rename_i hx; exact ⟨fun _ => by rw [hx]; exact List.mem_cons_self, fun _ => Int.natCast_nonneg _⟩
   rename_i hx; rw [ih (by omega), List.mem_cons]; exact ⟨.inr, fun h => h.resolve_left (fun e => hx e.symm)⟩
 have := key l.length (Nat.le_refl _)
 rw [Nat.sub_self, List.drop_zero] at this
 rw [Bool.eq_iff_iff, decide_eq_true_eq, this, nQ]
theorem sD (O : aU) (q : List bB) (e : Int) : aW Tryz.prog O 146 [bN q, vi e] (vb (eG q e)) := by
 refine aO 0 rfl (.sl _ _ _) fun hl => ?_
 refine dT Tryz.func146 ?_
 refine aB [0, 1] ?_
 refine aA fun K1 hK1 => ?_
 refine aB [0, 1] ?_
 refine aK ?_
 refine aX [0, 1, 5] (fun n ρ => ∃ i, n = q.length - i ∧ (i ≤ q.length) ∧ (eG q e = eG (q.drop i) e) ∧ ρ = cU O [(0, bN q), (1, vi e), (5, vi (i : Nat))]) _ ⟨0, rfl, ?_, ?_, ?_⟩ ?_
 ·exact bD
 ·rfl
 ·exact cD
 rintro n ρ ⟨i, rfl, l0_0, l0_1, rfl⟩ K3 hK3
 refine aA fun K4 hK4 => ?_
 refine aB [0, 1, 5] ?_
 refine aS (fun c0 => ?_) fun c0 => ?_
 ·refine aJ ?_
  refine hK4 _ ?_; clear hK4
  refine aA fun K6 hK6 => ?_
  refine aK ?_
  refine aB [0, 1, 5] ?_
  refine aS (fun c1 => ?_) fun c1 => ?_
  ·refine aB [] ?_
   refine aL ?_
   refine b6 4 ?_
   refine xb ?_
   ((rw [l0_1, bT default c0, o7, decide_eq_true c1]; rfl))
  refine aJ ?_
  refine hK6 _ ?_; clear hK6
  refine bC [0, 1, 5] ?_
  refine hK3 _ _ ?_ ⟨i + 1, rfl, ?_, ?_, ?_⟩
  ·exact bD
  ·exact bD
  ·rw [l0_1, bT default c0, o7, decide_eq_false c1]; rfl
  exact cD
 refine bA ?_
 refine hK1 _ ?_; clear hK1
 refine aB [] ?_
 refine aL ?_
 refine b6 4 ?_
 refine xb ?_
 ((rw [l0_1, eJ c0]; rfl))
theorem lW (O : aU) (q : List aM) (s : aM) : aW Tryz.prog O 149 [cX q, .agg (aY s)] (vb (fY q s)) := by
 refine aO 0 rfl (.sl _ _ _) fun hl => ?_
 refine dT Tryz.func149 ?_
 refine aB [0, 1] ?_
 refine aA fun K1 hK1 => ?_
 refine aB [0, 3] ?_
 refine aK ?_
 refine aX [0, 3, 5] (fun n ρ => ∃ i, n = q.length - i ∧ (i ≤ q.length) ∧ (fY q s = fY (q.drop i) s) ∧ ρ = cU O [(0, cX q), (3, .bx (aY s)), (5, vi (i : Nat))]) _ ⟨0, rfl, ?_, ?_, ?_⟩ ?_
 ·exact bD
 ·rfl
 ·exact cD
 rintro n ρ ⟨i, rfl, l0_0, l0_1, rfl⟩ K3 hK3
 refine aA fun K4 hK4 => ?_
 refine aB [0, 3, 5] ?_
 refine aS (fun c0 => ?_) fun c0 => ?_
 ·refine aJ ?_
  refine hK4 _ ?_; clear hK4
  refine aA fun K6 hK6 => ?_
  refine aK ?_
  refine aA fun K7 hK7 => ?_
  refine e5 [0, 3, 5] [] ?_
  refine hK7 _ ?_; clear hK7
  refine aS (fun c1 => ?_) fun c1 => ?_
  ·refine aB [] ?_
   refine aL ?_
   refine b6 4 ?_
   refine xb ?_
   ((rw [l0_1, bT default c0, aAi, decide_eq_true ((fE _ _).2 (by simpa using c1))]; rfl))
  refine aJ ?_
  refine hK6 _ ?_; clear hK6
  refine bC [0, 3, 5] ?_
  refine hK3 _ _ ?_ ⟨i + 1, rfl, ?_, ?_, ?_⟩
  ·exact bD
  ·exact bD
  ·rw [l0_1, bT default c0, aAi, decide_eq_false (fun h => by rw [fE] at h; simp_all)]; rfl
  exact cD
 refine bA ?_
 refine hK1 _ ?_; clear hK1
 refine aB [] ?_
 refine aL ?_
 refine b6 4 ?_
 refine xb ?_
 ((rw [l0_1, eJ c0]; rfl))
theorem oW (O : aU) (l : List Int) (x : Int) : aW Tryz.prog O 190 [b9 l, vi x] (vb (l.contains x)) := by
 refine dT Tryz.func190 ?_
 refine aB [0, 1] ?_
 refine aA fun K1 hK1 => ?_
 refine bF [0, 1] ?_
 refine dM (lO _ l x) ?_
 refine hK1 _ ?_; clear hK1
 refine aL ?_
 refine b6 4 ?_
 refine xb ?_
 ((exact bEt l x))
theorem nU (O : aU) (l : List aM) (x : aM) : aW Tryz.prog O 228 [cX l, .agg (aY x)] (vi (zH l x l.length)) := by
 refine aO 0 rfl (.sl _ _ _) fun hl => ?_
 refine dT Tryz.func228 ?_
 refine aB [0, 1] ?_
 refine aA fun K1 hK1 => ?_
 refine aB [0, 3] ?_
 refine aK ?_
 refine aX [0, 3, 7, 8] (fun n ρ => ∃ i, n = l.length - i ∧ (i ≤ l.length) ∧ (zH l x l.length = zH l x (l.length - i)) ∧ ρ = cU O [(0, cX l), (3, .bx (aY x)), (7, vi (l.length : Nat)), (8, vi (i : Nat))]) _ ⟨0, rfl, ?_, ?_, ?_⟩ ?_
 ·exact bD
 ·rfl
 ·exact cD
 rintro n ρ ⟨i, rfl, l0_0, l0_1, rfl⟩ K3 hK3
 refine aB [0, 3, 7, 8] ?_
 refine aA fun K5 hK5 => ?_
 refine aS (fun c0 => ?_) fun c0 => ?_
 ·refine aJ ?_
  refine hK5 _ ?_; clear hK5
  refine aA fun K6 hK6 => ?_
  refine aK ?_
  refine aB [0, 3, 7, 8] ?_
  refine aA fun K8 hK8 => ?_
  refine e5 [0, 3, 5, 7, 8] [] ?_
  refine hK8 _ ?_; clear hK8
  refine aS (fun c1 => ?_) fun c1 => ?_
  ·refine aB [5] ?_
   refine aL ?_
   refine b6 4 ?_
   exact cP.is (by simp (disch := omega) only [go_sem, seval] <;> ((rw [l0_1, aTe c0, if_pos (Eq.symm ((fE _ _).2 (by simpa using c1)))]))) rfl rfl
  refine aJ ?_
  refine hK6 _ ?_; clear hK6
  refine bC [0, 3, 7, 8] ?_
  refine hK3 _ _ ?_ ⟨i + 1, rfl, ?_, ?_, ?_⟩
  ·exact bD
  ·exact bD
  ·rw [l0_1, aTe c0, if_neg (fun h => by rw [fE] at h; simp_all)]
  exact cD
 refine bA ?_
 refine hK1 _ ?_; clear hK1
 refine aB [] ?_
 refine aL ?_
 refine b6 4 ?_
 exact cP.is (by simp (disch := omega) only [go_sem, seval] <;> ((rw [l0_1, show l.length - i = 0 by omega]; rfl))) rfl rfl
theorem fQ (O : aU) (l : List aM) (x : aM) : aW Tryz.prog O 222 [cX l, .agg (aY x)] (vb (fY l x)) := by
 refine dT Tryz.func222 ?_
 refine aB [0, 1] ?_
 refine aA fun K1 hK1 => ?_
 refine bF [0, 3] ?_
 refine dM (nU _ l x) ?_
 refine hK1 _ ?_; clear hK1
 refine aL ?_
 refine b6 4 ?_
 refine xb ?_
 ((exact aYu l x))
theorem nN (O : aU) (l : List bB) (g s : Nat) (cs : List DV) (p : bB → Bool) (hO : O s = .bx cs) (hcs : iA (· + 100000) cs = cs) (hg : aQ Tryz.prog g = true) (hk : ∀ (ρ : aU) (k : Nat) (x : bB), ρ k = .bx cs → aW Tryz.prog ρ g [.agg (bJ x), .bp k 0] (vb (p x))) : aW Tryz.prog O 215 [bN l, .fn g [] [.bp s 0]] (vi (if l.any p then (l.findIdx p : Nat) else -1)) := by
 refine aO 0 rfl (.sl _ _ _) fun hl => ?_
 refine dT Tryz.func215 ?_
 refine aA fun K0 hK0 => ?_
 refine a7 [0, 1] (by kernel_rfl) ?_
 simp (disch := omega) only [go_sem, seval, hg]
 repeat refine And.intro bS ?_
 refine hK0 _ ?_; clear hK0
 refine aA fun K1 hK1 => ?_
 refine aA fun K2 hK2 => ?_
 refine a7 [0, 1] (by kernel_rfl) ?_
 simp (disch := omega) only [go_sem, seval, hg]
 repeat refine And.intro bS ?_
 refine hK2 _ ?_; clear hK2
 refine aK ?_
 refine aX [0, 1, 7, 8] (fun n ρ => ∃ i, n = l.length - i ∧ (i ≤ l.length) ∧ ((if l.any p then (l.findIdx p : Int) else -1) = (if (l.drop i).any p then (((l.drop i).findIdx p + i : Nat) : Int) else -1)) ∧ ρ = cU O [(0, bN l), (1, .fn g [] [.bp (s + 100000) 0]), (7, vi (l.length : Nat)), (8, vi (i : Nat))]) _ ⟨0, rfl, ?_, ?_, ?_⟩ ?_
 ·exact bD
 ·simp
 ·simp (disch := omega) only [go_sem, seval, hg] <;> first | rfl | omega | simp | simp_all
 rintro n ρ ⟨i, rfl, l0_0, l0_1, rfl⟩ K3 hK3
 refine aA fun K4 hK4 => ?_
 refine a7 [0, 1, 7, 8] (by kernel_rfl) ?_
 simp (disch := omega) only [go_sem, seval, hg]
 repeat refine And.intro bS ?_
 refine hK4 _ ?_; clear hK4
 refine aA fun K5 hK5 => ?_
 refine aS (fun c0 => ?_) fun c0 => ?_
 ·refine aJ ?_
  refine hK5 _ ?_; clear hK5
  refine aA fun K6 hK6 => ?_
  refine aK ?_
  refine aA fun K7 hK7 => ?_
  refine a7 [0, 1, 7, 8] (by kernel_rfl) ?_
  simp (disch := omega) only [go_sem, seval, hg]
  repeat refine And.intro bS ?_
  refine hK7 _ ?_; clear hK7
  refine aA fun K8 hK8 => ?_
  refine a7 [0, 1, 5, 7, 8] (by kernel_rfl) ?_
  simp (disch := omega) only [go_sem, seval, hg]
  repeat refine And.intro bS ?_
  refine gE _ (hk _ (s + 100000) (l.getD i default) ?_) ?_
  ·repeat rw [aT, if_neg (by omega)]
   rw [bX, hO]; exact congrArg DV.bx hcs
  try simp (disch := omega) only [go_sem, seval, hg]
  repeat refine And.intro bS ?_
  refine hK8 _ ?_; clear hK8
  refine aS (fun c1 => ?_) fun c1 => ?_
  ·refine aA fun K9 hK9 => ?_
   refine a7 [5] (by kernel_rfl) ?_
   simp (disch := omega) only [go_sem, seval, hg]
   repeat refine And.intro bS ?_
   refine hK9 _ ?_; clear hK9
   refine aL ?_
   refine dC 4 rfl (by simp (disch := omega) only [go_sem, seval, hg]) ?_
   exact cP.is (by simp (disch := omega) only [go_sem, seval, hg] <;> (refine congrArg vi ?_; rw [l0_1, bT default c0, List.any_cons, List.findIdx_cons, c1]; simp)) rfl rfl
  refine aJ ?_
  refine hK6 _ ?_; clear hK6
  refine a7 [0, 1, 7, 8] (by kernel_rfl) ?_
  simp (disch := omega) only [go_sem, seval, hg]
  repeat refine And.intro bS ?_
  refine hK3 _ _ ?_ ⟨i + 1, rfl, ?_, ?_, ?_⟩
  ·exact bD
  ·exact bD
  ·rw [l0_1, bT default c0, List.any_cons, List.findIdx_cons, c1]; simp only [Bool.false_or, cond_false]; rw [show List.findIdx p (List.drop (i + 1) l) + 1 + i = List.findIdx p (List.drop (i + 1) l) + (i + 1) by omega]
  simp (disch := omega) only [go_sem, seval, hg] <;> first | rfl | omega | simp | simp_all
 refine bA ?_
 refine hK1 _ ?_; clear hK1
 refine aA fun K10 hK10 => ?_
 refine a7 [] (by kernel_rfl) ?_
 simp (disch := omega) only [go_sem, seval, hg]
 repeat refine And.intro bS ?_
 refine hK10 _ ?_; clear hK10
 refine aL ?_
 refine dC 4 rfl (by simp (disch := omega) only [go_sem, seval, hg]) ?_
 exact cP.is (by simp (disch := omega) only [go_sem, seval, hg] <;> (refine congrArg vi ?_; rw [l0_1, eJ c0]; rfl)) rfl rfl
theorem iE (O : aU) (l : List bB) (g s : Nat) (cs : List DV) (p : bB → Bool) (hO : O s = .bx cs) (hcs : iA (· + 100000) cs = cs) (hg : aQ Tryz.prog g = true) (hk : ∀ (ρ : aU) (k : Nat) (x : bB), ρ k = .bx cs → aW Tryz.prog ρ g [.agg (bJ x), .bp k 0] (vb (p x))) : aW Tryz.prog O 188 [bN l, .fn g [] [.bp s 0]] (vb (l.any p)) := by
 refine dT Tryz.func188 ?_
 refine aA fun K0 hK0 => ?_
 refine a7 [0, 1] (by kernel_rfl) ?_
 simp (disch := omega) only [go_sem, seval, hg]
 repeat refine And.intro bS ?_
 refine hK0 _ ?_; clear hK0
 refine aA fun K1 hK1 => ?_
 refine a7 [0, 1] (by kernel_rfl) ?_
 simp (disch := omega) only [go_sem, seval, hg]
 repeat refine And.intro bS ?_
 refine gE _ (nN _ l g (s + 100000) cs p ?_ hcs hg hk) ?_
 ·repeat rw [aT, if_neg (by omega)]
  rw [bX, hO]; exact congrArg DV.bx hcs
 try simp (disch := omega) only [go_sem, seval, hg]
 repeat refine And.intro bS ?_
 refine hK1 _ ?_; clear hK1
 refine aL ?_
 refine dC 4 rfl (by simp (disch := omega) only [go_sem, seval, hg]) ?_
 exact cP.is (by simp (disch := omega) only [go_sem, seval, hg] <;> refine congrArg vb ?_ <;> (cases h : l.any p <;> simp)) rfl rfl
section
attribute [local go_sem] bX
theorem rT (O : aU) (x : bB) (e : Int) (k : Nat) (h : O k = .bx [vi e]) : aW Tryz.prog O 189 [.agg (bJ x), .bp k 0] (vb (decide (x.fEl = e))) := by
 refine dT Tryz.func189 ?_
 refine aA fun K0 hK0 => ?_
 refine a7 [0, 1] (by kernel_rfl) ?_
 simp (disch := omega) only [go_sem, seval, h]
 repeat refine And.intro bS ?_
 refine hK0 _ ?_; clear hK0
 refine aA fun K1 hK1 => ?_
 refine a7 [1, 2] (by kernel_rfl) ?_
 simp (disch := omega) only [go_sem, seval, h]
 repeat refine And.intro bS ?_
 refine hK1 _ ?_; clear hK1
 refine aL ?_
 refine dC 3 rfl (by simp (disch := omega) only [go_sem, seval, h]) ?_
 exact cP.is (by simp (disch := omega) only [go_sem, seval, h] <;> refine congrArg vb ?_ <;> (rfl)) rfl rfl
end
section
attribute [local go_sem] bX
theorem m8 (O : aU) (x : bB) (e : Int) (k : Nat) (h : O k = .bx [vi e]) : aW Tryz.prog O 210 [.agg (bJ x), .bp k 0] (vb (decide (x.fEl = e))) := by
 refine dT Tryz.func210 ?_
 refine aA fun K0 hK0 => ?_
 refine a7 [0, 1] (by kernel_rfl) ?_
 simp (disch := omega) only [go_sem, seval, h]
 repeat refine And.intro bS ?_
 refine hK0 _ ?_; clear hK0
 refine aA fun K1 hK1 => ?_
 refine a7 [1, 2] (by kernel_rfl) ?_
 simp (disch := omega) only [go_sem, seval, h]
 repeat refine And.intro bS ?_
 refine hK1 _ ?_; clear hK1
 refine aL ?_
 refine dC 3 rfl (by simp (disch := omega) only [go_sem, seval, h]) ?_
 exact cP.is (by simp (disch := omega) only [go_sem, seval, h] <;> refine congrArg vb ?_ <;> (rfl)) rfl rfl
end
theorem pO (O : aU) (x : Int) (l : List Int) : aW Tryz.prog O 131 [vi x, b9 l] (vb (l.contains x)) := by
 refine dT Tryz.func131 ?_
 refine aB [0, 1] ?_
 refine aA fun K1 hK1 => ?_
 refine bF [0, 1] ?_
 refine dM (oW _ l x) ?_
 refine hK1 _ ?_; clear hK1
 refine aL ?_
 refine b6 4 ?_
 exact xd
theorem w9 (O : aU) (r : bE) (e : Int) : aW Tryz.prog O 176 [.agg (aZ r), vi e] (vb (eG r.fPath e || eG r.fOver e)) := by
 refine dT Tryz.func176 ?_
 refine aB [0, 1] ?_
 refine aB [2, 3] ?_
 refine aA fun K2 hK2 => ?_
 refine bF [2, 3, 5] ?_
 refine dM (iE _ r.fPath 210 3 [vi e] (fun s => decide (s.fEl = e)) (by rfl) rfl rfl (fun ρ k r h => m8 ρ r e k h)) ?_
 refine lY (fun g0 => iE _ r.fOver 210 3 [vi e] (fun s => decide (s.fEl = e)) (by rfl) rfl rfl (fun ρ k r h => m8 ρ r e k h)) ?_
 refine hK2 _ ?_; clear hK2
 refine aL ?_
 refine b6 4 ?_
 exact xd
def ndR (r : bE) (s : aM) : Bool := fY r.fPoints s || fY r.fOverPoints s || fY r.fFlank s
theorem aAj (O : aU) (r : bE) (s : aM) : aW Tryz.prog O 211 [.agg (aZ r), .agg (aY s)] (vb (ndR r s)) := by
 refine dT Tryz.func211 ?_
 refine aB [0, 1] ?_
 refine aA fun K1 hK1 => ?_
 refine bF [2, 3] ?_
 refine dM (fQ _ r.fPoints s) ?_
 refine lY (fun g0 => fQ _ r.fOverPoints s) ?_
 refine lY (fun g1 => fQ _ r.fFlank s) ?_
 refine hK1 _ ?_; clear hK1
 refine aL ?_
 refine b6 4 ?_
 exact xd
theorem zY (O : aU) (r : bE) (s : aM) : aW Tryz.prog O 202 [.agg (aZ r), .agg (aY s)] (vb (ndR r s)) := by
 refine dT Tryz.func202 ?_
 refine aB [0, 1] ?_
 refine aA fun K1 hK1 => ?_
 refine bF [2, 3] ?_
 refine dM (lW _ r.fPoints s) ?_
 refine lY (fun g0 => lW _ r.fOverPoints s) ?_
 refine lY (fun g1 => lW _ r.fFlank s) ?_
 refine hK1 _ ?_; clear hK1
 refine aL ?_
 refine b6 4 ?_
 exact xd
def tJ (x : Int) : List Int → List Int
 | [] => [x]
 | y :: s => if x < y then x :: y :: s else y :: tJ x s
def kF (s : List Int) (x : Int) : List Int := if s.contains x then s else tJ x s
theorem aIy (x : Int) (l : List Int) : (tJ x l).length = l.length + 1 := by
 induction l with
 | nil => rfl
 | cons y s ih => unfold tJ; split <;> simp [ih]
theorem aRe (l : List Int) : ∀ acc, (l.foldl kF acc).length ≤ acc.length + l.length := by
 induction l with
 | nil => intro acc; simp
 | cons x l ih =>
  intro acc
  have h1 := ih (kF acc x)
  have h2 : (kF acc x).length ≤ acc.length + 1 := by
   unfold kF; split
   ·omega
   rw [aIy]; omega
  simp only [List.foldl_cons, List.length_cons]; omega
def xL (l : List Int) : List Int := l.foldl kF []
theorem aOu (l : List Int) : (xL l).length ≤ l.length := by have := aRe l []; simp at this; exact this
theorem aGi (O : aU) (l : List Int) (x : Int) : aW Tryz.prog O 203 [b9 l, vi x] (vb (l.contains x)) := by
 refine aO 0 rfl (.sl _ _ _) fun hl => ?_
 refine dT Tryz.func203 ?_
 refine aB [0, 1] ?_
 refine aA fun K1 hK1 => ?_
 refine aB [0, 1] ?_
 refine aK ?_
 refine aX [0, 1, 5] (fun n ρ => ∃ i, n = l.length - i ∧ (i ≤ l.length) ∧ (l.contains x = (l.drop i).contains x) ∧ ρ = cU O [(0, b9 l), (1, vi x), (5, vi (i : Nat))]) _ ⟨0, rfl, ?_, ?_, ?_⟩ ?_
 ·exact bD
 ·exact bD
 ·exact cD
 rintro n ρ ⟨i, rfl, l0_0, l0_1, rfl⟩ K3 hK3
 refine aA fun K4 hK4 => ?_
 refine aB [0, 1, 5] ?_
 refine aS (fun c0 => ?_) fun c0 => ?_
 ·refine aJ ?_
  refine hK4 _ ?_; clear hK4
  refine aA fun K6 hK6 => ?_
  refine aK ?_
  refine aB [0, 1, 5] ?_
  refine aS (fun c1 => ?_) fun c1 => ?_
  ·refine aB [] ?_
   refine aL ?_
   refine b6 4 ?_
   refine xb ?_
   (rw [l0_1, bT default c0]; simp [← c1])
  refine aJ ?_
  refine hK6 _ ?_; clear hK6
  refine bC [0, 1, 5] ?_
  refine hK3 _ _ ?_ ⟨i + 1, rfl, ?_, ?_, ?_⟩
  ·exact bD
  ·exact bD
  ·rw [l0_1, bT default c0, List.contains_cons, beq_eq_false_iff_ne.2 (Ne.symm c1)]; rfl
  exact cD
 refine bA ?_
 refine hK1 _ ?_; clear hK1
 refine aB [] ?_
 refine aL ?_
 refine b6 4 ?_
 refine xb ?_
 (rw [l0_1, eJ c0]; rfl)
theorem pF (O : aU) (l : List Int) (x : Int) (hb : l.length ≤ 1000000) : aW Tryz.prog O 151 [b9 l, vi x] (b9 (kF l x)) := by
 refine dT Tryz.func151 ?_
 refine aB [0, 1] ?_
 refine aA fun K1 hK1 => ?_
 refine aA fun K2 hK2 => ?_
 refine bF [0, 1] ?_
 refine dM (aGi _ _ _) ?_
 refine hK2 _ ?_; clear hK2
 refine aS (fun c0 => ?_) fun c0 => ?_
 ·refine aB [0] ?_
  refine aL ?_
  refine b6 4 ?_
  exact cP.encL rfl (by rw [kF, if_pos c0])
 refine aJ ?_
 refine hK1 _ ?_; clear hK1
 refine aB [0, 1] ?_
 refine aB [0, 1, 5] ?_
 refine aA fun K6 hK6 => ?_
 refine aB [0, 1, 5, 6] ?_
 refine aK ?_
 refine d9 5 3 1 eI rfl rfl ?_
 refine aX [0, 1, 5, 6, 7] (fun n ρ => ∃ i, ∃ out, ∃ dn, n = l.length - i ∧ (i ≤ l.length) ∧ ((if dn then out ++ l.drop i else out ++ tJ x (l.drop i)) = tJ x l) ∧ (dn = false → out.length ≤ i) ∧ (out.length ≤ i + 1) ∧ ρ = cU O [(0, b9 l), (1, vi x), (5, yT out), (6, vb dn), (7, vi (i : Nat))]) _ ⟨0, [], false, rfl, ?_, ?_, ?_, ?_, ?_⟩ ?_
 ·exact bD
 ·exact bD
 ·exact bD
 ·exact bD
 ·exact cD
 rintro n ρ ⟨i, out, dn, rfl, l0_0, l0_1, l0_2, l0_3, rfl⟩ K8 hK8
 refine aA fun K9 hK9 => ?_
 refine aB [0, 1, 5, 6, 7] ?_
 refine aS (fun c1 => ?_) fun c1 => ?_
 ·refine aJ ?_
  refine hK9 _ ?_; clear hK9
  refine aA fun K11 hK11 => ?_
  refine aK ?_
  refine aA fun K12 hK12 => ?_
  refine aB [0, 1, 5, 6, 7] ?_
  refine aS (fun c2 => ?_) fun c2 => ?_
  ·refine aB [0, 1, 5, 7] ?_
   refine bC [0, 1, 5, 7] ?_
   refine hK12 _ ?_; clear hK12
   refine bC [0, 1, 5, 6, 7] ?_
   refine hK11 _ ?_; clear hK11
   refine bC [0, 1, 5, 6, 7] ?_
   refine hK8 _ _ ?_ ⟨i + 1, out ++ [x, l.getD i default], true, rfl, ?_, ?_, ?_, ?_, ?_⟩
   ·exact bD
   ·exact bD
   ·rw [if_pos rfl, ← l0_1, if_neg (by simp [c2.1]), bT default c1, tJ, if_pos c2.2]; simp
   ·intro h; cases h
   ·have := l0_2 c2.1; simp <;> omega
   exact cD
  refine aJ ?_
  refine hK12 _ ?_; clear hK12
  refine bC [0, 1, 5, 6, 7] ?_
  refine hK11 _ ?_; clear hK11
  refine bC [0, 1, 5, 6, 7] ?_
  refine hK8 _ _ ?_ ⟨i + 1, out ++ [l.getD i default], dn, rfl, ?_, ?_, ?_, ?_, ?_⟩
  ·exact bD
  ·exact bD
  ·rw [← l0_1]
   rcases dn with _ | _
   ·have : ¬ x < l.getD i default := by simpa using c2
    rw [bT default c1, tJ, if_neg this]; simp
   rw [bT default c1]; simp
  ·intro h; have := l0_2 h; simp; omega
  ·simp; omega
  exact cD
 refine bA ?_
 refine hK6 _ ?_; clear hK6
 refine aA fun K15 hK15 => ?_
 refine aB [1, 5, 6] ?_
 refine aS (fun c3 => ?_) fun c3 => ?_
 ·refine bC [1, 5] ?_
  refine hK15 _ ?_; clear hK15
  refine aA fun K17 hK17 => ?_
  refine dG 5 _ rfl rfl ?_
  refine bC [5] ?_
  refine hK17 _ ?_; clear hK17
  refine aL ?_
  refine b6 4 ?_
  exact cP.encL rfl (by rw [kF, if_neg (by rw [c0]; decide), ← l0_1, if_neg (by simp [c3]), eJ c1]; rfl)
 refine aJ ?_
 refine hK15 _ ?_; clear hK15
 refine aA fun K18 hK18 => ?_
 refine dG 5 _ rfl rfl ?_
 refine bC [5] ?_
 refine hK18 _ ?_; clear hK18
 refine aL ?_
 refine b6 4 ?_
 exact cP.encL rfl (by rw [kF, if_neg (by rw [c0]; decide), ← l0_1, if_pos c3, eJ c1, List.append_nil])
theorem yK (s : List Int) (x : Int) : (kF s x).length ≤ s.length + 1 := by
 unfold kF; split
 ·omega
 rw [aIy]; omega
theorem aBy (O : aU) (l : List Int) (hb : l.length ≤ 1000000) : aW Tryz.prog O 150 [b9 l] (b9 (xL l)) := by
 refine aO 0 rfl (.sl _ _ _) fun hl => ?_
 refine dT Tryz.func150 ?_
 refine aB [0] ?_
 refine aB [0] ?_
 refine aA fun K2 hK2 => ?_
 refine aB [0, 3] ?_
 refine aK ?_
 refine lX 3 1 eI rfl rfl ?_
 refine aX [0, 3, 4] (fun n ρ => ∃ i, ∃ acc, n = l.length - i ∧ (i ≤ l.length) ∧ ((l.drop i).foldl kF acc = xL l) ∧ (acc.length ≤ i) ∧ ρ = cU O [(0, b9 l), (3, b9 acc), (4, vi (i : Nat))]) _ ⟨0, [], rfl, ?_, ?_, ?_, ?_⟩ ?_
 ·exact bD
 ·rfl
 ·exact bD
 ·exact cD
 rintro n ρ ⟨i, acc, rfl, l0_0, l0_1, l0_2, rfl⟩ K4 hK4
 refine aA fun K5 hK5 => ?_
 refine aB [0, 3, 4] ?_
 refine aS (fun c0 => ?_) fun c0 => ?_
 ·refine aJ ?_
  refine hK5 _ ?_; clear hK5
  refine aA fun K7 hK7 => ?_
  refine aK ?_
  refine bF [0, 3, 4] ?_
  refine dM (pF _ _ _ (by first | assumption | omega | decide)) ?_
  refine hK7 _ ?_; clear hK7
  refine bC [0, 3, 4] ?_
  refine hK4 _ _ ?_ ⟨i + 1, kF acc (l.getD i default), rfl, ?_, ?_, ?_, ?_⟩
  ·exact bD
  ·exact bD
  ·rw [← l0_1, bT default c0]; rfl
  ·have := yK acc (l.getD i default); omega
  exact cD
 refine bA ?_
 refine hK2 _ ?_; clear hK2
 refine aB [3] ?_
 refine aL ?_
 refine b6 2 ?_
 exact cP.encL rfl (by rw [← l0_1, eJ c0]; rfl)
theorem zF (O : aU) (a b : List Int) (ha : a.length ≤ 1000) (hb : b.length ≤ 1000) : aW Tryz.prog O 93 [b9 a, b9 b] (b9 (b.foldl kF (xL a))) := by
 refine aO 1 rfl (.sl _ _ _) fun hl => ?_
 refine dT Tryz.func93 ?_
 refine aB [0, 1] ?_
 refine aA fun K1 hK1 => ?_
 refine bF [0, 1] ?_
 refine dM (aBy _ _ (by first | assumption | omega | decide)) ?_
 refine hK1 _ ?_; clear hK1
 refine aA fun K2 hK2 => ?_
 refine aB [1, 5] ?_
 refine aK ?_
 refine aX [1, 5, 6] (fun n ρ => ∃ i, ∃ acc, n = b.length - i ∧ (i ≤ b.length) ∧ ((b.drop i).foldl kF acc = b.foldl kF (xL a)) ∧ (acc.length ≤ a.length + i) ∧ ρ = cU O [(1, b9 b), (5, b9 acc), (6, vi (i : Nat))]) _ ⟨0, xL a, rfl, ?_, ?_, ?_, ?_⟩ ?_
 ·exact bD
 ·rfl
 ·exact aOu a
 ·exact cD
 rintro n ρ ⟨i, acc, rfl, l0_0, l0_1, l0_2, rfl⟩ K4 hK4
 refine aA fun K5 hK5 => ?_
 refine aB [1, 5, 6] ?_
 refine aS (fun c0 => ?_) fun c0 => ?_
 ·refine aJ ?_
  refine hK5 _ ?_; clear hK5
  refine aA fun K7 hK7 => ?_
  refine aK ?_
  refine bF [1, 5, 6] ?_
  refine dM (pF _ _ _ (by first | assumption | omega | decide)) ?_
  refine hK7 _ ?_; clear hK7
  refine bC [1, 5, 6] ?_
  refine hK4 _ _ ?_ ⟨i + 1, kF acc (b.getD i default), rfl, ?_, ?_, ?_, ?_⟩
  ·exact bD
  ·exact bD
  ·rw [← l0_1, bT default c0]; rfl
  ·have := yK acc (b.getD i default); omega
  exact cD
 refine bA ?_
 refine hK2 _ ?_; clear hK2
 refine aB [5] ?_
 refine aL ?_
 refine b6 4 ?_
 exact cP.encL rfl (by rw [← l0_1, eJ c0]; rfl)
abbrev kC (q : List bB) (i : Nat) : bB := q.getD i default
def aBq (l : aC) (q : List bB) (i : Nat) : Bool := (iG l (kC q i)).2 && (decide (i = 0) || ((bP l (kC q (i - 1))).2 && decide ((bP l (kC q (i - 1))).1 = ⟨(kC q i).fEl, (kC q i).fIn⟩)))
def neN (q : List bB) (i k : Nat) : Bool := decide ((kC q k).fEl ≠ (kC q i).fEl)
def pL (l : aC) (q : List bB) (i : Nat) : Bool := aBq l q i && (List.range i).all (neN q i)
def yN (l : aC) (q : List bB) : Bool := decide (0 < q.length ∧ q.length ≤ 64) && (List.range q.length).all (pL l q)
theorem bTg {l : aC} {q : List bB} (h : q.length = 0 ∨ 64 < q.length) : yN l q = false := by unfold yN; rw [decide_eq_false (by omega)]; rfl
theorem aYo {l : aC} {q : List bB} {i : Nat} (h : i < q.length) (hf : pL l q i = false) : yN l q = false := by unfold yN; rw [o8 h hf, Bool.and_false]
theorem bSa {l : aC} {q : List bB} {i : Nat} (hi : q.length ≤ i) (hi2 : i ≤ q.length) (h0 : ¬ (q.length = 0 ∨ 64 < q.length)) (h : j5 (pL l q) i) : yN l q = true := by
 unfold yN; rw [decide_eq_true (by omega), o4 (i := i) h (by omega)]; rfl
theorem bNy {l : aC} {q : List bB} {i : Nat} (h : (iG l (kC q i)).2 = false) : pL l q i = false := by unfold pL aBq; rw [h]; rfl
theorem bOt {l : aC} {q : List bB} {i : Nat} (h0 : 0 < i) (h : ((bP l (kC q (i - 1))).2 = false ∨ ¬ (bP l (kC q (i - 1))).1.fEl = (kC q i).fEl) ∨ ¬ (bP l (kC q (i - 1))).1.fSide = (kC q i).fIn) : pL l q i = false := by
 unfold pL aBq
 rw [decide_eq_false (show ¬ i = 0 by omega), Bool.false_or]
 rcases h with (h | h) | h
 ·rw [h]; simp
 ·rw [decide_eq_false (show ¬ ((bP l (kC q (i - 1))).1 = ⟨(kC q i).fEl, (kC q i).fIn⟩) from fun e => h (by rw [e]))]; simp
 rw [decide_eq_false (show ¬ ((bP l (kC q (i - 1))).1 = ⟨(kC q i).fEl, (kC q i).fIn⟩) from fun e => h (by rw [e]))]; simp
theorem aWk {l : aC} {q : List bB} {i : Nat} (hp : (iG l (kC q i)).2 = true) (h : 0 < i → ((bP l (kC q (i - 1))).2 = true ∧ (bP l (kC q (i - 1))).1.fEl = (kC q i).fEl) ∧ (bP l (kC q (i - 1))).1.fSide = (kC q i).fIn) : aBq l q i = true := by
 unfold aBq
 rw [hp, Bool.true_and]
 by_cases h0 : i = 0
 ·rw [decide_eq_true h0]; rfl
 obtain ⟨⟨h1, h2⟩, h3⟩ := h (by omega)
 rw [h1, decide_eq_true ((d6 _ _).2 ⟨h2, h3⟩)]; simp
def nO (l : aC) (q : List bB) : Nat → Nat
 | 0 => 0
 | n + 1 => nO l q n + if n = 0 ∨ bY l (kC q n).fEl ≠ bY l (kC q (n - 1)).fEl then 1 else 0
theorem aMi (l : aC) (q : List bB) : ∀ n, nO l q n ≤ n
 | 0 => Nat.le_refl _
 | n + 1 => by unfold nO; have := aMi l q n; split <;> omega
theorem bMd (l : aC) (q : List bB) : nO l q 1 = 1 := rfl
theorem bHr {l : aC} {q : List bB} {i : Nat} (h : ¬ bY l (kC q i).fEl = bY l (kC q (i - 1)).fEl) : nO l q (i + 1) = nO l q i + 1 := by rw [nO, if_pos (.inr h)]
theorem bHx {l : aC} {q : List bB} {i : Nat} (h0 : 1 ≤ i) (h : bY l (kC q i).fEl = bY l (kC q (i - 1)).fEl) : nO l q (i + 1) = nO l q i := by rw [nO, if_neg (by rintro (h1 | h1); omega; exact h1 h)]; rfl
def aFs (l : aC) (f : cC) (q : List bB) : Bool := decide ((0 < q.length ∧ q.length ≤ 12) ∧ (kC q 0).fEl = f.fEl ∧ (kC q 0).fIn = f.fSide) && yN l q
def sX (l : aC) (f : cC) (q : List bB) : Bool := aFs l f q && decide (nO l q q.length = (dZ l q).length)
theorem bPi {l : aC} {f : cC} {q : List bB} (h : aFs l f q = false) : sX l f q = false := by unfold sX; rw [h]; rfl
theorem bUm {l : aC} {f : cC} {q : List bB} (h : aFs l f q = true) : sX l f q = decide ((nO l q q.length : Int) = ((dZ l q).length : Int)) := by unfold sX; rw [h, Bool.true_and]; exact decide_eq_decide.2 (by omega)
theorem aTz (l : aC) (q : List bB) : (dZ l q).length ≤ q.length := by have := tN l q q.length; rwa [List.take_length] at this
set_option maxRecDepth 20000 in
set_option maxHeartbeats 8000000 in
theorem yU (O : aU) (l : aC) (q : List bB) (hl : dX l) (hq : q.length ≤ 100) : aW Tryz.prog O 57 [.agg (aI l), bN q] (vb (yN l q)) := by
 have hl1 := hl.sec
 have hl2 := hl.el
 have hl3 := hl.jo
 have hl4 := hl.sg
 have hl5 := hl.bl
 refine aO 0 rfl (.agg (d := f5 l.fElements) (by simp [aI]) (.sl _ _ _)) fun he => ?_
 refine aO 1 rfl (.sl _ _ _) fun hql => ?_
 refine dT Tryz.func57 ?_
 refine aB [0, 1] ?_
 refine aA fun K1 hK1 => ?_
 refine aB [1, 2] ?_
 refine aS (fun c0 => ?_) fun c0 => ?_
 ·refine aB [] ?_
  refine aL ?_
  refine b6 4 ?_
  refine xb ?_
  ((symm; exact bTg (by omega)))
 refine aJ ?_
 refine hK1 _ ?_; clear hK1
 refine aA fun K4 hK4 => ?_
 refine aB [1, 2] ?_
 refine aK ?_
 refine aX [1, 2, 5] (fun n ρ => ∃ i, n = q.length - i ∧ (i ≤ q.length) ∧ (j5 (pL l q) i) ∧ ρ = cU O [(1, bN q), (2, .bx (aI l)), (5, vi (i : Nat))]) _ ⟨0, rfl, ?_, ?_, ?_⟩ ?_
 ·exact bD
 ·exact gT _
 ·exact cD
 rintro n ρ ⟨i, rfl, l0_0, l0_1, rfl⟩ K6 hK6
 have hcast : ((i : Int) - 1).toNat = i - 1 := by omega
 refine aA fun K7 hK7 => ?_
 refine aA fun K8 hK8 => ?_
 refine a7 [1, 2, 5] (by kernel_rfl) ?_
 simp (disch := omega) only [go_sem, seval, hcast]
 repeat refine And.intro bS ?_
 refine hK8 _ ?_; clear hK8
 refine aS (fun c1 => ?_) fun c1 => ?_
 ·refine aJ ?_
  refine hK7 _ ?_; clear hK7
  refine aA fun K9 hK9 => ?_
  refine aK ?_
  refine aA fun K10 hK10 => ?_
  refine eE [1, 2, 5] [] fK (by kernel_rfl) ?_
  simp (disch := omega) only [go_sem, seval, hcast]
  repeat refine And.intro bS ?_
  refine dR (sG _ l (q.getD i default) hl) ?_ ?_
  ·rfl
  try simp (disch := omega) only [go_sem, seval, hcast]
  repeat refine And.intro bS ?_
  refine hK10 _ ?_; clear hK10
  refine aA fun K11 hK11 => ?_
  refine aA fun K12 hK12 => ?_
  refine a7 [1, 2, 5, 7] (by kernel_rfl) ?_
  simp (disch := omega) only [go_sem, seval, hcast]
  repeat refine And.intro bS ?_
  refine hK12 _ ?_; clear hK12
  refine aS (fun c2 => ?_) fun c2 => ?_
  ·refine aA fun K13 hK13 => ?_
   refine a7 [] (by kernel_rfl) ?_
   simp (disch := omega) only [go_sem, seval, hcast]
   repeat refine And.intro bS ?_
   refine hK13 _ ?_; clear hK13
   refine aL ?_
   refine dC 4 rfl (by simp (disch := omega) only [go_sem, seval, hcast]) ?_
   exact cP.is (by simp (disch := omega) only [go_sem, seval, hcast] <;> refine congrArg vb ?_ <;> ((symm; exact aYo c1 (bNy (by simpa using c2))))) rfl rfl
  refine aJ ?_
  refine hK11 _ ?_; clear hK11
  refine x4 [1, 2, 5] (fun ρ => (aBq l q i = true) ∧ ρ = cU O [(1, bN q), (2, .bx (aI l)), (5, vi (i : Nat))]) (fun K14 hK14 => ?_) ?_
  ·skip
   refine aA fun K15 hK15 => ?_
   refine a7 [1, 2, 5] (by kernel_rfl) ?_
   simp (disch := omega) only [go_sem, seval, hcast]
   repeat refine And.intro bS ?_
   refine hK15 _ ?_; clear hK15
   refine aS (fun c3 => ?_) fun c3 => ?_
   ·refine aA fun K16 hK16 => ?_
    refine cQ (Le.keepC [1, 2, 5] _) ?_
    refine aEw [1, 2, 5, 39, 40, 41, 42, 43, 44, 45, 38, 46, 47, 9, 8] [] [] [[], [], [], [2], [1, 2, 3], [1, 2, 3, 4], [0, 1, 2, 3, 4, 5], [0, 1, 2, 3, 4, 5, 6], [0, 1, 2, 3, 4, 5, 6, 7], [0, 1, 2, 3, 4, 5, 6, 7], [], [0, 1, 2, 3, 4, 5, 6, 7, 8, 10], [0, 1, 2, 3, 4, 5, 6, 7, 8, 9, 10, 11]] [[11], [11], [11], [11], [11], [11], [11], [11], [11], [], [11], [], []] (fun bQ => cU O [(1, bN q), (2, .bx (aI l)), (5, vi (i : Nat)), (39, aV (bQ 0) (.agg (aI l))), (40, aV (bQ 1) (bN q)), (41, aV (bQ 2) (vi (i : Nat))), (42, aV (bQ 3) (vi ((i : Int) - 1))), (43, aV (bQ 4) (.dp (bJ (q.getD (i - 1) default)))), (44, aV (bQ 5) (.agg (bJ (q.getD (i - 1) default)))), (45, aV (bQ 6) (.tup [.agg (bO (bP l (q.getD (i - 1) default)).1), vb (bP l (q.getD (i - 1) default)).2])), (38, aV (bQ 7) (.tup [.agg (bO (bP l (q.getD (i - 1) default)).1), vb (bP l (q.getD (i - 1) default)).2])), (46, aV (bQ 8) (.agg (bO (bP l (q.getD (i - 1) default)).1))), (47, aV (bQ 9) (vb (bP l (q.getD (i - 1) default)).2)), (9, aV (bQ 12) (vb (bP l (q.getD (i - 1) default)).2)), (8, hU (bQ 11) (bQ 10) (.bx (bO (bP l (q.getD (i - 1) default)).1)) (.bx [vi 0, vi 0]))]) fK (by kernel_rfl) (by kernel_rfl) ?_ (fun iQ oQ hoQ bQ hbQ KQ hKQ => ?_) ?_
    ·simp (disch := omega) only [go_sem, seval, hcast] <;> first | rfl | simp
    ·have hiQ : iQ < 13 := (List.getElem?_eq_some_iff.1 hoQ).1
     match iQ, hiQ with
     | 0, _ | 1, _ | 2, _ | 3, _ | 4, _ | 5, _ | 7, _ | 8, _ | 9, _ | 10, _ | 11, _ | 12, _ =>
      obtain rfl := Option.some.inj hoQ
      simp only [oS, hD, iB, List.getD_cons_succ, List.getD_cons_zero, List.getD_nil, and_true, true_and] at hbQ
      show qC _ _ _ false _ _
      simp (disch := omega) only [go_sem, seval, hcast, hbQ]
      repeat refine And.intro bS ?_
      refine hKQ _ ?_
      simp (disch := omega) only [go_sem, seval, hcast, hbQ] <;> first | rfl | simp
     | 6, _ =>
      obtain rfl := Option.some.inj hoQ
      simp only [oS, hD, iB, List.getD_cons_succ, List.getD_cons_zero, List.getD_nil, and_true, true_and] at hbQ
      show qC _ _ _ false _ _
      simp (disch := omega) only [go_sem, seval, hcast, hbQ]
      repeat refine And.intro bS ?_
      refine dR (kX _ l (q.getD (i - 1) default)) ?_ ?_
      ·rfl
      try simp (disch := omega) only [go_sem, seval, hcast, hbQ]
      repeat refine And.intro bS ?_
      refine hKQ _ ?_
      simp (disch := omega) only [go_sem, seval, hcast, hbQ] <;> first | rfl | simp
    simp (disch := omega) only [go_sem, seval, hcast]
    repeat refine And.intro bS ?_
    refine hK16 _ ?_; clear hK16
    refine aA fun K17 hK17 => ?_
    refine eE [1, 2, 5, 8, 9] [] fK (by kernel_rfl) ?_
    simp (disch := omega) only [go_sem, seval, hcast]
    repeat refine And.intro bS ?_
    refine hK17 _ ?_; clear hK17
    refine aS (fun c4 => ?_) fun c4 => ?_
    ·refine aA fun K18 hK18 => ?_
     refine a7 [] (by kernel_rfl) ?_
     simp (disch := omega) only [go_sem, seval, hcast]
     repeat refine And.intro bS ?_
     refine hK18 _ ?_; clear hK18
     refine aL ?_
     refine dC 4 rfl (by simp (disch := omega) only [go_sem, seval, hcast]) ?_
     exact cP.is (by simp (disch := omega) only [go_sem, seval, hcast] <;> refine congrArg vb ?_ <;> ((symm; exact aYo c1 (bOt (by omega) (by simpa using c4))))) rfl rfl
    refine aJ ?_
    refine hK14 _ ⟨?_, ?_⟩
    ·exact aWk (by simpa using c2) (fun _ => by simpa using c4)
    simp (disch := omega) only [go_sem, seval, hcast] <;> first | rfl | omega | simp | simp_all
   refine aJ ?_
   refine hK14 _ ⟨?_, ?_⟩
   ·exact aWk (by simpa using c2) (fun h => by omega)
   simp (disch := omega) only [go_sem, seval, hcast] <;> first | rfl | omega | simp | simp_all
  rintro ρ ⟨j13_0, rfl⟩
  refine aA fun K19 hK19 => ?_
  refine a7 [1, 2, 5] (by kernel_rfl) ?_
  simp (disch := omega) only [go_sem, seval, hcast]
  repeat refine And.intro bS ?_
  refine hK19 _ ?_; clear hK19
  refine aK ?_
  refine aX [1, 2, 5, 10] (fun n ρ => ∃ k, n = i - k ∧ (k ≤ i) ∧ (j5 (neN q i) k) ∧ ρ = cU O [(1, bN q), (2, .bx (aI l)), (5, vi (i : Nat)), (10, vi (k : Nat))]) _ ⟨0, rfl, ?_, ?_, ?_⟩ ?_
  ·exact bD
  ·exact gT _
  ·simp (disch := omega) only [go_sem, seval, hcast] <;> first | rfl | omega | simp | simp_all
  rintro n ρ ⟨k, rfl, l1_0, l1_1, rfl⟩ K20 hK20
  refine aA fun K21 hK21 => ?_
  refine aA fun K22 hK22 => ?_
  refine a7 [1, 2, 5, 10] (by kernel_rfl) ?_
  simp (disch := omega) only [go_sem, seval, hcast]
  repeat refine And.intro bS ?_
  refine hK22 _ ?_; clear hK22
  refine aS (fun c5 => ?_) fun c5 => ?_
  ·refine aJ ?_
   refine hK21 _ ?_; clear hK21
   refine aA fun K23 hK23 => ?_
   refine aK ?_
   refine aA fun K24 hK24 => ?_
   refine eE [1, 2, 5, 10] [] fK (by kernel_rfl) ?_
   simp (disch := omega) only [go_sem, seval, hcast]
   repeat refine And.intro bS ?_
   refine hK24 _ ?_; clear hK24
   refine aS (fun c6 => ?_) fun c6 => ?_
   ·refine aA fun K25 hK25 => ?_
    refine a7 [] (by kernel_rfl) ?_
    simp (disch := omega) only [go_sem, seval, hcast]
    repeat refine And.intro bS ?_
    refine hK25 _ ?_; clear hK25
    refine aL ?_
    refine dC 4 rfl (by simp (disch := omega) only [go_sem, seval, hcast]) ?_
    exact cP.is (by simp (disch := omega) only [go_sem, seval, hcast] <;> refine congrArg vb ?_ <;> ((symm; exact aYo c1 (by unfold pL; rw [o8 (f := neN q i) (i := k) (by omega) (by unfold neN; exact decide_eq_false (by simpa using c6)), Bool.and_false])))) rfl rfl
   refine aJ ?_
   refine hK23 _ ?_; clear hK23
   refine a7 [1, 2, 5, 10] (by kernel_rfl) ?_
   simp (disch := omega) only [go_sem, seval, hcast]
   repeat refine And.intro bS ?_
   refine hK20 _ _ ?_ ⟨k + 1, rfl, ?_, ?_, ?_⟩
   ·exact bD
   ·exact bD
   ·exact gN l1_1 (by unfold neN; exact decide_eq_true (by simpa using c6))
   simp (disch := omega) only [go_sem, seval, hcast] <;> first | rfl | omega | simp | simp_all
  refine bA ?_
  refine hK9 _ ?_; clear hK9
  refine a7 [1, 2, 5] (by kernel_rfl) ?_
  simp (disch := omega) only [go_sem, seval, hcast]
  repeat refine And.intro bS ?_
  refine hK6 _ _ ?_ ⟨i + 1, rfl, ?_, ?_, ?_⟩
  ·exact bD
  ·exact bD
  ·exact gN l0_1 (by unfold pL; rw [j13_0, o4 l1_1 (by omega)]; rfl)
  simp (disch := omega) only [go_sem, seval, hcast] <;> first | rfl | omega | simp | simp_all
 refine bA ?_
 refine hK4 _ ?_; clear hK4
 refine aA fun K26 hK26 => ?_
 refine a7 [] (by kernel_rfl) ?_
 simp (disch := omega) only [go_sem, seval, hcast]
 repeat refine And.intro bS ?_
 refine hK26 _ ?_; clear hK26
 refine aL ?_
 refine dC 4 rfl (by simp (disch := omega) only [go_sem, seval, hcast]) ?_
 exact cP.is (by simp (disch := omega) only [go_sem, seval, hcast] <;> refine congrArg vb ?_ <;> ((symm; exact bSa (by omega) l0_0 (by omega) l0_1))) rfl rfl
set_option maxHeartbeats 8000000 in
theorem aBn (O : aU) (l : aC) (f : cC) (q : List bB) (hl : dX l) (hq : q.length ≤ 100) : aW Tryz.prog O 200 [.agg (aI l), .agg (bO f), bN q] (vb (sX l f q)) := by
 have hl1 := hl.sec
 have hl2 := hl.el
 have hl3 := hl.jo
 have hl4 := hl.sg
 have hl5 := hl.bl
 refine aO 0 rfl (.agg (d := f5 l.fElements) (by simp [aI]) (.sl _ _ _)) fun he => ?_
 refine aO 2 rfl (.sl _ _ _) fun hql => ?_
 refine dT Tryz.func200 ?_
 refine aB [0, 1, 2] ?_
 refine aA fun K1 hK1 => ?_
 refine aA fun K2 hK2 => ?_
 refine eE [2, 3, 4] [] fK (by kernel_rfl) ?_
 simp (disch := omega) only [go_sem, seval]
 repeat refine And.intro (by first | (intro h; omega) | (intro h; exact ⟨h, by omega⟩) | exact bS) ?_
 refine jZ (fun g0 => yU _ l q hl hq) ?_ ?_ ?_
 ·first | exact fun _ => trivial | simp
 ·rfl
 try simp (disch := omega) only [go_sem, seval]
 repeat refine And.intro (by first | (intro h; omega) | (intro h; exact ⟨h, by omega⟩) | exact bS) ?_
 refine hK2 _ ?_; clear hK2
 refine aS (fun c0 => ?_) fun c0 => ?_
 ·have hcc : aFs l f q = false := (by
   unfold aFs
   rw [Bool.and_eq_false_iff, decide_eq_false_iff_not]
   simp only [kC]
   cases hv : yN l q with
   | false => exact .inr rfl
   | true => left; rw [hv] at c0; rintro ⟨⟨h1, h2⟩, h3, h4⟩; simp at c0; rcases c0 with ((c0 | c0) | c0) | c0 <;> first | omega | exact c0 h3 | exact c0 h4 | (subst c0; simp at h1))
  refine aB [] ?_
  refine aL ?_
  refine b6 6 ?_
  refine xb ?_
  ((symm; exact bPi hcc))
 have hcc : aFs l f q = true := (by
  unfold aFs
  rw [Bool.and_eq_true, decide_eq_true_eq]
  simp only [kC]
  cases hv : yN l q with
  | false => rw [hv] at c0; simp at c0
  | true => rw [hv] at c0; simp at c0; exact ⟨⟨⟨List.length_pos_iff.2 c0.1.1.1, c0.1.1.2⟩, c0.1.2, c0.2⟩, rfl⟩)
 have hlen : 0 < q.length := (by unfold aFs at hcc; rw [Bool.and_eq_true, decide_eq_true_eq] at hcc; exact hcc.1.1.1)
 refine aJ ?_
 refine hK1 _ ?_; clear hK1
 refine aB [2, 3] ?_
 refine aA fun K5 hK5 => ?_
 refine aB [2, 3, 7] ?_
 refine aK ?_
 refine aX [2, 3, 7, 8] (fun n ρ => ∃ i, n = q.length - i ∧ (i ≤ q.length) ∧ (1 ≤ i) ∧ ρ = cU O [(2, bN q), (3, .bx (aI l)), (7, vi (nO l q i : Nat)), (8, vi (i : Nat))]) _ ⟨1, rfl, ?_, ?_, ?_⟩ ?_
 ·exact bD
 ·exact bD
 ·exact cD
 rintro n ρ ⟨i, rfl, l0_0, l0_1, rfl⟩ K7 hK7
 have hcast : ((i : Int) - 1).toNat = i - 1 := by omega
 have hcg := aMi l q i
 refine aA fun K8 hK8 => ?_
 refine aA fun K9 hK9 => ?_
 refine a7 [2, 3, 7, 8] (by kernel_rfl) ?_
 simp (disch := omega) only [go_sem, seval, hcast]
 repeat refine And.intro bS ?_
 refine hK9 _ ?_; clear hK9
 refine aS (fun c1 => ?_) fun c1 => ?_
 ·refine aJ ?_
  refine hK8 _ ?_; clear hK8
  refine aA fun K10 hK10 => ?_
  refine aK ?_
  refine aA fun K11 hK11 => ?_
  refine eE [2, 3, 7, 8] [] fK (by kernel_rfl) ?_
  simp (disch := omega) only [go_sem, seval, hcast]
  repeat refine And.intro bS ?_
  refine dR (gD _ l (q.getD i default).fEl) ?_ ?_
  ·rfl
  try simp (disch := omega) only [go_sem, seval, hcast]
  repeat refine And.intro bS ?_
  refine dR (gD _ l (q.getD (i - 1) default).fEl) ?_ ?_
  ·rfl
  try simp (disch := omega) only [go_sem, seval, hcast]
  repeat refine And.intro bS ?_
  refine hK11 _ ?_; clear hK11
  refine aS (fun c2 => ?_) fun c2 => ?_
  ·refine a7 [2, 3, 7, 8] (by kernel_rfl) ?_
   simp (disch := omega) only [go_sem, seval, hcast]
   repeat refine And.intro bS ?_
   refine hK10 _ ?_; clear hK10
   refine a7 [2, 3, 7, 8] (by kernel_rfl) ?_
   simp (disch := omega) only [go_sem, seval, hcast]
   repeat refine And.intro bS ?_
   refine hK7 _ _ ?_ ⟨i + 1, rfl, ?_, ?_, ?_⟩
   ·exact bD
   ·exact bD
   ·exact bD
   simp (disch := omega) only [go_sem, seval, hcast] <;> (rw [bHr (by simpa using c2)]; first | rfl | simp)
  refine aJ ?_
  refine hK10 _ ?_; clear hK10
  refine a7 [2, 3, 7, 8] (by kernel_rfl) ?_
  simp (disch := omega) only [go_sem, seval, hcast]
  repeat refine And.intro bS ?_
  refine hK7 _ _ ?_ ⟨i + 1, rfl, ?_, ?_, ?_⟩
  ·exact bD
  ·exact bD
  ·exact bD
  simp (disch := omega) only [go_sem, seval, hcast] <;> (rw [bHx l0_1 (by simpa using c2)]; first | rfl | simp)
 refine bA ?_
 refine hK5 _ ?_; clear hK5
 refine aA fun K12 hK12 => ?_
 refine a7 [2, 3, 7] (by kernel_rfl) ?_
 simp (disch := omega) only [go_sem, seval, hcast]
 repeat refine And.intro bS ?_
 refine gE _ (iF _ l q hl hq) ?_
 simp (disch := omega) only [go_sem, seval, hcast]
 repeat refine And.intro bS ?_
 refine hK12 _ ?_; clear hK12
 refine aL ?_
 refine dC 6 rfl (by simp (disch := omega) only [go_sem, seval, hcast]) ?_
 exact cP.is (by simp (disch := omega) only [go_sem, seval, hcast] <;> refine congrArg vb ?_ <;> ((rw [bUm hcc, show i = q.length by omega, Bool.eq_iff_iff]; simp; omega))) rfl rfl
theorem bKj {q : List aM} {i : Nat} (h : i < q.length) : (q.map aY).getD i [] = aY (q.getD i default) := by
 rw [List.getD_eq_getElem?_getD (l := q.map aY), List.getElem?_map, List.getElem?_eq_getElem h, List.getD_eq_getElem?_getD (l := q), List.getElem?_eq_getElem h]; rfl
def aGq (q : List aM) : Prop := ∀ i, 0 < i → i < q.length → q.getD i default ≠ q.getD (i - 1) default
theorem aGq.off {q : List aM} (h : aGq q) {i : Nat} (h0 : 0 < i) (hi : i < q.length) {P : Prop} (he : (q.getD i default).fEl = (q.getD (i - 1) default).fEl ∧ (q.getD i default).fPos = (q.getD (i - 1) default).fPos) : P :=
 absurd ((fE _ _).2 he) (h i h0 hi)
section
attribute [local go_sem] bKj List.length_map Nat.mul_one Nat.add_zero ite_self
set_option maxHeartbeats 4000000 in
theorem iV (O : aU) (q : List aM) (s : Nat) (hO : O s = .row 68 2 (q.map aY)) (hb : q.length ≤ 1000) (hn : aGq q) : aW Tryz.prog O 81 [.own s q.length] (.own s q.length) := by
 have hx : bW O (s + 100000) = .row 68 2 (q.map aY) := by rw [bX, hO]; rfl
 refine dT Tryz.func81 ?_
 refine aA fun K0 hK0 => ?_
 refine a7 [0] (by kernel_rfl) ?_
 simp (disch := omega) only [go_sem, seval, hx]
 repeat refine And.intro bS ?_
 refine hK0 _ ?_; clear hK0
 refine aA fun K1 hK1 => ?_
 refine aA fun K2 hK2 => ?_
 refine a7 [0] (by kernel_rfl) ?_
 simp (disch := omega) only [go_sem, seval, hx]
 repeat refine And.intro bS ?_
 refine hK2 _ ?_; clear hK2
 refine aS (fun c0 => ?_) fun c0 => ?_
 ·refine aA fun K3 hK3 => ?_
  refine a7 [0] (by kernel_rfl) ?_
  simp (disch := omega) only [go_sem, seval, hx]
  repeat refine And.intro bS ?_
  refine hK3 _ ?_; clear hK3
  refine aL ?_
  refine dC 2 rfl (by simp (disch := omega) only [go_sem, seval, hx]) ?_
  exact cP.pure _ (by simp (disch := omega) only [go_sem, seval, seval] <;> rfl) (by simp (disch := omega) only [go_sem, seval, seval] <;> exact bV.refl _) rfl
 refine aJ ?_
 refine hK1 _ ?_; clear hK1
 refine aA fun K4 hK4 => ?_
 refine aA fun K5 hK5 => ?_
 refine a7 [0] (by kernel_rfl) ?_
 simp (disch := omega) only [go_sem, seval, hx]
 repeat refine And.intro bS ?_
 refine hK5 _ ?_; clear hK5
 refine aK ?_
 refine aX [0, 3] (fun n ρ => ∃ k, n = q.length - k ∧ (k ≤ q.length) ∧ (1 ≤ k) ∧ ρ = cU O [(0, .own (s + 100000) q.length), (3, vi (k : Nat))]) _ ⟨1, rfl, ?_, ?_, ?_⟩ ?_
 ·exact bD
 ·exact bD
 ·simp (disch := omega) only [go_sem, seval, hx] <;> first | rfl | omega | simp | simp_all
 rintro n ρ ⟨k, rfl, l0_0, l0_1, rfl⟩ K6 hK6
 have hcast : ((k : Int) - 1).toNat = k - 1 := by omega
 refine aA fun K7 hK7 => ?_
 refine aA fun K8 hK8 => ?_
 refine a7 [0, 3] (by kernel_rfl) ?_
 simp (disch := omega) only [go_sem, seval, hx]
 repeat refine And.intro bS ?_
 refine hK8 _ ?_; clear hK8
 refine aS (fun c1 => ?_) fun c1 => ?_
 ·refine aJ ?_
  refine hK7 _ ?_; clear hK7
  refine aA fun K9 hK9 => ?_
  refine aK ?_
  refine aA fun K10 hK10 => ?_
  refine eE [0, 3] [] fK (by kernel_rfl) ?_
  simp (disch := omega) only [go_sem, seval, hx]
  repeat refine And.intro bS ?_
  refine hK10 _ ?_; clear hK10
  refine aS (fun c2 => ?_) fun c2 => ?_
  ·exact hn.off (by omega) c1 (by simpa using c2)
  refine aJ ?_
  refine hK9 _ ?_; clear hK9
  refine a7 [0, 3] (by kernel_rfl) ?_
  simp (disch := omega) only [go_sem, seval, hx]
  repeat refine And.intro bS ?_
  refine hK6 _ _ ?_ ⟨k + 1, rfl, ?_, ?_, ?_⟩
  ·exact bD
  ·exact bD
  ·exact bD
  simp (disch := omega) only [go_sem, seval, hx] <;> first | rfl | omega | simp | simp_all
 refine bA ?_
 refine hK4 _ ?_; clear hK4
 refine aA fun K11 hK11 => ?_
 refine a7 [0] (by kernel_rfl) ?_
 simp (disch := omega) only [go_sem, seval, hx]
 repeat refine And.intro bS ?_
 refine hK11 _ ?_; clear hK11
 refine aL ?_
 refine dC 2 rfl (by simp (disch := omega) only [go_sem, seval, hx]) ?_
 exact cP.pure _ (by simp (disch := omega) only [go_sem, seval, seval] <;> rfl) (by simp (disch := omega) only [go_sem, seval, seval] <;> exact bV.refl _) rfl
end
end Go.Sg
namespace Go.Sg
open Go.RowKit
theorem zN (z : Array Value) (n : Nat) : (Builtin.zeroCells z n).size = n * z.size := by simp [Builtin.zeroCells]
theorem s0 {P : Program} {ρ : Go.Shelf.Ren} (L : Go.Proofs.Lays8.n4 P ρ) {e z by_ : Nat} {t : TypeId} {zs : List Value} (ht : ρ.t 22 = t) (he : ρ.t 25 = e) (hsl : kU P t = some (e, z, by_)) (hz : fD P e = some zs) (hz0 : 0 < z) (hzl : zs.length = z) {f : FuncId} (hf : ρ.f 4 = f) (O : aU) (n : Nat) (hn : 0 < n) (hb : n * by_ ≤ 140737488355328) (hb2 : n ≤ 4611686018427387904) :
  aW P O f [.v (.slice none 0 0), .v (.int .i64 n)] (.row e z []) := by
 obtain ⟨hu, i, hi, rfl, rfl⟩ := jB hsl
 obtain ⟨i', zv, hi', hzv, rfl, hone⟩ := jV hz
 rw [hi] at hi'
 cases hi'
 subst ht; subst he; subst hf
 intro w I A vals hO hl hv
 obtain ⟨v0, v1, rfl⟩ : ∃ v0 v1, vals = #[v0, v1] := by
  obtain ⟨l⟩ := vals
  match l, hl with
  | [a, b], _ => exact ⟨a, b, rfl⟩
 have h0 := hv 0 _ _ rfl rfl
 have h1 := hv 1 _ _ rfl rfl
 cases h0
 cases h1
 have hG := grownCap_ge w (0 + n) 0 (ρ.t 25)
 have hGm := grownCap_le_maxLen w (0 + n) 0 (ρ.t 25) (by unfold maxLen; omega)
 have := Go.Proofs.Any8.slices_Grow_grow L i zv hi hzv hz0 none 0 0 n [] w (by omega) (by omega) (by simpa using hb) (by omega) (by simp) (fun _ => rfl) (by simp)
 refine this.mono fun e' w' ⟨q1, q2⟩ => ?_
 subst q2
 have hgr : mQ w I (w.drew.alloc (.cells ((#[] : Array Value) ++ Builtin.zeroCells zv.cells (0 + n - 0) ++ Builtin.zeroCells zv.cells (grownCap w (0 + n) 0 (ρ.t 25) - (0 + n))) (ρ.t 25))) I :=
  ⟨rfl, ⟨rfl, Nat.le_succ _⟩, rfl, by simp, fun g hg => (Below.heap_alloc w.drew _ g hg).trans rfl, fun _ h => h, fun _ h => .inl h⟩
 refine ⟨_, I, O, .row (ρ.t 25) i.size [], q1, hgr.osim hO, fun _ => eK.refl _, fun _ h => h, hgr.ext hO, ?_, rfl, rfl⟩
 refine ⟨some w.heap.size, grownCap w (0 + n) 0 (ρ.t 25), ⟨_, vD _, rfl⟩, ?_, fun g hg => ?_⟩
 ·refine ⟨_, Array.getElem?_push_size (xs := w.drew.heap), ?_, hGm, Nat.zero_le _, fun j x hx => by simp at hx⟩
  simp only [Array.size_append, zN]
  have hzs : zv.cells.size = i.size := by simpa using hzl
  rw [hzs]
  have : (0 + n - 0) * i.size + (grownCap w (0 + n) 0 (ρ.t 25) - (0 + n)) * i.size = grownCap w (0 + n) 0 (ρ.t 25) * i.size := by
   rw [← Nat.add_mul]; congr 1; omega
  simpa using this
 cases hg
 exact ⟨Nat.le_refl _, by simp, fun h => Nat.lt_irrefl _ (hO.imm _ h)⟩
theorem rA {P : Program} {ρ : Go.Shelf.Ren} (L : Go.Proofs.Lays8.n4 P ρ) {t : TypeId} (ht : ρ.t 22 = t) {f : FuncId} (hf : ρ.f 4 = f) (O : aU) (e z : Nat) :
  aW P O f [.v (.slice none 0 0), .v (.int .i64 (0 : Nat))] (.row e z []) := by
 subst ht; subst hf
 intro w I A vals hO hl hv
 obtain ⟨v0, v1, rfl⟩ : ∃ v0 v1, vals = #[v0, v1] := by
  obtain ⟨l⟩ := vals
  match l, hl with
  | [a, b], _ => exact ⟨a, b, rfl⟩
 have h0 := hv 0 _ _ rfl rfl
 have h1 := hv 1 _ _ rfl rfl
 cases h0
 cases h1
 refine (Go.Proofs.Any8.slices_Grow_room L none 0 0 0 w (by omega) (by omega) (by omega) (by omega)).mono fun e' w' ⟨q1, q2⟩ => ?_
 subst q2
 exact ⟨_, I, O, .row e z [], q1, hO, fun _ => eK.refl _, fun _ h => h, eX.refl _ _ _, ⟨none, 0, ⟨none, jW _, rfl⟩, ⟨rfl, rfl⟩, fun g hg => by cases hg⟩, rfl, rfl⟩
end Go.Sg
namespace Go.Proofs
open Go.Shelf
def Tryz.lays189_ren : Go.Shelf.Ren := ⟨fun | 189 => 82 | 125 => 106 | 257 => 127 | 128 => 165 | 129 => 166 | 294 => 179 | 295 => 180 | 296 => 181 | 297 => 182 | 298 => 183 | 299 => 184 | 216 => 185 | 300 => 186 | 301 => 187 | 328 => 212 | 329 => 205 | 330 => 206 | 331 => 213 | 332 => 214 | 215 => 107 | 343 => 223 | n => n, fun | 28 => 32 | 3 => 3 | 46 => 131 | 0 => 0 | 51 => 170 | 53 => 172 | 4 => 4 | 183 => 164 | 182 => 163 | 131 => 125 | 5 => 5 | 9 => 9 | 218 => 208 | 222 => 212 | 228 => 218 | 229 => 219 | n => n, fun | n => n⟩
theorem Tryz.lays189 : Go.Proofs.Lays.n189 Tryz.prog Tryz.lays189_ren := {
 mixed := by kernel_rfl
 f125 := Tryz.func106.trans (congrArg some (by kernel_rfl))
 f128 := Tryz.func165.trans (congrArg some (by kernel_rfl))
 f129 := Tryz.func166.trans (congrArg some (by kernel_rfl))
 f189 := Tryz.func82.trans (congrArg some (by kernel_rfl))
 f215 := Tryz.func107.trans (congrArg some (by kernel_rfl))
 f216 := Tryz.func185.trans (congrArg some (by kernel_rfl))
 f257 := Tryz.func127.trans (congrArg some (by kernel_rfl))
 f294 := Tryz.func179.trans (congrArg some (by kernel_rfl))
 f295 := Tryz.func180.trans (congrArg some (by kernel_rfl))
 f296 := Tryz.func181.trans (congrArg some (by kernel_rfl))
 f297 := Tryz.func182.trans (congrArg some (by kernel_rfl))
 f298 := Tryz.func183.trans (congrArg some (by kernel_rfl))
 f299 := Tryz.func184.trans (congrArg some (by kernel_rfl))
 f300 := Tryz.func186.trans (congrArg some (by kernel_rfl))
 f301 := Tryz.func187.trans (congrArg some (by kernel_rfl))
 f328 := Tryz.func212.trans (congrArg some (by kernel_rfl))
 f329 := Tryz.func205.trans (congrArg some (by kernel_rfl))
 f330 := Tryz.func206.trans (congrArg some (by kernel_rfl))
 f331 := Tryz.func213.trans (congrArg some (by kernel_rfl))
 f332 := Tryz.func214.trans (congrArg some (by kernel_rfl))
 f343 := Tryz.func223.trans (congrArg some (by kernel_rfl))
 t0 := Tryz.underlying0
 a0 := Tryz.isAgg0
 z0 := Tryz.sizeOf0
 v0 := Tryz.zeroValue0
 t3 := Tryz.underlying3
 a3 := Tryz.isAgg3
 z3 := Tryz.sizeOf3
 v3 := Tryz.zeroValue3
 t4 := Tryz.underlying4
 a4 := Tryz.isAgg4
 z4 := Tryz.sizeOf4
 v4 := Tryz.zeroValue4
 t5 := Tryz.underlying5
 a5 := Tryz.isAgg5
 z5 := Tryz.sizeOf5
 v5 := Tryz.zeroValue5
 t9 := Tryz.underlying9
 a9 := Tryz.isAgg9
 z9 := Tryz.sizeOf9
 v9 := Tryz.zeroValue9
 t28 := Tryz.underlying32
 a28 := Tryz.isAgg32
 z28 := Tryz.sizeOf32
 v28 := Tryz.zeroValue32
 t46 := Tryz.underlying131
 a46 := Tryz.isAgg131
 z46 := Tryz.sizeOf131
 v46 := Tryz.zeroValue131
 t51 := Tryz.underlying170
 a51 := Tryz.isAgg170
 z51 := Tryz.sizeOf170
 v51 := Tryz.zeroValue170
 t53 := Tryz.underlying172
 a53 := Tryz.isAgg172
 z53 := Tryz.sizeOf172
 v53 := Tryz.zeroValue172
 t131 := Tryz.underlying125
 a131 := Tryz.isAgg125
 z131 := Tryz.sizeOf125
 v131 := Tryz.zeroValue125
 t182 := Tryz.underlying163
 a182 := Tryz.isAgg163
 z182 := Tryz.sizeOf163
 v182 := Tryz.zeroValue163
 t183 := Tryz.underlying164
 a183 := Tryz.isAgg164
 z183 := Tryz.sizeOf164
 v183 := Tryz.zeroValue164
 t218 := Tryz.underlying208
 a218 := Tryz.isAgg208
 z218 := Tryz.sizeOf208
 v218 := Tryz.zeroValue208
 t222 := Tryz.underlying212
 a222 := Tryz.isAgg212
 z222 := Tryz.sizeOf212
 v222 := Tryz.zeroValue212
 t228 := Tryz.underlying218
 a228 := Tryz.isAgg218
 z228 := Tryz.sizeOf218
 v228 := Tryz.zeroValue218
 t229 := Tryz.underlying219
 a229 := Tryz.isAgg219
 z229 := Tryz.sizeOf219
 v229 := Tryz.zeroValue219 }
open Go.Sort Go.RowKit in
theorem Tryz.slices_Sort_int (blk off cap : Nat) (zs : List Int) (w : World) (hH : Holds (Value.int .i64) w blk off zs.toArray) (hblk : blk < w.heap.size) (hsz : zs.length < 4611686018427387904) :
  Calls Tryz.prog 82 #[.slice (some ⟨blk, off, none⟩) zs.length cap] w fun e w' =>
   e = .returned (.tuple #[]) ∧ ∃ n os, w' = grow (putRow (Value.int .i64) (Sort.ahead w n) blk off (zs.mergeSort fun x y => decide (x ≤ y)).toArray) os := Any.slices_Sort_int Tryz.lays189 blk off cap zs w hH hblk hsz
def Tryz.laysNm220_ren : Go.Shelf.Ren := ⟨fun | 20 => 83 | n => n, fun | 22 => 32 | 3 => 3 | 4 => 4 | 0 => 0 | n => n, fun | n => n⟩
theorem Tryz.laysNm220 : Go.Proofs.Lays2.n20 Tryz.prog Tryz.laysNm220_ren := {
 mixed := by kernel_rfl
 f20 := Tryz.func83.trans (congrArg some (by kernel_rfl))
 t0 := Tryz.underlying0
 a0 := Tryz.isAgg0
 z0 := Tryz.sizeOf0
 v0 := Tryz.zeroValue0
 t3 := Tryz.underlying3
 a3 := Tryz.isAgg3
 z3 := Tryz.sizeOf3
 v3 := Tryz.zeroValue3
 t4 := Tryz.underlying4
 a4 := Tryz.isAgg4
 z4 := Tryz.sizeOf4
 v4 := Tryz.zeroValue4
 t22 := Tryz.underlying32
 a22 := Tryz.isAgg32
 z22 := Tryz.sizeOf32
 v22 := Tryz.zeroValue32
 i3 := by kernel_rfl }
open Go.RowKit Go.Lib Go.Sort in
theorem Tryz.slices_Compact_int (blk off cap : Nat) (zs : List Int) (w : World) (hH : Holds (Value.int .i64) w blk off zs.toArray) (hsz : zs.length ≤ 9223372036854775807) (hcap : zs.length ≤ cap) :
  Calls Tryz.prog 83 #[.slice (some ⟨blk, off, none⟩) zs.length cap] w fun e w' => e = .returned (.slice (some ⟨blk, off, none⟩) (Lib.compact zs).length cap) ∧ ∃ q, w' = putRow (Value.int .i64) (Sort.ahead w q) blk off (Lib.compact zs ++ List.replicate (zs.length - (Lib.compact zs).length) 0).toArray := Any.slices_Compact_int Tryz.laysNm220 blk off cap zs w hH hsz hcap
open Go.RowKit Go.Lib Go.Sort in
theorem Tryz.slices_Compact_int_empty (a : Option Addr) (cap : Nat) (w : World) :
  Calls Tryz.prog 83 #[.slice a 0 cap] w fun e w' => e = .returned (.slice a 0 cap) ∧ w' = w := Any.slices_Compact_int_empty Tryz.laysNm220 a cap w
open Go.RowKit Go.Sort in
theorem Tryz.slices_Sort_int_none (p : Option Addr) (cap : Nat) (w : World) :
  Calls Tryz.prog 82 #[.slice p 0 cap] w fun e w' => e = .returned (.tuple #[]) ∧ w' = w := Any.slices_Sort_int_none Tryz.lays189 p cap w
end Go.Proofs
