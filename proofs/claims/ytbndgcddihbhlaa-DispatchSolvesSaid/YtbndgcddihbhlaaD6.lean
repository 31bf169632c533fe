/- Drafts and places as plain functions; the contracts of ends, all, begin, cost. Printed by genw.py. -/
import Derived.Test.YtbndgcddihbhlaaSgB
import Derived.Test.YtbndgcddihbhlaaD5
set_option linter.unusedVariables false
set_option linter.unusedSimpArgs false
set_option maxRecDepth 8000
namespace Go.Sg
open Go.Proofs
abbrev Dr := Nat → Nat → Int
abbrev Pl := Nat → Nat
abbrev Cl := Nat → Nat → Nat → Nat → Bool
def drL (d : Dr) : List DV := (List.range 16).map fun k => vi (d (k / 4) (k % 4))
def plL (a : Pl) : List DV := (List.range 4).map fun k => vi (a k : Nat)
def clL (c : Cl) : List DV := (List.range 256).map fun k => vb (c (k / 64) (k / 16 % 4) (k / 4 % 4) (k % 4))
def upD (d : Dr) (i j : Nat) (v : Int) : Dr := fun x y => if x = i ∧ y = j then v else d x y
def upA (a : Pl) (i v : Nat) : Pl := fun x => if x = i then v else a x
def upC (c : Cl) (i j k m : Nat) (v : Bool) : Cl := fun x y z u => if x = i ∧ y = j ∧ z = k ∧ u = m then v else c x y z u
theorem drL_len (d : Dr) : (drL d).length = 16 := by simp [drL]
theorem plL_len (a : Pl) : (plL a).length = 4 := by simp [plL]
theorem clL_len (c : Cl) : (clL c).length = 256 := by simp [clL]
theorem drL_get (d : Dr) {i j : Nat} (hi : i < 4) (hj : j < 4) : (drL d).getD (i * 4 + j) .any = vi (d i j) := by
  unfold drL
  rw [List.getD_eq_getElem?_getD, List.getElem?_map, List.getElem?_range (by omega)]
  simp only [Option.map_some, Option.getD_some]
  rw [show (i * 4 + j) / 4 = i by omega, show (i * 4 + j) % 4 = j by omega]
theorem plL_get (a : Pl) {i : Nat} (hi : i < 4) : (plL a).getD i .any = vi (a i : Nat) := by
  unfold plL
  rw [List.getD_eq_getElem?_getD, List.getElem?_map, List.getElem?_range (by omega)]
  rfl
theorem map_set_fun {α : Type} (f g : Nat → α) (n k : Nat) (hk : k < n) (x : α) (h1 : g k = x) (h2 : ∀ i, i < n → i ≠ k → g i = f i) : ((List.range n).map f).set k x = (List.range n).map g := by
  apply List.ext_getElem?
  intro i
  by_cases hi : i = k
  · subst hi
    rw [List.getElem?_set_self (by simp; omega), List.getElem?_map, List.getElem?_range hk]; simp [h1]
  · rw [List.getElem?_set_ne (Ne.symm hi), List.getElem?_map, List.getElem?_map]
    by_cases hn : i < n
    · rw [List.getElem?_range hn]; simp [h2 i hn hi]
    · rw [List.getElem?_eq_none (by simp; omega)]; rfl
theorem drL_set (d : Dr) {i j : Nat} (v : Int) (hi : i < 4) (hj : j < 4) : (drL d).set (i * 4 + j) (.v (.int .i64 v)) = drL (upD d i j v) := by
  refine map_set_fun _ _ 16 _ (by omega) _ ?_ fun k hk hne => ?_
  · simp only [upD]; rw [if_pos (by omega)]
  · simp only [upD]; rw [if_neg (by omega)]
theorem plL_set (a : Pl) {i : Nat} (v : Nat) (hi : i < 4) : (plL a).set i (.v (.int .i64 (v : Int))) = plL (upA a i v) := by
  refine map_set_fun _ _ 4 _ hi _ ?_ fun k hk hne => ?_
  · simp only [upA]; rw [if_pos trivial]
  · simp only [upA]; rw [if_neg hne]
theorem plL_inc (a : Pl) {i : Nat} (v : Nat) (hi : i < 4) : (plL a).set i (.v (.int .i64 ((v : Int) + 1))) = plL (upA a i (v + 1)) := by
  rw [show ((v : Int) + 1) = ((v + 1 : Nat) : Int) by omega]; exact plL_set a (v + 1) hi
theorem plL_zero (a : Pl) {i : Nat} (hi : i < 4) : (plL a).set i (.v (.int .i64 0)) = plL (upA a i 0) := plL_set a 0 hi
theorem clL_get (c : Cl) {i j k m : Nat} (hi : i < 4) (hj : j < 4) (hk : k < 4) (hm : m < 4) : (clL c).getD (i * 64 + j * 16 + k * 4 + m) .any = vb (c i j k m) := by
  unfold clL
  rw [List.getD_eq_getElem?_getD, List.getElem?_map, List.getElem?_range (by omega)]
  simp only [Option.map_some, Option.getD_some]
  rw [show (i * 64 + j * 16 + k * 4 + m) / 64 = i by omega, show (i * 64 + j * 16 + k * 4 + m) / 16 % 4 = j by omega, show (i * 64 + j * 16 + k * 4 + m) / 4 % 4 = k by omega, show (i * 64 + j * 16 + k * 4 + m) % 4 = m by omega]
theorem clL_set (c : Cl) {i j k m : Nat} (v : Bool) (hi : i < 4) (hj : j < 4) (hk : k < 4) (hm : m < 4) : (clL c).set (i * 64 + j * 16 + k * 4 + m) (.v (.bool v)) = clL (upC c i j k m v) := by
  refine map_set_fun _ _ 256 _ (by omega) _ ?_ fun q hq hne => ?_
  · simp only [upC]; rw [if_pos (by omega)]
  · simp only [upC]; rw [if_neg (by omega)]
theorem allK_vi {α : Type} (p : Nat → Bool) (f : α → Value) (l : List α) : allKL p (l.map fun k => .v (f k)) = true := by
  rw [allKL_iff]
  intro d hd
  obtain ⟨k, _, rfl⟩ := List.mem_map.1 hd
  rfl
theorem drL_k (p : Nat → Bool) (d : Dr) : allKL p (drL d) = true := allK_vi p _ _
theorem plL_k (p : Nat → Bool) (a : Pl) : allKL p (plL a) = true := allK_vi p _ _
theorem clL_k (p : Nat → Bool) (c : Cl) : allKL p (clL c) = true := allK_vi p _ _
theorem renL_vi {α : Type} (k : Nat → Nat) (f : α → Value) (l : List α) : renL k (l.map fun x => .v (f x)) = l.map fun x => .v (f x) := by
  rw [renL_eq, List.map_map]; rfl
theorem drL_ren (k : Nat → Nat) (d : Dr) : renL k (drL d) = drL d := renL_vi k _ _
theorem plL_ren (k : Nat → Nat) (a : Pl) : renL k (plL a) = plL a := renL_vi k _ _
theorem clL_ren (k : Nat → Nat) (c : Cl) : renL k (clL c) = clL c := renL_vi k _ _
theorem ret_cell {P : Program} {ρ : Env} {fn : Func} {O : Env} {cs : List DV} (a t : Nat) (hf : fn.results = #[.cell a t]) (h1 : hi ρ = outer O) (h2 : ρ a = .bx cs) (h3 : ldOf P t = some (some cs.length)) (h4 : sh (.agg cs) = .agg cs) : retQ P fn O (fun O' r' => O' = O ∧ r' = .agg cs) .ret ρ :=
  ret_pure h1 (by rw [hf]; exact ⟨rfl, cs, h2, .inl ⟨h3, by rw [h4]; exact RWk.refl _⟩⟩)
theorem drL_all (d : Dr) : (drL d).take 16 = drL d := by rw [← drL_len d, List.take_length]
theorem plL_all (a : Pl) : (plL a).take 4 = plL a := by rw [← plL_len a, List.take_length]
attribute [go_sem] drL_ren plL_ren clL_ren drL_k plL_k clL_k drL_len plL_len clL_len drL_get plL_get drL_set plL_set plL_inc plL_zero drL_all plL_all List.drop_zero Nat.mul_one Nat.zero_add Nat.add_zero
abbrev prV (tr : List Trip) (c : Cl) : DV := .dp (encTr tr :: clL c)
structure Ok (tr : List Trip) : Prop where
  n : tr.length ≤ 4
  l : ∀ i, i < tr.length → 1 ≤ (tr.getD i default).fStops.length ∧ (tr.getD i default).fStops.length ≤ 4
  s : ∀ i j, i < tr.length → j < (tr.getD i default).fStops.length → (0 ≤ ((tr.getD i default).fStops.getD j default).fDue ∧ ((tr.getD i default).fStops.getD j default).fDue ≤ 1073741824) ∧ (1 ≤ ((tr.getD i default).fStops.getD j default).fRun ∧ ((tr.getD i default).fStops.getD j default).fRun ≤ 1000) ∧ 0 ≤ ((tr.getD i default).fStops.getD j default).fWeight ∧ ((tr.getD i default).fStops.getD j default).fWeight ≤ 100
theorem ok_chk {t : Table} {tr : List Trip} (h : chkI t tr = 0) : Ok tr := by
  obtain ⟨h1, h2, h3, h4, h5, h6⟩ := chk0 h
  refine ⟨h1, fun i hi => ln_at h2 hi, fun i j hi hj => ?_⟩
  have := st_of (pl_at h3 hi hj)
  omega
def duN (tr : List Trip) (i j : Nat) : Int := ((tr.getD i default).fStops.getD j default).fDue
def ruN (tr : List Trip) (i j : Nat) : Int := ((tr.getD i default).fStops.getD j default).fRun
def weN (tr : List Trip) (i j : Nat) : Int := ((tr.getD i default).fStops.getD j default).fWeight
def enA (tr : List Trip) : Pl := fun i => if i < tr.length then (tr.getD i default).fStops.length else 0
def enP (tr : List Trip) (i : Nat) : Pl := fun k => if k < i then (tr.getD k default).fStops.length else 0
theorem enP_s (tr : List Trip) (i : Nat) : upA (enP tr i) i (tr.getD i default).fStops.length = enP tr (i + 1) := by
  funext k
  simp only [upA, enP]
  by_cases h : k = i
  · subst h; rw [if_pos rfl, if_pos (by omega)]
  · rw [if_neg h]
    by_cases h2 : k < i
    · rw [if_pos h2, if_pos (by omega)]
    · rw [if_neg h2, if_neg (by omega)]
theorem enE {tr : List Trip} {i : Nat} (h1 : i ≤ tr.length) (h2 : tr.length ≤ i) : enP tr i = enA tr := by
  have : i = tr.length := by omega
  subst this; rfl
def bgR (tr : List Trip) (i : Nat) : Nat → Int
  | 0 => duN tr i 0
  | j + 1 => max (duN tr i (j + 1)) (bgR tr i j + ruN tr i j)
def bgD (tr : List Trip) : Dr := fun i j => if i < tr.length ∧ j < (tr.getD i default).fStops.length then bgR tr i j else 0
def bgP (tr : List Trip) (i j : Nat) : Dr := fun x y => if (x < i ∧ y < (tr.getD x default).fStops.length) ∨ (x = i ∧ y < j) then bgR tr x y else 0
theorem bgP_row {tr : List Trip} {i j : Nat} (h : j = (tr.getD i default).fStops.length) : bgP tr i j = bgP tr (i + 1) 0 := by
  funext x y
  subst h
  simp only [bgP]
  by_cases h1 : x = i
  · subst h1
    by_cases h2 : y < (tr.getD x default).fStops.length
    · rw [if_pos (by omega), if_pos (by omega)]
    · rw [if_neg (by omega), if_neg (by omega)]
  · by_cases h2 : x < i ∧ y < (tr.getD x default).fStops.length
    · rw [if_pos (by omega), if_pos (by omega)]
    · rw [if_neg (by omega), if_neg (by omega)]
theorem bgP_end {tr : List Trip} {i : Nat} (h : tr.length ≤ i) (h2 : i ≤ tr.length) : bgP tr i 0 = bgD tr := by
  funext x y
  simp only [bgP, bgD]
  by_cases h1 : x < tr.length ∧ y < (tr.getD x default).fStops.length
  · rw [if_pos (by omega), if_pos h1]
  · rw [if_neg (by omega), if_neg h1]
theorem bgP_s0 (tr : List Trip) (i : Nat) : upD (bgP tr i 0) i 0 (((tr.getD i default).fStops.getD 0 default).fDue) = bgP tr i 1 := by
  funext x y
  simp only [upD, bgP]
  by_cases h : x = i ∧ y = 0
  · rw [if_pos h, if_pos (by omega), h.1, h.2]; rfl
  · rw [if_neg h]
    by_cases h2 : x < i ∧ y < (tr.getD x default).fStops.length
    · rw [if_pos (by omega), if_pos (by omega)]
    · rw [if_neg (by omega), if_neg (by omega)]
theorem bgP_s (tr : List Trip) (i j : Nat) (v : Int) (u : Int) (hv : v = bgR tr i j) : upD (upD (bgP tr i j) i j u) i j v = bgP tr i (j + 1) := by
  funext x y
  simp only [upD, bgP]
  by_cases h : x = i ∧ y = j
  · rw [if_pos h, if_pos (by omega), h.1, h.2, hv]
  · rw [if_neg h, if_neg h]
    by_cases h2 : (x < i ∧ y < (tr.getD x default).fStops.length) ∨ (x = i ∧ y < j)
    · rw [if_pos h2, if_pos (by omega)]
    · rw [if_neg h2, if_neg (by omega)]
theorem bgR_b {tr : List Trip} (h : Ok tr) {i : Nat} (hi : i < tr.length) : ∀ j, j < (tr.getD i default).fStops.length → 0 ≤ bgR tr i j ∧ bgR tr i j ≤ 1073741824 + 1000 * j
  | 0, hj => by have := h.s i 0 hi hj; simp only [bgR, duN]; omega
  | j + 1, hj => by
    have h1 := bgR_b h hi j (by omega)
    have h2 := h.s i j hi (by omega)
    have h3 := h.s i (j + 1) hi hj
    simp only [bgR, duN, ruN] at *
    omega
def coJ (tr : List Trip) (d : Dr) (i : Nat) : Nat → Int
  | 0 => 0
  | j + 1 => coJ tr d i j + weN tr i j * (d i j - duN tr i j)
theorem coJ_s (tr : List Trip) (d : Dr) (i j : Nat) (x : Int) : x + coJ tr d i j + ((tr.getD i default).fStops.getD j default).fWeight * (d i j - ((tr.getD i default).fStops.getD j default).fDue) = x + coJ tr d i (j + 1) := by simp only [coJ, weN, duN]; omega
def coN (tr : List Trip) (d : Dr) (a : Pl) : Nat → Int
  | 0 => 0
  | i + 1 => coN tr d a i + coJ tr d i (a i)
def coD (tr : List Trip) (d : Dr) (a : Pl) : Int := coN tr d a tr.length
def Bd (d : Dr) : Prop := ∀ i j, 0 ≤ d i j ∧ d i j ≤ 1099511627776
def Pk (tr : List Trip) (a : Pl) : Prop := ∀ i, i < tr.length → a i ≤ (tr.getD i default).fStops.length
theorem mul_b {w x : Int} (h1 : 0 ≤ w) (h2 : w ≤ 100) (h3 : -2199023255552 ≤ x) (h4 : x ≤ 2199023255552) : -219902325555200 ≤ w * x ∧ w * x ≤ 219902325555200 := by
  have a1 : w * x ≤ w * 2199023255552 := Int.mul_le_mul_of_nonneg_left h4 h1
  have a2 : w * (-2199023255552) ≤ w * x := Int.mul_le_mul_of_nonneg_left h3 h1
  omega
theorem term_b {tr : List Trip} (h : Ok tr) {d : Dr} (hd : Bd d) {i j : Nat} (hi : i < tr.length) (hj : j < (tr.getD i default).fStops.length) : -219902325555200 ≤ weN tr i j * (d i j - duN tr i j) ∧ weN tr i j * (d i j - duN tr i j) ≤ 219902325555200 := by
  have h1 := h.s i j hi hj
  have h2 := hd i j
  refine mul_b (by simp only [weN]; omega) (by simp only [weN]; omega) ?_ ?_ <;> simp only [duN] <;> omega
theorem coJ_b {tr : List Trip} (h : Ok tr) {d : Dr} (hd : Bd d) {i : Nat} (hi : i < tr.length) : ∀ j : Nat, j ≤ (tr.getD i default).fStops.length → -(219902325555200 * j) ≤ coJ tr d i j ∧ coJ tr d i j ≤ 219902325555200 * j
  | 0, _ => by simp [coJ]
  | j + 1, hj => by
    have h1 := coJ_b h hd hi j (by omega)
    have h2 := term_b h hd hi (j := j) (by omega)
    simp only [coJ]
    omega
theorem coN_b {tr : List Trip} (h : Ok tr) {d : Dr} (hd : Bd d) {a : Pl} (ha : Pk tr a) : ∀ i : Nat, i ≤ tr.length → -(879609302220800 * i) ≤ coN tr d a i ∧ coN tr d a i ≤ 879609302220800 * i
  | 0, _ => by simp [coN]
  | i + 1, hi => by
    have h1 := coN_b h hd ha i (by omega)
    have h2 := coJ_b h hd (i := i) (by omega) (a i) (ha i (by omega))
    have h3 := h.l i (by omega)
    have h4 := ha i (by omega)
    simp only [coN]
    omega
def alB (tr : List Trip) (a : Pl) : Bool := (List.range tr.length).all fun i => decide ((tr.getD i default).fStops.length ≤ a i)
set_option maxHeartbeats 4000000 in
theorem dispatch_problem_ends_ok (O : Env) (tr : List Trip) (c : Cl) (ho : Ok tr) : PCall Try.prog O 52 [prV tr c] (.agg (plL (enA tr))) := by
  have hn := ho.n
  refine pcall_of_aw Try.func52 rfl (by kernel_rfl) ?_
  refine aw_seq fun K0 hK0 => ?_
  refine aw_reg [0] (by kernel_rfl) ?_
  simp (disch := omega) only [go_sem, seval]
  repeat refine And.intro obl ?_
  refine hK0 _ ?_; clear hK0
  refine aw_seq fun K1 hK1 => ?_
  refine aw_reg [0, 2] (by kernel_rfl) ?_
  simp (disch := omega) only [go_sem, seval]
  repeat refine And.intro obl ?_
  refine hK1 _ ?_; clear hK1
  refine aw_seq fun K2 hK2 => ?_
  refine aw_seq fun K3 hK3 => ?_
  refine aw_reg [0, 2, 3] (by kernel_rfl) ?_
  simp (disch := omega) only [go_sem, seval]
  repeat refine And.intro obl ?_
  refine hK3 _ ?_; clear hK3
  refine aw_block ?_
  refine aw_loopK [2, 3, 9, 10, 11] (fun n ρ => ∃ i, n = tr.length - i ∧ (i ≤ tr.length) ∧ ρ = mkE O [(2, .bx (plL (fun _ => 0))), (3, .bx (plL (enP tr i))), (9, encTr tr), (10, vi (tr.length : Nat)), (11, vi (i : Nat))]) _ ⟨0, rfl, ?_, ?_⟩ ?_
  · exact dfl
  · simp (disch := omega) only [go_sem, seval] <;> rfl
  rintro n ρ ⟨i, rfl, l0_0, rfl⟩ K4 hK4
  refine aw_seq fun K5 hK5 => ?_
  refine aw_reg [0, 2, 3, 6, 7, 8, 9, 10, 11] (by kernel_rfl) ?_
  simp (disch := omega) only [go_sem, seval]
  repeat refine And.intro obl ?_
  refine hK5 _ ?_; clear hK5
  refine aw_seq fun K6 hK6 => ?_
  refine aw_cond _ (by rfl) (rfl) (fun c0 => ?_) (fun c0 => ?_)
  · try simp only [push_cast] at c0
    refine aw_skip ?_
    refine hK6 _ ?_; clear hK6
    refine aw_seq fun K7 hK7 => ?_
    refine aw_block ?_
    refine aw_seq fun K8 hK8 => ?_
    have hl := ho.l i c0
    refine aw_reg [0, 2, 3, 6, 7, 8, 9, 10, 11] (by kernel_rfl) ?_
    simp (disch := omega) only [go_sem, seval]
    repeat refine And.intro obl ?_
    refine hK8 _ ?_; clear hK8
    refine aw_reg [0, 2, 3, 4, 5, 6, 7, 8, 9, 10, 11] (by kernel_rfl) ?_
    simp (disch := omega) only [go_sem, seval]
    repeat refine And.intro obl ?_
    refine hK7 _ ?_; clear hK7
    refine aw_reg [0, 2, 3, 6, 7, 8, 9, 10, 11] (by kernel_rfl) ?_
    simp (disch := omega) only [go_sem, seval]
    repeat refine And.intro obl ?_
    refine hK4 _ _ ?_ ⟨i + 1, rfl, ?_, ?_⟩
    · exact dfl
    · exact dfl
    · simp (disch := omega) only [go_sem, seval] <;> rw [enP_s]; rfl
  · try simp only [push_cast] at c0
    refine aw_exit ?_
    refine hK2 _ ?_; clear hK2
    refine aw_seq fun K9 hK9 => ?_
    refine aw_reg [2, 3] (by kernel_rfl) ?_
    simp (disch := omega) only [go_sem, seval]
    repeat refine And.intro obl ?_
    refine hK9 _ ?_; clear hK9
    refine aw_ret ?_
    refine ret_cell 2 62 rfl (by simp (disch := omega) only [go_sem, seval]) (by simp (disch := omega) only [go_sem, seval] <;> (rw [enE (by omega) (by omega)])) (by simp (disch := omega) only [go_sem, seval]) (by simp (disch := omega) only [go_sem, seval])
theorem al_t {tr : List Trip} {a : Pl} {i : Nat} (h : rgTo (fun i => decide ((tr.getD i default).fStops.length ≤ a i)) i) (h2 : tr.length ≤ i) : alB tr a = true := rg_t h h2
theorem al_f {tr : List Trip} {a : Pl} {i : Nat} (hi : i < tr.length) (h : a i < (tr.getD i default).fStops.length) : alB tr a = false := rg_f hi (decide_eq_false (by omega))
theorem dispatch_problem_all_ok (O : Env) (tr : List Trip) (c : Cl) (a : Pl) (ho : Ok tr) : PCall Try.prog O 27 [prV tr c, .agg (plL a)] (vb (alB tr a)) := by
  have hn := ho.n
  refine pcall_of_aw Try.func27 rfl (by kernel_rfl) ?_
  refine aw_seq fun K0 hK0 => ?_
  refine aw_reg [0, 1] (by kernel_rfl) ?_
  simp (disch := omega) only [go_sem, seval]
  repeat refine And.intro obl ?_
  refine hK0 _ ?_; clear hK0
  refine aw_seq fun K1 hK1 => ?_
  refine aw_seq fun K2 hK2 => ?_
  refine aw_reg [0, 3] (by kernel_rfl) ?_
  simp (disch := omega) only [go_sem, seval]
  repeat refine And.intro obl ?_
  refine hK2 _ ?_; clear hK2
  refine aw_block ?_
  refine aw_loopK [3, 10, 11, 12] (fun n ρ => ∃ i, n = tr.length - i ∧ (i ≤ tr.length) ∧ (rgTo (fun i => decide ((tr.getD i default).fStops.length ≤ a i)) i) ∧ ρ = mkE O [(3, .bx (plL a)), (10, encTr tr), (11, vi (tr.length : Nat)), (12, vi (i : Nat))]) _ ⟨0, rfl, ?_, ?_, ?_⟩ ?_
  · exact dfl
  · exact rgTo_0 _
  · simp (disch := omega) only [go_sem, seval] <;> first | rfl | omega | simp | simp_all
  rintro n ρ ⟨i, rfl, l0_0, l0_1, rfl⟩ K3 hK3
  refine aw_seq fun K4 hK4 => ?_
  refine aw_reg [0, 3, 7, 8, 9, 10, 11, 12] (by kernel_rfl) ?_
  simp (disch := omega) only [go_sem, seval]
  repeat refine And.intro obl ?_
  refine hK4 _ ?_; clear hK4
  refine aw_seq fun K5 hK5 => ?_
  refine aw_cond _ (by rfl) (rfl) (fun c0 => ?_) (fun c0 => ?_)
  · try simp only [push_cast] at c0
    refine aw_skip ?_
    refine hK5 _ ?_; clear hK5
    refine aw_seq fun K6 hK6 => ?_
    refine aw_block ?_
    refine aw_seq fun K7 hK7 => ?_
    refine aw_reg [0, 3, 7, 8, 9, 10, 11, 12] (by kernel_rfl) ?_
    simp (disch := omega) only [go_sem, seval]
    repeat refine And.intro obl ?_
    refine hK7 _ ?_; clear hK7
    refine aw_seq fun K8 hK8 => ?_
    refine aw_regDc [0, 3, 5, 6, 7, 8, 9, 10, 11, 12] [] mixed (by kernel_rfl) ?_
    simp (disch := omega) only [go_sem, seval]
    repeat refine And.intro obl ?_
    refine hK8 _ ?_; clear hK8
    refine aw_cond _ (by rfl) (rfl) (fun c1 => ?_) (fun c1 => ?_)
    · try simp only [push_cast] at c1
      refine aw_seq fun K9 hK9 => ?_
      refine aw_reg [] (by kernel_rfl) ?_
      simp (disch := omega) only [go_sem, seval]
      repeat refine And.intro obl ?_
      refine hK9 _ ?_; clear hK9
      refine aw_ret ?_
      refine ret_tmp 4 rfl (by simp (disch := omega) only [go_sem, seval]) ?_
      exact Exp.is (by simp (disch := omega) only [go_sem, seval] <;> refine congrArg vb ?_ <;> (rw [al_f c0 (by omega)])) rfl rfl
    · try simp only [push_cast] at c1
      refine aw_skip ?_
      refine hK6 _ ?_; clear hK6
      refine aw_reg [0, 3, 7, 8, 9, 10, 11, 12] (by kernel_rfl) ?_
      simp (disch := omega) only [go_sem, seval]
      repeat refine And.intro obl ?_
      refine hK3 _ _ ?_ ⟨i + 1, rfl, ?_, ?_, ?_⟩
      · exact dfl
      · exact dfl
      · exact rgTo_s l0_1 (decide_eq_true (by omega))
      · simp (disch := omega) only [go_sem, seval] <;> first | rfl | omega | simp | simp_all
  · try simp only [push_cast] at c0
    refine aw_exit ?_
    refine hK1 _ ?_; clear hK1
    refine aw_seq fun K10 hK10 => ?_
    refine aw_reg [] (by kernel_rfl) ?_
    simp (disch := omega) only [go_sem, seval]
    repeat refine And.intro obl ?_
    refine hK10 _ ?_; clear hK10
    refine aw_ret ?_
    refine ret_tmp 4 rfl (by simp (disch := omega) only [go_sem, seval]) ?_
    exact Exp.is (by simp (disch := omega) only [go_sem, seval] <;> refine congrArg vb ?_ <;> (rw [al_t l0_1 (by omega)])) rfl rfl
set_option maxHeartbeats 4000000 in
theorem dispatch_problem_cost_ok (O : Env) (tr : List Trip) (c : Cl) (d : Dr) (a : Pl) (ho : Ok tr) (hd : Bd d) (ha : Pk tr a) : PCall Try.prog O 56 [prV tr c, .agg (drL d), .agg (plL a)] (vi (coD tr d a)) := by
  have hn := ho.n
  refine pcall_of_aw Try.func56 rfl (by kernel_rfl) ?_
  refine aw_seq fun K0 hK0 => ?_
  refine aw_reg [0, 1, 2] (by kernel_rfl) ?_
  simp (disch := omega) only [go_sem, seval]
  repeat refine And.intro obl ?_
  refine hK0 _ ?_; clear hK0
  refine aw_seq fun K1 hK1 => ?_
  refine aw_reg [0, 4, 5] (by kernel_rfl) ?_
  simp (disch := omega) only [go_sem, seval]
  repeat refine And.intro obl ?_
  refine hK1 _ ?_; clear hK1
  refine aw_seq fun K2 hK2 => ?_
  refine aw_seq fun K3 hK3 => ?_
  refine aw_reg [0, 4, 5, 7] (by kernel_rfl) ?_
  simp (disch := omega) only [go_sem, seval]
  repeat refine And.intro obl ?_
  refine hK3 _ ?_; clear hK3
  refine aw_block ?_
  refine aw_loopK [4, 5, 7, 15, 16, 17] (fun n ρ => ∃ i, n = tr.length - i ∧ (i ≤ tr.length) ∧ ρ = mkE O [(4, .bx (drL d)), (5, .bx (plL a)), (7, vi (coN tr d a i)), (15, encTr tr), (16, vi (tr.length : Nat)), (17, vi (i : Nat))]) _ ⟨0, rfl, ?_, ?_⟩ ?_
  · exact dfl
  · simp (disch := omega) only [go_sem, seval] <;> first | rfl | omega | simp | simp_all
  rintro n ρ ⟨i, rfl, l0_0, rfl⟩ K4 hK4
  refine aw_seq fun K5 hK5 => ?_
  refine aw_reg [0, 4, 5, 7, 12, 13, 14, 15, 16, 17] (by kernel_rfl) ?_
  simp (disch := omega) only [go_sem, seval]
  repeat refine And.intro obl ?_
  refine hK5 _ ?_; clear hK5
  refine aw_seq fun K6 hK6 => ?_
  refine aw_cond _ (by rfl) (rfl) (fun c0 => ?_) (fun c0 => ?_)
  · try simp only [push_cast] at c0
    refine aw_skip ?_
    refine hK6 _ ?_; clear hK6
    refine aw_seq fun K7 hK7 => ?_
    refine aw_block ?_
    refine aw_seq fun K8 hK8 => ?_
    have hl := ho.l i c0
    have hai := ha i c0
    refine aw_reg [0, 4, 5, 7, 12, 13, 14, 15, 16, 17] (by kernel_rfl) ?_
    simp (disch := omega) only [go_sem, seval]
    repeat refine And.intro obl ?_
    refine hK8 _ ?_; clear hK8
    refine aw_seq fun K9 hK9 => ?_
    refine aw_regDc [0, 4, 5, 7, 8, 9, 12, 13, 14, 15, 16, 17] [] mixed (by kernel_rfl) ?_
    simp (disch := omega) only [go_sem, seval]
    repeat refine And.intro obl ?_
    refine hK9 _ ?_; clear hK9
    refine aw_block ?_
    refine aw_loopK [4, 5, 7, 15, 16, 17, 8, 27, 28, 29] (fun n ρ => ∃ j, n = a i - j ∧ (j ≤ a i) ∧ ρ = mkE O [(4, .bx (drL d)), (5, .bx (plL a)), (7, vi (coN tr d a i + coJ tr d i j)), (15, encTr tr), (16, vi (tr.length : Nat)), (17, vi (i : Nat)), (8, vi (i : Nat)), (27, .sl 4 (a i) fun k => eStop ((tr.getD i default).fStops.getD k default)), (28, vi (a i : Nat)), (29, vi (j : Nat))]) _ ⟨0, rfl, ?_, ?_⟩ ?_
    · exact dfl
    · simp (disch := omega) only [go_sem, seval] <;> simp [coJ]
    rintro n ρ ⟨j, rfl, l1_0, rfl⟩ K10 hK10
    refine aw_seq fun K11 hK11 => ?_
    refine aw_reg [0, 4, 5, 7, 8, 9, 12, 13, 14, 15, 16, 17, 22, 23, 26, 27, 28, 29] (by kernel_rfl) ?_
    simp (disch := omega) only [go_sem, seval]
    repeat refine And.intro obl ?_
    refine hK11 _ ?_; clear hK11
    refine aw_seq fun K12 hK12 => ?_
    refine aw_cond _ (by rfl) (rfl) (fun c1 => ?_) (fun c1 => ?_)
    · try simp only [push_cast] at c1
      refine aw_skip ?_
      refine hK12 _ ?_; clear hK12
      refine aw_seq fun K13 hK13 => ?_
      refine aw_block ?_
      refine aw_seq fun K14 hK14 => ?_
      refine aw_reg [0, 4, 5, 7, 8, 9, 12, 13, 14, 15, 16, 17, 22, 23, 26, 27, 28, 29] (by kernel_rfl) ?_
      simp (disch := omega) only [go_sem, seval]
      repeat refine And.intro obl ?_
      refine hK14 _ ?_; clear hK14
      have hsj := ho.s i j c0 (by omega)
      have hdj := hd i j
      have ht := term_b ho hd (j := j) c0 (by omega)
      have hcj := coJ_b ho hd c0 j (by omega)
      have hcn := coN_b ho hd ha i (by omega)
      unfold weN duN at ht
      refine aw_regDc [0, 4, 5, 7, 8, 9, 10, 11, 12, 13, 14, 15, 16, 17, 22, 23, 26, 27, 28, 29] [] mixed (by kernel_rfl) ?_
      simp (disch := omega) only [go_sem, seval]
      repeat refine And.intro obl ?_
      refine hK13 _ ?_; clear hK13
      refine aw_reg [0, 4, 5, 7, 8, 9, 12, 13, 14, 15, 16, 17, 22, 23, 26, 27, 28, 29] (by kernel_rfl) ?_
      simp (disch := omega) only [go_sem, seval]
      repeat refine And.intro obl ?_
      refine hK10 _ _ ?_ ⟨j + 1, rfl, ?_, ?_⟩
      · exact dfl
      · exact dfl
      · simp (disch := omega) only [go_sem, seval] <;> rw [coJ_s]; rfl
    · try simp only [push_cast] at c1
      refine aw_exit ?_
      refine hK7 _ ?_; clear hK7
      refine aw_reg [0, 4, 5, 7, 12, 13, 14, 15, 16, 17] (by kernel_rfl) ?_
      simp (disch := omega) only [go_sem, seval]
      repeat refine And.intro obl ?_
      refine hK4 _ _ ?_ ⟨i + 1, rfl, ?_, ?_⟩
      · exact dfl
      · exact dfl
      · simp (disch := omega) only [go_sem, seval] <;> rw [show j = a i by omega]; rfl
  · try simp only [push_cast] at c0
    refine aw_exit ?_
    refine hK2 _ ?_; clear hK2
    refine aw_seq fun K15 hK15 => ?_
    refine aw_reg [7] (by kernel_rfl) ?_
    simp (disch := omega) only [go_sem, seval]
    repeat refine And.intro obl ?_
    refine hK15 _ ?_; clear hK15
    refine aw_ret ?_
    refine ret_tmp 6 rfl (by simp (disch := omega) only [go_sem, seval]) ?_
    exact Exp.is (by simp (disch := omega) only [go_sem, seval] <;> (rw [show i = tr.length by omega]; rfl)) rfl rfl
end Go.Sg
