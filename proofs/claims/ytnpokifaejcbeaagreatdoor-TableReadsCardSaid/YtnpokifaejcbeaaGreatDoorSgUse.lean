/- Words for walks: environments as lists, bounds on lengths, ends of bodies, encodings of lists. -/
import Derived.Test.YtnpokifaejcbeaaGreatDoorSgTac
set_option linter.unusedVariables false
set_option linter.unusedSimpArgs false
namespace Go.Sg
open Go.RowKit

/-- The local slots that are spoken of, over the caller's. -/
def mkE (O : Env) : List (Nat × DV) → Env
  | [] => outer O
  | p :: l => set (mkE O l) p.1 p.2
theorem mkE_nil (O : Env) : mkE O [] = outer O := rfl
theorem mkE_cons (O : Env) (i : Nat) (d : DV) (l : List (Nat × DV)) : mkE O ((i, d) :: l) = set (mkE O l) i d := rfl

/-- A slice of this length lies in the value. -/
inductive Has : DV → Nat → Prop
  | sl (z n : Nat) (f : Nat → List DV) : Has (.sl z n f) n
  | el {z m n : Nat} {f : Nat → List DV} (i : Nat) {d : DV} (hi : i < m) (hd : d ∈ f i) (h : Has d n) : Has (.sl z m f) n
  | agg {cs : List DV} {n : Nat} {d : DV} (hd : d ∈ cs) (h : Has d n) : Has (.agg cs) n
  | tup {cs : List DV} {n : Nat} {d : DV} (hd : d ∈ cs) (h : Has d n) : Has (.tup cs) n
  | dp {cs : List DV} {n : Nat} {d : DV} (hd : d ∈ cs) (h : Has d n) : Has (.dp cs) n

theorem Rel.has {w : World} {I : Nat → Prop} {d : DV} {n : Nat} (hh : Has d n) : ∀ {A : Own} {x : Value}, Rel w I A d x → n ≤ 9223372036854775807 := by
  induction hh with
  | sl z n f =>
    intro A x h
    cases h with
    | sl0 => omega
    | sl _ _ _ _ b o c us hn hc hm hI hz hcell hone hrel => exact Nat.le_trans hc hm
  | el i hi hd h ih =>
    intro A x hr
    cases hr with
    | sl0 => omega
    | sl _ _ _ _ b o c us hn hc hm hI hz hcell hone hrel =>
      obtain ⟨j, hj⟩ := List.getElem?_of_mem hd
      exact ih (hrel i j _ hi hj)
  | agg hd h ih =>
    intro A x hr
    cases hr with
    | agg _ _ vs hl hone hrel =>
      obtain ⟨j, hj⟩ := List.getElem?_of_mem hd
      have hlt : j < vs.size := by
        rw [← hl]
        rcases Nat.lt_or_ge j _ with h1 | h1
        · exact h1
        · rw [List.getElem?_eq_none h1] at hj; cases hj
      exact ih (hrel j _ _ hj (Array.getElem?_eq_getElem hlt))
  | tup hd h ih =>
    intro A x hr
    cases hr with
    | tup _ _ vs hl hrel =>
      obtain ⟨j, hj⟩ := List.getElem?_of_mem hd
      have hlt : j < vs.size := by
        rw [← hl]
        rcases Nat.lt_or_ge j _ with h1 | h1
        · exact h1
        · rw [List.getElem?_eq_none h1] at hj; cases hj
      exact ih (hrel j _ _ hj (Array.getElem?_eq_getElem hlt))
  | dp hd h ih =>
    intro A x hr
    cases hr with
    | dp _ _ b o us hI hcell hone hrel =>
      obtain ⟨j, hj⟩ := List.getElem?_of_mem hd
      exact ih (hrel j _ hj)

section
variable {P : Program} {nt : Nat} {ρ O : Env} {Q : Exit → Env → Prop} {c : Code}

theorem ecall_has {f : FuncId} {args : List DV} {R : Env → DV → Prop} (j : Nat) {d : DV} {n : Nat} (hj : args[j]? = some d) (hh : Has d n) (k : n ≤ 9223372036854775807 → ECall P O f args R) : ECall P O f args R :=
  fun w I A vals hO hl hv => by
    have hlt : j < vals.size := by
      rw [hl]
      rcases Nat.lt_or_ge j args.length with h1 | h1
      · exact h1
      · rw [List.getElem?_eq_none h1] at hj; cases hj
    exact k ((hv j d _ hj (Array.getElem?_eq_getElem hlt)).has hh) w I A vals hO hl hv

theorem pcall_has {f : FuncId} {args : List DV} {r : DV} (j : Nat) {d : DV} {n : Nat} (hj : args[j]? = some d) (hh : Has d n) (k : n ≤ 9223372036854775807 → PCall P O f args r) : PCall P O f args r := ecall_has j hj hh k

theorem Sim.hasRow {w : World} {I : Nat → Prop} {A : Own} {a : Act} (hs : Sim nt w I A ρ a) {s : Nat} {e : TypeId} {z : Nat} {xs : List (List DV)} (h : ρ s = .row e z xs) : xs.length ≤ 9223372036854775807 := by
  have := hs.osim.own s
  rw [h] at this
  obtain ⟨B, c, h1, h2⟩ := this
  unfold RowRel at h2
  cases B with
  | none => rw [h2.1]; simp
  | some g => obtain ⟨us, q1, q2, q3, q4, q5⟩ := h2; exact Nat.le_trans q4 q3

theorem aw_has {s : Nat} {d : DV} {n : Nat} (hs : s < nt) (h : ρ s = d) (hp : isPl d = true) (hh : Has d n) (k : n ≤ 9223372036854775807 → AW P nt c Q ρ) : AW P nt c Q ρ :=
  fun I A a w hw hd => by
    have := hw.slot s hs
    rw [h] at this
    exact k ((this.rel hp).has hh) I A a w hw hd
theorem aw_hasRow {s : Nat} {e : TypeId} {z : Nat} {xs : List (List DV)} (h : ρ s = .row e z xs) (k : xs.length ≤ 9223372036854775807 → AW P nt c Q ρ) : AW P nt c Q ρ :=
  fun I A a w hw hd => k (hw.hasRow h) I A a w hw hd

/-! ## Ends -/

theorem ret_tmp {fn : Func} {O : Env} {r : DV} (t : Nat) (hf : fn.results = #[.tmp t]) (h1 : hi ρ = outer O) (h2 : Exp ρ t r) : retQ P fn O (fun O' r' => O' = O ∧ r' = r) .ret ρ :=
  ret_pure h1 (by rw [hf]; exact h2)

theorem Exp.is {t : Nat} {r : DV} (h : ρ t = r) (hr : isPl r = true) (hs : sh r = r) : Exp ρ t r := .pure r (h.symm ▸ hr) (by rw [h, hs]; exact RWk.refl _) (by cases r <;> first | rfl | cases hr)

theorem i64id {x : Int} (h : -9223372036854775808 ≤ x) (h' : x ≤ 9223372036854775807) : IntKind.i64.wrap x = x := by
  rw [IntKind.wrap_i64]; omega
theorem i64nat {n : Nat} (h : n ≤ 9223372036854775807) : IntKind.i64.wrap (n : Int) = n := i64id (by omega) (by omega)
theorem i64succ {n m : Nat} (h : n < m) (hm : m ≤ 9223372036854775807) : IntKind.i64.wrap ((n : Int) + 1) = ((n + 1 : Nat) : Int) := by rw [i64id (by omega) (by omega)]; omega

theorem nat_in {i n : Nat} (h : i < n) : ((0 : Int) ≤ (i : Int) ∧ (i : Int) < (n : Int)) := ⟨by omega, by omega⟩
theorem nat_lt (i n : Nat) : ((i : Int) < (n : Int)) = (i < n) := by apply propext; omega
theorem nat_le (i n : Nat) : ((i : Int) ≤ (n : Int)) = (i ≤ n) := by apply propext; omega
theorem nat_nn (i : Nat) : ((0 : Int) ≤ (i : Int)) = True := by apply propext; simp

theorem dropD {α : Type} {l : List α} {i : Nat} (d : α) (h : i < l.length) : l.drop i = l.getD i d :: l.drop (i + 1) := by
  rw [List.drop_eq_getElem_cons h, List.getD_eq_getElem?_getD, List.getElem?_eq_getElem h]; rfl
theorem dropE {α : Type} {l : List α} {i : Nat} (h : l.length ≤ i) : l.drop i = [] := List.drop_eq_nil_of_le h

end
attribute [go_sem] mkE_nil mkE_cons Int.toNat_natCast nat_lt nat_le nat_nn
end Go.Sg
