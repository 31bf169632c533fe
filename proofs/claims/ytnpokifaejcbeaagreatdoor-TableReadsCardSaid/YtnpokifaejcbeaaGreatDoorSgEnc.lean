/- Lists of Go data, typed. -/
import Derived.Test.YtnpokifaejcbeaaGreatDoorSgFix
set_option linter.unusedVariables false
set_option linter.unusedSimpArgs false
namespace Go.Sg
open Go.RowKit

/-- A settled slice that holds the list l, each element z cells by e. -/
def encL {α : Type} [Inhabited α] (z : Nat) (e : α → List DV) (l : List α) : DV := .sl z l.length fun i => e (l.getD i default)
/-- An own row that holds l. -/
def rowL {α : Type} (t : TypeId) (z : Nat) (e : α → List DV) (l : List α) : DV := .row t z (l.map e)
abbrev vi (x : Int) : DV := .v (.int .i64 x)
abbrev vb (x : Bool) : DV := .v (.bool x)
abbrev vs (x : ByteArray) : DV := .v (.string x)
abbrev eI (x : Int) : List DV := [vi x]
abbrev encI (l : List Int) : DV := encL 1 eI l

theorem takeMap {α β : Type} (e : α → β) (l : List α) : (l.map e).take l.length = l.map e := by
  rw [← List.length_map (f := e), List.take_length]
theorem getDMap {α : Type} [Inhabited α] (e : α → List DV) (l : List α) {i : Nat} (h : i < l.length) : (l.map e).getD i [] = e (l.getD i default) := by
  simp [List.getD_eq_getElem?_getD, List.getElem?_eq_getElem h]

theorem rangeGetD {α : Type} [Inhabited α] (e : α → List DV) (l : List α) : ((List.range l.length).map fun i => e (l.getD i default)) = l.map e := by
  apply List.ext_getElem (by simp)
  intro i h1 h2
  simp at h1
  simp [List.getElem?_eq_getElem h1]
theorem bEqT (a : Bool) : (a == true) = a := by cases a <;> rfl
theorem bEqF (a : Bool) : (a == false) = !a := by cases a <;> rfl
theorem condF (a b : Bool) : (bif a then b else false) = (a && b) := by cases a <;> rfl
theorem condT (a b : Bool) : (bif a then true else b) = (a || b) := by cases a <;> rfl
theorem mapSnocI (l : List Int) (x : Int) : l.map eI ++ [[vi x]] = (l ++ [x]).map eI := by simp
theorem lit_lt (k n : Nat) : (((no_index (OfNat.ofNat k)) : Int) < (n : Int)) = (k < n) := by apply propext; show ((k : Nat) : Int) < n ↔ _; omega
theorem lt_lit (k n : Nat) : ((n : Int) < ((no_index (OfNat.ofNat k)) : Int)) = (n < k) := by apply propext; show (n : Int) < ((k : Nat) : Int) ↔ _; omega
theorem lit_le (k n : Nat) : (((no_index (OfNat.ofNat k)) : Int) ≤ (n : Int)) = (k ≤ n) := by apply propext; show ((k : Nat) : Int) ≤ n ↔ _; omega
theorem le_lit (k n : Nat) : ((n : Int) ≤ ((no_index (OfNat.ofNat k)) : Int)) = (n ≤ k) := by apply propext; show (n : Int) ≤ ((k : Nat) : Int) ↔ _; omega
theorem natEqB (i n : Nat) : ((i : Int) == (n : Int)) = (i == n) := by rw [Bool.eq_iff_iff]; simp only [beq_iff_eq]; omega
theorem natNeB (i n : Nat) : ((i : Int) != (n : Int)) = (i != n) := by rw [Bool.eq_iff_iff]; simp only [bne_iff_ne, ne_eq]; omega
theorem litEqB (k n : Nat) : ((n : Int) == ((no_index (OfNat.ofNat k)) : Int)) = (n == k) := natEqB n k
theorem litNeB (k n : Nat) : ((n : Int) != ((no_index (OfNat.ofNat k)) : Int)) = (n != k) := natNeB n k
theorem toNatSubL (k n : Nat) : ((n : Int) - (no_index (OfNat.ofNat k))).toNat = n - k := by show ((n : Int) - (k : Nat)).toNat = _; omega
theorem toNatSub (k n : Nat) : ((n : Int) - (k : Int)).toNat = n - k := by omega
theorem toNatAddL (k n : Nat) : ((n : Int) + (no_index (OfNat.ofNat k))).toNat = n + k := by show ((n : Int) + (k : Nat)).toNat = _; omega
theorem one_add (i : Nat) : 1 + i = i + 1 := Nat.add_comm 1 i
theorem takeLeft {α : Type} (a b : List α) : (a ++ b).take a.length = a := by simp
theorem mapSnoc {α β : Type} (e : α → β) (l : List α) (x : α) : l.map e ++ [e x] = (l ++ [x]).map e := by simp

section
variable {P : Program} {nt : Nat} {ρ O : Env} {Q : Exit → Env → Prop} {c : Code}

theorem RWk.frzL {α : Type} [Inhabited α] {z : Nat} (e : α → List DV) (l : List α) : RWk (Sg.frz z (l.map e)) (encL z e l) :=
  RWk.frz (by simp) fun i hi => getDMap e l hi
theorem RWk.nilL {α : Type} [Inhabited α] {z c : Nat} {b : Option Addr} (e : α → List DV) : RWk (.v (.slice b 0 c)) (encL z e []) := RWk.nil z c b _

theorem Exp.encL {α : Type} [Inhabited α] {t z : Nat} {e : α → List DV} {l l' : List α} (h : ρ t = Sg.encL z e l') (hl : l' = l) : Exp ρ t (Sg.encL z e l) := by
  subst hl; exact Exp.is h rfl rfl
theorem Exp.rowL {α : Type} {t : Nat} {ty : TypeId} {z : Nat} {e : α → List DV} {l l' : List α} (h : ρ t = Sg.rowL ty z e l') (hl : l' = l) : Exp ρ t (Sg.rowL ty z e l) := by
  subst hl; exact Exp.row _ _ _ h

theorem Exp.cut {α : Type} {t s n : Nat} {ty : TypeId} {z : Nat} {e : α → List DV} {l l' : List α} (h : ρ t = .own s n) (hs : s < 100000) (hr : ρ s = Sg.rowL ty z e l') (hn : n ≤ l'.length) (hl : l'.take n = l) : Exp ρ t (Sg.rowL ty z e l) := by
  subst hl
  have := Exp.own s ty z n (l'.map e) h hs hr (by simpa using hn)
  rwa [← List.map_take] at this

theorem Exp.ownL {α : Type} {t s n : Nat} {ty : TypeId} {z : Nat} {e : α → List DV} {l l' : List α} (h : ρ t = .own s n) (hs : s < 100000) (hr : ρ s = Sg.rowL ty z e l') (hn : n = l'.length) (hl : l' = l) : Exp ρ t (Sg.rowL ty z e l) :=
  Exp.cut h hs hr (by omega) (by rw [hn, List.take_length]; exact hl)

theorem RWk.litL {α : Type} [Inhabited α] {z n : Nat} {e : α → List DV} {xs : List (List DV)} (l : List α) (hx : xs = l.map e) (hn : n = l.length) : RWk (.sl z n fun i => xs.getD i []) (Sg.encL z e l) := by
  subst hx; subst hn
  exact RWk.sl z _ fun i hi => getDMap e l hi

theorem callC_to {g : Bool} {pre : Prop} {f : FuncId} {l : List DV} {k : DV → Prop} {t : Tg k} {r : DV} (h : g = true → PCall P ρ f l r) (hp : g = true → pre) (hr : isPl r = true) (hk : k r) : CallC P ρ g pre f l k t := ⟨r, hr, fun hg => ⟨hp hg, h hg⟩, hk⟩
theorem callD_to {f : FuncId} {l : List DV} {k : DV → Prop} {t : Tg k} {r : DV} (h : PCall P ρ f l r) (hr : isOwn r = false) (hk : k r) : CallD P ρ f l k t := ⟨r, hr, h, hk⟩

/-- An own row is settled as a list. -/
theorem aw_frzL {α : Type} [Inhabited α] (s : Nat) (l : List α) {e : α → List DV} {t : TypeId} {z : Nat} (hlt : (decide (s < 100000)) = true) (h : ρ s = .row t z (l.map e)) (k : AW P nt c Q (set (kill s ρ) s (encL z e l))) : AW P nt c Q ρ := by
  refine aw_frz s hlt h (aw_to s (encL z e l) hlt (by rw [set_apply, if_pos rfl]) (RWk.frzL e l) rfl rfl ?_)
  have : set (set (kill s ρ) s (Sg.frz z (l.map e))) s (encL z e l) = set (kill s ρ) s (encL z e l) := by
    funext i; simp only [set_apply]; split <;> rfl
  rw [this]; exact k
theorem aw_nilL {α : Type} [Inhabited α] (s : Nat) (z : Nat) (e : α → List DV) (hlt : (decide (s < 100000)) = true) (h : ρ s = .v (.slice none 0 0)) (k : AW P nt c Q (set ρ s (encL z e []))) : AW P nt c Q ρ :=
  aw_to s _ hlt h (RWk.nilL e) rfl rfl k
theorem aw_nilR {α : Type} (s : Nat) (t : TypeId) (z : Nat) (e : α → List DV) (hlt : (decide (s < nt)) = true) (h : ρ s = .v (.slice none 0 0)) (k : AW P nt c Q (set (kill s ρ) s (rowL t z e []))) : AW P nt c Q ρ :=
  aw_nilrow s t z hlt h k
/-- A contract that gives a row, as one that gives settled data. -/
theorem pcall_encL {α : Type} [Inhabited α] {f : FuncId} {args : List DV} {t : TypeId} {z : Nat} {e : α → List DV} {l : List α} (h : PCall P O f args (rowL t z e l)) : PCall P O f args (encL z e l) :=
  pcall_res _ (pcall_frz h) (RWk.frzL e l) rfl rfl
end
attribute [go_sem] forall_eq forall_eq_or_imp or_false encL rowL takeMap getDMap rangeGetD srcL List.length_map List.range_zero condF condT bEqT bEqF Bool.not_not and_self ne_eq not_false_eq_true mapSnocI lit_lt lt_lit lit_le le_lit natEqB natNeB litEqB litNeB toNatSubL toNatSub toNatAddL one_add Nat.zero_lt_succ Nat.add_one_sub_one decide_true decide_false Nat.add_sub_cancel Nat.zero_le Nat.lt_irrefl Nat.not_lt_zero
end Go.Sg
