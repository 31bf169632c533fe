/- From a contract over environments to what a row asks of a law. -/
import Derived.Test.YtnpokifaejcbeaaGreatDoorSgEnc
set_option linter.unusedVariables false
set_option linter.unusedSimpArgs false
namespace Go.Sg
open Go.RowKit

theorem law_run {P : Program} {f : FuncId} {args : List DV} {w : World} {vals : Array Value} (h : PCall P (fun _ => .any) f args (vb true)) (hl : vals.size = args.length)
    (hv : ∀ (j : Nat) (d : DV) (u : Value), args[j]? = some d → vals[j]? = some u → Rel w (fun g => g < w.heap.size) noOwn d u)
    (hG : ∀ g us e, GT g = some (us, e) → w.heap[g]? = some (.cells us e (0, 0))) :
    Calls P f vals w fun e w' => e = .returned (.bool true) ∧ Below w.heap.size w w' := by
  have hO : OSim w (fun g => g < w.heap.size) noOwn (fun _ => .any) := by
    refine ⟨fun _ => trivial, fun s t g c c' h => ?_, fun s g c h => ?_, ⟨fun g h => h, fun g us e hg => ⟨(Array.getElem?_eq_some_iff.1 (hG g us e hg)).1, hG g us e hg⟩⟩⟩
    · exact absurd h (by simp)
    · exact absurd h (by simp)
  refine (h w _ noOwn vals hO hl hv).mono fun e w' ⟨v, I', O', r, k1, k2, k3, k4, k5, k6, k7, k8⟩ => ?_
  subst k8
  have k6 : Rel w' I' noOwn (vb true) v := k6
  cases k6
  exact ⟨k1, k5.os, k5.tape.1, k5.output, k5.size, fun k hk => (k5.old k hk fun s c h => by cases h).1⟩

/-- Values and what they stand for, one by one. -/
inductive RL (w : World) (I : Nat → Prop) (A : Own) : List DV → List Value → Prop
  | nil : RL w I A [] []
  | cons {d : DV} {x : Value} {l : List DV} {m : List Value} (h : Rel w I A d x) (t : RL w I A l m) : RL w I A (d :: l) (x :: m)
theorem RL.len {w : World} {I : Nat → Prop} {A : Own} {l : List DV} {m : List Value} (h : RL w I A l m) : m.length = l.length := by
  induction h with
  | nil => rfl
  | cons h t ih => simp [ih]
theorem RL.get {w : World} {I : Nat → Prop} {A : Own} {l : List DV} {m : List Value} (h : RL w I A l m) : ∀ (j : Nat) (d : DV) (u : Value), l[j]? = some d → m[j]? = some u → Rel w I A d u := by
  induction h with
  | nil => intro j d u hd; simp at hd
  | cons h t ih =>
    intro j d u hd hu
    cases j with
    | zero => simp at hd hu; subst hd; subst hu; exact h
    | succ j => exact ih j d u (by simpa using hd) (by simpa using hu)
theorem law_at {P : Program} {f : FuncId} {args : List DV} {w : World} {vals : List Value} (h : PCall P (fun _ => .any) f args (vb true)) (hv : RL w (fun g => g < w.heap.size) noOwn args vals)
    (hG : ∀ g us e, GT g = some (us, e) → w.heap[g]? = some (.cells us e (0, 0))) :
    Calls P f vals.toArray w fun e w' => e = .returned (.bool true) ∧ Below w.heap.size w w' :=
  law_run h (by simpa using hv.len) (fun j d u hd hu => hv.get j d u hd (by simpa using hu)) hG

theorem rel_none {w : World} {I : Nat → Prop} {A : Own} {α : Type} [Inhabited α] {z c : Nat} {e : α → List DV} {b : Option Addr} : Rel w I A (encL z e []) (.slice b 0 c) := .sl0 A z _ b c

theorem rel_ints {w : World} {a : Option Addr} {len cap : Nat} {zs : List Int} {A : Own}
    (h : (a = none ∧ len = 0 ∧ cap = 0 ∧ zs = []) ∨ ∃ x, a = some x ∧ len ≤ cap ∧ cap ≤ maxLen ∧ zs.length = cap ∧ (∀ i, i < zs.length → w.cell? (x.add i) = some (.int .i64 (zs.getD i 0))) ∧ ∀ n ∈ zs, (Lit.int .i64 n).wf = true) :
    Rel w (fun g => g < w.heap.size) A (encI (zs.take len)) (.slice a len cap) := by
  rcases h with ⟨rfl, rfl, rfl, rfl⟩ | ⟨x, rfl, h1, h2, h3, h4, _⟩
  · exact rel_none
  · rcases Nat.eq_zero_or_pos len with h0 | h0
    · subst h0; rw [List.take_zero]; exact rel_none
    · have hx : x.spot = none ∧ x.block < w.heap.size := by
        have := h4 0 (by omega)
        rw [show x.add 0 = x from rfl] at this
        unfold World.cell? at this
        split at this
        · rename_i c e f hh
          refine ⟨?_, (Array.getElem?_eq_some_iff.1 hh).1⟩
          cases hs : x.spot with
          | none => rfl
          | some s => rw [hs] at this; simp at this
        · cases this
      obtain ⟨b, o, s⟩ := x
      obtain ⟨rfl, hb⟩ := hx
      have hlen : (zs.take len).length = len := by rw [List.length_take]; omega
      have hg : ∀ i, i < len → (zs.take len).getD i default = zs.getD i 0 := fun i hi => by
        rw [List.getD_eq_getElem?_getD, List.getD_eq_getElem?_getD, List.getElem?_take, if_pos hi]; rfl
      show Rel _ _ _ (.sl 1 (zs.take len).length fun i => eI ((zs.take len).getD i default)) _
      rw [hlen]
      refine .sl A 1 len _ b o cap (fun i _ => .int .i64 (zs.getD i 0)) h0 h1 h2 hb (fun _ _ => rfl) (fun i j hi hj => ?_) (fun _ _ _ _ => rfl) fun i j d hi hd => ?_
      · have := h4 i (by omega)
        obtain rfl : j = 0 := by omega
        rw [Addr.add_lit] at this
        simpa using this
      · cases j with
        | zero =>
          have : d = vi ((zs.take len).getD i default) := by simpa using hd.symm
          rw [this, hg i hi]; exact .v _ _
        | succ j => simp [eI] at hd

end Go.Sg
