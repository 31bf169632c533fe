/- What each operation that writes nothing gives, on abstract values, and that the model's operation gives just that. -/
import Derived.Test.YtnpokifaejcbeaaGreatDoorSgState
import Derived.Laws.Cells
import Derived.Laws.Entries
import Derived.ChangeKeysEq
set_option linter.unusedVariables false
set_option linter.unusedSimpArgs false
namespace Go.Sg
open Go.RowKit

def un : DV → DV
  | .cond _ d => d
  | d => d
def gd : DV → Prop
  | .cond g _ => g = true
  | _ => True

/-! ## What the types say -/

/-- 'some none': one cell; 'some (some n)': a struct or an array of n cells. -/
def ldOf (P : Program) (t : TypeId) : Option (Option Nat) :=
  match P.info? t, P.underlying t with
  | some i, some (.struct _) => some (some i.size)
  | some i, some (.array _ _) => some (some i.size)
  | some _, some _ => some none
  | _, _ => none

/-- The offset of a field. -/
def fldOf (P : Program) (s : TypeId) (f : Nat) : Option Nat :=
  match P.underlying s with
  | some (.struct fs) => match fs[f]? with
    | some fd => match P.info? fd.type with
      | some i => if i.size = 0 then none else some fd.offset
      | none => none
    | none => none
  | _ => none

/-- A slice: 'some (none, z)', z the element's cells; an array of n: 'some (some n, z)'. -/
def elOf (P : Program) (t : TypeId) : Option (Option Nat × Nat) :=
  match P.underlying t with
  | some (.slice e) => (P.info? e).map fun i => (none, i.size)
  | some (.array n e) => (P.info? e).map fun i => (some n, i.size)
  | _ => none

/-- 1: a string, 2: a slice, 3: bool, 4: an integer type, 0: other. -/
def tk (P : Program) (t : TypeId) : Nat :=
  match P.underlying t with
  | some .string => 1
  | some (.slice _) => 2
  | some .bool => 3
  | some (.int _) => 4
  | _ => 0

def ikOf (P : Program) (t : TypeId) : Option IntKind :=
  match P.underlying t with
  | some (.int k) => some k
  | _ => none

/-- The kinds of a comparable struct's cells: 1 an integer, 2 a boolean, 3 a string. -/
def eqKf (P : Program) (ks : TypeId → Option (List Nat)) : List Field → Nat → Option (List Nat)
  | [], _ => some []
  | f :: l, off =>
    if f.name = "_" ∨ f.offset ≠ off then none else
    match P.info? f.type, ks f.type with
    | some i, some a => if i.size = a.length then (eqKf P ks l (off + a.length)).map (a ++ ·) else none
    | _, _ => none
def eqKs (P : Program) : Nat → TypeId → Option (List Nat)
  | 0, _ => none
  | d + 1, t => match P.underlying t with
    | some .bool => some [2]
    | some (.int _) => some [1]
    | some .string => some [3]
    | some (.struct fs) => if P.stoodInHeld t then none else eqKf P (eqKs P d) fs.toList 0
    | _ => none
def esOf (P : Program) (t : TypeId) : Option (List Nat) :=
  match P.underlying t with
  | some (.struct _) => if P.eqGuardType P.depth t then none else eqKs P 40 t
  | _ => none

/-! ## Values of operations -/

def binI (op : BinOp) (k : IntKind) (a : Int) (k' : IntKind) (b : Int) : Prop × DV :=
  match op with
  | .add => (k = k', .v (.int k (k.wrap (a + b))))
  | .sub => (k = k', .v (.int k (k.wrap (a - b))))
  | .mul => (k = k', .v (.int k (k.wrap (a * b))))
  | .quo => (k = k' ∧ b ≠ 0, .v (.int k (k.wrap (a.tdiv b))))
  | .rem => (k = k' ∧ b ≠ 0, .v (.int k (a.tmod b)))
  | .and => (k = k', .v (.int k (k.wrap (BitVec.ofInt k.bits a &&& BitVec.ofInt k.bits b).toNat)))
  | .or => (k = k', .v (.int k (k.wrap (BitVec.ofInt k.bits a ||| BitVec.ofInt k.bits b).toNat)))
  | .xor => (k = k', .v (.int k (k.wrap (BitVec.ofInt k.bits a ^^^ BitVec.ofInt k.bits b).toNat)))
  | .andNot => (k = k', .v (.int k (k.wrap (BitVec.ofInt k.bits a &&& ~~~ BitVec.ofInt k.bits b).toNat)))
  | .shl => (0 ≤ b, .v (.int k (k.wrap (a * 2 ^ (min b.toNat k.bits)))))
  | .shr => (0 ≤ b, .v (.int k (a.fdiv (2 ^ (min b.toNat k.bits)))))
  | .eql => (k = k', .v (.bool (a == b)))
  | .neq => (k = k', .v (.bool (a != b)))
  | .lss => (k = k', .v (.bool (decide (a < b))))
  | .leq => (k = k', .v (.bool (decide (a ≤ b))))
  | .gtr => (k = k', .v (.bool (decide (b < a))))
  | .geq => (k = k', .v (.bool (decide (b ≤ a))))

def binS (op : BinOp) (a b : ByteArray) : Prop × DV :=
  match op with
  | .add => (a.size + b.size ≤ maxLen, .v (.string (a ++ b)))
  | .eql => (True, .v (.bool (a.toList == b.toList)))
  | .neq => (True, .v (.bool !(a.toList == b.toList)))
  | .lss => (True, .v (.bool (Op.bytesLess a.toList b.toList)))
  | .leq => (True, .v (.bool (Op.bytesLess a.toList b.toList || a.toList == b.toList)))
  | .gtr => (True, .v (.bool !(Op.bytesLess a.toList b.toList || a.toList == b.toList)))
  | .geq => (True, .v (.bool !(Op.bytesLess a.toList b.toList)))
  | _ => (False, .any)

def binB (k : Nat) (op : BinOp) (a b : Bool) : Prop × DV :=
  match op with
  | .eql => (k = 3, .v (.bool (a == b)))
  | .neq => (k = 3, .v (.bool !(a == b)))
  | _ => (False, .any)

def eqL : List Nat → List DV → List DV → Prop × Bool
  | [], [], [] => (True, true)
  | 1 :: ks, .v (.int k a) :: cs, .v (.int k' b) :: ds => (k = k' ∧ (eqL ks cs ds).1, (a == b) && (eqL ks cs ds).2)
  | 2 :: ks, .v (.bool a) :: cs, .v (.bool b) :: ds => ((eqL ks cs ds).1, (a == b) && (eqL ks cs ds).2)
  | 3 :: ks, .v (.string a) :: cs, .v (.string b) :: ds => ((eqL ks cs ds).1, (a == b) && (eqL ks cs ds).2)
  | _, _, _ => (False, false)
def binA (es : Option (List Nat)) (op : BinOp) (cs ds : List DV) : Prop × DV :=
  match es, op with
  | some ks, .eql => ((eqL ks cs ds).1, .v (.bool (eqL ks cs ds).2))
  | some ks, .neq => ((eqL ks cs ds).1, .v (.bool !(eqL ks cs ds).2))
  | _, _ => (False, .any)
def binP (es : Option (List Nat)) (k : Nat) (op : BinOp) (x y : DV) : Prop × DV :=
  match x, y with
  | .agg cs, .agg ds => binA es op cs ds
  | .v (.int k a), .v (.int k' b) => binI op k a k' b
  | .v (.string a), .v (.string b) => binS op a b
  | .v (.bool a), .v (.bool b) => binB k op a b
  | _, _ => (False, .any)

def unP (op : UnOp) (x : DV) : Prop × DV :=
  match op, x with
  | .not, .v (.bool b) => (True, .v (.bool !b))
  | .neg, .v (.int k n) => (True, .v (.int k (k.wrap (0 - n))))
  | _, _ => (False, .any)

def lenP (k : Nat) (x : DV) : Prop × DV :=
  match x with
  | .sl _ n _ => (k = 2, .v (.int .i64 n))
  | .own _ n => (k = 2, .v (.int .i64 n))
  | .ez => (k = 2, .v (.int .i64 0))
  | .v (.slice _ n _) => (k = 2, .v (.int .i64 n))
  | .v (.string s) => (k = 1, .v (.int .i64 s.size))
  | _ => (False, .any)

/-- A choice that is known. -/
def pickR (c x y : DV) : Prop × DV :=
  match un c with
  | .v (.bool b) => (match b with
    | true => (match un x with
      | .v (.bool p) => (gd c ∧ gd x, .v (.bool p))
      | _ => (False, .any))
    | false => (match un y with
      | .v (.bool p) => (gd c ∧ gd y, .v (.bool p))
      | _ => (False, .any)))
  | _ => (False, .any)
def pickP (c x y : DV) : Prop × DV :=
  match un c, un x, un y with
  | .v (.bool b), .v (.bool p), .v (.bool q) => (gd c ∧ (b = true → gd x) ∧ (b = false → gd y), .v (.bool (bif b then p else q)))
  | _, _, _ => pickR c x y

/-- n cells from off on, as a struct; or the one cell at off. -/
def cut (ld : Option Nat) (off : Nat) (cs : List DV) : Prop × DV :=
  match ld with
  | none => (off < cs.length, cs.getD off .any)
  | some n => (off + n ≤ cs.length, .agg ((cs.drop off).take n))

def loadB (ld : Option Nat) (off : Nat) (c : DV) : Prop × DV :=
  match c with
  | .bx cs => cut ld off cs
  | _ => (False, .any)
def loadR (ld : Option Nat) (z i off : Nat) (c : DV) : Prop × DV :=
  match c with
  | .row _ z' xs => (z = z' ∧ i < xs.length ∧ (cut ld off (xs.getD i [])).1, (cut ld off (xs.getD i [])).2)
  | _ => (False, .any)

def loadP (ρ : Env) (ld : Option (Option Nat)) (x : DV) : Prop × DV :=
  match ld with
  | none => (False, .any)
  | some ld =>
    match x with
    | .dp cs => cut ld 0 cs
    | .bp s off => loadB ld off (ρ s)
    | .rp s z i off => loadR ld z i off (ρ s)
    | _ => (False, .any)

def fldP (o : Option Nat) (x : DV) : Prop × DV :=
  match o with
  | none => (False, .any)
  | some o =>
    match x with
    | .dp cs => (True, .dp (cs.drop o))
    | .bp s off => (True, .bp s (off + o))
    | .rp s z i off => (True, .rp s z i (off + o))
    | _ => (False, .any)

def idxP (ρ : Env) (el : Option (Option Nat × Nat)) (x i : DV) : Prop × DV :=
  match el, i with
  | some (none, z), .v (.int _ k) =>
    match x with
    | .sl z' n f => (z = z' ∧ 0 ≤ k ∧ k < n, .dp (f k.toNat))
    | .own s n => (0 ≤ k ∧ k < n ∧ ∃ e xs, ρ s = .row e z xs ∧ n ≤ xs.length, .rp s z k.toNat 0)
    | _ => (False, .any)
  | some (some n, z), .v (.int _ k) =>
    match x with
    | .dp cs => (0 ≤ k ∧ k < n, .dp (cs.drop (k.toNat * z)))
    | .bp s off => (0 ≤ k ∧ k < n, .bp s (off + k.toNat * z))
    | .rp s z' j off => (0 ≤ k ∧ k < n, .rp s z' j (off + k.toNat * z))
    | _ => (False, .any)
  | _, _ => (False, .any)

/-- Indexing a value: a string's byte, an array's element. -/
def atP (el : Option (Option Nat × Nat)) (ld : Option (Option Nat)) (k : Nat) (x i : DV) : Prop × DV :=
  match x, i with
  | .v (.string s), .v (.int _ n) => (k = 1 ∧ 0 ≤ n ∧ n < s.size, .v (.int .u8 (s.data.getD n.toNat 0).toNat))
  | _, _ => (False, .any)

def subP (ρ : Env) (el : Option (Option Nat × Nat)) (k : Nat) (x : DV) (lo hi : Option DV) : Prop × DV :=
  match lo, hi with
  | none, none => (match x with | .sl z _ _ => (k = 2 ∧ el = some (none, z), x) | _ => (False, .any))
  | some (.v (.int _ a)), none =>
    (match x, el with
    | .sl z n f, some (none, z') => (z = z' ∧ 0 ≤ a ∧ a ≤ n, .sl z (n - a.toNat) fun i => f (a.toNat + i))
    | .v (.string s), _ => (k = 1 ∧ 0 ≤ a ∧ a ≤ s.size, .v (.string (s.extract a.toNat s.size)))
    | _, _ => (False, .any))
  | none, some (.v (.int _ b)) =>
    (match x, el with
    | .sl z n f, some (none, z') => (z = z' ∧ 0 ≤ b ∧ b ≤ n, .sl z b.toNat f)
    | .v (.string s), _ => (k = 1 ∧ 0 ≤ b ∧ b ≤ s.size, .v (.string (s.extract 0 b.toNat)))
    | .own s n, some (none, _) => (0 ≤ b ∧ b ≤ n ∧ ∃ e z xs, ρ s = .row e z xs ∧ n ≤ xs.length, .own s b.toNat)
    | _, _ => (False, .any))
  | some (.v (.int _ a)), some (.v (.int _ b)) =>
    (match x, el with
    | .sl z n f, some (none, z') => (z = z' ∧ 0 ≤ a ∧ a ≤ b ∧ b ≤ n, .sl z (b.toNat - a.toNat) fun i => f (a.toNat + i))
    | .v (.string s), _ => (k = 1 ∧ 0 ≤ a ∧ a ≤ b ∧ b ≤ s.size, .v (.string (s.extract a.toNat b.toNat)))
    | _, _ => (False, .any))
  | _, _ => (False, .any)

def convP (k : Option IntKind) (x : DV) : Prop × DV :=
  match k, x with
  | some k, .v (.int _ n) => (True, .v (.int k (k.wrap n)))
  | _, _ => (False, .any)

def extP (x : DV) (i : Nat) : Prop × DV :=
  match x with
  | .tup cs => (i < cs.length, cs.getD i .any)
  | _ => (False, .any)

def nilP (x : DV) : Prop × DV :=
  match x with
  | .dp cs => (True, .dp cs)
  | .bp s o => (True, .bp s o)
  | .rp s z i o => (True, .rp s z i o)
  | .fn f a b => (True, .fn f a b)
  | _ => (False, .any)

def maxI : List DV → Prop × DV
  | [.v (.int k a), .v (.int k' b)] => (k = k', .v (.int k (if b > a then b else a)))
  | _ => (False, .any)
def minI : List DV → Prop × DV
  | [.v (.int k a), .v (.int k' b)] => (k = k', .v (.int k (if b < a then b else a)))
  | _ => (False, .any)

def bltP (P : Program) (ρ : Env) (b : Builtin) (args : List Operand) (ts : List TypeId) : Prop × DV :=
  match b, args, ts with
  | .len, [x], [t] => (gd (ev ρ x) ∧ (lenP (tk P t) (un (ev ρ x))).1, (lenP (tk P t) (un (ev ρ x))).2)
  | .max, [x, y], _ => ((gd (ev ρ x) ∧ gd (ev ρ y)) ∧ (maxI [un (ev ρ x), un (ev ρ y)]).1, (maxI [un (ev ρ x), un (ev ρ y)]).2)
  | .min, [x, y], _ => ((gd (ev ρ x) ∧ gd (ev ρ y)) ∧ (minI [un (ev ρ x), un (ev ρ y)]).1, (minI [un (ev ρ x), un (ev ρ y)]).2)
  | _, _, _ => (False, .any)

def callP (P : Program) (ρ : Env) (c : Call) : Prop × DV :=
  match c.callee with
  | .builtin b => bltP P ρ b c.args.toList c.argTypes.toList
  | _ => (False, .any)

def fnP (ρ : Env) (fn : Fn) (first captured : List Operand) : Prop × DV :=
  match fn with
  | .func f => ((∀ x ∈ first, gd (ev ρ x)) ∧ ∀ x ∈ captured, gd (ev ρ x), .fn f (first.map fun x => un (ev ρ x)) (captured.map fun x => un (ev ρ x)))
  | _ => (False, .any)

/-- What is owed, and what is given. -/
def opP (P : Program) (ρ : Env) : Op → Prop × DV
  | .move x => (gd (ev ρ x), un (ev ρ x))
  | .assign x => (gd (ev ρ x), un (ev ρ x))
  | .pick c a b => pickP (ev ρ c) (ev ρ a) (ev ρ b)
  | .load t x => (gd (ev ρ x) ∧ (loadP ρ (ldOf P t) (un (ev ρ x))).1, (loadP ρ (ldOf P t) (un (ev ρ x))).2)
  | .nilCheck x => (gd (ev ρ x) ∧ (nilP (un (ev ρ x))).1, (nilP (un (ev ρ x))).2)
  | .binOp op t x y _ => ((gd (ev ρ x) ∧ gd (ev ρ y)) ∧ (binP (esOf P t) (tk P t) op (un (ev ρ x)) (un (ev ρ y))).1, (binP (esOf P t) (tk P t) op (un (ev ρ x)) (un (ev ρ y))).2)
  | .unOp op _ x => (gd (ev ρ x) ∧ (unP op (un (ev ρ x))).1, (unP op (un (ev ρ x))).2)
  | .convert s t x => ((gd (ev ρ x) ∧ (P.underlying s).isSome = true) ∧ (convP (ikOf P t) (un (ev ρ x))).1, (convP (ikOf P t) (un (ev ρ x))).2)
  | .fieldAddr s x f => (gd (ev ρ x) ∧ (fldP (fldOf P s f) (un (ev ρ x))).1, (fldP (fldOf P s f) (un (ev ρ x))).2)
  | .indexAddr t x i => ((gd (ev ρ x) ∧ gd (ev ρ i)) ∧ (idxP ρ (elOf P t) (un (ev ρ x)) (un (ev ρ i))).1, (idxP ρ (elOf P t) (un (ev ρ x)) (un (ev ρ i))).2)
  | .index t x i => ((gd (ev ρ x) ∧ gd (ev ρ i)) ∧ (atP (elOf P t) (ldOf P t) (tk P t) (un (ev ρ x)) (un (ev ρ i))).1, (atP (elOf P t) (ldOf P t) (tk P t) (un (ev ρ x)) (un (ev ρ i))).2)
  | .slice t x lo hi none => ((gd (ev ρ x) ∧ (∀ y ∈ lo, gd (ev ρ y)) ∧ ∀ y ∈ hi, gd (ev ρ y)) ∧ (subP ρ (elOf P t) (tk P t) (un (ev ρ x)) (lo.map fun y => un (ev ρ y)) (hi.map fun y => un (ev ρ y))).1,
      (subP ρ (elOf P t) (tk P t) (un (ev ρ x)) (lo.map fun y => un (ev ρ y)) (hi.map fun y => un (ev ρ y))).2)
  | .extract x i => (gd (ev ρ x) ∧ (extP (un (ev ρ x)) i).1, (extP (un (ev ρ x)) i).2)
  | .makeFunc fn first captured => fnP ρ fn first.toList captured.toList
  | .call c => callP P ρ c
  | _ => (False, .any)

end Go.Sg
