/- Several texts as one. -/
import Derived.Below
import Derived.ChangeKeysEq
import Derived.Deep.LoopGhost
import Derived.KernelRfl
import Derived.Laws.Cells
import Derived.Laws.CopyRow
import Derived.Laws.Entries
import Derived.Laws.World
import Derived.Maps.AppendAt
import Derived.OrdersIn
import Derived.RangeFuncLeaves
import Derived.Sort.LoopGhostIn
import Derived.TacticsIn
set_option linter.unusedSectionVars false
set_option linter.unusedVariables false
set_option linter.unusedSimpArgs false
set_option linter.defProp false
namespace Go
def cP:= @And.intro
def aZw:= @Array.eq_empty_of_size_eq_zero
def aJm:= @Array.ext'
def oB:= @Array.getD_eq_getD_getElem?
def bCm:= @Array.getElem?_append
def iY:= @Array.getElem?_eq_getElem
def aJt:= @Array.getElem?_eq_none
def aZy:= @Array.getElem?_eq_some_iff
def aZi:= @Array.getElem?_map
def bOr:= @Array.getElem?_replicate
def aBx:= @Array.getElem?_setIfInBounds
def kK:= @Array.getElem?_toList
def xT:= @Array.length_toList
def tQ:= @Array.mem_of_getElem?
def bPk:= @Array.setIfInBounds_comm
def cD:= @Bool.and_eq_true
def aBt:= @Bool.and_false
def rE:= @Bool.eq_iff_iff
def aYa:= @Bool.false_and
def aQs:= @Bool.false_eq_true
def vE:= @Bool.false_or
def aPy:= @Bool.not_eq_false'
def rL:= @Bool.not_eq_true
def mH:= @Bool.not_eq_true'
def uL:= @Bool.or_eq_false_iff
def pQ:= @Bool.or_eq_true
def zG:= @Bool.true_and
def aIp:= @Classical.byContradiction
def zY:= @Classical.not_not
def yG:= @Int.toNat_natCast
def dI:= @List.all_eq_true
def aQr:= @List.any_cons
def tB:= @List.append_assoc
def kZ:= @List.append_nil
def wA:= @List.cons_append
def aQt:= @List.contains_iff_mem
def xW:= @List.drop_drop
def aMf:= @List.drop_eq_getElem_cons
def iP:= @List.drop_zero
def nN:= @List.eq_nil_of_length_eq_zero
def yN:= @List.filter_append
def zW:= @List.filter_cons
def aQc:= @List.findIdx_cons
def aBl:= @List.flatMap_append
def aIh:= @List.flatMap_cons
def aVw:= @List.foldl_append
def aNh:= @List.foldl_cons
def oK:= @List.getD_cons_succ
def oS:= @List.getD_cons_zero
def cA:= @List.getD_eq_getElem?_getD
def pH:= @List.getD_nil
def tH:= @List.getElem?_append
def bVy:= @List.getElem?_append_left
def aYl:= @List.getElem?_append_right
def aEd:= @List.getElem?_cons_succ
def sC:= @List.getElem?_drop
def cH:= @List.getElem?_eq_getElem
def fN:= @List.getElem?_eq_none
def oJ:= @List.getElem?_eq_some_iff
def dG:= @List.getElem?_map
def aEa:= @List.getElem?_of_mem
def p9:= @List.getElem?_range
def oR:= @List.getElem?_take
def xR:= @List.getElem?_toArray
def xY:= @List.getElem_mem
def fP:= @List.length_append
def qH:= @List.length_cons
def aMa:= @List.length_drop
def aIq:= @List.length_eq_zero_iff
def aHv:= @List.length_filter_le
def cJ:= @List.length_map
def aPq:= @List.length_nil
def aDh:= @List.length_set
def aBo:= @List.length_singleton
def iO:= @List.length_take
def aBu:= @List.length_take_le
def aXi:= @List.mapM_cons
def aWg:= @List.mapM_toArray
def eM:= @List.map_append
def zP:= @List.map_congr_left
def kH:= @List.map_cons
def sI:= @List.map_nil
def iV:= @List.mem_append
def gN:= @List.mem_cons
def aIn:= @List.mem_filter
def y1:= @List.mem_flatMap
def aOl:= @List.mem_iff_getElem
def dZ:= @List.mem_map
def pP:= @List.mem_of_getElem?
def bHi:= @List.mem_of_mem_take
def gU:= @List.mem_range
def lH:= @List.mem_singleton
def yS:= @List.nil_append
def nO:= @List.nodup_append
def aXa:= @List.nodup_cons
def aHu:= @List.not_mem_nil
def oI:= @List.pairwise_append
def lZ:= @List.pairwise_cons
def aFj:= @List.pairwise_iff_getElem
def xS:= @List.range_succ
def u6:= @List.take_append_drop
def iL:= @List.take_length
def jD:= @List.take_of_length_le
def aHc:= @List.take_succ_cons
def yU:= @Nat.add_assoc
def xN:= @Nat.add_sub_cancel
def iD:= @Nat.add_zero
def nL:= @Nat.eq_zero_or_pos
def aBz:= @Nat.le_of_lt_succ
def bW:= @Nat.le_refl
def xJ:= @Nat.le_succ
def eL:= @Nat.le_trans
def eE:= @Nat.lt_of_lt_of_le
def uU:= @Nat.lt_or_eq_of_le
def b9:= @Nat.lt_or_ge
def qP:= @Nat.min_eq_left
def aGy:= @Nat.mod_eq_of_lt
def oE:= @Nat.mul_comm
def gF:= @Nat.mul_le_mul_right
def aKv:= @Nat.not_lt_zero
def jV:= @Nat.succ_mul
def gH:= @Nat.zero_add
def nJ:= @Nat.zero_le
def fC:= @Ne.symm
def iE:= @Option.getD_some
def aMk:= @Option.isNone_some
def nQ:= @Option.isSome_iff_exists
def gC:= @Option.map_eq_some_iff
def gG:= @Option.map_some
def dO:= @Option.some.inj
def bX:= @Option.some.injEq
def cF:= @Prod.mk.injEq
def jC:= @and_true
def oF:= @beq_eq_false_iff_ne
def mV:= @beq_iff_eq
def fI:= @cond_false
def gR:= @cond_true
def e9:= @decide_eq_false
def tD:= @decide_eq_false_iff_not
def dF:= @decide_eq_true
def dR:= @decide_eq_true_eq
def rU:= @getElem!_pos
def s7:= @if_false
def aLh:= @of_decide_eq_false
def dK:= @of_decide_eq_true
def jE:= @true_and
theorem bF {p:Prop} (h:p:=by kernel_rfl):p:=h
theorem aV {p:Prop} (h:p:=by omega):p:=h
theorem dH {p:Prop} (h:p:=by simp):p:=h
theorem eN {p:Prop} (h:p:=by decide):p:=h
end Go
namespace Go.Sg
theorem aGo {α:Type}: ∀(m:Ask α) (w:World),w.drawn<=(w.ask m).2.drawn
 | .done a,w=>bW _
 | .ask what range k,w=>by
  unfold World.ask;simp only;split
  ·exact aGo (k 0) w
  exact eL (xJ _) (aGo (k _) {w with drawn:=w.drawn+1})
theorem bIk (w:World) (c:Sys):w.drawn<=(w.sys c).2.drawn:=by
 have:=aGo (Kernel.perform c w.os) w;unfold World.sys;split
 ·exact bW _
 rename_i h;rw[h] at this;exact this
theorem bBn {p:Program} {w:World} {at_:Addr} {u:TypeId} {k:Addr} {v:Value} {b:Bool} {r:World×List Addr} (h:w.viewStore p at_ u k v b=.ok r):r.1.drawn=w.drawn:=by
 unfold World.viewStore at h;simp only[bind,Except.bind,pure,Except.pure] at h
 repeat' split at h
 all_goals first|(cases h;done)|(cases h;rfl)|skip
theorem g9 {P:Program} {α:Type}: ∀(m:Sem α) {w w':World} {r:α},m.run P w=.ok r w'->w.drawn<=w'.drawn
 | .pure a,w,w',r,h=>by cases h;exact bW _
 | .load m a k,w,w',r,h=>by
  unfold Sem.run at h;split at h
  ·exact g9 (k _) h
  split at h
  ·exact g9 (k _) h
  cases h
 | .store m a v k,w,w',r,h=>by
  have key:(match w.cell? a with
   |some _=>if w.frozen? a then Result.halt (.unsupported (.unsafePointer "a write to bytes that a string shares")) w else k.run P (w.setCell a v)
   |none=>match w.farStore P a v (m==Mode.atomic) with
    | .ok (w,_)=>k.run P w
    | .error h=>.halt h w)=.ok r w'->w.drawn<=w'.drawn:=fun h=>by
   split at h
   ·split at h
    ·cases h
    exact g9 k (w:=w.setCell a v) h
   split at h
   ·rename_i w2 _ hf;have h2:=g9 k h;unfold World.farStore at hf;split at hf
    ·split at hf
     ·rename_i r2 hv;cases hf;have:=bBn hv;simp only at this;omega
     cases hf
    cases hf
   cases h
  cases v<;>first|exact key h|(cases h;done)
 | .new o k,w,w',r,h=>g9 (k _) (w:={w with heap:=w.heap.push o}) h
 | .shape q k,w,w',r,h=>g9 (k _) (w:=w) h
 | .freeze a n k,w,w',r,h=>by
  have h2:=g9 k (w:=w.freeze a n) h;have:(w.freeze a n).drawn=w.drawn:=by unfold World.freeze;split<;>rfl
  omega
 | .frozen a k,w,w',r,h=>g9 (k _) (w:=w) h
 | .getObj q k,w,w',r,h=>by
  unfold Sem.run at h;split at h
  ·cases h
  ·exact g9 (k _) h
  cases h
 | .setObj q o k,w,w',r,h=>by
  unfold Sem.run at h;split at h
  ·cases h
  ·exact g9 k (w:={w with heap:=w.heap.setIfInBounds q o}) h
  cases h
 | .choose q k,w,w',r,h=>by
  unfold Sem.run at h;split at h
  ·exact g9 (k 0) h
  exact eL (xJ _) (g9 (k _) (w:={w with drawn:=w.drawn+1}) h)
 | .sys c k,w,w',r,h=>eL (bIk w c) (g9 (k _) (w:=(w.sys c).2) h)
 | .program k,w,w',r,h=>g9 (k P) (w:=w) h
 | .mark m k,w,w',r,h=>g9 k (w:=w) h
 | .halt h,w,w',r,hh=>by cases hh
inductive DV where
 |any
 |v (x:Value)
 |sl (z n:Nat) (f:Nat->List DV)
 |agg (cs:List DV)
 |tup (cs:List DV)
 |dp (cs:List DV)
 |bp (s off:Nat)
 |own (s n:Nat)
 |rp (s z i off:Nat)
 |fn (f:FuncId) (first captured:List DV)
 |iface (t:TypeId) (x:DV)
 |cond (g:Bool) (x:DV)
 |bx (cs:List DV)
 |row (e:TypeId) (z:Nat) (xs:List (List DV))
 |mr (s:Nat)
 |ez
 |mo (es:List (Value×Value))
instance:Inhabited DV:=⟨.any⟩
abbrev aN:=Nat->DV
abbrev dD:=Nat->Option (Option Nat×Nat)
abbrev fO:dD:=fun _=>none
mutual
def fL (p:Nat->Bool):DV->Bool
 | .agg cs=>d6 p cs
 | .tup cs=>d6 p cs
 | .bp s _=>p s
 | .own s _=>p s
 | .rp s _ _ _=>p s
 | .mr s=>p s
 | .fn _ a b=>d6 p a&&d6 p b
 | .iface _ x=>fL p x
 | .cond _ x=>fL p x
 | .bx cs=>d6 p cs
 |_=>true
def d6 (p:Nat->Bool):List DV->Bool
 | []=>true
 |d::l=>fL p d&&d6 p l
end
mutual
def yF (k:Nat->Nat):DV->DV
 | .agg cs=>.agg (kT k cs)
 | .tup cs=>.tup (kT k cs)
 | .bp s o=>.bp (k s) o
 | .own s n=>.own (k s) n
 | .rp s z i o=>.rp (k s) z i o
 | .fn f a b=>.fn f (kT k a) (kT k b)
 | .iface t x=>.iface t (yF k x)
 | .cond g x=>.cond g (yF k x)
 | .bx cs=>.bx (kT k cs)
 | .any=>.any
 | .v x=>.v x
 | .sl z n f=>.sl z n f
 | .dp cs=>.dp cs
 | .row e z xs=>.row e z xs
 | .mr s=>.mr (k s)
 | .ez=>.ez
 | .mo es=>.mo es
def kT (k:Nat->Nat):List DV->List DV
 | []=>[]
 |d::l=>yF k d::kT k l
end
theorem oA (k:Nat->Nat) (l:List DV):kT k l=l.map (yF k):=by
 induction l with
 |nil=>rfl
 |cons d l ih=>simp[kT,ih]
theorem pD (p:Nat->Bool) (l:List DV):d6 p l=true↔ ∀d∈l,fL p d=true:=by
 induction l with
 |nil=>simp[d6]
 |cons d l ih=>simp[d6,ih]
theorem gZ {p:Nat->Bool} {l:List DV} (h:d6 p l=true) {j:Nat} {d:DV} (hj:l[j]?=some d):fL p d=true:=
 (pD p l).1 h d (pP hj)
def mU (B:Option Nat) (b:Option Addr):Prop:= ∀g,B=some g->b=some ⟨g,0,none⟩
theorem iX {g:Nat} {b:Option Addr} (h:mU (some g) b):b=some ⟨g,0,none⟩:=h g rfl
theorem sY (g:Nat):mU (Option.some g) (Option.some ⟨g,0,Option.none⟩):=fun _ h=>by cases h;rfl
theorem lY (b:Option Addr):mU none b:=fun _ h=>by cases h
inductive bP (w:World) (I:Nat->Prop):dD->DV->Value->Prop
 |any (A:dD) (x:Value):bP w I A .any x
 |v (A:dD) (x:Value):bP w I A (.v x) x
 |sl0 (A:dD) (z:Nat) (f:Nat->List DV) (b:Option Addr) (c:Nat):bP w I A (.sl z 0 f) (.slice b 0 c)
 |sl (A:dD) (z n:Nat) (f:Nat->List DV) (b o c:Nat) (us:Nat->Nat->Value) (hn:0<n) (hc:n<=c) (hm:c<=maxLen) (hI:I b)
   (hz: ∀i,i<n->(f i).length=z) (hcell: ∀i j,i<n->j<z->w.cell? ⟨b,o+(i*z+j),none⟩=some (us i j))
   (hone: ∀i j,i<n->j<z->(us i j).oneCell'=true) (hrel: ∀i j d,i<n->(f i)[j]?=some d->bP w I fO d (us i j)):
   bP w I A (.sl z n f) (.slice (some ⟨b,o,none⟩) n c)
 |agg (A:dD) (cs:List DV) (vs:Array Value) (hl:cs.length=vs.size) (hone: ∀u∈vs.toList,u.oneCell'=true)
   (hrel: ∀(j:Nat) (d:DV) (u:Value),cs[j]?=some d->vs[j]?=some u->bP w I A d u):bP w I A (.agg cs) (.agg vs)
 |tup (A:dD) (cs:List DV) (vs:Array Value) (hl:cs.length=vs.size)
   (hrel: ∀(j:Nat) (d:DV) (u:Value),cs[j]?=some d->vs[j]?=some u->bP w I A d u):bP w I A (.tup cs) (.tuple vs)
 |dp (A:dD) (cs:List DV) (b o:Nat) (us:Nat->Value) (hI:I b) (hcell: ∀j,j<cs.length->w.cell? ⟨b,o+j,none⟩=some (us j))
   (hone: ∀j,j<cs.length->(us j).oneCell'=true) (hrel: ∀(j:Nat) (d:DV),cs[j]?=some d->bP w I fO d (us j)):bP w I A (.dp cs) (.pointer (some ⟨b,o,none⟩))
 |bp (A:dD) (s off g c:Nat) (h:A s=some (some g,c)):bP w I A (.bp s off) (.pointer (some ⟨g,off,none⟩))
 |own (A:dD) (s n:Nat) (B:Option Nat) (c:Nat) (b:Option Addr) (h:A s=some (B,c)) (hb:mU B b):bP w I A (.own s n) (.slice b n c)
 |rp (A:dD) (s z i off g c:Nat) (h:A s=some (some g,c)):bP w I A (.rp s z i off) (.pointer (some ⟨g,i*z+off,none⟩))
 |fn (A:dD) (f:FuncId) (fs cs:List DV) (us vs:Array Value) (hf:fs.length=us.size) (hc:cs.length=vs.size)
   (hfr: ∀(j:Nat) (d:DV) (u:Value),fs[j]?=some d->us[j]?=some u->bP w I A d u)
   (hcr: ∀(j:Nat) (d:DV) (u:Value),cs[j]?=some d->vs[j]?=some u->bP w I A d u):bP w I A (.fn f fs cs) (.func (.func f) us vs)
 |iface (A:dD) (t:TypeId) (d:DV) (x:Value) (h:bP w I A d x):bP w I A (.iface t d) (.iface t x)
 |mr (A:dD) (s g c:Nat) (h:A s=some (some g,c)):bP w I A (.mr s) (.map (some g))
 |ez (A:dD) (b:Option Addr):bP w I A .ez (.slice b 0 0)
theorem bP.mono {w w':World} {I I':Nat->Prop} {A:dD} {d:DV} {x:Value} (h:bP w I A d x)
  (hk: ∀g,I g->I' g/\ ∀o,w'.cell? ⟨g,o,none⟩=w.cell? ⟨g,o,none⟩):bP w' I' A d x:=by
 induction h with
 |any A x=>exact .any A x
 |v A x=>exact .v A x
 |sl0 A z f b c=>exact .sl0 A z f b c
 |sl A z n f b o c us hn hc hm hI hz hcell hone hrel ih=>
  exact .sl A z n f b o c us hn hc hm (hk _ hI).1 hz (fun i j hi hj=>((hk _ hI).2 _).trans (hcell i j hi hj)) hone ih
 |agg A cs vs hl hone hrel ih=>exact .agg A cs vs hl hone ih
 |tup A cs vs hl hrel ih=>exact .tup A cs vs hl ih
 |dp A cs b o us hI hcell hone hrel ih=>exact .dp A cs b o us (hk _ hI).1 (fun j hj=>((hk _ hI).2 _).trans (hcell j hj)) hone ih
 |bp A s off g c h=>exact .bp A s off g c h
 |own A s n B c b h hb=>exact .own A s n B c b h hb
 |rp A s z i off g c h=>exact .rp A s z i off g c h
 |fn A f fs cs us vs hf hc hfr hcr ih1 ih2=>exact .fn A f fs cs us vs hf hc ih1 ih2
 |iface A t d x h ih=>exact .iface A t d x ih
 |mr A s g c h=>exact .mr A s g c h
 |ez A b=>exact .ez A b
theorem bP.congrA {w:World} {I:Nat->Prop} {A A':dD} {d:DV} {x:Value} (h:bP w I A d x) (p:Nat->Bool) (hp:fL p d=true)
  (ha: ∀s,p s=true->A' s=A s):bP w I A' d x:=by
 induction h with
 |any A x=>exact .any A' x
 |v A x=>exact .v A' x
 |sl0 A z f b c=>exact .sl0 A' z f b c
 |sl A z n f b o c us hn hc hm hI hz hcell hone hrel ih=>exact .sl A' z n f b o c us hn hc hm hI hz hcell hone hrel
 |agg A cs vs hl hone hrel ih=>exact .agg A' cs vs hl hone fun j d u hd hu=>ih j d u hd hu (gZ (by simpa[fL] using hp) hd) ha
 |tup A cs vs hl hrel ih=>exact .tup A' cs vs hl fun j d u hd hu=>ih j d u hd hu (gZ (by simpa[fL] using hp) hd) ha
 |dp A cs b o us hI hcell hone hrel ih=>exact .dp A' cs b o us hI hcell hone hrel
 |bp A s off g c h=>exact .bp A' s off g c ((ha s (by simpa[fL] using hp)).trans h)
 |own A s n B c b h hb=>exact .own A' s n B c b ((ha s (by simpa[fL] using hp)).trans h) hb
 |rp A s z i off g c h=>exact .rp A' s z i off g c ((ha s (by simpa[fL] using hp)).trans h)
 |fn A f fs cs us vs hf hc hfr hcr ih1 ih2=>
  simp only[fL,cD] at hp;exact .fn A' f fs cs us vs hf hc (fun j d u hd hu=>ih1 j d u hd hu (gZ hp.1 hd) ha) fun j d u hd hu=>ih2 j d u hd hu (gZ hp.2 hd) ha
 |iface A t d x h ih=>exact .iface A' t d x (ih (by simpa[fL] using hp) ha)
 |mr A s g c h=>exact .mr A' s g c ((ha s (by simpa[fL] using hp)).trans h)
 |ez A b=>exact .ez A' b
theorem bP.pure {w:World} {I:Nat->Prop} {A A':dD} {d:DV} {x:Value} (h:bP w I A d x) (hp:fL (fun _=>false) d=true):bP w I A' d x:=
 h.congrA (fun _=>false) hp fun _ h=>by cases h
theorem bP.ofNoOwn {w:World} {I:Nat->Prop} {A:dD} {d:DV} {x:Value} (h:bP w I fO d x):bP w I A d x:=by
 generalize hN:fO=N at h
 induction h with
 |any A' x=>exact .any A x
 |v A' x=>exact .v A x
 |sl0 A' z f b c=>exact .sl0 A z f b c
 |sl A' z n f b o c us hn hc hm hI hz hcell hone hrel ih=>exact .sl A z n f b o c us hn hc hm hI hz hcell hone hrel
 |agg A' cs vs hl hone hrel ih=>exact .agg A cs vs hl hone fun j d u hd hu=>ih j d u hd hu hN
 |tup A' cs vs hl hrel ih=>exact .tup A cs vs hl fun j d u hd hu=>ih j d u hd hu hN
 |dp A' cs b o us hI hcell hone hrel ih=>exact .dp A cs b o us hI hcell hone hrel
 |bp A' s off g c h=>subst hN;cases h
 |own A' s n B c b h hb=>subst hN;cases h
 |rp A' s z i off g c h=>subst hN;cases h
 |fn A' f fs cs us vs hf hc hfr hcr ih1 ih2=>exact .fn A f fs cs us vs hf hc (fun j d u hd hu=>ih1 j d u hd hu hN) fun j d u hd hu=>ih2 j d u hd hu hN
 |iface A' t d x h ih=>exact .iface A t d x (ih hN)
 |mr A' s g c h=>subst hN;cases h
 |ez A' b=>exact .ez A b
theorem oU {k:Nat->Nat} {l:List DV} {j:Nat} {d:DV} (h:(kT k l)[j]?=some d): ∃d',l[j]?=some d'/\d=yF k d':=by
 rw[oA,dG] at h;cases hl:l[j]? with
 |none=>simp[hl] at h
 |some d'=>simp[hl] at h;exact⟨d',rfl,h.symm⟩
theorem mM {k:Nat->Nat} {l:List DV} {j:Nat} {d:DV} (h:l[j]?=some d):(kT k l)[j]?=some (yF k d):=by
 rw[oA,dG,h];rfl
theorem bP.rename {w:World} {I:Nat->Prop} {A:dD} {k:Nat->Nat} {d:DV} {x:Value} {A':dD} (h:bP w I A' d x) (hA: ∀s,A (k s)=A' s):bP w I A (yF k d) x:=by
 induction h with
 |any A' x=>exact .any A x
 |v A' x=>exact .v A x
 |sl0 A' z f b c=>exact .sl0 A z f b c
 |sl A' z n f b o c us hn hc hm hI hz hcell hone hrel ih=>exact .sl A z n f b o c us hn hc hm hI hz hcell hone hrel
 |agg A' cs vs hl hone hrel ih=>
  refine .agg A _ vs (by rw[oA,cJ];exact hl) hone fun j d u hd hu=>?_;obtain⟨d',h1,rfl⟩:=oU hd;exact ih j d' u h1 hu hA
 |tup A' cs vs hl hrel ih=>
  refine .tup A _ vs (by rw[oA,cJ];exact hl) fun j d u hd hu=>?_;obtain⟨d',h1,rfl⟩:=oU hd;exact ih j d' u h1 hu hA
 |dp A' cs b o us hI hcell hone hrel ih=>exact .dp A cs b o us hI hcell hone hrel
 |bp A' s off g c h=>exact .bp A (k s) off g c ((hA s).trans h)
 |own A' s n B c b h hb=>exact .own A (k s) n B c b ((hA s).trans h) hb
 |rp A' s z i off g c h=>exact .rp A (k s) z i off g c ((hA s).trans h)
 |fn A' f fs cs us vs hf hc hfr hcr ih1 ih2=>
  refine .fn A f _ _ us vs (by rw[oA,cJ];exact hf) (by rw[oA,cJ];exact hc) (fun j d u hd hu=>?_) fun j d u hd hu=>?_
  ·obtain⟨d',h1,rfl⟩:=oU hd;exact ih1 j d' u h1 hu hA
  obtain⟨d',h1,rfl⟩:=oU hd;exact ih2 j d' u h1 hu hA
 |iface A' t d x h ih=>exact .iface A t _ x (ih hA)
 |mr A' s g c h=>exact .mr A (k s) g c ((hA s).trans h)
 |ez A' b=>exact .ez A b
theorem bP.unname {w:World} {I:Nat->Prop} {A:dD} {k:Nat->Nat} {e:DV} {x:Value} (h:bP w I A e x): ∀d,e=yF k d->bP w I (fun s=>A (k s)) d x:=by
 induction h with
 |any A x=>intro d hd;cases d<;>simp[yF] at hd;exact .any _ x
 |v A x=>intro d hd;cases d<;>simp[yF] at hd;subst hd;exact .v _ _
 |sl0 A z f b c=>
  intro d hd;cases d<;>simp[yF] at hd;obtain⟨rfl,rfl,rfl⟩:=hd;exact .sl0 _ _ _ b c
 |sl A z n f b o c us hn hc hm hI hz hcell hone hrel ih=>
  intro d hd;cases d<;>simp[yF] at hd;obtain⟨rfl,rfl,rfl⟩:=hd;exact .sl _ _ _ _ b o c us hn hc hm hI hz hcell hone hrel
 |agg A cs vs hl hone hrel ih=>
  intro d hd;cases d<;>simp[yF] at hd;subst hd;refine .agg _ _ vs (by rw[oA,cJ] at hl;exact hl) hone fun j d u hd hu=>ih j _ u (mM hd) hu d rfl
 |tup A cs vs hl hrel ih=>
  intro d hd;cases d<;>simp[yF] at hd;subst hd;refine .tup _ _ vs (by rw[oA,cJ] at hl;exact hl) fun j d u hd hu=>ih j _ u (mM hd) hu d rfl
 |dp A cs b o us hI hcell hone hrel ih=>
  intro d hd;cases d<;>simp[yF] at hd;subst hd;exact .dp _ _ b o us hI hcell hone hrel
 |bp A s off g c h=>
  intro d hd;cases d<;>simp[yF] at hd;obtain⟨rfl,rfl⟩:=hd;exact .bp _ _ _ g c h
 |own A s n B c b h hb=>
  intro d hd;cases d<;>simp[yF] at hd;obtain⟨rfl,rfl⟩:=hd;exact .own _ _ _ B c b h hb
 |rp A s z i off g c h=>
  intro d hd;cases d<;>simp[yF] at hd;obtain⟨rfl,rfl,rfl,rfl⟩:=hd;exact .rp _ _ _ _ _ g c h
 |fn A f fs cs us vs hf hc hfr hcr ih1 ih2=>
  intro d hd;cases d<;>simp[yF] at hd;obtain⟨rfl,rfl,rfl⟩:=hd;rw[oA,cJ] at hf hc;exact .fn _ _ _ _ us vs hf hc (fun j d u hd hu=>ih1 j _ u (mM hd) hu d rfl) fun j d u hd hu=>ih2 j _ u (mM hd) hu d rfl
 |iface A t d' x h ih=>
  intro d hd;cases d<;>simp[yF] at hd;obtain⟨rfl,rfl⟩:=hd;exact .iface _ _ _ x (ih _ rfl)
 |mr A s g c h=>
  intro d hd;cases d<;>simp[yF] at hd;subst hd;exact .mr _ _ g c h
 |ez A b=>intro d hd;cases d<;>simp[yF] at hd;exact .ez _ b
def bFq:Array Value:= #[.int .i64 1,.int .i64 0,.int .i64 1,.int .i64 0,.int .i64 1,.int .i64 1,.int .i64 0,.int .i64 0,.int .i64 2,.int .i64 0,.int .i64 1,.int .i64 1,.int .i64 2,.int .i64 0,.int .i64 2,.int .i64 2,.int .i64 2,.int .i64 1,.int .i64 0,.int .i64 1,.int .i64 2,.int .i64 2,.int .i64 0,.int .i64 2,.int .i64 3,.int .i64 0,.int .i64 1,.int .i64 0,.int .i64 3,.int .i64 1,.int .i64 0,.int .i64 0,.int .i64 3,.int .i64 2,.int .i64 3,.int .i64 0,.int .i64 3,.int .i64 3,.int .i64 2,.int .i64 0]
def aXr:Array Value:= #[.int .i64 0,.int .i64 2,.int .i64 3,.int .i64 4]
def bEr:Array Value:= #[.int .u64 1,.int .u64 10,.int .u64 100,.int .u64 1000,.int .u64 10000,.int .u64 100000,.int .u64 1000000,.int .u64 10000000,.int .u64 100000000,.int .u64 1000000000,.int .u64 10000000000,.int .u64 100000000000,.int .u64 1000000000000,.int .u64 10000000000000,.int .u64 100000000000000,.int .u64 1000000000000000,.int .u64 10000000000000000,.int .u64 100000000000000000,.int .u64 1000000000000000000,.int .u64 10000000000000000000]
def bNq:Array Value:= #[.int .u8 0,.int .u8 1,.int .u8 28,.int .u8 2,.int .u8 29,.int .u8 14,.int .u8 24,.int .u8 3,.int .u8 30,.int .u8 22,.int .u8 20,.int .u8 15,.int .u8 25,.int .u8 17,.int .u8 4,.int .u8 8,.int .u8 31,.int .u8 27,.int .u8 13,.int .u8 23,.int .u8 21,.int .u8 19,.int .u8 16,.int .u8 7,.int .u8 26,.int .u8 12,.int .u8 18,.int .u8 6,.int .u8 11,.int .u8 5,.int .u8 10,.int .u8 9]
def bNz:Array Value:= #[.int .u8 0,.int .u8 1,.int .u8 56,.int .u8 2,.int .u8 57,.int .u8 49,.int .u8 28,.int .u8 3,.int .u8 61,.int .u8 58,.int .u8 42,.int .u8 50,.int .u8 38,.int .u8 29,.int .u8 17,.int .u8 4,.int .u8 62,.int .u8 47,.int .u8 59,.int .u8 36,.int .u8 45,.int .u8 43,.int .u8 51,.int .u8 22,.int .u8 53,.int .u8 39,.int .u8 33,.int .u8 30,.int .u8 24,.int .u8 18,.int .u8 12,.int .u8 5,.int .u8 63,.int .u8 55,.int .u8 48,.int .u8 27,.int .u8 60,.int .u8 41,.int .u8 37,.int .u8 16,.int .u8 46,.int .u8 35,.int .u8 44,.int .u8 21,.int .u8 52,.int .u8 32,.int .u8 23,.int .u8 11,.int .u8 54,.int .u8 26,.int .u8 40,.int .u8 15,.int .u8 34,.int .u8 20,.int .u8 31,.int .u8 10,.int .u8 25,.int .u8 14,.int .u8 19,.int .u8 9,.int .u8 13,.int .u8 8,.int .u8 7,.int .u8 6]
def GT:Nat->Option (Array Value×TypeId)
 |0=>some (bFq,301)
 |1=>some (aXr,189)
 |2=>some (bEr,347)
 |3=>some (bNq,352)
 |4=>some (bNz,353)
 |_=>none
end Go.Sg
namespace Go.Rv
def FR (ro:Option Nat):Fence:={Fence.wide with round:=ro}
theorem w8:FR none=Fence.wide:=rfl
theorem room_FR (ro:Option Nat) (n:Nat):(FR ro).room n:=fun _ h=>by simp[FR,Fence.wide] at h
theorem depth_FR (ro:Option Nat) {n k:Nat}:(FR ro).depth.isSome=true->k<=n:=fun h=>by simp[FR,Fence.wide] at h
theorem callsIn_FR {ro:Option Nat} {n:Nat} {P:Program} {f:FuncId} {args:Array Value} {w:World} {R:Ending->World->Prop} (h:Calls P f args w R):CallsIn (FR ro) n P f args w R:=
 ⟨trivial,fun cs _=>let ⟨e,w',fr,r,s,x⟩:=h cs;⟨e,w',fr,r,comesIn_wide.2 s,x⟩⟩
theorem roundIn_FR {ro:Option Nat} {n k:Nat} {P:Program} {l:Nat} {f:FuncId} {tmps:Array Value} {asg body:Code} {w:World} {R:Ending->World->Prop} (h:RoundIn (FR none) n P l f tmps asg body w R):RoundIn (FR ro) k P l f tmps asg body w R:=
 ⟨trivial,fun c cs _=>h.2 c cs (room_FR _ _)⟩
end Go.Rv
namespace Go.Sg
open Go.RowKit
open Go.Rv (FR)
def eU (w:World) (I:Nat->Prop) (A:dD) (s:Nat) (d:DV) (x:Value):Prop:=
 match d with
 | .bx _=> ∃g c,A s=some (some g,c)/\x=.pointer (some ⟨g,0,none⟩)
 | .row _ _ xs=> ∃B c,A s=some (B,c)/\ ∃b,mU B b/\x=.slice b xs.length c
 | .cond g y=>(g=true->bP w I A y x)/\(g=false->x=undef)
 | .mo _=> ∃g c,A s=some (some g,c)/\x=.map (some g)
 |d=>bP w I A d x
def jX (w:World) (I:Nat->Prop) (e:TypeId) (z:Nat) (xs:List (List DV)) (B:Option Nat) (c:Nat):Prop:=
 match B with
 |none=>xs=[]/\c=0
 |some g=> ∃us,w.heap[g]?=some (.cells us e (0,0))/\us.size=c*z/\c<=maxLen/\xs.length<=c/\
   ∀(i:Nat) (x:List DV),xs[i]?=some x->x.length=z/\ ∀(j:Nat) (d:DV) (u:Value),x[j]?=some d->us[i*z+j]?=some u->u.oneCell'=true/\bP w I fO d u
def fW (w:World) (I:Nat->Prop) (A:dD) (s:Nat) (d:DV):Prop:=
 match d with
 | .bx cs=> ∃g c us et,A s=some (some g,c)/\w.heap[g]?=some (.cells us et (0,0))/\us.size=cs.length/\(∀u∈us.toList,u.oneCell'=true)/\
   ∀(j:Nat) (d:DV) (u:Value),cs[j]?=some d->us[j]?=some u->bP w I A d u
 | .row e z xs=> ∃B c,A s=some (B,c)/\jX w I e z xs B c
 | .mo es=> ∃g c vs cl,A s=some (some g,c)/\w.heap[g]?=some (.map (List.toArray vs) cl)/\vs.map (fun (m:MapEntry)=>(m.key,m.val))=es
 |_=>True
structure Imm (w:World) (I:Nat->Prop):Prop where
 lt: ∀g,I g->g<w.heap.size
 glob: ∀g us e,GT g=some (us,e)->I g/\w.heap[g]?=some (.cells us e (0,0))
instance {w:World} {I:Nat->Prop}:CoeFun (Imm w I) (fun _=> ∀g,I g->g<w.heap.size):=⟨Imm.lt⟩
theorem Imm.step {w w':World} {I I':Nat->Prop} (h:Imm w I) (h1: ∀g,I' g->g<w'.heap.size) (h2: ∀g,I g->I' g/\w'.heap[g]?=w.heap[g]?):Imm w' I':=
 ⟨h1,fun g us e hg=>⟨(h2 g (h.glob g us e hg).1).1,(h2 g (h.glob g us e hg).1).2.trans (h.glob g us e hg).2⟩⟩
structure jI (w:World) (I:Nat->Prop) (A:dD) (ρ:aN):Prop where
 own: ∀s,fW w I A s (ρ s)
 inj: ∀s t g c c',A s=some (some g,c)->A t=some (some g,c')->s=t
 sep: ∀s g c,A s=some (some g,c)->g<w.heap.size/\ ¬I g
 imm:Imm w I
abbrev cX (d:DV):Prop:=fL (fun t=>decide (100000<=t)) d=true
structure dB (nt:Nat) (w:World) (I:Nat->Prop) (A:dD) (ρ:aN) (a:Act):Prop where
 osim:jI w I A ρ
 size:a.tmps.size=nt
 bound:nt<=100000
 slot: ∀i,i<nt->eU w I A i (ρ i) (a.tmps.getD i undef)
 out: ∀s,100000<=s->cX (ρ s)
structure f8 (w:World) (I:Nat->Prop) (A:dD) (w':World) (I':Nat->Prop) (A':dD):Prop where
 os:w'.os=w.os
 tape:w'.tape=w.tape/\w.drawn<=w'.drawn
 output:w'.output=w.output
 size:w.heap.size<=w'.heap.size
 imm: ∀g,I g->I' g
 old: ∀g,g<w.heap.size->(∀s c,A s≠some (some g,c))->w'.heap[g]?=w.heap[g]?/\(I' g->I g)/\(∀s c,A' s≠some (some g,c))
 loc: ∀s g c,A' s=some (some g,c)->g<w.heap.size->s<100000-> ∃t c',t<100000/\A t=some (some g,c')
 outA: ∀s,100000<=s->A' s=A s
theorem f8.refl (w:World) (I:Nat->Prop) (A:dD):f8 w I A w I A:=
 ⟨rfl,⟨rfl,bW _⟩,rfl,bW _,fun _ h=>h,fun g _ hA=>⟨rfl,fun h=>h,hA⟩,fun s g c h _ hs=>⟨s,c,hs,h⟩,fun _ _=>rfl⟩
theorem f8.trans {w w1 w2:World} {I I1 I2:Nat->Prop} {A A1 A2:dD} (h:f8 w I A w1 I1 A1) (k:f8 w1 I1 A1 w2 I2 A2):f8 w I A w2 I2 A2 where
 os:=k.os.trans h.os
 tape:=⟨k.tape.1.trans h.tape.1,eL h.tape.2 k.tape.2⟩
 output:=k.output.trans h.output
 size:=eL h.size k.size
 imm:=fun g hg=>k.imm g (h.imm g hg)
 old:=fun g hg hA=>by
  obtain⟨h1,h2,h3⟩:=h.old g hg hA;obtain⟨k1,k2,k3⟩:=k.old g (eE hg h.size) h3;exact⟨k1.trans h1,fun x=>h2 (k2 x),k3⟩
 loc:=fun s g c hs hg hl=>by
  obtain⟨t,c',ht,hA⟩:=k.loc s g c hs (eE hg h.size) hl;exact h.loc t g c' hA hg ht
 outA:=fun s hs=>(k.outA s hs).trans (h.outA s hs)
theorem f8.keep {w w':World} {I I':Nat->Prop} {A A':dD} {ρ:aN} (h:f8 w I A w' I' A') (hs:jI w I A ρ) (g:Nat) (hg:I g):I' g/\w'.heap[g]?=w.heap[g]?:=
 ⟨h.imm g hg,(h.old g (hs.imm g hg) fun s c e=>(hs.sep s g c e).2 hg).1⟩
theorem eD {w w':World} {g:Nat} (h:w'.heap[g]?=w.heap[g]?) (o:Nat):w'.cell? ⟨g,o,none⟩=w.cell? ⟨g,o,none⟩:=by
 unfold World.cell?;rw[h]
theorem f8.rel {w w':World} {I I':Nat->Prop} {A A':dD} {ρ:aN} (h:f8 w I A w' I' A') (hs:jI w I A ρ) {B:dD} {d:DV} {x:Value} (hr:bP w I B d x):bP w' I' B d x:=
 hr.mono fun g hg=>⟨(h.keep hs g hg).1,fun o=>eD (h.keep hs g hg).2 o⟩
def AW (P:Program) (nt:Nat) (c:Code) (Q:Exit->aN->Prop) (ρ:aN):Prop:=
 ∀(ro:Option Nat) (ds:List Deferred) I A a w,dB nt w I A ρ a->a.defers=ds->
  c.wpIn (FR ro) 0 P (fun e a' w'=> ∃I' A' ρ',dB nt w' I' A' ρ' a'/\a'.defers=ds/\f8 w I A w' I' A'/\Q e ρ') a w
section
variable {P:Program} {nt:Nat} {Q:Exit->aN->Prop} {ρ:aN}
theorem cBn {c:Code} {Q':Exit->aN->Prop} (h:AW P nt c Q ρ) (hq: ∀e ρ,Q e ρ->Q' e ρ):AW P nt c Q' ρ:=
 fun ro ds I A a w hs hd=>wpIn_mono (h ro ds I A a w hs hd) fun _ _ _ ⟨I',A',ρ',h1,h2,h3,h4⟩=>⟨I',A',ρ',h1,h2,h3,hq _ _ h4⟩
theorem aD (h:Q .normal ρ):AW P nt .skip Q ρ:=fun ro ds I A a w hs hd=>wpIn_skip ⟨I,A,ρ,hs,hd,f8.refl _ _ _,h⟩
theorem bA {i:Nat} (h:Q (.exit i) ρ):AW P nt (.exit i) Q ρ:=fun ro ds I A a w hs hd=>wpIn_exit ⟨I,A,ρ,hs,hd,f8.refl _ _ _,h⟩
theorem aL (h:Q .ret ρ):AW P nt .ret Q ρ:=fun ro ds I A a w hs hd=>wpIn_ret ⟨I,A,ρ,hs,hd,f8.refl _ _ _,h⟩
def xV (K:aN->Prop) (Q:Exit->aN->Prop):Exit->aN->Prop
 | .normal,ρ=>K ρ
 |e,ρ=>Q e ρ
theorem aA {x y:Code} (h: ∀K:aN->Prop,(∀ρ,AW P nt y Q ρ->K ρ)->AW P nt x (xV K Q) ρ):AW P nt (.seq x y) Q ρ:=by
 intro ro ds I A a w hs hd;refine wpIn_seq (wpIn_mono (h (fun ρ=>AW P nt y Q ρ) (fun _ h=>h) ro ds I A a w hs hd) ?_);intro e a1 w1 ⟨I1,A1,ρ1,h1,h2,h3,h4⟩;cases e with
 |normal=>exact wpIn_mono (h4 ro ds I1 A1 a1 w1 h1 h2) fun _ _ _ ⟨I',A',ρ',k1,k2,k3,k4⟩=>⟨I',A',ρ',k1,k2,h3.trans k3,k4⟩
 |exit i=>exact⟨I1,A1,ρ1,h1,h2,h3,h4⟩
 |goto l=>exact⟨I1,A1,ρ1,h1,h2,h3,h4⟩
 |ret=>exact⟨I1,A1,ρ1,h1,h2,h3,h4⟩
 |panic ch=>exact⟨I1,A1,ρ1,h1,h2,h3,h4⟩
 |outgrown=>exact⟨I1,A1,ρ1,h1,h2,h3,h4⟩
def vB (id:Nat) (Q:Exit->aN->Prop):Exit->aN->Prop
 | .exit id',ρ=>if id'=id then Q .normal ρ else Q (.exit id') ρ
 |e,ρ=>Q e ρ
theorem aI {id:Nat} {c:Code} (h:AW P nt c (vB id Q) ρ):AW P nt (.block id c) Q ρ:=by
 intro ro ds I A a w hs hd;refine wpIn_block (wpIn_mono (h ro ds I A a w hs hd) ?_);intro e a1 w1 ⟨I1,A1,ρ1,h1,h2,h3,h4⟩;cases e with
 |exit i=>
  simp only[Exit.inBlock,vB] at*;split<;>rename_i hi
  ·rw[if_pos hi] at h4;exact⟨I1,A1,ρ1,h1,h2,h3,h4⟩
  rw[if_neg hi] at h4;exact⟨I1,A1,ρ1,h1,h2,h3,h4⟩
 |normal=>exact⟨I1,A1,ρ1,h1,h2,h3,h4⟩
 |goto l=>exact⟨I1,A1,ρ1,h1,h2,h3,h4⟩
 |ret=>exact⟨I1,A1,ρ1,h1,h2,h3,h4⟩
 |panic ch=>exact⟨I1,A1,ρ1,h1,h2,h3,h4⟩
 |outgrown=>exact⟨I1,A1,ρ1,h1,h2,h3,h4⟩
theorem cCe {c:Code} (J:Nat->aN->Prop) (n₀:Nat) (h₀:J n₀ ρ)
  (round: ∀n ρ,J n ρ-> ∀K:aN->Prop,(∀m ρ',m<n->J m ρ'->K ρ')->AW P nt c (xV K Q) ρ):AW P nt (.loop c) Q ρ:=by
 intro ro ds I A a w hs hd;refine wpIn_loop_ghost (fun n a' w'=> ∃I' A' ρ',dB nt w' I' A' ρ' a'/\a'.defers=ds/\f8 w I A w' I' A'/\J n ρ') n₀ ⟨I,A,ρ,hs,hd,f8.refl _ _ _,h₀⟩ ?_;intro n a1 w1 ⟨I1,A1,ρ1,h1,h2,h3,h4⟩;refine wpIn_mono (round n ρ1 h4 (fun ρ=> ∃m,m<n/\J m ρ) (fun m ρ' hm hj=>⟨m,hm,hj⟩) ro ds I1 A1 a1 w1 h1 h2) ?_;intro e a2 w2 ⟨I2,A2,ρ2,k1,k2,k3,k4⟩;cases e with
 |normal=>obtain⟨m,hm,hj⟩:=k4;exact⟨m,hm,I2,A2,ρ2,k1,k2,h3.trans k3,hj⟩
 |exit i=>exact⟨I2,A2,ρ2,k1,k2,h3.trans k3,k4⟩
 |goto l=>exact⟨I2,A2,ρ2,k1,k2,h3.trans k3,k4⟩
 |ret=>exact⟨I2,A2,ρ2,k1,k2,h3.trans k3,k4⟩
 |panic ch=>exact⟨I2,A2,ρ2,k1,k2,h3.trans k3,k4⟩
 |outgrown=>exact⟨I2,A2,ρ2,k1,k2,h3.trans k3,k4⟩
def rd (t:Nat):DV->DV
 | .bx _=>.bp t 0
 | .row _ _ xs=>.own t xs.length
 | .mo _=>.mr t
 |d=>d
def cv:Value->DV
 | .agg cs=>.agg (cs.toList.map .v)
 |v=>.v v
def ev (ρ:aN):Operand->DV
 | .tmp t=>rd t (ρ t)
 | .const v=>cv v
 | .global g=>match GT g with
  |some (us,_)=>.dp (us.toList.map .v)
  |none=>.v (.pointer (some ⟨g,0,none⟩))
 | .func f=>.fn f [] []
theorem aHm (ρ:aN) (t:Tmp):ev ρ (.tmp t)=rd t (ρ t):=rfl
theorem bQb (ρ:aN) (v:Value):ev ρ (.const v)=cv v:=rfl
theorem aHl (ρ:aN) (g:Nat):ev ρ (.global g)=match GT g with
  |some (us,_)=>.dp (us.toList.map .v)
  |none=>.v (.pointer (some ⟨g,0,none⟩)):=rfl
theorem bWl (ρ:aN) (f:FuncId):ev ρ (.func f)=.fn f [] []:=rfl
def bJc (w:World) (I:Nat->Prop) (A:dD) (d:DV) (x:Value):Prop:=
 match d with
 | .cond g y=>(g=true->bP w I A y x)/\(g=false->x=undef)
 |d=>bP w I A d x
def s9 (nt:Nat):Operand->Bool
 | .tmp t=>decide (t<nt)
 | .const (.agg cs)=>cs.toList.all (·.oneCell')
 | .global g=>match GT g with
  |some (us,_)=>us.toList.all (·.oneCell')
  |none=>true
 |_=>true
theorem dB.evRel {w:World} {I:Nat->Prop} {A:dD} {a:Act} (h:dB nt w I A ρ a) (o:Operand) (ho:s9 nt o=true):bJc w I A (ev ρ o) (a.eval o):=by
 cases o with
 |tmp t=>
  have ht:t<nt:=by simpa[s9] using ho
  have hs:=h.slot t ht;simp only[aHm,Act.eval];generalize a.tmps.getD t undef=x at*;cases hd:ρ t with
  |bx cs=>
   rw[hd] at hs;obtain⟨g,c,h1,rfl⟩:=hs;exact .bp A t 0 g c h1
  |row e z xs=>
   rw[hd] at hs;obtain⟨B,c,h1,b,hb,rfl⟩:=hs;exact .own A t _ B c b h1 hb
  |cond g y=>rw[hd] at hs;exact hs
  |any=>rw[hd] at hs;exact hs
  |v y=>rw[hd] at hs;exact hs
  |sl z n f=>rw[hd] at hs;exact hs
  |agg cs=>rw[hd] at hs;exact hs
  |tup cs=>rw[hd] at hs;exact hs
  |dp cs=>rw[hd] at hs;exact hs
  |bp s o=>rw[hd] at hs;exact hs
  |own s n=>rw[hd] at hs;exact hs
  |rp s z i o=>rw[hd] at hs;exact hs
  |fn f b c=>rw[hd] at hs;exact hs
  |iface t' y=>rw[hd] at hs;exact hs
  |mr s=>rw[hd] at hs;exact hs
  |ez=>rw[hd] at hs;exact hs
  |mo es=>
   rw[hd] at hs;obtain⟨g,c,h1,rfl⟩:=hs;exact .mr A t g c h1
 |const v=>
  cases v with
  |agg cs=>
   have ho:cs.toList.all (·.oneCell')=true:=ho;rw[dI] at ho;refine bP.agg A _ cs dH ho fun j d u hd hu=>?_;rw[dG,gC] at hd;obtain⟨y,hy,rfl⟩:=hd;rw[kK,hu] at hy;cases hy;exact .v A _
  |_=>exact .v A _
 |global g=>
  simp only[s9] at ho;rw[aHl];cases hg:GT g with
  |none=>exact .v A _
  |some p=>
   obtain⟨us,e⟩:=p;rw[hg] at ho;rw[dI] at ho;obtain⟨h1,h2⟩:=h.osim.imm.glob g us e hg;have hc: ∀j,j<us.size->w.cell? ⟨g,0+j,none⟩=some (us.getD j undef):=fun j hj=>by
    rw[gH,show w.cell? ⟨g,j,none⟩=us[j]? by simp[World.cell?,h2],iY hj,oB,iY hj];rfl
   refine .dp A _ g 0 (fun j=>us.getD j undef) h1 (fun j hj=>hc j (by simpa using hj)) (fun j hj=>?_) fun j d hd=>?_
   ·have hj':j<us.size:=by simpa using hj
    have:us.getD j undef∈us.toList:=by
     rw[oB,iY hj'];exact Array.mem_toList_iff.2 (Array.getElem_mem hj')
    exact ho _ this
   rw[dG,gC] at hd;obtain⟨y,hy,rfl⟩:=hd;rw[kK] at hy;have:us.getD j undef=y:=by rw[oB,hy];rfl
   rw[this];exact .v _ _
 |func f=>exact .fn A f [] [] #[] #[] rfl rfl dH dH
theorem dY {x:Operand} {c d:Code} (b:Bool) (ho:s9 nt x=true) (hx:ev ρ x=.v (.bool b)) (ht:b=true->AW P nt c Q ρ) (hf:b=false->AW P nt d Q ρ):AW P nt (.cond x c d) Q ρ:=by
 intro ro ds I A a w hs hd;have he:=hs.evRel x ho;rw[hx] at he;have hv:a.eval x=.bool b:=by
  generalize a.eval x=y at he ⊢;cases he;rfl
 exact wpIn_cond_split hv (fun h=>ht h ro ds I A a w hs hd) (fun h=>hf h ro ds I A a w hs hd)
def Wk (d d':DV):Prop:=
 ∀w I A s x,(eU w I A s d x->eU w I A s d' x)/\(fW w I A s d->fW w I A s d')/\(cX d->cX d')
theorem Wk.refl (d:DV):Wk d d:=fun _ _ _ _ _=>⟨fun h=>h,fun h=>h,fun h=>h⟩
theorem Wk.any (d:DV):Wk d .any:=fun _ _ A _ x=>⟨fun _=>.any A x,fun _=>trivial,fun _=>rfl⟩
theorem Wk.trans {d e f:DV} (h:Wk d e) (k:Wk e f):Wk d f:=fun w I A s x=>⟨fun r=>(k w I A s x).1 ((h w I A s x).1 r),fun r=>(k w I A s x).2.1 ((h w I A s x).2.1 r),fun r=>(k w I A s x).2.2 ((h w I A s x).2.2 r)⟩
theorem Wk.sl (z n:Nat) (f g:Nat->List DV) (h: ∀i,i<n->f i=g i):Wk (.sl z n f) (.sl z n g):=fun _ _ A _ x=>⟨fun hr=>by
 have hr:bP _ _ A (.sl z n f) x:=hr;cases hr with
 |sl0 _ _ _ b c=>exact .sl0 A z g b c
 |sl _ _ _ _ b o c us hn hc hm hI hz hcell hone hrel=>
  exact bP.sl A z n g b o c us hn hc hm hI (fun i hi=>by rw[<- h i hi];exact hz i hi) hcell hone (fun i j d hi hd=>hrel i j d hi (by rw[h i hi];exact hd)),fun _=>trivial,fun _=>rfl⟩
def Le (ρ ρ':aN):Prop:= ∀s,Wk (ρ s) (ρ' s)
theorem Le.refl (ρ:aN):Le ρ ρ:=fun s=>Wk.refl _
theorem Le.trans {ρ ρ1 ρ2:aN} (h:Le ρ ρ1) (k:Le ρ1 ρ2):Le ρ ρ2:=fun s=>(h s).trans (k s)
theorem dB.weaken {w:World} {I:Nat->Prop} {A:dD} {a:Act} {ρ ρ':aN} (h:dB nt w I A ρ a) (hl:Le ρ ρ'):dB nt w I A ρ' a where
 osim:=⟨fun s=>(hl s w I A s undef).2.1 (h.osim.own s),h.osim.inj,h.osim.sep,h.osim.imm⟩
 size:=h.size
 bound:=h.bound
 slot:=fun i hi=>(hl i w I A i _).1 (h.slot i hi)
 out:=fun s hs=>(hl s w I A s undef).2.2 (h.out s hs)
theorem cM {c:Code} {ρ ρ':aN} (hl:Le ρ ρ') (h:AW P nt c Q ρ'):AW P nt c Q ρ:=fun ro ds I A a w hs hd=>h ro ds I A a w (hs.weaken hl) hd
def set (ρ:aN) (d:Nat) (x:DV):aN:=fun i=>if i=d then x else ρ i
def cO (ρ:aN) (d:Option Nat) (x:DV):aN:=match d with|some d=>set ρ d x|none=>ρ
theorem aK (ρ:aN) (d:Nat) (x:DV) (i:Nat):set ρ d x i=if i=d then x else ρ i:=rfl
theorem dE (ρ:aN) (d:Nat) (x:DV):cO ρ (some d) x=set ρ d x:=rfl
theorem bLf (ρ:aN) (x:DV):cO ρ none x=ρ:=rfl
def bS (O:aN):aN:=fun i=>if i<100000 then .any else yF (· +100000) (O (i-100000))
theorem nG (O:aN) {i:Nat} (h:i<100000):bS O i=.any:=if_pos h
theorem cI (O:aN) (i:Nat):bS O (i+100000)=yF (· +100000) (O i):=by
 unfold bS;rw[if_neg aV,xN]
def keep (L:List Nat) (ρ:aN):aN:=fun i=>if i<100000 then (if i∈L then ρ i else .any) else ρ i
theorem Le.set {ρ ρ':aN} (h:Le ρ ρ') (d:Nat) {x x':DV} (hx:Wk x x'):Le (set ρ d x) (set ρ' d x'):=fun s=>by
 unfold Sg.set;split
 ·exact hx
 exact h s
end
end Go.Sg
namespace Go.Sg
open Go.RowKit
def un:DV->DV
 | .cond _ d=>d
 |d=>d
def gd:DV->Prop
 | .cond g _=>g=true
 |_=>True
def eA (P:Program) (t:TypeId):Option (Option Nat):=
 match P.info? t,P.underlying t with
 |some i,some (.struct _)=>some (some i.size)
 |some i,some (.array _ _)=>some (some i.size)
 |some _,some _=>some none
 |_,_=>none
def bT (P:Program) (s:TypeId) (f:Nat):Option Nat:=
 match P.underlying s with
 |some (.struct fs)=>match fs[f]? with
  |some fd=>match P.info? fd.type with
   |some i=>if i.size=0 then none else some fd.offset
   |none=>none
  |none=>none
 |_=>none
def aJw (P:Program) (s:TypeId) (f:Nat):Option Nat:=
 match P.underlying s with
 |some (.struct fs)=>match fs[f]? with
  |some fd=>(match eA P fd.type with
   |some none=>some fd.offset
   |_=>none)
  |none=>none
 |_=>none
def fZ (P:Program) (t:TypeId):Option (Option Nat×Nat):=
 match P.underlying t with
 |some (.slice e)=>(P.info? e).map fun i=>(none,i.size)
 |some (.array n e)=>(P.info? e).map fun i=>(some n,i.size)
 |_=>none
def tk (P:Program) (t:TypeId):Nat:=
 match P.underlying t with
 |some .string=>1
 |some (.slice _)=>2
 |some .bool=>3
 |some (.int _)=>4
 |_=>0
def aOt (P:Program) (t:TypeId):Option IntKind:=
 match P.underlying t with
 |some (.int k)=>some k
 |_=>none
def cBo (P:Program) (ks:TypeId->Option (List Nat)):List Field->Nat->Option (List Nat)
 | [],_=>some []
 |f::l,off=>
  if f.name= "_" \/f.offset≠off then none else
  match P.info? f.type,ks f.type with
  |some i,some a=>if i.size=a.length then (cBo P ks l (off+a.length)).map (a++ ·) else none
  |_,_=>none
def aOw (P:Program):Nat->TypeId->Option (List Nat)
 |0,_=>none
 |d+1,t=>match P.underlying t with
  |some .bool=>some [2]
  |some (.int _)=>some [1]
  |some .string=>some [3]
  |some (.struct fs)=>if P.stoodInHeld t then none else cBo P (aOw P d) fs.toList 0
  |_=>none
def yT (P:Program) (t:TypeId):Option (List Nat):=
 match P.underlying t with
 |some (.struct _)=>if P.eqGuardType P.depth t then none else aOw P 40 t
 |some (.array n e)=>if P.eqGuardType P.depth t then none else match P.info? e,aOw P 1 e with
  |some i,some [k]=>if i.size=1 then some (List.replicate n k) else none
  |_,_=>none
 |_=>none
def bMo (op:BinOp) (k:IntKind) (a:Int) (k':IntKind) (b:Int):Prop×DV:=
 match op with
 | .add=>(k=k',.v (.int k (k.wrap (a+b))))
 | .sub=>(k=k',.v (.int k (k.wrap (a-b))))
 | .mul=>(k=k',.v (.int k (k.wrap (a*b))))
 | .quo=>(k=k'/\b≠0,.v (.int k (k.wrap (a.tdiv b))))
 | .rem=>(k=k'/\b≠0,.v (.int k (a.tmod b)))
 | .and=>(k=k',.v (.int k (k.wrap (BitVec.ofInt k.bits a&&&BitVec.ofInt k.bits b).toNat)))
 | .or=>(k=k',.v (.int k (k.wrap (BitVec.ofInt k.bits a|||BitVec.ofInt k.bits b).toNat)))
 | .xor=>(k=k',.v (.int k (k.wrap (BitVec.ofInt k.bits a^^^BitVec.ofInt k.bits b).toNat)))
 | .andNot=>(k=k',.v (.int k (k.wrap (BitVec.ofInt k.bits a&&& ~~~ BitVec.ofInt k.bits b).toNat)))
 | .shl=>(0<=b,.v (.int k (k.wrap (a*2^(min b.toNat k.bits)))))
 | .shr=>(0<=b,.v (.int k (a.fdiv (2^(min b.toNat k.bits)))))
 | .eql=>(k=k',.v (.bool (a==b)))
 | .neq=>(k=k',.v (.bool (a !=b)))
 | .lss=>(k=k',.v (.bool (decide (a<b))))
 | .leq=>(k=k',.v (.bool (decide (a<=b))))
 | .gtr=>(k=k',.v (.bool (decide (b<a))))
 | .geq=>(k=k',.v (.bool (decide (b<=a))))
def bWb (op:BinOp) (a b:ByteArray):Prop×DV:=
 match op with
 | .add=>(a.size+b.size<=maxLen,.v (.string (a++b)))
 | .eql=>(True,.v (.bool (a.toList==b.toList)))
 | .neq=>(True,.v (.bool !(a.toList==b.toList)))
 | .lss=>(True,.v (.bool (Op.bytesLess a.toList b.toList)))
 | .leq=>(True,.v (.bool (Op.bytesLess a.toList b.toList||a.toList==b.toList)))
 | .gtr=>(True,.v (.bool !(Op.bytesLess a.toList b.toList||a.toList==b.toList)))
 | .geq=>(True,.v (.bool !(Op.bytesLess a.toList b.toList)))
 |_=>(False,.any)
def bMx (k:Nat) (op:BinOp) (a b:Bool):Prop×DV:=
 match op with
 | .eql=>(k=3,.v (.bool (a==b)))
 | .neq=>(k=3,.v (.bool !(a==b)))
 |_=>(False,.any)
def eqL:List Nat->List DV->List DV->Prop×Bool
 | [],[],[]=>(True,true)
 |1::ks,.v (.int k a)::cs,.v (.int k' b)::ds=>(k=k'/\(eqL ks cs ds).1,(a==b)&&(eqL ks cs ds).2)
 |2::ks,.v (.bool a)::cs,.v (.bool b)::ds=>((eqL ks cs ds).1,(a==b)&&(eqL ks cs ds).2)
 |3::ks,.v (.string a)::cs,.v (.string b)::ds=>((eqL ks cs ds).1,(a==b)&&(eqL ks cs ds).2)
 |_,_,_=>(False,false)
def bUg (es:Option (List Nat)) (op:BinOp) (cs ds:List DV):Prop×DV:=
 match es,op with
 |some ks,.eql=>((eqL ks cs ds).1,.v (.bool (eqL ks cs ds).2))
 |some ks,.neq=>((eqL ks cs ds).1,.v (.bool !(eqL ks cs ds).2))
 |_,_=>(False,.any)
def aOs (es:Option (List Nat)) (k:Nat) (op:BinOp) (x y:DV):Prop×DV:=
 match x,y with
 | .agg cs,.agg ds=>bUg es op cs ds
 | .v (.int k a),.v (.int k' b)=>bMo op k a k' b
 | .v (.string a),.v (.string b)=>bWb op a b
 | .v (.bool a),.v (.bool b)=>bMx k op a b
 |_,_=>(False,.any)
def unP (op:UnOp) (x:DV):Prop×DV:=
 match op,x with
 | .not,.v (.bool b)=>(True,.v (.bool !b))
 | .neg,.v (.int k n)=>(True,.v (.int k (k.wrap (0-n))))
 |_,_=>(False,.any)
def aWv (k:Nat) (x:DV):Prop×DV:=
 match x with
 | .sl _ n _=>(k=2,.v (.int .i64 n))
 | .own _ n=>(k=2,.v (.int .i64 n))
 | .ez=>(k=2,.v (.int .i64 0))
 | .v (.slice _ n _)=>(k=2,.v (.int .i64 n))
 | .v (.string s)=>(k=1,.v (.int .i64 s.size))
 |_=>(False,.any)
def bQg (c x y:DV):Prop×DV:=
 match un c with
 | .v (.bool b)=>(match b with
  |true=>(match un x with
   | .v (.bool p)=>(gd c/\gd x,.v (.bool p))
   |_=>(False,.any))
  |false=>(match un y with
   | .v (.bool p)=>(gd c/\gd y,.v (.bool p))
   |_=>(False,.any)))
 |_=>(False,.any)
def aIe (c x y:DV):Prop×DV:=
 match un c,un x,un y with
 | .v (.bool b),.v (.bool p),.v (.bool q)=>(gd c/\(b=true->gd x)/\(b=false->gd y),.v (.bool (bif b then p else q)))
 |_,_,_=>bQg c x y
def cut (ld:Option Nat) (off:Nat) (cs:List DV):Prop×DV:=
 match ld with
 |none=>(off<cs.length,cs.getD off .any)
 |some n=>(off+n<=cs.length,.agg ((cs.drop off).take n))
def aRc (ld:Option Nat) (off:Nat) (c:DV):Prop×DV:=
 match c with
 | .bx cs=>cut ld off cs
 |_=>(False,.any)
def bGo (ld:Option Nat) (z i off:Nat) (c:DV):Prop×DV:=
 match c with
 | .row _ z' xs=>(z=z'/\i<xs.length/\(cut ld off (xs.getD i [])).1,(cut ld off (xs.getD i [])).2)
 |_=>(False,.any)
def pM (ρ:aN) (ld:Option (Option Nat)) (x:DV):Prop×DV:=
 match ld with
 |none=>(False,.any)
 |some ld=>
  match x with
  | .dp cs=>cut ld 0 cs
  | .bp s off=>aRc ld off (ρ s)
  | .rp s z i off=>bGo ld z i off (ρ s)
  |_=>(False,.any)
def aSp (o:Option Nat) (x:DV):Prop×DV:=
 match o with
 |none=>(False,.any)
 |some o=>
  match x with
  | .dp cs=>(True,.dp (cs.drop o))
  | .bp s off=>(True,.bp s (off+o))
  | .rp s z i off=>(True,.rp s z i (off+o))
  |_=>(False,.any)
def yE (ρ:aN) (el:Option (Option Nat×Nat)) (x i:DV):Prop×DV:=
 match el,i with
 |some (none,z),.v (.int _ k)=>
  match x with
  | .sl z' n f=>(z=z'/\0<=k/\k<n,.dp (f k.toNat))
  | .own s n=>(0<=k/\k<n/\ ∃e xs,ρ s=.row e z xs/\n<=xs.length,.rp s z k.toNat 0)
  |_=>(False,.any)
 |some (some n,z),.v (.int _ k)=>
  match x with
  | .dp cs=>(0<=k/\k<n,.dp (cs.drop (k.toNat*z)))
  | .bp s off=>(0<=k/\k<n,.bp s (off+k.toNat*z))
  | .rp s z' j off=>(0<=k/\k<n,.rp s z' j (off+k.toNat*z))
  |_=>(False,.any)
 |_,_=>(False,.any)
def atP (el:Option (Option Nat×Nat)) (ld:Option (Option Nat)) (k:Nat) (x i:DV):Prop×DV:=
 match x,i with
 | .v (.string s),.v (.int _ n)=>(k=1/\0<=n/\n<s.size,.v (.int .u8 (s.data.getD n.toNat 0).toNat))
 |_,_=>(False,.any)
def aAm (ρ:aN) (el:Option (Option Nat×Nat)) (k:Nat) (x:DV) (lo hi:Option DV):Prop×DV:=
 match lo,hi with
 |none,none=>(match x with| .sl z _ _=>(k=2/\el=some (none,z),x)|_=>(False,.any))
 |some (.v (.int _ a)),none=>
  (match x,el with
  | .sl z n f,some (none,z')=>(z=z'/\0<=a/\a<=n,.sl z (n-a.toNat) fun i=>f (a.toNat+i))
  | .v (.string s),_=>(k=1/\0<=a/\a<=s.size,.v (.string (s.extract a.toNat s.size)))
  |_,_=>(False,.any))
 |none,some (.v (.int _ b))=>
  (match x,el with
  | .sl z n f,some (none,z')=>(z=z'/\0<=b/\b<=n,.sl z b.toNat f)
  | .v (.string s),_=>(k=1/\0<=b/\b<=s.size,.v (.string (s.extract 0 b.toNat)))
  | .own s n,some (none,_)=>(0<=b/\b<=n/\ ∃e z xs,ρ s=.row e z xs/\n<=xs.length,.own s b.toNat)
  | .dp cs,some (some n,z)=>(0<=b/\b<=n/\n*z<=cs.length/\n<=1048576,.sl z b.toNat fun i=>(cs.drop (i*z)).take z)
  |_,_=>(False,.any))
 |some (.v (.int _ a)),some (.v (.int _ b))=>
  (match x,el with
  | .sl z n f,some (none,z')=>(z=z'/\0<=a/\a<=b/\b<=n,.sl z (b.toNat-a.toNat) fun i=>f (a.toNat+i))
  | .v (.string s),_=>(k=1/\0<=a/\a<=b/\b<=s.size,.v (.string (s.extract a.toNat b.toNat)))
  |_,_=>(False,.any))
 |_,_=>(False,.any)
def aBn (k:Option IntKind) (x:DV):Prop×DV:=
 match k,x with
 |some k,.v (.int _ n)=>(True,.v (.int k (k.wrap n)))
 |_,_=>(False,.any)
def aSv (x:DV) (i:Nat):Prop×DV:=
 match x with
 | .tup cs=>(i<cs.length,cs.getD i .any)
 |_=>(False,.any)
def fvP (k:Option Nat) (x:DV):Prop×DV:=
 match k,x with
 |some i,.agg cs=>(i<cs.length,cs.getD i .any)
 |_,_=>(False,.any)
def aTk (x:DV):Prop×DV:=
 match x with
 | .dp cs=>(True,.dp cs)
 | .bp s o=>(True,.bp s o)
 | .rp s z i o=>(True,.rp s z i o)
 | .fn f a b=>(True,.fn f a b)
 |_=>(False,.any)
def bCh:List DV->Prop×DV
 | [.v (.int k a),.v (.int k' b)]=>(k=k',.v (.int k (if b>a then b else a)))
 |_=>(False,.any)
def bAn:List DV->Prop×DV
 | [.v (.int k a),.v (.int k' b)]=>(k=k',.v (.int k (if b<a then b else a)))
 |_=>(False,.any)
def aFe (P:Program) (ρ:aN) (b:Builtin) (args:List Operand) (ts:List TypeId):Prop×DV:=
 match b,args,ts with
 | .len,[x],[t]=>(gd (ev ρ x)/\(aWv (tk P t) (un (ev ρ x))).1,(aWv (tk P t) (un (ev ρ x))).2)
 | .max,[x,y],_=>((gd (ev ρ x)/\gd (ev ρ y))/\(bCh [un (ev ρ x),un (ev ρ y)]).1,(bCh [un (ev ρ x),un (ev ρ y)]).2)
 | .min,[x,y],_=>((gd (ev ρ x)/\gd (ev ρ y))/\(bAn [un (ev ρ x),un (ev ρ y)]).1,(bAn [un (ev ρ x),un (ev ρ y)]).2)
 |_,_,_=>(False,.any)
def bHc (P:Program) (ρ:aN) (c:Call):Prop×DV:=
 match c.callee with
 | .builtin b=>aFe P ρ b c.args.toList c.argTypes.toList
 |_=>(False,.any)
def fnP (ρ:aN) (fn:Fn) (first captured:List Operand):Prop×DV:=
 match fn with
 | .func f=>((∀x∈first,gd (ev ρ x))/\ ∀x∈captured,gd (ev ρ x),.fn f (first.map fun x=>un (ev ρ x)) (captured.map fun x=>un (ev ρ x)))
 |_=>(False,.any)
def vC (P:Program) (ρ:aN):Op->Prop×DV
 | .move x=>(gd (ev ρ x),un (ev ρ x))
 | .assign x=>(gd (ev ρ x),un (ev ρ x))
 | .pick c a b=>aIe (ev ρ c) (ev ρ a) (ev ρ b)
 | .load t x=>(gd (ev ρ x)/\(pM ρ (eA P t) (un (ev ρ x))).1,(pM ρ (eA P t) (un (ev ρ x))).2)
 | .nilCheck x=>(gd (ev ρ x)/\(aTk (un (ev ρ x))).1,(aTk (un (ev ρ x))).2)
 | .binOp op t x y _=>((gd (ev ρ x)/\gd (ev ρ y))/\(aOs (yT P t) (tk P t) op (un (ev ρ x)) (un (ev ρ y))).1,(aOs (yT P t) (tk P t) op (un (ev ρ x)) (un (ev ρ y))).2)
 | .unOp op _ x=>(gd (ev ρ x)/\(unP op (un (ev ρ x))).1,(unP op (un (ev ρ x))).2)
 | .convert s t x=>((gd (ev ρ x)/\(P.underlying s).isSome=true)/\(aBn (aOt P t) (un (ev ρ x))).1,(aBn (aOt P t) (un (ev ρ x))).2)
 | .fieldAddr s x f=>(gd (ev ρ x)/\(aSp (bT P s f) (un (ev ρ x))).1,(aSp (bT P s f) (un (ev ρ x))).2)
 | .field s x f=>(gd (ev ρ x)/\(fvP (aJw P s f) (un (ev ρ x))).1,(fvP (aJw P s f) (un (ev ρ x))).2)
 | .indexAddr t x i=>((gd (ev ρ x)/\gd (ev ρ i))/\(yE ρ (fZ P t) (un (ev ρ x)) (un (ev ρ i))).1,(yE ρ (fZ P t) (un (ev ρ x)) (un (ev ρ i))).2)
 | .index t x i=>((gd (ev ρ x)/\gd (ev ρ i))/\(atP (fZ P t) (eA P t) (tk P t) (un (ev ρ x)) (un (ev ρ i))).1,(atP (fZ P t) (eA P t) (tk P t) (un (ev ρ x)) (un (ev ρ i))).2)
 | .slice t x lo hi none=>((gd (ev ρ x)/\(∀y∈lo,gd (ev ρ y))/\ ∀y∈hi,gd (ev ρ y))/\(aAm ρ (fZ P t) (tk P t) (un (ev ρ x)) (lo.map fun y=>un (ev ρ y)) (hi.map fun y=>un (ev ρ y))).1,
   (aAm ρ (fZ P t) (tk P t) (un (ev ρ x)) (lo.map fun y=>un (ev ρ y)) (hi.map fun y=>un (ev ρ y))).2)
 | .extract x i=>(gd (ev ρ x)/\(aSv (un (ev ρ x)) i).1,(aSv (un (ev ρ x)) i).2)
 | .makeFunc fn first captured=>fnP ρ fn first.toList captured.toList
 | .call c=>bHc P ρ c
 |_=>(False,.any)
end Go.Sg
namespace Go.Sg
open Go.RowKit
section
variable {P:Program} {nt:Nat} {w:World} {I:Nat->Prop} {A:dD} {ρ:aN} {a:Act}
theorem bJc.ungd {d:DV} {x:Value} (h:bJc w I A d x) (hg:gd d):bP w I A (un d) x:=by
 cases d<;>first|exact h|exact h.1 hg
theorem dB.opd (hs:dB nt w I A ρ a) (o:Operand) (ho:s9 nt o=true) (hg:gd (ev ρ o)):bP w I A (un (ev ρ o)) (a.eval o):=
 (hs.evRel o ho).ungd hg
theorem aVk {B:dD} {cs:List DV} {us:Nat->Value} (hone: ∀j,j<cs.length->(us j).oneCell'=true) (hr: ∀(j:Nat) (d:DV),cs[j]?=some d->bP w I B d (us j)):
  bP w I B (.agg cs) (.agg ((List.range cs.length).map us).toArray):=by
 refine .agg B cs _ dH (fun u hu=>?_) fun j d u hd hu=>?_
 ·simp at hu;obtain⟨j,hj,rfl⟩:=hu;exact hone j hj
 simp only[xR,dG,gC] at hu;obtain⟨k,hk,rfl⟩:=hu;have hj:j<cs.length:=by
  rcases b9 j cs.length with h|h
  ·exact h
  rw[fN (by simpa using h)] at hk;cases hk
 rw[p9 hj] at hk;cases hk;exact hr j d hd
theorem aCw {B:dD} {t:TypeId} {ld:Option Nat} (h:eA P t=some ld) {b o:Nat} {cs:List DV} {us:Nat->Value} {off:Nat}
  (hcell: ∀j,j<cs.length->w.cell? ⟨b,o+j,none⟩=some (us j)) (hone: ∀j,j<cs.length->(us j).oneCell'=true) (hr: ∀(j:Nat) (d:DV),cs[j]?=some d->bP w I B d (us j))
  (hc:(cut ld off cs).1): ∃x,(Instr.loadAt t (.pointer (some ⟨b,o+off,none⟩))).run P w=.ok x w/\bP w I B (cut ld off cs).2 x:=by
 unfold eA at h;cases ld with
 |none=>
  simp only[cut] at hc ⊢;refine⟨us off,?_,hr _ _ (by rw[cA,cH hc];rfl)⟩;have h2:=hcell off hc;split at h<;>simp at h;rename_i i d n1 n2 hi hu
  cases d<;>first
   |exact absurd rfl (n1 _)
   |exact absurd rfl (n2 _ _)
   |simp[Instr.loadAt,Instr.sureAddr,loadVar,isAgg,run_underlying hu,h2]
 |some n=>
  simp only[cut] at hc ⊢;have key: ∀i,P.info? t=some i->i.size=n->(loadCells ⟨b,o+off,none⟩ n).run P w=.ok ((List.range n).map fun j=>us (off+j)).toArray w:=fun i _ _=>
   run_loadCells w _ n (fun j=>us (off+j)) fun j hj=>by
    rw[Addr.add_lit];have:=hcell (off+j) aV
    rwa [<- yU] at this
  have hlen:((cs.drop off).take n).length=n:=by simp;omega
  refine⟨.agg ((List.range n).map fun j=>us (off+j)).toArray,?_,?_⟩
  ·split at h<;>simp at h
   ·rename_i i fs hi hu;have:=key i hi h;simp[Instr.loadAt,Instr.sureAddr,loadVar,isAgg,run_underlying hu,run_sizeOf w hi,Program.cellsOf,hi,h,this]
   rename_i i m e hi hu;have:=key i hi h;simp[Instr.loadAt,Instr.sureAddr,loadVar,isAgg,run_underlying hu,run_sizeOf w hi,Program.cellsOf,hi,h,this]
  have:=aVk (w:=w) (I:=I) (B:=B) (cs:=(cs.drop off).take n) (us:=fun j=>us (off+j)) (fun j hj=>hone _ (by rw[hlen] at hj;omega)) (fun j d hd=>by
   refine hr (off+j) d ?_;rw[oR] at hd;split at hd
   ·rwa [sC] at hd
   cases hd)
  rwa [hlen] at this
theorem aWq (hs:dB nt w I A ρ a) {t:TypeId} {d:DV} {x:Value} (hx:bP w I A d x) (h:(pM ρ (eA P t) d).1):
  ∃y,(Instr.loadAt t x).run P w=.ok y w/\bP w I A (pM ρ (eA P t) d).2 y:=by
 cases hld:eA P t with
 |none=>rw[hld] at h;exact h.elim
 |some ld=>
  rw[hld] at h;cases hx with
  |dp _ cs b o us hI hcell hone hrel=>
   obtain⟨y,h1,h2⟩:=aCw hld (off:=0) hcell hone hrel h;exact⟨y,h1,h2.ofNoOwn⟩
  |bp _ s off g c hA=>
   simp only[pM] at h ⊢;have ho:=hs.osim.own s;cases hc:ρ s<;>rw[hc] at h ho<;>simp only[aRc] at h ⊢ <;>try exact h.elim
   obtain⟨g',c',us,et,h1,h2,h3,h4,h5⟩:=ho;rw[hA] at h1;simp only[bX,cF] at h1;obtain⟨rfl,rfl⟩:=h1;rename_i cs;have hus: ∀j,j<cs.length->us[j]?=some (us.getD j undef):=fun j hj=>by simp[iY (show j<us.size by omega)]
   have:=aCw (P:=P) (w:=w) (I:=I) (B:=A) hld (b:=g) (o:=0) (cs:=cs) (us:=fun j=>us.getD j undef) (off:=off)
    (fun j hj=>by unfold World.cell?;simp only[gH,h2];simp[iY (show j<us.size by omega)])
    (fun j hj=>h4 _ (by have:=hus j hj;exact Array.mem_toList_iff.2 (tQ this)))
    (fun j d hd=>h5 j d _ hd (hus j (by rcases b9 j cs.length with h'|h';exact h';rw[fN h'] at hd;cases hd))) h
   simpa using this
  |rp _ s z i off g c hA=>
   simp only[pM] at h ⊢;have ho:=hs.osim.own s;cases hc:ρ s<;>rw[hc] at h ho<;>simp only[bGo] at h ⊢ <;>try exact h.elim
   obtain⟨B,c',h1,h2⟩:=ho;rw[hA] at h1;simp only[bX,cF] at h1;obtain⟨rfl,rfl⟩:=h1;rename_i e' z' xs;obtain⟨us,h2,h3,_,h4,h6⟩:=h2;obtain⟨rfl,hi,hcut⟩:=h;have hxi:xs[i]?=some (xs.getD i []):=by rw[cA,cH hi];rfl
   obtain⟨hl,hd⟩:=h6 i _ hxi;generalize xs.getD i []=cs at*;have hbound: ∀j,j<cs.length->i*z+j<us.size:=fun j hj=>by
    have:(i+1)*z<=c*z:=gF z aV;rw[jV] at this;omega
   have hus: ∀j,j<cs.length->us[i*z+j]?=some (us.getD (i*z+j) undef):=fun j hj=>by simp[iY (hbound j hj)]
   obtain⟨y,h1,h2⟩:=aCw (P:=P) (w:=w) (I:=I) (B:=fO) hld (b:=g) (o:=i*z) (cs:=cs) (us:=fun j=>us.getD (i*z+j) undef) (off:=off)
    (fun j hj=>by unfold World.cell?;simp only[h2];simp[iY (hbound j hj)])
    (fun j hj=>(hd j _ _ (cH hj) (hus j hj)).1)
    (fun j d hd'=>(hd j d _ hd' (hus j (by rcases b9 j cs.length with h'|h';exact h';rw[fN h'] at hd';cases hd'))).2) hcut
   exact⟨y,h1,h2.ofNoOwn⟩
  |_=>exact h.elim
theorem aYg {s:TypeId} {f:Nat} {d:DV} {x:Value} (hx:bP w I A d x) (h:(aSp (bT P s f) d).1):
  ∃y,(Instr.fieldAt s x f).run P w=.ok y w/\bP w I A (aSp (bT P s f) d).2 y:=by
 unfold bT at h ⊢;split at h<;>try exact h.elim
 rename_i fs hu;split at h<;>try exact h.elim
 rename_i fd hf;split at h<;>try exact h.elim
 rename_i i hi;split at h<;>try exact h.elim
 rename_i hz;simp only[hu,hf,hi,hz,s7] at h ⊢;have key: ∀b o,(Instr.fieldAt s (.pointer (some ⟨b,o,none⟩)) f).run P w=.ok (.pointer (some ⟨b,o+fd.offset,none⟩)) w:=fun b o=>by
  simp[Instr.fieldAt,run_underlying hu,hf,Instr.sureAddr,fieldPlace,run_sizeOf w hi,Program.cellsOf,hi,hz,Addr.add_lit]
 cases hx with
 |dp _ cs b o us hI hcell hone hrel=>
  refine⟨_,key b o,?_⟩;refine .dp A _ b (o+fd.offset) (fun j=>us (fd.offset+j)) hI (fun j hj=>?_) (fun j hj=>hone _ (by simp at hj;omega)) (fun j d hd=>hrel _ _ (by rwa [sC] at hd));have:=hcell (fd.offset+j) (by simp at hj;omega)
  rwa [<- yU] at this
 |bp _ s off g c hA=>exact⟨_,key g off,.bp A s (off+fd.offset) g c hA⟩
 |rp _ s z i off g c hA=>exact⟨_,key g _,by rw[yU];exact .rp A s z i (off+fd.offset) g c hA⟩
 |_=>exact h.elim
theorem aWl (hs:dB nt w I A ρ a) {t:TypeId} {d e:DV} {x y:Value} (hx:bP w I A d x) (hy:bP w I A e y) (h:(yE ρ (fZ P t) d e).1):
  ∃r,(Instr.indexAt t x y).run P w=.ok r w/\bP w I A (yE ρ (fZ P t) d e).2 r:=by
 cases hel:fZ P t with
 |none=>rw[hel] at h;exact h.elim
 |some el=>
  rw[hel] at h;obtain⟨on,z⟩:=el;unfold fZ at hel;have he: ∃kk k,e=.v (.int kk k):=by
   cases on<;>cases e<;>simp only[yE] at h<;>try exact h.elim
   all_goals (rename_i q;cases q<;>simp only[yE] at h<;>first|exact h.elim|exact⟨_,_,rfl⟩)
  obtain⟨kk,k,rfl⟩:=he;cases hy;cases on with
  |none=>
   split at hel<;>simp at hel;rename_i e' hu;obtain⟨i,hi,hz⟩:=hel;have key: ∀(b o n c:Nat),0<=k->k<(n:Int)->(Instr.indexAt t (.slice (some ⟨b,o,none⟩) n c) (.int kk k)).run P w=.ok (.pointer (some ⟨b,o+k.toNat*z,none⟩)) w:=fun b o n c h1 h2=>by
    simp[Instr.indexAt,asIntOf,run_underlying hu,h1,h2,run_sizeOf w hi,Program.cellsOf,hi,hz,Addr.add_lit]
   cases hx with
   |sl0 _ z' f b c=>simp only[yE] at h;omega
   |sl _ z' n f b o c us hn hc hm hI hzz hcell hone hrel=>
    obtain⟨rfl,h1,h2⟩:=h;refine⟨_,key b o n c h1 h2,?_⟩;have hk:k.toNat<n:=by omega
    refine .dp A _ b _ (us k.toNat) hI (fun j hj=>?_) (fun j hj=>hone _ _ hk (by rwa [hzz _ hk] at hj)) (fun j d hd=>hrel _ _ _ hk hd);rw[yU];exact hcell _ _ hk (by rwa [hzz _ hk] at hj)
   |own _ s n B c b hA hb=>
    obtain⟨h1,h2,e',xs,hxs,hle⟩:=h;have ho:=hs.osim.own s;rw[hxs] at ho;obtain⟨B',c',hA',hrow⟩:=ho;rw[hA] at hA';simp only[bX,cF] at hA';obtain⟨rfl,rfl⟩:=hA';cases B with
    |none=>
     obtain⟨rfl,_⟩:=hrow;simp at hle;omega
    |some g=>
     obtain rfl:=iX hb;refine⟨_,key g 0 n c h1 h2,?_⟩;have:=bP.rp (w:=w) (I:=I) A s z k.toNat 0 g c hA;simp only[gH,iD] at this ⊢;exact this
   |_=>exact h.elim
  |some n=>
   split at hel<;>simp at hel;rename_i m e' hu;obtain⟨i,hi,rfl,hz⟩:=hel;have key: ∀b o,0<=k->k<(m:Int)->(Instr.indexAt t (.pointer (some ⟨b,o,none⟩)) (.int kk k)).run P w=.ok (.pointer (some ⟨b,o+k.toNat*z,none⟩)) w:=fun b o h1 h2=>by
    simp[Instr.indexAt,Instr.sureAddr,asIntOf,run_underlying hu,h1,h2,run_sizeOf w hi,Program.cellsOf,hi,hz,Addr.add_lit]
   cases hx with
   |dp _ cs b o us hI hcell hone hrel=>
    refine⟨_,key b o h.1 h.2,?_⟩;refine .dp A _ b _ (fun j=>us (k.toNat*z+j)) hI (fun j hj=>?_) (fun j hj=>hone _ (by simp at hj;omega)) (fun j d hd=>hrel _ _ (by rwa [sC] at hd));have:=hcell (k.toNat*z+j) (by simp at hj;omega)
    rwa [<- yU] at this
   |bp _ s off g c hA=>exact⟨_,key g off h.1 h.2,.bp A s _ g c hA⟩
   |rp _ s z' i' off g c hA=>exact⟨_,key g _ h.1 h.2,by rw[yU];exact .rp A s z' i' _ g c hA⟩
   |_=>exact h.elim
theorem bUa (op:BinOp) (t:TypeId) (x y:Operand) (k k':IntKind) (p q:Int) (h:(bMo op k p k' q).1):
  ∃r,(eqGuard op t x y (.int k p) (.int k' q)>>=fun _=>binOp op t (.int k p) (.int k' q)).run P w=.ok r w/\bP w I A (bMo op k p k' q).2 r:=by
 rw[eqGuard_at_int];cases op<;>simp only[bMo] at h ⊢
 case add=>subst h;exact⟨_,by simp[binOp,Op.intArith],.v A _⟩
 case sub=>subst h;exact⟨_,by simp[binOp,Op.intArith],.v A _⟩
 case mul=>subst h;exact⟨_,by simp[binOp,Op.intArith],.v A _⟩
 case quo=>obtain⟨rfl,h⟩:=h;exact⟨_,by simp[binOp,Op.intDiv,h],.v A _⟩
 case rem=>obtain⟨rfl,h⟩:=h;exact⟨_,by simp[binOp,Op.intDiv,h],.v A _⟩
 case and=>subst h;exact⟨_,by simp[binOp,Op.intBits],.v A _⟩
 case or=>subst h;exact⟨_,by simp[binOp,Op.intBits],.v A _⟩
 case xor=>subst h;exact⟨_,by simp[binOp,Op.intBits],.v A _⟩
 case andNot=>subst h;exact⟨_,by simp[binOp,Op.intBits],.v A _⟩
 case shl=>exact⟨_,by simp[binOp,Op.shift,Int.not_lt.2 h],.v A _⟩
 case shr=>exact⟨_,by simp[binOp,Op.shift,Int.not_lt.2 h],.v A _⟩
 case eql=>subst h;exact⟨_,by simp[binOp,Op.intCmp],.v A _⟩
 case neq=>subst h;exact⟨_,by simp[binOp,Op.intCmp],.v A _⟩
 case lss=>subst h;exact⟨_,by simp[binOp,Op.intCmp],.v A _⟩
 case leq=>subst h;exact⟨_,by simp[binOp,Op.intCmp],.v A _⟩
 case gtr=>subst h;exact⟨_,by simp[binOp,Op.intCmp],.v A _⟩
 case geq=>subst h;exact⟨_,by simp[binOp,Op.intCmp],.v A _⟩
theorem bSb (op:BinOp) (t:TypeId) (x y:Operand) (p q:ByteArray) (h:(bWb op p q).1):
  ∃r,(eqGuard op t x y (.string p) (.string q)>>=fun _=>binOp op t (.string p) (.string q)).run P w=.ok r w/\bP w I A (bWb op p q).2 r:=by
 rw[eqGuard_at_string];cases op<;>simp only[bWb] at h ⊢ <;>try exact h.elim
 case add=>
  have h':((p.size:Int)+(q.size:Int))<=9223372036854775807:=by unfold maxLen at h;omega
  exact⟨_,by simp[binOp,Op.stringOp,h'],.v A _⟩
 case eql=>exact⟨_,by simp[binOp,Op.stringOp],.v A _⟩
 case neq=>exact⟨_,by simp[binOp,Op.stringOp],.v A _⟩
 case lss=>exact⟨_,by simp[binOp,Op.stringOp],.v A _⟩
 case leq=>exact⟨_,by simp[binOp,Op.stringOp],.v A _⟩
 case gtr=>exact⟨_,by simp[binOp,Op.stringOp],.v A _⟩
 case geq=>exact⟨_,by simp[binOp,Op.stringOp],.v A _⟩
theorem bEg {t:TypeId} (h:tk P t=3):P.underlying t=some .bool:=by
 unfold tk at h;split at h<;>simp_all
theorem y2 {t:TypeId} (h:tk P t=2): ∃e,P.underlying t=some (.slice e):=by
 unfold tk at h;split at h<;>simp_all
theorem aHk {t:TypeId} (h:tk P t=1):P.underlying t=some .string:=by
 unfold tk at h;split at h<;>simp_all
theorem zX {t:TypeId} (h:P.underlying t=some .bool) (p q:Bool):(Op.equal t (.bool p) (.bool q)).run P w=.ok (p==q) w:=by
 have: ∀d,(Op.equalIn (d+1) t (.bool p) (.bool q)).run P w=.ok (p==q) w:=fun d=>by simp[Op.equalIn,run_underlying h]
 exact this 9999
theorem bVu (op:BinOp) (t:TypeId) (x y:Operand) (p q:Bool) (h:(bMx (tk P t) op p q).1):
  ∃r,(eqGuard op t x y (.bool p) (.bool q)>>=fun _=>binOp op t (.bool p) (.bool q)).run P w=.ok r w/\bP w I A (bMx (tk P t) op p q).2 r:=by
 rw[eqGuard_at_bool];cases op<;>simp only[bMx] at h ⊢ <;>try exact h.elim
 case eql=>exact⟨_,by simp only[binOp];simp[zX (bEg h)],.v A _⟩
 case neq=>exact⟨_,by simp only[binOp];simp[zX (bEg h)],.v A _⟩
def okV:List Nat->List Value->List Value->Prop
 | [],[],[]=>True
 |1::ks,.int k _::xs,.int k' _::ys=>k=k'/\okV ks xs ys
 |2::ks,.bool _::xs,.bool _::ys=>okV ks xs ys
 |3::ks,.string _::xs,.string _::ys=>okV ks xs ys
 |_,_,_=>False
def alV:List Value->List Value->Bool
 | [],[]=>true
 | .int _ a::xs,.int _ b::ys=>(a==b)&&alV xs ys
 | .bool a::xs,.bool b::ys=>(a==b)&&alV xs ys
 | .string a::xs,.string b::ys=>(a==b)&&alV xs ys
 |_,_=>false
def vOf (P:Program) (t:TypeId) (cs:List Value):Value:=
 match P.underlying t with
 |some (.struct _)=>.agg cs.toArray
 |_=>cs.headD undef
theorem zV {k:Nat} {ks:List Nat} {xs ys:List Value} (h:okV (k::ks) xs ys): ∃x y xs' ys',xs=x::xs'/\ys=y::ys'/\okV [k] [x] [y]/\okV ks xs' ys'/\alV xs ys=(alV [x] [y]&&alV xs' ys'):=by
 unfold okV at h;split at h<;>try exact h.elim
 ·cases ‹_::_=[]›
 ·rename_i he;cases he;exact⟨_,_,_,_,rfl,rfl,⟨h.1,trivial⟩,h.2,by simp[alV]⟩
 ·rename_i he;cases he;exact⟨_,_,_,_,rfl,rfl,trivial,h,by simp[alV]⟩
 rename_i he;cases he;exact⟨_,_,_,_,rfl,rfl,trivial,h,by simp[alV]⟩
theorem uC: ∀{ks:List Nat} {xs ys:List Value},okV ks xs ys->xs.length=ks.length/\ys.length=ks.length
 | [],xs,ys,h=>by
  cases xs<;>cases ys<;>simp[okV] at h ⊢
 |k::ks,xs,ys,h=>by
  obtain⟨x,y,xs',ys',rfl,rfl,_,h2,_⟩:=zV h;obtain⟨h3,h4⟩:=uC h2;exact⟨by simp[h3],by simp[h4]⟩
theorem aUq: ∀{a b:List Nat} {xs ys:List Value},okV (a++b) xs ys->okV a (xs.take a.length) (ys.take a.length)/\okV b (xs.drop a.length) (ys.drop a.length)/\
   alV xs ys=(alV (xs.take a.length) (ys.take a.length)&&alV (xs.drop a.length) (ys.drop a.length))
 | [],b,xs,ys,h=>⟨by simp[okV],by simpa using h,by simp[alV]⟩
 |k::a,b,xs,ys,h=>by
  rw[wA] at h;obtain⟨x,y,xs',ys',rfl,rfl,h1,h2,h3⟩:=zV h;obtain⟨i1,i2,i3⟩:=aUq h2;refine⟨?_,by simpa using i2,?_⟩
  ·simp only[qH,aHc];unfold okV at h1 ⊢;split at h1<;>first|exact h1.elim|skip
   all_goals simp_all
  rw[h3,i3];simp only[qH,aHc,List.drop_succ_cons];rw[<- Bool.and_assoc];congr 1;unfold okV at h1;split at h1<;>first|exact h1.elim|skip
  all_goals simp_all [alV]
theorem yY {w:World} {t:TypeId} {X:Array Value} {off d:Nat} {a:List Nat} {i:TypeInfo} (hk:aOw P d t=some a) (hi:P.info? t=some i) (hs:i.size=a.length) (hl:off+a.length<=X.size):
  (part t X off).run P w=.ok (vOf P t ((X.toList.drop off).take a.length)) w:=by
 cases d with
 |zero=>cases hk
 |succ d=>
  unfold aOw at hk;have hsz:(sizeOf t).run P w=.ok i.size w:=by rw[run_sizeOf w hi];simp[Program.cellsOf,hi]
  have one:a.length=1->(isAgg t).run P w=.ok false w->(∀cs:List Value,vOf P t cs=cs.headD undef)->(part t X off).run P w=.ok (vOf P t ((X.toList.drop off).take a.length)) w:=fun h1 h2 h3=>by
   have hlt:off<X.size:=by omega
   have hx:X[off]?=some X[off]:=iY hlt;rw[h3,h1];have e:((X.toList.drop off).take 1).headD undef=X[off]:=by
    rw[aMf (by simpa using hlt)];simp
   rw[e];unfold part;simp[h2,hx]
  split at hk
  ·rename_i hu;cases hk;exact one rfl (by simp[isAgg,run_underlying hu]) fun cs=>by simp[vOf,hu]
  ·rename_i hu;cases hk;exact one rfl (by simp[isAgg,run_underlying hu]) fun cs=>by simp[vOf,hu]
  ·rename_i hu;cases hk;exact one rfl (by simp[isAgg,run_underlying hu]) fun cs=>by simp[vOf,hu]
  ·rename_i fs hu;have h2:(isAgg t).run P w=.ok true w:=by simp[isAgg,run_underlying hu]
   unfold part;simp only[Sem.run_bind,h2,Result.andThen_ok,if_true,hsz,Sem.run_pure,vOf,hu];congr 2;apply aJm;simp[hs,List.extract_eq_take_drop]
  cases hk
theorem wC {w:World}: ∀(d:Nat) (t:TypeId) (ks:List Nat) (xs ys:List Value),aOw P d t=some ks->okV ks xs ys-> ∀m,(Op.equalIn (d+m) t (vOf P t xs) (vOf P t ys)).run P w=.ok (alV xs ys) w
 |0,t,ks,xs,ys,hk,_,m=>by cases hk
 |d+1,t,ks,xs,ys,hk,ho,m=>by
  rw[show d+1+m=(d+m)+1 by omega];unfold aOw at hk;split at hk
  ·rename_i hu;cases hk;obtain⟨x,y,xs',ys',rfl,rfl,h1,h2,_⟩:=zV ho;unfold okV at h1;split at h1<;>simp_all [okV];obtain⟨h3,h4⟩:=uC h2;obtain rfl:=nN h3;obtain rfl:=nN h4;unfold Op.equalIn;simp[run_underlying hu,vOf,hu,alV]
  ·rename_i hu;cases hk;obtain⟨x,y,xs',ys',rfl,rfl,h1,h2,_⟩:=zV ho;unfold okV at h1;split at h1<;>simp_all [okV];obtain⟨h3,h4⟩:=uC h2;obtain rfl:=nN h3;obtain rfl:=nN h4;unfold Op.equalIn;simp[run_underlying hu,vOf,hu,alV]
  ·rename_i hu;cases hk;obtain⟨x,y,xs',ys',rfl,rfl,h1,h2,_⟩:=zV ho;unfold okV at h1;split at h1<;>simp_all [okV];obtain⟨h3,h4⟩:=uC h2;obtain rfl:=nN h3;obtain rfl:=nN h4;unfold Op.equalIn;simp[run_underlying hu,vOf,hu,alV]
  ·rename_i fs hu;split at hk
   ·cases hk
   rename_i hst;have hst:P.stoodInHeld t=false:=by simpa using hst
   have loop: ∀(l:List Field) (off:Nat) (k:List Nat),cBo P (aOw P d) l off=some k->okV k (xs.drop off) (ys.drop off)->off+k.length<=xs.length->off+k.length<=ys.length->
     (Sem.run P (forIn l ((none:Option Bool),()) fun f (_:Option Bool×Unit)=>(if f.name= "_" then pure (ForInStep.yield (none,())) else do
       let a <- part f.type xs.toArray f.offset
       let b <- part f.type ys.toArray f.offset
       let c <- Op.equalIn (d+m) f.type a b
       if c=false then pure (ForInStep.done (some false,())) else pure (ForInStep.yield (none,())):Sem (ForInStep (Option Bool×Unit)))) w)=.ok (if alV (xs.drop off) (ys.drop off) then (none,()) else (some false,())) w:=by
    intro l
    induction l with
    |nil=>
     intro off k hk ho h1 h2;cases hk;have:=uC ho;rw[nN this.1,nN this.2];rfl
    |cons f l ih=>
     intro off k hk ho h1 h2;unfold cBo at hk;split at hk
     ·cases hk
     rename_i hn;rw[not_or,Decidable.not_not] at hn;obtain⟨hn1,hn2⟩:=hn;split at hk<;>try cases hk
     rename_i i a hi ha;split at hk<;>try cases hk
     rename_i hs;obtain⟨k',hk',rfl⟩:=gC.1 hk;obtain⟨o1,o2,o3⟩:=aUq ho;rw[fP] at h1 h2;have p1:=yY (P:=P) (w:=w) (X:=xs.toArray) (off:=off) ha hi hs (by simp;omega);have p2:=yY (P:=P) (w:=w) (X:=ys.toArray) (off:=off) ha hi hs (by simp;omega);have p3:=wC (w:=w) d f.type a _ _ ha o1 m;rw[xW,xW] at o2 o3;have p4:=ih (off+a.length) k' hk' o2 aV aV;rw[List.forIn_cons];simp only[hn1,s7,hn2,Sem.run_bind,p1,p2,p3,Result.andThen_ok,List.toList_toArray] at*;cases hc:alV (List.take a.length (List.drop off xs)) (List.take a.length (List.drop off ys)) with
     |false=>simp[o3,hc]
     |true=>simp[o3,hc];simpa using p4
   have hl:=uC ho;have:=loop fs.toList 0 ks hk (by simpa using ho) aV aV;unfold Op.equalIn;simp only[vOf,hu];simp[run_underlying hu,hst];rw[<- Array.forIn_toList,this,iP,iP];cases alV xs ys<;>rfl
  cases hk
theorem bJu {w:World} {t e:TypeId} {n k:Nat} {i:TypeInfo} (hu:P.underlying t=some (.array n e)) (hi:P.info? e=some i) (hk:aOw P 1 e=some [k]) (h1:i.size=1) {xs ys:List Value} (ho:okV (List.replicate n k) xs ys):
  (Op.equal t (.agg xs.toArray) (.agg ys.toArray)).run P w=.ok (alV xs ys) w:=by
 have hl:=uC ho;rw[List.length_replicate] at hl
 have loop: ∀(m s:Nat),s+m=n->okV (List.replicate m k) (xs.drop s) (ys.drop s)->
   (Sem.run P (forIn (List.range' s m) ((none:Option Bool),()) fun j (_:Option Bool×Unit)=>(do
     let a <- part e xs.toArray (j*1)
     let b <- part e ys.toArray (j*1)
     let c <- Op.equalIn 9999 e a b
     if c=false then pure (ForInStep.done (some false,())) else pure (ForInStep.yield (none,())):Sem (ForInStep (Option Bool×Unit)))) w)=.ok (if alV (xs.drop s) (ys.drop s) then (none,()) else (some false,())) w:=by
  intro m
  induction m with
  |zero=>
   intro s hs ho;have:=uC ho;rw[nN this.1,nN this.2];rfl
  |succ m ih=>
   intro s hs ho;rw[List.replicate_succ] at ho;have ho':okV ([k]++List.replicate m k) (xs.drop s) (ys.drop s):=ho;obtain⟨o1,o2,o3⟩:=aUq ho';have p1:=yY (P:=P) (w:=w) (X:=xs.toArray) (off:=s) hk hi h1 (by simp;omega);have p2:=yY (P:=P) (w:=w) (X:=ys.toArray) (off:=s) hk hi h1 (by simp;omega);have p3:=wC (w:=w) 1 e [k] _ _ hk o1 9998;rw[xW,xW] at o2 o3;have p4:=ih (s+1) aV o2;have p3:(Op.equalIn 9999 e (vOf P e (List.take [k].length (List.drop s xs))) (vOf P e (List.take [k].length (List.drop s ys)))).run P w=.ok (alV (List.take [k].length (List.drop s xs)) (List.take [k].length (List.drop s ys))) w:=p3;simp only[List.toList_toArray] at p1 p2;rw[List.range'_succ,List.forIn_cons];simp only[Nat.mul_one,Sem.run_bind,p1,p2,p3,Result.andThen_ok];cases hc:alV (List.take [k].length (List.drop s xs)) (List.take [k].length (List.drop s ys)) with
   |false=>rw[hc,aYa] at o3;rw[o3];simp
   |true=>
    rw[hc,zG] at o3;rw[o3];simpa using p4
 have:=loop n 0 aV (by simpa using ho);have e0:Op.equal t (.agg xs.toArray) (.agg ys.toArray)=Op.equalIn (9999+1) t (.agg xs.toArray) (.agg ys.toArray):=rfl;have hsz:(sizeOf e).run P w=.ok 1 w:=by rw[run_sizeOf w hi];simp[Program.cellsOf,hi,h1]
 rw[e0];unfold Op.equalIn;simp only[Sem.run_bind,run_underlying hu,Result.andThen_ok,hsz];simp[Std.Legacy.Range.forIn_eq_forIn_range',Std.Legacy.Range.size];simp at this;rw[this];cases alV xs ys<;>rfl
theorem bOo {w:World} {I:Nat->Prop} {A:dD}: ∀(ks:List Nat) (cs ds:List DV) (xs ys:List Value),cs.length=xs.length->ds.length=ys.length->
  (∀(j:Nat) (d:DV) (u:Value),cs[j]?=some d->xs[j]?=some u->bP w I A d u)->(∀(j:Nat) (d:DV) (u:Value),ds[j]?=some d->ys[j]?=some u->bP w I A d u)->
  (eqL ks cs ds).1->okV ks xs ys/\(eqL ks cs ds).2=alV xs ys:=by
 intro ks
 induction ks with
 |nil=>
  intro cs ds xs ys h1 h2 h3 h4 h;cases cs<;>cases ds<;>simp[eqL] at h;cases xs<;>simp at h1;cases ys<;>simp at h2;exact⟨trivial,rfl⟩
 |cons k ks ih=>
  intro cs ds xs ys h1 h2 h3 h4 h;unfold eqL at h ⊢;split at h
  ·contradiction
  ·rename_i he;cases he;rcases xs with _|⟨x,xs⟩
   ·simp at h1
   rcases ys with _|⟨y,ys⟩
   ·simp at h2
   have r1:=h3 0 _ x rfl rfl;have r2:=h4 0 _ y rfl rfl;cases r1;cases r2;obtain⟨i1,i2⟩:=ih _ _ xs ys (by simpa using h1) (by simpa using h2) (fun j d u hd hu=>h3 (j+1) d u (by simpa using hd) (by simpa using hu)) (fun j d u hd hu=>h4 (j+1) d u (by simpa using hd) (by simpa using hu)) h.2;exact⟨⟨h.1,i1⟩,by simp[alV,i2]⟩
  ·rename_i he;cases he;rcases xs with _|⟨x,xs⟩
   ·simp at h1
   rcases ys with _|⟨y,ys⟩
   ·simp at h2
   have r1:=h3 0 _ x rfl rfl;have r2:=h4 0 _ y rfl rfl;cases r1;cases r2;obtain⟨i1,i2⟩:=ih _ _ xs ys (by simpa using h1) (by simpa using h2) (fun j d u hd hu=>h3 (j+1) d u (by simpa using hd) (by simpa using hu)) (fun j d u hd hu=>h4 (j+1) d u (by simpa using hd) (by simpa using hu)) h;exact⟨i1,by simp[alV,i2]⟩
  ·rename_i he;cases he;rcases xs with _|⟨x,xs⟩
   ·simp at h1
   rcases ys with _|⟨y,ys⟩
   ·simp at h2
   have r1:=h3 0 _ x rfl rfl;have r2:=h4 0 _ y rfl rfl;cases r1;cases r2;obtain⟨i1,i2⟩:=ih _ _ xs ys (by simpa using h1) (by simpa using h2) (fun j d u hd hu=>h3 (j+1) d u (by simpa using hd) (by simpa using hu)) (fun j d u hd hu=>h4 (j+1) d u (by simpa using hd) (by simpa using hu)) h;exact⟨i1,by simp[alV,i2]⟩
  exact h.elim
theorem bQs (op:BinOp) (t:TypeId) (x y:Operand) {d e:DV} {u v:Value} (hu:bP w I A d u) (hv:bP w I A e v) (h:(aOs (yT P t) (tk P t) op d e).1):
  ∃r,(eqGuard op t x y u v>>=fun _=>binOp op t u v).run P w=.ok r w/\bP w I A (aOs (yT P t) (tk P t) op d e).2 r:=by
 cases d with
 |v _=>
  cases hu;cases e with
  |v _=>
   cases hv
   cases u<;>cases v<;>simp only[aOs] at h ⊢ <;>first
    |exact bUa op t x y _ _ _ _ h
    |exact bSb op t x y _ _ h
    |exact bVu op t x y _ _ h
    |exact h.elim
  |_=>cases u<;>exact h.elim
 |agg cs=>
  cases e with
  |agg ds=>
   cases hu with
   |agg _ _ xs hxl hxo hxr=>
    cases hv with
    |agg _ _ ys hyl hyo hyr=>
     have h:(bUg (yT P t) op cs ds).1:=h;show ∃r,_/\bP w I A (bUg (yT P t) op cs ds).2 r;unfold bUg at h ⊢;cases hes:yT P t with
     |none=>rw[hes] at h;cases op<;>exact h.elim
     |some ks=>
      rw[hes] at h;have hgd:P.eqGuardType P.depth t=false:=by
       cases hg:P.eqGuardType P.depth t with
       |false=>rfl
       |true=>
        exfalso;unfold yT at hes;split at hes<;>simp[hg] at hes
      have hguard: ∀op,(eqGuard op t x y (.agg xs) (.agg ys)).run P w=.ok () w:=fun op=>by
       unfold eqGuard;cases op<;>simp[hgd]
      have key:(eqL ks cs ds).1->(Op.equal t (.agg xs) (.agg ys)).run P w=.ok (eqL ks cs ds).2 w:=fun hk=>by
       obtain⟨k1,k2⟩:=bOo ks cs ds xs.toList ys.toList (by simpa using hxl) (by simpa using hyl) (fun j d u hd hu'=>hxr j d u hd (by simpa using hu')) (fun j d u hd hu'=>hyr j d u hd (by simpa using hu')) hk;rw[k2];unfold yT at hes;split at hes<;>try cases hes
       ·rename_i fs hu;split at hes<;>try cases hes
        have:=wC (P:=P) (w:=w) 40 t ks xs.toList ys.toList hes k1 9960;simpa[vOf,hu,Op.equal,Op.maxDepth] using this
       rename_i n e hu;split at hes<;>try cases hes
       split at hes<;>try cases hes
       rename_i i k hi hk1;split at hes<;>cases hes;rename_i h1;simpa using bJu (P:=P) (w:=w) hu hi hk1 h1 k1
      cases op<;>simp only at h ⊢ <;>try exact h.elim
      case eql=>exact⟨_,by simp only[binOp];simp[hguard,key h],.v A _⟩
      case neq=>exact⟨_,by simp only[binOp];simp[hguard,key h],.v A _⟩
  |_=>exact h.elim
 |_=>exact h.elim
theorem bXd (op:UnOp) {d:DV} {u:Value} (hu:bP w I A d u) (h:(unP op d).1): ∃r,(Op.unary op u).run P w=.ok r w/\bP w I A (unP op d).2 r:=by
 cases d with
 |v _=>
  cases hu
  cases op<;>cases u<;>simp only[unP] at h ⊢ <;>first
   |exact h.elim
   |exact⟨_,by simp[Op.unary,Op.intArith],.v A _⟩
 |_=>cases op<;>exact h.elim
theorem bRn {t ty:TypeId} {d:DV} {u:Value} (hu:bP w I A d u) (h:(aWv (tk P t) d).1):
  ∃r,(Builtin.len_ #[t] ty #[u]).run P w=.ok r w/\bP w I A (aWv (tk P t) d).2 r:=by
 cases hu with
 |sl0 _ z f b c=>obtain⟨e,he⟩:=y2 h;exact⟨_,by simp[Builtin.len_,run_underlying he];rfl,.v A _⟩
 |sl _ z n f b o c us hn hc hm hI hz hcell hone hrel=>obtain⟨e,he⟩:=y2 h;exact⟨_,by simp[Builtin.len_,run_underlying he];rfl,.v A _⟩
 |own _ s n B c b hA hb=>obtain⟨e,he⟩:=y2 h;exact⟨_,by simp[Builtin.len_,run_underlying he];rfl,.v A _⟩
 |ez _ b=>obtain⟨e,he⟩:=y2 h;exact⟨_,by simp[Builtin.len_,run_underlying he];rfl,.v A _⟩
 |v _ _=>
  cases u<;>simp only[aWv] at h ⊢ <;>try exact h.elim
  case string s=>exact⟨_,by simp[Builtin.len_,run_underlying (aHk h)];rfl,.v A _⟩
  case slice b n c=>obtain⟨e,he⟩:=y2 h;exact⟨_,by simp[Builtin.len_,run_underlying he];rfl,.v A _⟩
 |_=>exact h.elim
theorem bKt {s t:TypeId} {d:DV} {u:Value} (hs:(P.underlying s).isSome=true) (hu:bP w I A d u) (h:(aBn (aOt P t) d).1):
  ∃r,(convert s t u).run P w=.ok r w/\bP w I A (aBn (aOt P t) d).2 r:=by
 cases hk:aOt P t with
 |none=>rw[hk] at h;exact h.elim
 |some k=>
  rw[hk] at h;have ht:P.underlying t=some (.int k):=by
   unfold aOt at hk;split at hk<;>simp_all
  obtain⟨sd,hsd⟩:=Option.isSome_iff_exists.mp hs;cases d with
  |v _=>
   cases hu;cases u<;>simp only[aBn] at h ⊢ <;>try exact h.elim
   exact⟨_,by simp[convert,run_underlying hsd,run_underlying ht,Conv.intToInt],.v A _⟩
  |_=>exact h.elim
theorem bVw {d:DV} {u:Value} {i:Nat} (hu:bP w I A d u) (h:(aSv d i).1): ∃r,(Instr.extract u i).run P w=.ok r w/\bP w I A (aSv d i).2 r:=by
 cases hu with
 |tup _ cs vs hl hrel=>
  have hi:i<cs.length:=h;have hv:vs[i]?=some (vs[i]'(by omega)):=iY aV;exact⟨vs[i]'(by omega),by simp[Instr.extract,hv],hrel i _ _ (by show cs[i]?=some (cs.getD i .any);rw[cA,cH hi];rfl) hv⟩
 |_=>exact h.elim
theorem cCd {t:TypeId} {el:Option (Option Nat×Nat)} {ld:Option (Option Nat)} {d e:DV} {u v:Value} (hu:bP w I A d u) (hv:bP w I A e v) (h:(atP el ld (tk P t) d e).1):
  ∃r,(Instr.index t u v).run P w=.ok r w/\bP w I A (atP el ld (tk P t) d e).2 r:=by
 cases d with
 |v _=>
  cases hu;cases e with
  |v _=>
   cases hv;cases u<;>cases v<;>simp only[atP] at h ⊢ <;>try exact h.elim
   rename_i s k n;obtain⟨h1,h2,h3⟩:=h;have hn:n.toNat<s.data.size:=by
    have:s.size=s.data.size:=rfl;omega
   have hb:s[n.toNat]?=some (s.data.getD n.toNat 0):=by
    show s.data[n.toNat]?=_;simp[iY hn,oB]
   refine⟨_,?_,.v A _⟩;simp[Instr.index,asIntOf,run_underlying (aHk h1),h2,hb]
  |_=>cases u<;>exact h.elim
 |_=>exact h.elim
theorem aAg {x:Value} {k:IntKind} {i:Int} {y:Nat} {c:BoundsCode} (hx:x=.int k i) (h0:0<=i) (h1:i<=y):(Instr.sliceBound x y c).run P w=.ok i.toNat w:=by
 subst hx;simp[Instr.sliceBound,asIntOf,h0,h1]
def bnd (lv:Option Value) (l d:Nat):Prop:=(lv=none/\l=d)\/ ∃k i,lv=some (.int k i)/\0<=i/\i.toNat=l
theorem s5 {sl:Bool} {lv hv:Option Value} {l h n c:Nat} (hl:bnd lv l 0) (hh:bnd hv h n) (h1:l<=h) (h2:h<=c):
  (Instr.sliceBounds sl n c lv hv none).run P w=.ok (l,h,c) w:=by
 rcases hl with ⟨rfl,rfl⟩|⟨k,i,rfl,hi,rfl⟩
 ·rcases hh with ⟨rfl,rfl⟩|⟨k',i',rfl,hi',rfl⟩
  ·simp[Instr.sliceBounds]
  have:=aAg (P:=P) (w:=w) (x:=.int k' i') (c:=if sl then .sliceAcap else .sliceAlen) rfl hi' (show i'<=(c:Int) by omega);simp[Instr.sliceBounds,this]
 rcases hh with ⟨rfl,rfl⟩|⟨k',i',rfl,hi',rfl⟩
 ·have:=aAg (P:=P) (w:=w) (x:=.int k i) (c:=.sliceB) rfl hi (show i<=(h:Int) by omega);simp[Instr.sliceBounds,this]
 have h3:=aAg (P:=P) (w:=w) (x:=.int k' i') (c:=if sl then .sliceAcap else .sliceAlen) rfl hi' (show i'<=(c:Int) by omega);have h4:=aAg (P:=P) (w:=w) (x:=.int k i) (c:=.sliceB) rfl hi (show i<=((i'.toNat:Nat):Int) by omega);simp[Instr.sliceBounds,h3,h4]
theorem wW {t:TypeId} {z:Nat} (hel:fZ P t=some (none,z)) {n:Nat} {f:Nat->List DV} {u:Value} (hu:bP w I A (.sl z n f) u)
  {lv hv:Option Value} {l h:Nat} (hl:bnd lv l 0) (hh:bnd hv h n) (h1:l<=h) (h2:h<=n):
  ∃r,(Instr.sliceAt t u lv hv none).run P w=.ok r w/\bP w I A (.sl z (h-l) fun i=>f (l+i)) r:=by
 unfold fZ at hel;split at hel<;>simp at hel;rename_i e hu';obtain⟨i,hi,hz⟩:=hel;have key: ∀(b:Option Addr) (c:Nat),n<=c->(Instr.sliceAt t (.slice b n c) lv hv none).run P w=.ok (.slice (if c=l then b else b.map (·.add (l*z))) (h-l) (c-l)) w:=fun b c hc=>by
  simp[Instr.sliceAt,Instr.slice,run_underlying hu',s5 (P:=P) (w:=w) (sl:=true) hl hh h1 (eL h2 hc),run_sizeOf w hi,Program.cellsOf,hi,hz]
 cases hu with
 |sl0 _ z f b c=>
  refine⟨_,key b c (nJ _),?_⟩;obtain rfl:h=0:=by omega
  simp only[Nat.zero_sub];exact .sl0 A z _ _ _
 |sl _ z n f b o c us hn hc hm hI hzz hcell hone hrel=>
  refine⟨_,key _ c hc,?_⟩;by_cases h0:h-l=0
  ·rw[h0];exact .sl0 A z _ _ _
  rw[if_neg aV];simp only[gG,Addr.add_lit]
  refine .sl A z _ _ b (o+l*z) (c-l) (fun i j=>us (l+i) j) aV aV aV hI (fun i hi=>hzz _ aV) (fun i j hi hj=>?_) (fun i j hi hj=>hone _ _ aV hj)
   (fun i j d hi hd=>hrel _ _ _ aV hd)
  have:=hcell (l+i) j aV hj;rw[Nat.add_mul] at this;rw[<- this];congr 2;omega
theorem zA {t:TypeId} (hk:tk P t=1) {s:ByteArray} {lv hv:Option Value} {l h:Nat} (hl:bnd lv l 0) (hh:bnd hv h s.size) (h1:l<=h) (h2:h<=s.size):
  (Instr.sliceAt t (.string s) lv hv none).run P w=.ok (.string (s.extract l h)) w:=by
 simp[Instr.sliceAt,Instr.slice,run_underlying (aHk hk),s5 (P:=P) (w:=w) (sl:=false) hl hh h1 h2]
theorem aWf {t:TypeId} {z:Nat} (hel:fZ P t=some (none,z)) {s n:Nat} {u:Value} (hu:bP w I A (.own s n) u) (hs:dB nt w I A ρ a)
  {hv:Option Value} {h:Nat} (hh:bnd hv h n) (h2:h<=n) (hr: ∃e z xs,ρ s=.row e z xs/\n<=xs.length):
  ∃r,(Instr.sliceAt t u none hv none).run P w=.ok r w/\bP w I A (.own s h) r:=by
 obtain⟨e',z',xs,hxs,hle⟩:=hr;have ho:=hs.osim.own s;rw[hxs] at ho;obtain⟨B',c',hA',hrow⟩:=ho;unfold fZ at hel;split at hel<;>simp at hel;rename_i e hu';obtain⟨i,hi,hz⟩:=hel;cases hu with
 |own _ s n B c bb hA hbb=>
  rw[hA] at hA';simp only[bX,cF] at hA';obtain⟨rfl,rfl⟩:=hA';have hnc:n<=c:=by
   cases B with
   |none=>obtain⟨rfl,_⟩:=hrow;simp at hle;omega
   |some g=>obtain⟨us,_,_,_,h4,_⟩:=hrow;omega
  refine⟨.slice (bb.map (·.add (0*i.size))) h c,?_,.own A s h B c _ hA fun g hg=>by subst hg;obtain rfl:=iX hbb;simp[Addr.add]⟩;have hb:=s5 (P:=P) (w:=w) (sl:=true) (lv:=none) (l:=0) (.inl ⟨rfl,rfl⟩) hh (nJ _) (eL h2 hnc);simp only[Instr.sliceAt,Instr.slice,run_underlying hu',Sem.run_bind,Result.andThen_ok,hb,run_sizeOf w hi,Sem.run_pure];cases bb<;>simp[Addr.add,Program.cellsOf,hi]
theorem bCp {t:TypeId} {z n:Nat} (hel:fZ P t=some (some n,z)) {cs:List DV} {u:Value} (hu:bP w I A (.dp cs) u)
  {hv:Option Value} {h:Nat} (hh:bnd hv h n) (h2:h<=n) (hr:n*z<=cs.length) (hn:n<=1048576):
  ∃r,(Instr.sliceAt t u none hv none).run P w=.ok r w/\bP w I A (.sl z h fun i=>(cs.drop (i*z)).take z) r:=by
 unfold fZ at hel;split at hel<;>simp at hel;rename_i n' e hu';obtain⟨i,hi,rfl,hz⟩:=hel;cases hu with
 |dp _ cs b o us hI hcell hone hrel=>
  refine⟨.slice (some ⟨b,o,none⟩) h n',?_,?_⟩
  ·have hb:=s5 (P:=P) (w:=w) (sl:=false) (lv:=none) (l:=0) (.inl ⟨rfl,rfl⟩) hh (nJ _) h2;simp only[Instr.sliceAt,run_underlying hu',Sem.run_bind,Result.andThen_ok,hb,run_sizeOf w hi,Sem.run_pure,Instr.sureAddr];simp[Addr.add]
  by_cases h0:h=0
  ·subst h0;exact .sl0 A z _ _ _
  have hlt: ∀q j,q<h->j<z->q*z+j<cs.length:=fun q j hq hj=>by
   have:(q+1)*z<=n'*z:=gF _ aV;rw[jV] at this;omega
  refine .sl A z h _ b o n' (fun q j=>us (q*z+j)) aV h2 (by unfold maxLen;omega) hI (fun q hq=>?_) (fun q j hq hj=>hcell _ (hlt q j hq hj)) (fun q j hq hj=>hone _ (hlt q j hq hj)) fun q j d hq hd=>?_
  ·rw[iO,aMa];have:(q+1)*z<=n'*z:=gF _ aV;rw[jV] at this;omega
  rw[oR] at hd;split at hd
  ·rw[sC] at hd;exact hrel _ d hd
  cases hd
theorem bSr (hs:dB nt w I A ρ a) {t:TypeId} {d:DV} {u:Value} {lo hi:Option DV} {lv hv:Option Value} (hu:bP w I A d u)
  (hlo: ∀e,lo=some e-> ∃v,lv=some v/\bP w I A e v) (hlo':lo=none->lv=none)
  (hhi: ∀e,hi=some e-> ∃v,hv=some v/\bP w I A e v) (hhi':hi=none->hv=none)
  (h:(aAm ρ (fZ P t) (tk P t) d lo hi).1):
  ∃r,(Instr.sliceAt t u lv hv none).run P w=.ok r w/\bP w I A (aAm ρ (fZ P t) (tk P t) d lo hi).2 r:=by
 have hint: ∀(o:Option DV) (ov:Option Value),(∀e,o=some e-> ∃v,ov=some v/\bP w I A e v)-> ∀k i,o=some (.v (.int k i))->ov=some (.int k i):=fun o ov hh k i ho=>by
  obtain⟨v,h1,h2⟩:=hh _ ho;cases h2;exact h1
 unfold aAm at h ⊢;split at h
 ·obtain rfl:=hlo' rfl;obtain rfl:=hhi' rfl;split at h
  ·rename_i z n f;obtain⟨h1,h2⟩:=h;obtain⟨r,r1,r2⟩:=wW h2 hu (lv:=none) (hv:=none) (l:=0) (h:=n) (.inl ⟨rfl,rfl⟩) (.inl ⟨rfl,rfl⟩) (nJ _) (bW _);exact⟨r,r1,by simpa using r2⟩
  exact h.elim
 ·rename_i k i;obtain rfl:=hint _ _ hlo k i rfl;obtain rfl:=hhi' rfl;split at h
  ·rename_i z n f z' hz;obtain⟨rfl,h1,h2⟩:=h;obtain⟨r,r1,r2⟩:=wW hz hu (lv:=some (.int k i)) (hv:=none) (l:=i.toNat) (h:=n) (.inr ⟨k,i,rfl,h1,rfl⟩) (.inl ⟨rfl,rfl⟩) aV (bW _);exact⟨r,r1,by simpa only[hz] using r2⟩
  ·rename_i s _;obtain⟨h1,h2,h3⟩:=h;cases hu;exact⟨_,zA h1 (.inr ⟨k,i,rfl,h2,rfl⟩) (.inl ⟨rfl,rfl⟩) aV (bW _),.v A _⟩
  exact h.elim
 ·rename_i k i;obtain rfl:=hlo' rfl;obtain rfl:=hint _ _ hhi k i rfl;split at h
  ·rename_i z n f z' hz;obtain⟨rfl,h1,h2⟩:=h;obtain⟨r,r1,r2⟩:=wW hz hu (lv:=none) (hv:=some (.int k i)) (l:=0) (h:=i.toNat) (.inl ⟨rfl,rfl⟩) (.inr ⟨k,i,rfl,h1,rfl⟩) (nJ _) aV;exact⟨r,r1,by simpa only[hz,gH,Nat.sub_zero] using r2⟩
  ·rename_i s _;obtain⟨h1,h2,h3⟩:=h;cases hu;exact⟨_,zA h1 (.inl ⟨rfl,rfl⟩) (.inr ⟨k,i,rfl,h2,rfl⟩) (nJ _) aV,.v A _⟩
  ·rename_i s n z' hz;obtain⟨h1,h2,h3⟩:=h;obtain⟨r,r1,r2⟩:=aWf hz hu hs (hv:=some (.int k i)) (h:=i.toNat) (.inr ⟨k,i,rfl,h1,rfl⟩) aV h3;exact⟨r,r1,by simpa only[hz] using r2⟩
  ·rename_i cs n z hz;obtain⟨h1,h2,h3,h4⟩:=h;obtain⟨r,r1,r2⟩:=bCp hz hu (hv:=some (.int k i)) (h:=i.toNat) (.inr ⟨k,i,rfl,h1,rfl⟩) aV h3 h4;exact⟨r,r1,by simpa only[hz] using r2⟩
  exact h.elim
 ·rename_i k i k' i';obtain rfl:=hint _ _ hlo k i rfl;obtain rfl:=hint _ _ hhi k' i' rfl;split at h
  ·rename_i z n f z' hz;obtain⟨rfl,h1,h2,h3⟩:=h;obtain⟨r,r1,r2⟩:=wW hz hu (lv:=some (.int k i)) (hv:=some (.int k' i')) (l:=i.toNat) (h:=i'.toNat) (.inr ⟨k,i,rfl,h1,rfl⟩) (.inr ⟨k',i',rfl,by omega,rfl⟩) aV aV;exact⟨r,r1,by simpa only[hz] using r2⟩
  ·rename_i s _;obtain⟨h1,h2,h3,h4⟩:=h;cases hu;exact⟨_,zA h1 (.inr ⟨k,i,rfl,h2,rfl⟩) (.inr ⟨k',i',rfl,by omega,rfl⟩) aV aV,.v A _⟩
  exact h.elim
 exact h.elim
theorem bMh (o:Oper) {x:Operand} (ho:o.op=.nilCheck x) {d:DV} (hu:bP w I A d (a.eval x)) (h:(aTk d).1):
  ∃r,(execOp a.eval o).run P w=.ok (.value r) w/\bP w I A (aTk d).2 r:=by
 unfold execOp;simp only[ho];generalize a.eval x=u at*;cases hu with
 |dp _ cs b o us hI hcell hone hrel=>exact⟨_,by simp,.dp A cs b o us hI hcell hone hrel⟩
 |bp _ s off g c hA=>exact⟨_,by simp,.bp A s off g c hA⟩
 |rp _ s z i off g c hA=>exact⟨_,by simp,.rp A s z i off g c hA⟩
 |fn _ f fs cs us vs hf hc hfr hcr=>exact⟨_,by simp,.fn A f fs cs us vs hf hc hfr hcr⟩
 |_=>exact h.elim
theorem bRl {ts:Array TypeId} {t:TypeId} {d e:DV} {u v:Value} (hu:bP w I A d u) (hv:bP w I A e v) (h:(bCh [d,e]).1):
  ∃r,(Builtin.max_ ts t #[u,v]).run P w=.ok r w/\bP w I A (bCh [d,e]).2 r:=by
 cases d with
 |v _=>
  cases hu;cases e with
  |v _=>
   cases hv
   cases u<;>cases v<;>first
    |exact h.elim
    |exact⟨_,by simp[Builtin.max_,Builtin.max2],.v A _⟩
  |_=>cases u<;>exact h.elim
 |_=>exact h.elim
theorem bOh {ts:Array TypeId} {t:TypeId} {d e:DV} {u v:Value} (hu:bP w I A d u) (hv:bP w I A e v) (h:(bAn [d,e]).1):
  ∃r,(Builtin.min_ ts t #[u,v]).run P w=.ok r w/\bP w I A (bAn [d,e]).2 r:=by
 cases d with
 |v _=>
  cases hu;cases e with
  |v _=>
   cases hv
   cases u<;>cases v<;>first
    |exact h.elim
    |exact⟨_,by simp[Builtin.min_,Builtin.min2],.v A _⟩
  |_=>cases u<;>exact h.elim
 |_=>exact h.elim
theorem cCc {c x y:DV} {u v q:Value} (hc:bJc w I A c u) (hx:bJc w I A x v) (hy:bJc w I A y q) (h:(aIe c x y).1):
  ∃r,(do pure (Next.value (if <- asBool u then v else q)):Sem Next).run P w=.ok (.value r) w/\bP w I A (aIe c x y).2 r:=by
 unfold aIe at h ⊢;split at h
 ·rename_i b p r hb hp hr;obtain⟨h1,h2,h3⟩:=h;have hc':=hc.ungd h1;rw[hb] at hc';cases hc';cases b with
  |true=>
   have:=hx.ungd (h2 rfl);rw[hp] at this;cases this;exact⟨_,by simp[asBool],.v A _⟩
  |false=>
   have:=hy.ungd (h3 rfl);rw[hr] at this;cases this;exact⟨_,by simp[asBool],.v A _⟩
 unfold bQg at h ⊢;split at h
 ·rename_i b hb;split at h
  ·split at h
   ·rename_i p hp;have hc':=hc.ungd h.1;rw[hb] at hc';cases hc';have:=hx.ungd h.2;rw[hp] at this;cases this;simp only[hb,hp];exact⟨_,by simp[asBool],.v A _⟩
   exact h.elim
  split at h
  ·rename_i p hp;have hc':=hc.ungd h.1;rw[hb] at hc';cases hc';have:=hy.ungd h.2;rw[hp] at this;cases this;simp only[hb,hp];exact⟨_,by simp[asBool],.v A _⟩
  exact h.elim
 exact h.elim
theorem bIs {s:TypeId} {f k:Nat} (hk:aJw P s f=some k): ∃fs fd,P.underlying s=some (.struct fs)/\fs[f]?=some fd/\eA P fd.type=some none/\fd.offset=k:=by
 unfold aJw at hk;split at hk
 ·rename_i fs hu;split at hk
  ·rename_i fd hfd;split at hk
   ·rename_i hld;exact⟨fs,fd,hu,hfd,hld,dO hk⟩
   cases hk
  cases hk
 cases hk
theorem bWi {s:TypeId} {f:Nat} {d:DV} {u:Value} (hx:bP w I A d u) (h:(fvP (aJw P s f) d).1):
  ∃y,(Instr.field s u f).run P w=.ok y w/\bP w I A (fvP (aJw P s f) d).2 y:=by
 cases hk:aJw P s f with
 |none=>rw[hk] at h;exact h.elim
 |some k=>
  rw[hk] at h;obtain⟨fs,fi,hu,hfi,hld,rfl⟩:=bIs hk;cases hx with
  |agg _ cs vs hl hone hrel=>
   have hc:fi.offset<cs.length:=h;have h':fi.offset<vs.size:=by omega
   refine⟨vs[fi.offset],?_,hrel fi.offset _ _ (by show _=some (cs.getD fi.offset .any);rw[cA,cH hc];rfl) (iY h')⟩;have hp:(part fi.type vs fi.offset).run P w=.ok vs[fi.offset] w:=by
    unfold eA at hld;split at hld<;>simp at hld;rename_i i d n1 n2 hi hu2
    cases d<;>first
     |exact absurd rfl (n1 _)
     |exact absurd rfl (n2 _ _)
     |simp[part,isAgg,run_underlying hu2,iY h']
   simp[Instr.field,run_underlying hu,hfi,asAgg,hp]
  |_=>exact h.elim
def eJ (nt:Nat) (o:Oper):Bool:=o.op.operands.all (s9 nt)
theorem bM {o:Oper} (h:eJ nt o=true) {x:Operand} (hx:x∈o.op.operands):s9 nt x=true:=by
 unfold eJ at h;rw[Array.all_eq_true] at h;obtain⟨i,hi,rfl⟩:=Array.mem_iff_getElem.1 hx;exact h i hi
theorem bJt (hs:dB nt w I A ρ a) (o:Oper) (hok:eJ nt o=true) (h:(vC P ρ o.op).1):
  ∃r,(execOp a.eval o).run P w=.ok (.value r) w/\bP w I A (vC P ρ o.op).2 r:=by
 have hop:=fun x hx hg=>hs.opd x (bM hok (x:=x) hx) hg;have hev:=fun x hx=>hs.evRel x (bM hok (x:=x) hx);cases ho:o.op with
 |move x=>
  rw[ho] at h hop;exact⟨a.eval x,by simp[execOp,ho],hop x (by simp[Op.operands]) h⟩
 |assign x=>
  rw[ho] at h hop;exact⟨a.eval x,by simp[execOp,ho],hop x (by simp[Op.operands]) h⟩
 |pick c x y=>
  rw[ho] at h hev;obtain⟨r,h1,h2⟩:=cCc (P:=P) (hev c (by simp[Op.operands])) (hev x (by simp[Op.operands])) (hev y (by simp[Op.operands])) h;exact⟨r,by simpa[execOp,ho] using h1,h2⟩
 |load t x=>
  rw[ho] at h hop;obtain⟨r,h1,h2⟩:=aWq hs (hop x (by simp[Op.operands]) h.1) h.2;exact⟨r,by simp[execOp,ho,h1],h2⟩
 |nilCheck x=>
  rw[ho] at h hop;exact bMh o ho (hop x (by simp[Op.operands]) h.1) h.2
 |binOp op t x y t'=>
  rw[ho] at h hop;obtain⟨r,h1,h2⟩:=bQs op t x y (hop x (by simp[Op.operands]) h.1.1) (hop y (by simp[Op.operands]) h.1.2) h.2;exact⟨r,by simp only[execOp,ho,Sem.run_bind] at h1 ⊢;rw[h1];rfl,h2⟩
 |unOp op t x=>
  rw[ho] at h hop;obtain⟨r,h1,h2⟩:=bXd (P:=P) op (hop x (by simp[Op.operands]) h.1) h.2;exact⟨r,by simp[execOp,ho,h1],h2⟩
 |convert s t x=>
  rw[ho] at h hop;obtain⟨r,h1,h2⟩:=bKt h.1.2 (hop x (by simp[Op.operands]) h.1.1) h.2;exact⟨r,by simp[execOp,ho,h1],h2⟩
 |fieldAddr s x f=>
  rw[ho] at h hop;obtain⟨r,h1,h2⟩:=aYg (hop x (by simp[Op.operands]) h.1) h.2;exact⟨r,by simp[execOp,ho,h1],h2⟩
 |field s x f=>
  rw[ho] at h hop;obtain⟨r,h1,h2⟩:=bWi (P:=P) (hop x (by simp[Op.operands]) h.1) h.2;exact⟨r,by simp[execOp,ho,h1],h2⟩
 |indexAddr t x i=>
  rw[ho] at h hop;obtain⟨r,h1,h2⟩:=aWl hs (hop x (by simp[Op.operands]) h.1.1) (hop i (by simp[Op.operands]) h.1.2) h.2;exact⟨r,by simp[execOp,ho,h1],h2⟩
 |index t x i=>
  rw[ho] at h hop;obtain⟨r,h1,h2⟩:=cCd (hop x (by simp[Op.operands]) h.1.1) (hop i (by simp[Op.operands]) h.1.2) h.2;exact⟨r,by simp[execOp,ho,h1],h2⟩
 |slice t x lo hi mx=>
  rw[ho] at h hop;cases mx with
  |some m=>exact h.elim
  |none=>
   obtain⟨r,h1,h2⟩:=bSr (P:=P) hs (t:=t) (lo:=lo.map fun y=>un (ev ρ y)) (hi:=hi.map fun y=>un (ev ρ y)) (lv:=lo.map a.eval) (hv:=hi.map a.eval) (hop x (by simp[Op.operands]) h.1.1)
    (fun e he=>by
     obtain⟨y,hy,rfl⟩:=gC.1 he;exact⟨_,by rw[hy];rfl,hop y (by simp[Op.operands,hy]) (h.1.2.1 y (by simp[hy]))⟩)
    (fun he=>by simpa using he)
    (fun e he=>by
     obtain⟨y,hy,rfl⟩:=gC.1 he;exact⟨_,by rw[hy];rfl,hop y (by simp[Op.operands,hy]) (h.1.2.2 y (by simp[hy]))⟩)
    (fun he=>by simpa using he) h.2
   exact⟨r,by simp[execOp,ho,h1],h2⟩
 |extract x i=>
  rw[ho] at h hop;obtain⟨r,h1,h2⟩:=bVw (P:=P) (hop x (by simp[Op.operands]) h.1) h.2;exact⟨r,by simp[execOp,ho,h1],h2⟩
 |makeFunc fn first captured=>
  rw[ho] at h hop;cases fn with
  |func f=>
   obtain⟨g1,g2⟩:=h;refine⟨.func (.func f) (first.map a.eval) (captured.map a.eval),by simp[execOp,ho,Instr.makeFunc],?_⟩;refine .fn A f _ _ _ _ dH dH (fun j d u hd hu=>?_) fun j d u hd hu=>?_
   ·simp only[dG,gC,kK,aZi] at hd hu;obtain⟨x,hx,rfl⟩:=hd;rw[hx] at hu;simp at hu;subst hu;exact hop x (by simp[Op.operands];exact .inl (tQ hx)) (g1 x (by simpa using tQ hx))
   simp only[dG,gC,kK,aZi] at hd hu;obtain⟨x,hx,rfl⟩:=hd;rw[hx] at hu;simp at hu;subst hu;exact hop x (by simp[Op.operands];exact .inr (tQ hx)) (g2 x (by simpa using tQ hx))
  |_=>exact h.elim
 |call c=>
  rw[ho] at h hop;obtain⟨callee,args,ts⟩:=c;cases callee with
  |builtin b=>
   simp only[vC,bHc] at h ⊢;unfold aFe at h ⊢;split at h
   ·rename_i x t hargs hts;obtain rfl:args= #[x]:=by apply aJm;simpa using hargs
    obtain rfl:ts= #[t]:=by apply aJm;simpa using hts
    obtain⟨r,h1,h2⟩:=bRn (P:=P) (t:=t) (ty:=o.type) (hop x (by simp[Op.operands,Call.operands]) h.1) h.2;exact⟨r,by simp[execOp,ho,resolve,invoke,builtin,h1],h2⟩
   ·rename_i x y hargs;obtain rfl:args= #[x,y]:=by apply aJm;simpa using hargs
    obtain⟨r,h1,h2⟩:=bRl (P:=P) (ts:=ts) (t:=o.type) (hop x (by simp[Op.operands,Call.operands]) h.1.1) (hop y (by simp[Op.operands,Call.operands]) h.1.2) h.2;exact⟨r,by simp[execOp,ho,resolve,invoke,builtin,h1],h2⟩
   ·rename_i x y hargs;obtain rfl:args= #[x,y]:=by apply aJm;simpa using hargs
    obtain⟨r,h1,h2⟩:=bOh (P:=P) (ts:=ts) (t:=o.type) (hop x (by simp[Op.operands,Call.operands]) h.1.1) (hop y (by simp[Op.operands,Call.operands]) h.1.2) h.2;exact⟨r,by simp[execOp,ho,resolve,invoke,builtin,h1],h2⟩
   exact h.elim
  |_=>exact h.elim
 |_=>rw[ho] at h;exact h.elim
end
end Go.Sg
namespace Go.Sg
open Go.RowKit
theorem aPt {p q:Nat->Bool} (h: ∀s,p s=true->q s=true): ∀d,fL p d=true->fL q d=true:=by
 intro d
 refine DV.rec (motive_1:=fun d=>fL p d=true->fL q d=true) (motive_2:=fun l=>d6 p l=true->d6 q l=true) (motive_3:=fun _=>True)
  ?_ ?_ ?_ ?_ ?_ ?_ ?_ ?_ ?_ ?_ ?_ ?_ ?_ ?_ ?_ ?_ ?_ ?_ ?_ ?_ ?_ d
 all_goals (intros;simp_all [fL,d6])
def iG (k:Nat) (d:DV):DV:=if fL (fun s=>s !=k) d=true then d else .any
def uN (k:Nat) (d:DV):DV:=if fL (fun s=>s !=k) d=true then d else match d with
 | .bx cs=>.bx (cs.map (iG k))
 |_=>.any
theorem aIb (p:Nat->Bool) (k:Nat): ∀cs:List DV,d6 p cs=true->d6 p (cs.map (iG k))=true
 | [],_=>rfl
 |c::cs,h=>by
  simp only[d6,cD,kH] at h ⊢;refine⟨?_,aIb p k cs h.2⟩;unfold iG;split
  ·exact h.1
  rfl
def d4 (k:Nat) (ρ:aN):aN:=fun i=>if i<100000 then uN k (ρ i) else ρ i
theorem wQ (k:Nat) (ρ:aN) (i:Nat):d4 k ρ i=if i<100000 then uN k (ρ i) else ρ i:=rfl
def kC (A:dD) (k:Nat) (v:Option (Option Nat×Nat)):dD:=fun s=>if s=k then v else A s
theorem dJ (A:dD) (k:Nat) (v:Option (Option Nat×Nat)):kC A k v k=v:=if_pos rfl
theorem fF (A:dD) {k s:Nat} (v:Option (Option Nat×Nat)) (h:s≠k):kC A k v s=A s:=if_neg h
section
variable {P:Program} {nt:Nat} {w w':World} {I I':Nat->Prop} {A A':dD} {ρ:aN} {a:Act}
theorem eU.reown {s k:Nat} {d:DV} {x:Value} (h:eU w I A s d x) (hs:s≠k) (hA: ∀t,t≠k->A' t=A t):eU w I A' s (uN k d) x:=by
 unfold uN;split
 ·rename_i hk;have hc: ∀t,(fun s=>s !=k) t=true->A' t=A t:=fun t ht=>hA t (by simpa using ht);cases d with
  |bx cs=>obtain⟨g,c,h1,h2⟩:=h;exact⟨g,c,(hA s hs).trans h1,h2⟩
  |row e z xs=>obtain⟨B,c,h1,h2⟩:=h;exact⟨B,c,(hA s hs).trans h1,h2⟩
  |cond g y=>exact⟨fun hg=>(h.1 hg).congrA _ (by simpa[fL] using hk) hc,h.2⟩
  |any=>exact .any A' x
  |v y=>exact bP.congrA h _ hk hc
  |sl z n f=>exact bP.congrA h _ hk hc
  |agg cs=>exact bP.congrA h _ hk hc
  |tup cs=>exact bP.congrA h _ hk hc
  |dp cs=>exact bP.congrA h _ hk hc
  |bp t o=>exact bP.congrA h _ hk hc
  |own t n=>exact bP.congrA h _ hk hc
  |rp t z i o=>exact bP.congrA h _ hk hc
  |fn f b c=>exact bP.congrA h _ hk hc
  |iface t y=>exact bP.congrA h _ hk hc
  |mr t=>exact bP.congrA h _ hk hc
  |ez=>exact bP.congrA h _ hk hc
  |mo es=>obtain⟨g,c,h1,h2⟩:=h;exact⟨g,c,(hA s hs).trans h1,h2⟩
 split
 ·obtain⟨g,c,h1,h2⟩:=h;exact⟨g,c,(hA s hs).trans h1,h2⟩
 exact .any A' x
theorem fW.reown {s k:Nat} {d:DV} (h:fW w I A s d) (hs:s≠k) (hA: ∀t,t≠k->A' t=A t):fW w I A' s (uN k d):=by
 unfold uN;split
 ·rename_i hk;cases d with
  |bx cs=>
   obtain⟨g,c,us,et,h1,h2,h3,h4,h5⟩:=h;exact⟨g,c,us,et,(hA s hs).trans h1,h2,h3,h4,fun j d u hd hu=>(h5 j d u hd hu).congrA _ (gZ (by simpa[fL] using hk) hd) fun t ht=>hA t (by simpa using ht)⟩
  |row e z xs=>obtain⟨B,c,h1,h2⟩:=h;exact⟨B,c,(hA s hs).trans h1,h2⟩
  |mo es=>obtain⟨g,c,vs,cl,h1,h2,h3⟩:=h;exact⟨g,c,vs,cl,(hA s hs).trans h1,h2,h3⟩
  |_=>trivial
 split
 ·obtain⟨g,c,us,et,h1,h2,h3,h4,h5⟩:=h;refine⟨g,c,us,et,(hA s hs).trans h1,h2,by simpa using h3,h4,fun j d u hd hu=>?_⟩;rw[dG,gC] at hd;obtain⟨d',hd',rfl⟩:=hd;unfold iG;split
  ·rename_i hk';exact (h5 j d' u hd' hu).congrA _ hk' fun t ht=>hA t (by simpa using ht)
  exact .any A' u
 trivial
theorem l3 {k:Nat} {d:DV} (h:cX d):cX (uN k d):=by
 unfold uN;split
 ·exact h
 split
 ·exact aIb _ k _ h
 rfl
theorem aMj {k:Nat} {d:DV} (h:cX d) (hk:k<100000):fL (fun s=>s !=k) d=true:=
 aPt (fun s hs=>by simp at hs ⊢;omega) d h
theorem fT {k:Nat} {ρ:aN} (hk:k<100000) {i:Nat} (ho:100000<=i->cX (ρ i)):d4 k ρ i=uN k (ρ i):=by
 unfold d4;split
 ·rfl
 unfold uN;rw[if_pos (aMj (ho aV) hk)]
theorem tA (a:Act) (d i:Nat) (x:Value) (hd:d<a.tmps.size):(a.put (some d) x).tmps.getD i undef=if i=d then x else a.tmps.getD i undef:=by
 simp only[Act.put,oB,aBx];by_cases h:d=i
 ·subst h;simp[hd]
 have h': ¬i=d:=fun e=>h e.symm;simp[h,h']
theorem dB.put (hs:dB nt w I A ρ a) {d:Nat} {v:DV} {x:Value} (hd:d<nt) (hr:eU w I A d v x) (ho:fW w I A d v):dB nt w I A (set ρ d v) (a.put (some d) x) where
 osim:=⟨fun s=>by
   unfold set;split
   ·rename_i h;rw[h];exact ho
   exact hs.osim.own s,hs.osim.inj,hs.osim.sep,hs.osim.imm⟩
 size:=by simp[Act.put,hs.size]
 bound:=hs.bound
 slot:=fun i hi=>by
  rw[tA a d i x (by rw[hs.size];exact hd)];unfold set;split
  ·rename_i h;rw[h];exact hr
  exact hs.slot i hi
 out:=fun s h=>by
  unfold set;rw[if_neg (by have:=hs.bound;omega)];exact hs.out s h
theorem dB.own (hs:dB nt w I A ρ a) {d:Nat} (hd:d<nt) {B:Option Nat} {c:Nat} {v:DV} {x:Value}
  (hB: ∀g,B=some g->g<w.heap.size/\ ¬I g/\ ∀s c',s≠d->A s≠some (some g,c'))
  (hr:eU w I (kC A d (some (B,c))) d v x) (ho:fW w I (kC A d (some (B,c))) d v):
  dB nt w I (kC A d (some (B,c))) (set (d4 d ρ) d v) (a.put (some d) x) where
 osim:=by
  have hA: ∀t,t≠d->kC A d (some (B,c)) t=A t:=fun t h=>fF A _ h;refine⟨fun s=>?_,fun s t g c1 c2 h1 h2=>?_,fun s g c1 h1=>?_,hs.osim.imm⟩
  ·unfold set;split
   ·rename_i h;rw[h];exact ho
   rename_i h;rw[fT (by have:=hs.bound;omega) (hs.out s)];exact (hs.osim.own s).reown h hA
  ·unfold kC at h1 h2;split at h1<;>split at h2
   ·simp_all
   ·rename_i e1 e2;simp only[bX,cF] at h1;exact absurd h2 ((hB g h1.1).2.2 t c2 e2)
   ·rename_i e1 e2;simp only[bX,cF] at h2;exact absurd h1 ((hB g h2.1).2.2 s c1 e1)
   exact hs.osim.inj s t g c1 c2 h1 h2
  unfold kC at h1;split at h1
  ·simp only[bX,cF] at h1;exact⟨(hB g h1.1).1,(hB g h1.1).2.1⟩
  exact hs.osim.sep s g c1 h1
 size:=by simp[Act.put,hs.size]
 bound:=hs.bound
 slot:=fun i hi=>by
  rw[tA a d i x (by rw[hs.size];exact hd)];unfold set;split
  ·rename_i h;rw[h];exact hr
  rename_i h;rw[fT (by have:=hs.bound;omega) (hs.out i)];exact (hs.slot i hi).reown h fun t ht=>fF A _ ht
 out:=fun s h=>by
  unfold set;rw[if_neg (by have:=hs.bound;omega),fT (by have:=hs.bound;omega) (hs.out s)];exact l3 (hs.out s h)
theorem dB.disown (hs:dB nt w I A ρ a) {d:Nat} (hd:d<100000):dB nt w I (kC A d none) (set (d4 d ρ) d .any) a where
 osim:=by
  have hA: ∀t,t≠d->kC A d none t=A t:=fun t h=>fF A _ h;refine⟨fun s=>?_,fun s t g c1 c2 h1 h2=>?_,fun s g c1 h1=>?_,hs.osim.imm⟩
  ·unfold set;split
   ·trivial
   rename_i h;rw[fT hd (hs.out s)];exact (hs.osim.own s).reown h hA
  ·unfold kC at h1 h2;split at h1<;>split at h2<;>first|cases h1|cases h2|skip
   exact hs.osim.inj s t g c1 c2 h1 h2
  unfold kC at h1;split at h1
  ·cases h1
  exact hs.osim.sep s g c1 h1
 size:=hs.size
 bound:=hs.bound
 slot:=fun i hi=>by
  unfold set;split
  ·exact .any _ _
  rename_i h;rw[fT hd (hs.out i)];exact (hs.slot i hi).reown h fun t ht=>fF A _ ht
 out:=fun s h=>by
  unfold set;rw[if_neg aV,fT hd (hs.out s)];exact l3 (hs.out s h)
structure oT (w:World) (I:Nat->Prop) (w':World) (I':Nat->Prop):Prop where
 os:w'.os=w.os
 tape:w'.tape=w.tape/\w.drawn<=w'.drawn
 output:w'.output=w.output
 size:w.heap.size<=w'.heap.size
 heap: ∀g,g<w.heap.size->w'.heap[g]?=w.heap[g]?
 imm: ∀g,I g->I' g
 new: ∀g,I' g->I g\/(w.heap.size<=g/\g<w'.heap.size)
theorem oT.ext (h:oT w I w' I') (hs:jI w I A ρ):f8 w I A w' I' A where
 os:=h.os
 tape:=h.tape
 output:=h.output
 size:=h.size
 imm:=h.imm
 old:=fun g hg hA=>⟨h.heap g hg,fun hi=>(h.new g hi).resolve_right fun ⟨h1,_⟩=>by omega,hA⟩
 loc:=fun s g c hA _ hs=>⟨s,c,hs,hA⟩
 outA:=fun _ _=>rfl
theorem oT.rel (h:oT w I w' I') (hs:jI w I A ρ) {B:dD} {d:DV} {x:Value} (hr:bP w I B d x):bP w' I' B d x:=
 hr.mono fun g hg=>⟨h.imm g hg,fun o=>eD (h.heap g (hs.imm g hg)) o⟩
theorem oT.slot (h:oT w I w' I') (hs:jI w I A ρ) {s:Nat} {d:DV} {x:Value} (hr:eU w I A s d x):eU w' I' A s d x:=by
 cases d with
 |bx cs=>exact hr
 |row e z xs=>exact hr
 |cond g y=>exact⟨fun hg=>h.rel hs (hr.1 hg),hr.2⟩
 |any=>exact .any A x
 |v y=>exact h.rel hs hr
 |sl z n f=>exact h.rel hs hr
 |agg cs=>exact h.rel hs hr
 |tup cs=>exact h.rel hs hr
 |dp cs=>exact h.rel hs hr
 |bp t o=>exact h.rel hs hr
 |own t n=>exact h.rel hs hr
 |rp t z i o=>exact h.rel hs hr
 |fn f b c=>exact h.rel hs hr
 |iface t y=>exact h.rel hs hr
 |mr t=>exact h.rel hs hr
 |ez=>exact h.rel hs hr
 |mo es=>exact hr
theorem jX.keep {e:TypeId} {z:Nat} {xs:List (List DV)} {B:Option Nat} {c:Nat} (h:jX w I e z xs B c) (hb: ∀g,B=some g->w'.heap[g]?=w.heap[g]?)
  (hr: ∀d x,bP w I fO d x->bP w' I' fO d x):jX w' I' e z xs B c:=by
 cases B with
 |none=>exact h
 |some g=>
  obtain⟨us,h1,h2,h3,h4,h5⟩:=h;exact⟨us,(hb g rfl).trans h1,h2,h3,h4,fun i x hx=>⟨(h5 i x hx).1,fun j d u hd hu=>⟨((h5 i x hx).2 j d u hd hu).1,hr _ _ ((h5 i x hx).2 j d u hd hu).2⟩⟩⟩
theorem fW.keep {s:Nat} {d:DV} (h:fW w I A s d) (hb: ∀g c,A s=some (some g,c)->w'.heap[g]?=w.heap[g]?)
  (hr: ∀B d x,bP w I B d x->bP w' I' B d x):fW w' I' A s d:=by
 cases d with
 |bx cs=>
  obtain⟨g,c,us,et,h1,h2,h3,h4,h5⟩:=h;exact⟨g,c,us,et,h1,(hb g c h1).trans h2,h3,h4,fun j d u hd hu=>hr _ _ _ (h5 j d u hd hu)⟩
 |row e z xs=>
  obtain⟨B,c,h1,h2⟩:=h;exact⟨B,c,h1,h2.keep (fun g hg=>hb g c (by rw[h1,hg])) fun d x=>hr _ d x⟩
 |mo es=>
  obtain⟨g,c,vs,cl,h1,h2,h3⟩:=h;exact⟨g,c,vs,cl,h1,(hb g c h1).trans h2,h3⟩
 |_=>trivial
theorem oT.osim (h:oT w I w' I') (hs:jI w I A ρ):jI w' I' A ρ where
 own:=fun s=>(hs.own s).keep (fun g c hg=>h.heap g (hs.sep s g c hg).1) fun B d x hr=>h.rel hs hr
 inj:=hs.inj
 sep:=fun s g c hA=>by
  obtain⟨h1,h2⟩:=hs.sep s g c hA;exact⟨eE h1 h.size,fun hi=>(h.new g hi).elim h2 fun ⟨h3,_⟩=>by omega⟩
 imm:=hs.imm.step (fun g hg=>(h.new g hg).elim (fun h1=>eE (hs.imm g h1) h.size) fun h1=>h1.2) fun g hg=>⟨h.imm g hg,h.heap g (hs.imm g hg)⟩
theorem dB.grow (hs:dB nt w I A ρ a) (h:oT w I w' I'):dB nt w' I' A ρ a where
 osim:=h.osim hs.osim
 size:=hs.size
 bound:=hs.bound
 slot:=fun i hi=>h.slot hs.osim (hs.slot i hi)
 out:=hs.out
theorem oT.alloc (hs:jI w I A ρ) (o:Obj):oT w I (w.alloc o) I:=
 ⟨rfl,⟨rfl,bW _⟩,rfl,by simp,fun g hg=>Below.heap_alloc w o g hg,fun _ h=>h,fun _ h=>.inl h⟩
theorem dB.turn (hs:dB nt w I A ρ a) {s g c:Nat} (hA:A s=some (some g,c)) {us:Array Value} {et:TypeId} {old:Array Value} (hg:w.heap[g]?=some (.cells old et (0,0))) {v:DV}
  (hsl: ∀x,eU w I A s (ρ s) x->eU w I A s v x) (ho:fW (w.setRow g us) I A s v) (hout:100000<=s->cX v):
  dB nt (w.setRow g us) I A (set ρ s v) a:=by
 have hI:=(hs.osim.sep s g c hA).2;have hrel: ∀B d x,bP w I B d x->bP (w.setRow g us) I B d x:=fun B d x hr=>hr.mono fun g' hg'=>⟨hg',fun o=>eD (setRow_other w g g' us (fun e=>hI (e▸hg'))) o⟩;have hslot: ∀t d x,eU w I A t d x->eU (w.setRow g us) I A t d x:=fun t d x hr=>by
  cases d with
  |bx cs=>exact hr
  |row e z xs=>exact hr
  |cond g y=>exact⟨fun hg=>hrel _ _ _ (hr.1 hg),hr.2⟩
  |any=>exact .any A x
  |v y=>exact hrel _ _ _ hr
  |sl z n f=>exact hrel _ _ _ hr
  |agg cs=>exact hrel _ _ _ hr
  |tup cs=>exact hrel _ _ _ hr
  |dp cs=>exact hrel _ _ _ hr
  |bp t o=>exact hrel _ _ _ hr
  |own t n=>exact hrel _ _ _ hr
  |rp t z i o=>exact hrel _ _ _ hr
  |fn f b c=>exact hrel _ _ _ hr
  |iface t y=>exact hrel _ _ _ hr
  |mr t=>exact hrel _ _ _ hr
  |ez=>exact hrel _ _ _ hr
  |mo es=>exact hr
 refine⟨⟨fun t=>?_,hs.osim.inj,fun t g' c' h'=>?_,hs.osim.imm.step (fun g' h'=>by rw[size_setRow];exact hs.osim.imm g' h') fun g' h'=>⟨h',setRow_other w g g' us fun e=>hI (e▸h')⟩⟩,hs.size,hs.bound,fun i hi=>?_,fun t ht=>?_⟩
 ·unfold set;split
  ·rename_i e;rw[e];exact ho
  rename_i e;exact (hs.osim.own t).keep (fun g' c' h'=>setRow_other w g g' us fun e'=>e (hs.osim.inj t s g c' c (e'▸h') hA)) hrel
 ·rw[size_setRow];exact hs.osim.sep t g' c' h'
 ·unfold set;split
  ·rename_i e;rw[e] at hi ⊢;exact hslot s v _ (hsl _ (hs.slot s hi))
  exact hslot i _ _ (hs.slot i hi)
 unfold set;split
 ·rename_i e;exact hout (e▸ht)
 exact hs.out t ht
theorem f8.turn {s g c:Nat} (hA:A s=some (some g,c)) (us:Array Value):f8 w I A (w.setRow g us) I A where
 os:=rfl
 tape:=⟨rfl,bW _⟩
 output:=rfl
 size:=by rw[size_setRow];exact bW _
 imm:=fun _ h=>h
 old:=fun g' _ h'=>⟨setRow_other w g g' us fun e=>h' s c (e▸hA),fun h=>h,h'⟩
 loc:=fun s g c hA _ hs=>⟨s,c,hs,hA⟩
 outA:=fun _ _=>rfl
end
end Go.Sg
namespace Go.Sg
open Go.RowKit
open Go.Rv (FR)
abbrev sh:DV->DV:=yF (· +100000)
def cK:DV->Bool
 | .bx _=>true
 | .row _ _ _=>true
 | .mo _=>true
 |_=>false
def fR (d d':DV):Prop:=
 match d,d' with
 | .bx cs,.bx cs'=>cs.length=cs'.length
 | .row e z xs,.row e' z' xs'=>e=e'/\z=z'/\xs.length=xs'.length
 |d,d'=>d'=d
theorem fR.refl (d:DV):fR d d:=by cases d<;>simp[fR]
def qA (w w':World) (I':Nat->Prop) (A:dD) (r:DV) (x:Value):Prop:=
 match r with
 | .bx cs=> ∃g us et,x=.pointer (some ⟨g,0,none⟩)/\w'.heap[g]?=some (.cells us et (0,0))/\us.size=cs.length/\(∀u∈us.toList,u.oneCell'=true)/\
   (∀(j:Nat) (d:DV) (u:Value),cs[j]?=some d->us[j]?=some u->bP w' I' A d u)/\w.heap.size<=g/\g<w'.heap.size/\ ¬I' g
 | .row e z xs=> ∃B c,(∃b,mU B b/\x=.slice b xs.length c)/\jX w' I' e z xs B c/\ ∀g,B=some g->w.heap.size<=g/\g<w'.heap.size/\ ¬I' g
 |r=>bP w' I' A r x
def iC (P:Program) (O:aN) (f:FuncId) (args:List DV) (R:aN->DV->Prop):Prop:=
 ∀(w:World) (I:Nat->Prop) (A:dD) (vals:Array Value),jI w I A O->vals.size=args.length->(∀(j:Nat) (d:DV) (u:Value),args[j]?=some d->vals[j]?=some u->bP w I A d u)->
  Calls P f vals w fun e w'=> ∃v I' O' r,e=.returned v/\jI w' I' A O'/\(∀s,fR (O s) (O' s))/\(∀s,cX (O s)->cX (O' s))/\f8 w I A w' I' A/\qA w w' I' A r v/\R O' r
def aZ (P:Program) (O:aN) (f:FuncId) (args:List DV) (r:DV):Prop:=iC P O f args fun O' r'=>O'=O/\r'=r
theorem iC.mono {P:Program} {O:aN} {f:FuncId} {args:List DV} {R R':aN->DV->Prop} (h:iC P O f args R) (hr: ∀O' r,R O' r->R' O' r):iC P O f args R':=
 fun w I A vals h1 h2 h3=>(h w I A vals h1 h2 h3).mono fun _ _ ⟨v,I',O',r,k1,k2,k3,k4,k5,k6,k7⟩=>⟨v,I',O',r,k1,k2,k3,k4,k5,k6,hr _ _ k7⟩
def wV (k:Nat):List DV->aN->aN
 | [],ρ=>ρ
 |d::l,ρ=>wV (k+1) l (set ρ k (sh d))
def nF (O:aN) (args:List DV):aN:=wV 0 args (bS O)
theorem aHx (k:Nat) (ρ:aN):wV k [] ρ=ρ:=rfl
theorem aEi (k:Nat) (d:DV) (l:List DV) (ρ:aN):wV k (d::l) ρ=wV (k+1) l (set ρ k (sh d)):=rfl
theorem aPg (l:List DV): ∀(k:Nat) (ρ:aN) (i:Nat),wV k l ρ i=if k<=i/\i<k+l.length then sh (l.getD (i-k) .any) else ρ i:=by
 induction l with
 |nil=>intro k ρ i;rw[aHx,if_neg dH]
 |cons d l ih=>
  intro k ρ i;rw[aEi,ih,aK];by_cases h1:i=k
  ·subst h1;rw[if_neg aV,if_pos rfl,if_pos dH];simp
  by_cases h2:k+1<=i/\i<k+1+l.length
  ·rw[if_pos h2,if_pos (by simp;omega)];obtain⟨m,rfl⟩: ∃m,i=k+1+m:=⟨i-(k+1),by omega⟩;rw[show k+1+m-(k+1)=m from by omega,show k+1+m-k=m+1 from by omega];simp
  rw[if_neg h2,if_neg h1,if_neg (by simp;omega)]
theorem uP (O:aN) (l:List DV) (i:Nat):nF O l i=if i<l.length then sh (l.getD i .any) else bS O i:=by
 unfold nF;rw[aPg];simp
def cG (A:dD):dD:=fun s=>if s<100000 then none else A (s-100000)
theorem d7 (A:dD) (s:Nat):cG A (s+100000)=A s:=by
 unfold cG;rw[if_neg aV,xN]
section
variable {P:Program} {w:World} {I:Nat->Prop} {A:dD}
theorem fW.into {s t:Nat} {d:DV} (h:fW w I A s d) (ht:t=s+100000):fW w I (cG A) t (sh d):=by
 subst ht;cases d with
 |bx cs=>
  obtain⟨g,c,us,et,h1,h2,h3,h4,h5⟩:=h;refine⟨g,c,us,et,(d7 A s).trans h1,h2,by rw[oA,cJ];exact h3,h4,fun j d u hd hu=>?_⟩;obtain⟨d',hd',rfl⟩:=oU hd;exact (h5 j d' u hd' hu).rename (d7 A)
 |row e z xs=>obtain⟨B,c,h1,h2⟩:=h;exact⟨B,c,(d7 A s).trans h1,h2⟩
 |mo es=>obtain⟨g,c,vs,cl,h1,h2,h3⟩:=h;exact⟨g,c,vs,cl,(d7 A s).trans h1,h2,h3⟩
 |_=>trivial
theorem fW.outof {s t:Nat} {d:DV} {A':dD} (h:fW w I A' t (sh d)) (ht:t=s+100000):fW w I (fun s=>A' (s+100000)) s d:=by
 subst ht;cases d with
 |bx cs=>
  obtain⟨g,c,us,et,h1,h2,h3,h4,h5⟩:=h;refine⟨g,c,us,et,h1,h2,by rw[oA,cJ] at h3;exact h3,h4,fun j d u hd hu=>?_⟩;exact (h5 j _ u (mM hd) hu).unname d rfl
 |row e z xs=>obtain⟨B,c,h1,h2⟩:=h;exact⟨B,c,h1,h2⟩
 |mo es=>obtain⟨g,c,vs,cl,h1,h2,h3⟩:=h;exact⟨g,c,vs,cl,h1,h2,h3⟩
 |_=>trivial
theorem aFb: ∀d,cX (sh d):=by
 intro d
 refine DV.rec (motive_1:=fun d=>cX (sh d)) (motive_2:=fun l=>d6 (fun t=>decide (100000<=t)) (kT (· +100000) l)=true) (motive_3:=fun _=>True)
  ?_ ?_ ?_ ?_ ?_ ?_ ?_ ?_ ?_ ?_ ?_ ?_ ?_ ?_ ?_ ?_ ?_ ?_ ?_ ?_ ?_ d
 all_goals (intros;simp_all [cX,sh,yF,kT,fL,d6])
theorem aRb (O:aN) (s:Nat) (hs:100000<=s):cX (bS O s):=by
 obtain⟨t,rfl⟩: ∃t,s=t+100000:=⟨s-100000,by omega⟩;rw[cI];exact aFb _
theorem eU.ofRel {s:Nat} {d:DV} {x:Value} (h:bP w I A d x):eU w I A s d x:=by
 cases h with
 |any=>exact .any A x
 |v=>exact .v A x
 |sl0 _ z f b c=>exact .sl0 A z f b c
 |sl _ z n f b o c us hn hc hm hI hz hcell hone hrel=>exact bP.sl A z n f b o c us hn hc hm hI hz hcell hone hrel
 |agg _ cs vs hl hone hrel=>exact bP.agg A cs vs hl hone hrel
 |tup _ cs vs hl hrel=>exact bP.tup A cs vs hl hrel
 |dp _ cs b o us hI hcell hone hrel=>exact bP.dp A cs b o us hI hcell hone hrel
 |bp _ s off g c h=>exact bP.bp A s off g c h
 |own _ s n B c b h hb=>exact bP.own A s n B c b h hb
 |rp _ s z i off g c h=>exact bP.rp A s z i off g c h
 |fn _ f fs cs us vs hf hc hfr hcr=>exact bP.fn A f fs cs us vs hf hc hfr hcr
 |iface _ t d x h=>exact bP.iface A t d x h
 |mr _ s g c h=>exact bP.mr A s g c h
 |ez _ b=>exact bP.ez A b
theorem fW.ofPure {s:Nat} {d:DV} (h:cK d=false):fW w I A s d:=by
 cases d<;>first|trivial|(cases h)
theorem sT {d:DV} {x:Value} (h:bP w I A d x):cK d=false:=by cases h<;>rfl
theorem dB.enter {O:aN} {args:List DV} {vals:Array Value} {nt:Nat} (hO:jI w I A O) (hl:vals.size=args.length) (hn:args.length<=nt) (hb:nt<=100000)
  (hv: ∀(j:Nat) (d:DV) (u:Value),args[j]?=some d->vals[j]?=some u->bP w I A d u):
  dB nt w I (cG A) (nF O args) {tmps:=vals++Array.replicate (nt-vals.size) undef,defers:=[]}:=by
 have hrel: ∀i,i<args.length->bP w I (cG A) (sh (args.getD i .any)) (vals.getD i undef):=fun i hi=>by
  have h1:args[i]?=some (args.getD i .any):=by rw[cA,cH hi];rfl
  have h2:vals[i]?=some (vals.getD i undef):=by simp[iY (show i<vals.size by omega)]
  exact (hv i _ _ h1 h2).rename (d7 A)
 refine⟨⟨fun s=>?_,fun s t g c c' h1 h2=>?_,fun s g c h=>?_,hO.imm⟩,by simp;omega,hb,fun i hi=>?_,fun s hs=>?_⟩
 ·rw[uP];split
  ·rename_i h;exact fW.ofPure (sT (hrel s h))
  by_cases hs:s<100000
  ·rw[nG O hs];trivial
  obtain⟨t,rfl⟩: ∃t,s=t+100000:=⟨s-100000,by omega⟩;rw[cI];exact (hO.own t).into rfl
 ·unfold cG at h1 h2;split at h1<;>split at h2<;>first|cases h1|cases h2|skip
  have:=hO.inj _ _ g c c' h1 h2;omega
 ·unfold cG at h;split at h
  ·cases h
  exact hO.sep _ g c h
 ·have hget:(vals++Array.replicate (nt-vals.size) undef).getD i undef=vals.getD i undef:=by
   simp only[oB,bCm];split
   ·rfl
   rename_i h;rw[aJt (Nat.le_of_not_lt h)];cases hr:(Array.replicate (nt-vals.size) undef)[i-vals.size]? with
   |none=>rfl
   |some y=>rw[bOr] at hr;split at hr<;>simp_all
  rw[hget,uP];split
  ·rename_i h;exact .ofRel (hrel i h)
  rw[nG O aV];exact .any _ _
 rw[uP,if_neg aV];exact aRb O s hs
def eK (d r:DV):Prop:= ∀w I A x,bP w I A d x->bP w I A r x
theorem eK.refl (d:DV):eK d d:=fun _ _ _ _ h=>h
theorem eK.nil (z c:Nat) (b:Option Addr) (f:Nat->List DV):eK (.v (.slice b 0 c)) (.sl z 0 f):=fun _ _ A x h=>by cases h;exact .sl0 A z f b c
theorem eK.sl (z n:Nat) {f g:Nat->List DV} (h: ∀i,i<n->f i=g i):eK (.sl z n f) (.sl z n g):=fun w I A x hr=>(Wk.sl z n f g h w I A 0 x).1 hr
theorem eK.aggCons {c d:DV} {cs ds:List DV} (h:eK c d) (ht:eK (.agg cs) (.agg ds)) (hl:cs.length=ds.length):eK (.agg (c::cs)) (.agg (d::ds)):=by
 intro w I A x hr;cases hr with
 |agg _ _ vs hl' hone hrel=>
  obtain⟨vl⟩:=vs;cases vl with
  |nil=>simp at hl'
  |cons v vl=>
   have h2:bP w I A (.agg ds) (.agg ⟨vl⟩):=ht w I A _ (.agg A cs ⟨vl⟩ (by simpa using hl') (fun u hu=>hone u (by simp at hu ⊢;exact .inr hu)) fun j d u hd hu=>hrel (j+1) d u (by simpa using hd) (by simpa using hu));cases h2 with
   |agg _ _ _ hl2 hone2 hrel2=>
    refine .agg A _ _ (by simpa using hl2) hone fun j e u he hu=>?_;cases j with
    |zero=>
     simp at he hu;subst he;subst hu;exact h w I A v (hrel 0 c v dH dH)
    |succ j=>exact hrel2 j e u (by simpa using he) (by simpa using hu)
def lG:DV->Bool
 | .bx _=>false
 | .row _ _ _=>false
 | .cond _ _=>false
 | .mo _=>false
 |_=>true
theorem eU.rel {s:Nat} {d:DV} {x:Value} (h:eU w I A s d x) (hp:lG d=true):bP w I A d x:=by
 cases d<;>first|exact h|(cases hp)
inductive dX (ρ:aN) (t:Nat):DV->Prop
 |pure (r:DV) (hp:lG (ρ t)=true) (hw:eK (ρ t) (sh r)) (hr:cK r=false):dX ρ t r
 |row (e z:Nat) (xs:List (List DV)) (h:ρ t=.row e z xs):dX ρ t (.row e z xs)
 |own (s e z n:Nat) (xs:List (List DV)) (h:ρ t=.own s n) (hs:s<100000) (hr:ρ s=.row e z xs) (hn:n<=xs.length):dX ρ t (.row e z (xs.take n))
 |box (cs:List DV) (h:ρ t=.bx (kT (· +100000) cs)):dX ρ t (.bx cs)
 |nilrow (e z:Nat) (h:ρ t=.v (.slice none 0 0)):dX ρ t (.row e z [])
 |ptr (s:Nat) (cs:List DV) (h:ρ t=.bp s 0) (hs:s<100000) (hr:ρ s=.bx (kT (· +100000) cs)):dX ρ t (.bx cs)
def aSk (tmps:Array Value):ResultVar->Sem Value
 | .tmp t=>pure (tmps.getD t undef)
 | .cell a t=>do loadVar t (<- asAddr (tmps.getD a undef))
theorem xM (fn:Func) (tmps:Array Value):results fn tmps=(do let vs <- fn.results.mapM (aSk tmps);pure (if h:vs.size=1 then vs[0] else .tuple vs)):=by
 unfold results;congr 2
def aPd (P:Program) (ρ:aN):ResultVar->DV->Prop
 | .tmp t,r=>lG (ρ t)=true/\eK (ρ t) (sh r)
 | .cell a t,r=> ∃cs,ρ a=.bx cs/\((eA P t=some (some cs.length)/\eK (.agg cs) (sh r))\/(eA P t=some none/\ ∃c,cs=[c]/\eK c (sh r)))
def qI (P:Program) (ρ:aN) (rs:List ResultVar) (r:DV):Prop:=
 match rs with
 | [.tmp t]=>dX ρ t r
 | [.cell a t]=>cK r=false/\aPd P ρ (.cell a t) r
 |rs=> ∃rl:List DV,r=.tup rl/\rl.length=rs.length/\ ∀(j:Nat) (v:ResultVar) (d:DV),rs[j]?=some v->rl[j]?=some d->aPd P ρ v d
theorem bP.back {A':dD} {r:DV} {x:Value} (h:bP w I A' (sh r) x) (hA: ∀s,100000<=s->A' s=cG A s):bP w I A r x:=by
 have:=h.unname r rfl;have e:(fun s=>A' (s+100000))=A:=funext fun s=>by rw[hA _ aV,d7]
 rwa [e] at this
theorem aKm {nt:Nat} {ρ:aN} {a:Act} {A':dD} (hs:dB nt w I A' ρ a) (hA: ∀s,100000<=s->A' s=cG A s) {v:ResultVar} {r:DV}
  (hv:match v with| .tmp t=>t<nt| .cell t _=>t<nt) (h:aPd P ρ v r):
  ∃x,(aSk a.tmps v).run P w=.ok x w/\bP w I A r x:=by
 cases v with
 |tmp t=>
  obtain⟨h1,h2⟩:=h;exact⟨a.tmps.getD t undef,rfl,(h2 w I A' _ ((hs.slot t hv).rel h1)).back hA⟩
 |cell b t=>
  obtain⟨cs,h1,h2⟩:=h;have hsl:=hs.slot b hv;have ho:=hs.osim.own b;rw[h1] at hsl ho;obtain⟨g,c,hA1,hx⟩:=hsl;simp only[aSk,hx];have key: ∀ld r',eA P t=some ld->(cut ld 0 cs).1->eK (cut ld 0 cs).2 (sh r')-> ∃x,(do loadVar t (<- asAddr (.pointer (some ⟨g,0,none⟩))):Sem Value).run P w=.ok x w/\bP w I A r' x:=by
   intro ld r' hld hc hw;have:=aWq (P:=P) hs (t:=t) (d:=.bp b 0) (.bp A' b 0 g c hA1) (by rw[hld];simp only[pM,h1,aRc];exact hc);obtain⟨x,k1,k2⟩:=this;rw[hld] at k2;simp only[pM,h1,aRc] at k2;exact⟨x,by simpa[Instr.loadAt,Instr.sureAddr,asAddr] using k1,(hw w I A' x k2).back hA⟩
  rcases h2 with ⟨h3,h4⟩|⟨h3,c',rfl,h4⟩
  ·exact key _ r h3 (by simp[cut]) (by simpa[cut] using h4)
  exact key _ r h3 (by simp[cut]) (by simpa[cut] using h4)
theorem z6 {α:Type} (f:α->Sem Value): ∀(l:List α) (vs:List Value),l.length=vs.length->(∀(j:Nat) (x:α) (v:Value),l[j]?=some x->vs[j]?=some v->(f x).run P w=.ok v w)->
  (l.mapM f).run P w=.ok vs w
 | [],[],_,_=>rfl
 |x::l,v::vs,hl,h=>by
  have h0:=h 0 x v dH dH;have ih:=z6 f l vs (by simpa using hl) fun j y u hy hu=>h (j+1) y u (by simpa using hy) (by simpa using hu);simp[aXi,h0,ih]
 | [],_::_,hl,_=>by simp at hl
 |_::_,[],hl,_=>by simp at hl
theorem aOh {w0:World} {I0:Nat->Prop} {nt:Nat} {ρ:aN} {a:Act} {A':dD} {fn:Func} {r:DV} (hs:dB nt w I A' ρ a) (hx:f8 w0 I0 (cG A) w I A')
  (hn:fn.results.toList.all (fun v=>match v with| .tmp t=>decide (t<nt)| .cell t _=>decide (t<nt))=true) (h:qI P ρ fn.results.toList r):
  ∃v,(results fn a.tmps).run P w=.ok v w/\qA w0 w I A r v:=by
 have hA:=hx.outA;have hback: ∀{d:DV} {x:Value},bP w I A' (sh d) x->bP w I A d x:=fun h=>h.back hA;have hfresh: ∀s g c,s<100000->A' s=some (some g,c)->w0.heap.size<=g/\g<w.heap.size/\ ¬I g:=fun s g c hs' hA1=>by
  refine⟨?_,(hs.osim.sep s g c hA1).1,(hs.osim.sep s g c hA1).2⟩;rcases b9 g w0.heap.size with hlt|hge
  ·obtain⟨t,c',ht,hAt⟩:=hx.loc s g c hA1 hlt hs';unfold cG at hAt;rw[if_pos ht] at hAt;cases hAt
  exact hge
 have hlt: ∀v∈fn.results.toList,(match v with| .tmp t=>t<nt| .cell t _=>t<nt):=fun v hv=>by
  have:=dI.1 hn v hv;cases v<;>simpa using this
 generalize hl:fn.results.toList=rs at*;have hres:fn.results=rs.toArray:=by apply aJm;rw[hl]
 have hrow: ∀s e z xs x b,s<100000->A' s=some x->mU x.1 b->jX w I e z xs x.1 x.2->
   qA w0 w I A (.row e z xs) (.slice b xs.length x.2):=fun s e z xs x b hs' hA1 hb hr=>by
  refine⟨x.1,x.2,⟨b,hb,rfl⟩,hr,fun g hg=>?_⟩;exact hfresh s g x.2 hs' (by rw[hA1,<- hg])
 have hbox: ∀s cs x,s<100000->eU w I A' s (.bx (kT (· +100000) cs)) x->fW w I A' s (.bx (kT (· +100000) cs))->qA w0 w I A (.bx cs) x:=fun s cs x hs' h1 h2=>by
  obtain⟨g,c,hA1,rfl⟩:=h1;obtain⟨g',c',us,et,hA2,k1,k2,k3,k4⟩:=h2;rw[hA1] at hA2;simp only[bX,cF] at hA2;obtain⟨rfl,rfl⟩:=hA2;exact⟨g,us,et,rfl,k1,by rw[oA,cJ] at k2;exact k2,k3,fun j d u hd hu=>hback (k4 j _ u (mM hd) hu),hfresh s g c hs' hA1⟩
 unfold qI at h;split at h
 ·rename_i t;have ht:t<nt:=hlt (.tmp t) dH;have hsl:=hs.slot t ht;have hsz:t<100000:=eE ht hs.bound;refine⟨_,results_tmp hres _ P w,?_⟩;cases h with
  |pure r hp hw hr=>
   have:=hback (hw w I A' _ (hsl.rel hp));cases r<;>first|exact this|(cases hr)
  |row e z xs hρ=>
   have ho:=hs.osim.own t;rw[hρ] at hsl ho;obtain⟨B,c,hA1,b,hb,hx'⟩:=hsl;obtain⟨B',c',hA2,hr⟩:=ho;rw[hA1] at hA2;simp only[bX,cF] at hA2;obtain⟨rfl,rfl⟩:=hA2;rw[hx'];exact hrow t e z xs (B,c) b hsz hA1 hb hr
  |own s e z n xs hρ hs' hr hn'=>
   have ho:=hs.osim.own s;rw[hρ] at hsl;rw[hr] at ho;obtain⟨B',c',hA2,hr'⟩:=ho;generalize a.tmps.getD t undef=x at hsl ⊢;have hsl:bP w I A' (.own s n) x:=hsl;cases hsl with
   |own _ _ _ B c b hA1 hb=>
    rw[hA1] at hA2;simp only[bX,cF] at hA2;obtain⟨rfl,rfl⟩:=hA2;have hlen:(xs.take n).length=n:=by rw[iO];omega
    refine⟨B,c,⟨b,hb,by rw[hlen]⟩,?_,fun g hg=>hfresh s g c hs' (by rw[hA1,hg])⟩;unfold jX at hr' ⊢;cases B with
    |none=>obtain⟨rfl,rfl⟩:=hr';exact⟨by simp,rfl⟩
    |some g=>
     obtain⟨us,q1,q2,q3,q4,q5⟩:=hr';refine⟨us,q1,q2,q3,by rw[hlen];omega,fun i x hx=>?_⟩;rw[oR] at hx;split at hx
     ·exact q5 i x hx
     cases hx
  |box cs hρ=>
   have ho:=hs.osim.own t;rw[hρ] at hsl ho;exact hbox t cs _ hsz hsl ho
  |nilrow e z hρ=>
   rw[hρ] at hsl;generalize a.tmps.getD t undef=x at hsl ⊢;have hsl:bP w I A' (.v (.slice none 0 0)) x:=hsl;cases hsl;exact⟨none,0,⟨none,lY _,rfl⟩,⟨rfl,rfl⟩,fun g hg=>by cases hg⟩
  |ptr s cs hρ hs' hr=>
   have ho:=hs.osim.own s;rw[hρ] at hsl;rw[hr] at ho;have ho2:=ho;obtain⟨g,c,us,et,hA2,_⟩:=ho2;generalize a.tmps.getD t undef=x at hsl ⊢;have hsl:bP w I A' (.bp s 0) x:=hsl;cases hsl with
   |bp _ _ _ g' c' hA1=>exact hbox s cs _ hs' ⟨g',c',hA1,rfl⟩ ho
 ·rename_i b t;obtain⟨h1,h2⟩:=h;obtain⟨x,k1,k2⟩:=aKm hs hA (v:=.cell b t) (hlt (.cell b t) dH) h2;refine⟨x,?_,by cases r<;>first|exact k2|(cases h1)⟩
  have:=z6 (P:=P) (w:=w) (aSk a.tmps) [.cell b t] [x] rfl
   (fun j y u hy hu=>by
    cases j with
    |zero=>simp at hy hu;subst hy;subst hu;exact k1
    |succ j=>simp at hy)
  rw[xM,hres,aWg,Sem.run_bind,Sem.run_map,this];rfl
 rename_i h1 h2;obtain⟨rl,rfl,hlen,hall⟩:=h
 have: ∃vs:List Value,vs.length=rs.length/\(∀(j:Nat) (y:ResultVar) (u:Value),rs[j]?=some y->vs[j]?=some u->
   (aSk a.tmps y).run P w=.ok u w)/\ ∀(j:Nat) (d:DV) (u:Value),rl[j]?=some d->vs[j]?=some u->bP w I A d u:=by
  clear hres hl hn h1 h2
  induction rs generalizing rl with
  |nil=>
   obtain rfl:rl=[]:=nN hlen;exact⟨[],rfl,by simp,by simp⟩
  |cons y rs ih=>
   cases rl with
   |nil=>simp at hlen
   |cons d rl=>
    obtain⟨x,k1,k2⟩:=aKm hs hA (v:=y) (hlt y dH) (hall 0 y d dH dH);obtain⟨vs,j1,j2,j3⟩:=ih (fun v hv=>hlt v (by simp[hv])) rl (by simpa using hlen) fun j v d' hv hd=>hall (j+1) v d' (by simpa using hv) (by simpa using hd);refine⟨x::vs,by simp[j1],fun j y' u hy hu=>?_,fun j d' u hd hu=>?_⟩
    ·cases j with
     |zero=>simp at hy hu;subst hy;subst hu;exact k1
     |succ j=>exact j2 j y' u (by simpa using hy) (by simpa using hu)
    cases j with
    |zero=>simp at hd hu;subst hd;subst hu;exact k2
    |succ j=>exact j3 j d' u (by simpa using hd) (by simpa using hu)
 obtain⟨vs,j1,j2,j3⟩:=this;have hrun:=z6 (P:=P) (w:=w) (aSk a.tmps) rs vs j1.symm j2;have hne:vs.length≠1:=fun e=>by
  rw[j1] at e
  match rs,e with
  | [.tmp t],_=>exact h1 t rfl
  | [.cell b t],_=>exact h2 b t rfl
 refine⟨.tuple vs.toArray,?_,?_⟩
 ·rw[xM,hres,aWg,Sem.run_bind,Sem.run_map,hrun];simp[hne]
 exact bP.tup A rl _ (by simp[hlen,j1]) fun j d u hd hu=>j3 j d u hd (by simpa using hu)
def rZ (P:Program) (fn:Func) (O:aN) (R:aN->DV->Prop):Exit->aN->Prop
 | .ret,ρ| .normal,ρ=> ∃O' r,(∀s,ρ (s+100000)=sh (O' s))/\(∀s,fR (O s) (O' s))/\(∀s,cX (O s)->cX (O' s))/\qI P ρ fn.results.toList r/\R O' r
 |_,_=>False
theorem kY {f:FuncId} {fn:Func} {c:Code} {O:aN} {args:List DV} {R:aN->DV->Prop} (hf:P.funcs[f]?=some fn) (hb:fn.body=some c)
  (hn:(decide (args.length<=fn.ntmps)&&decide (fn.ntmps<=100000)&&fn.results.toList.all (fun v=>match v with| .tmp t=>decide (t<fn.ntmps)| .cell t _=>decide (t<fn.ntmps)))=true)
  (h:AW P fn.ntmps c (rZ P fn O R) (nF O args)):iC P O f args R:=by
 intro w I A vals hO hl hv;simp only[cD,dR] at hn;obtain⟨⟨hn1,hn2⟩,hn3⟩:=hn;refine calls_of_wp hf hb (wp_mono (wpIn_wide.1 (Go.Rv.w8▸h none [] I (cG A) _ w (dB.enter hO hl hn1 hn2 hv) rfl)) ?_);intro e a' w' ⟨I',A',ρ',k1,k2,k3,k4⟩
 have fin:(∃O' r,(∀s,ρ' (s+100000)=sh (O' s))/\(∀s,fR (O s) (O' s))/\(∀s,cX (O s)->cX (O' s))/\qI P ρ' fn.results.toList r/\R O' r)->
   ∃v,(results fn a'.tmps).run P w'=.ok v w'/\ ∃v' I' O' r,Ending.returned v=.returned v'/\jI w' I' A O'/\(∀s,fR (O s) (O' s))/\(∀s,cX (O s)->cX (O' s))/\f8 w I A w' I' A/\qA w w' I' A r v'/\R O' r:=by
  rintro⟨O',r,q1,q2,q3,q4,q5⟩;obtain⟨v,r1,r2⟩:=aOh k1 k3 hn3 q4;have hA': ∀s,A' (s+100000)=A s:=fun s=>by rw[k3.outA _ aV,d7]
  have hfun:(fun s=>A' (s+100000))=A:=funext hA';refine⟨v,r1,v,I',O',r,rfl,⟨fun s=>?_,hO.inj,fun s g c hA=>?_,k1.osim.imm⟩,q2,q3,⟨k3.os,k3.tape,k3.output,k3.size,k3.imm,fun g hg hA=>?_,fun s g c hA _ hs=>⟨s,c,hs,hA⟩,fun _ _=>rfl⟩,r2,q5⟩
  ·have:=k1.osim.own (s+100000);rw[q1] at this;have:=this.outof (s:=s) rfl
   rwa [hfun] at this
  ·exact k1.osim.sep (s+100000) g c ((hA' s).trans hA)
  obtain⟨e1,e2,e3⟩:=k3.old g hg fun s c hs=>by
   unfold cG at hs;split at hs
   ·cases hs
   exact hA _ _ hs
  exact⟨e1,e2,hA⟩
 cases e with
 |normal=>exact⟨k2,fin k4⟩
 |ret=>exact⟨k2,fin k4⟩
 |_=>exact k4.elim
end
end Go.Sg
namespace Go.Sg
open Go.RowKit
open Go.Rv (FR)
theorem aLo {P:Program} {ro:Option Nat} {o:Oper} {ev:Operand->Value} {w w':World} {r:Next} (h:(execOp ev o).run P w=.ok r w') (hr: ∀d,r≠ .defer d):o.semAt ro ev=execOp ev o:=by
 cases ro with
 |none=>exact Oper.semAt_none ev o
 |some l=>
  refine Oper.semAt_some l ev o fun c hc=>?_;unfold execOp at h;rw[hc] at h;simp only[Sem.run_bind,Sem.run_map,Functor.map] at h;cases hx:(resolve ev c o.type).run P w with
  |ok d w1=>
   rw[hx] at h;simp[Result.andThen] at h;exact hr d h.1.symm
  |halt d w1=>
   rw[hx] at h;simp[Result.andThen] at h
theorem oO {P:Program} {ro:Option Nat} {o:Oper} {a:Act} {w w':World} {x:Value} {next:Act->World->Prop} {Q':Exit->Act->World->Prop} (h1:(execOp a.eval o).run P w=.ok (.value x) w') (h:next (a.put o.dst x) w'):o.wpIn (FR ro) 0 P a w next Q':=by
 refine⟨fun _ _=>trivial,?_⟩;rw[aLo h1 dH,h1];exact h
theorem bPa {P:Program} {ro:Option Nat} {o:Oper} {a:Act} {w w':World} {next:Act->World->Prop} {Q':Exit->Act->World->Prop} (h1:(execOp a.eval o).run P w=.ok .skip w') (h:next (a.put o.dst undef) w'):o.wpIn (FR ro) 0 P a w next Q':=by
 refine⟨fun _ _=>trivial,?_⟩;rw[aLo h1 dH,h1];exact h
theorem tG {P:Program} {ro:Option Nat} {o:Oper} {a:Act} {w w':World} {f:FuncId} {vals:Array Value} {next:Act->World->Prop} {Q':Exit->Act->World->Prop} (h1:(execOp a.eval o).run P w=.ok (.enter f vals) w')
  (h:Calls P f vals w' fun e w''=>match e with| .returned v=>next (a.put o.dst v) w''| .panicked ch=>Q' (.panic ch) a w''| .outgrown=>LetsOut Q'):o.wpIn (FR ro) 0 P a w next Q':=by
 refine⟨fun _ _=>trivial,?_⟩;rw[aLo h1 dH,h1,Oper.uponIn_enter];refine⟨Go.Rv.depth_FR _,Go.Rv.callsIn_FR (Calls.mono h fun e w'' q=>?_)⟩;cases e<;>exact q
def OW (P:Program) (nt:Nat) (ops:Array Oper) (o:Oper) (K:aN->Prop) (ρ:aN):Prop:=
 ∀(ro:Option Nat) (ds:List Deferred) I A a w,dB nt w I A ρ a->a.defers=ds-> ∀(next:Act->World->Prop) (Q':Exit->Act->World->Prop),
  (∀I' A' a' w' ρ',dB nt w' I' A' ρ' a'->a'.defers=ds->f8 w I A w' I' A'->K ρ'->next a' w')->
  if Region.wanted o (yielded ops a.tmps)=true then o.wpIn (FR ro) 0 P a w next Q' else (∀f,o.about P w a.eval=some f->(FR ro).fn f)/\next (a.put o.dst undef) w
def RW (P:Program) (nt:Nat) (ops:Array Oper) (k:aN->Prop):List Oper->aN->Prop
 | [],ρ=>k ρ
 |o::os,ρ=>OW P nt ops o (RW P nt ops k os) ρ
structure Tg.{u} {α:Sort u} (k:α):Type where
section
variable {P:Program} {nt:Nat} {ρ:aN} {ops:Array Oper}
theorem OW.mono {o:Oper} {K K':aN->Prop} (h:OW P nt ops o K ρ) (hk: ∀ρ,K ρ->K' ρ):OW P nt ops o K' ρ:=
 fun ro ds I A a w hs hd next Q' hn=>h ro ds I A a w hs hd next Q' fun I' A' a' w' ρ' h1 h2 h3 h4=>hn I' A' a' w' ρ' h1 h2 h3 (hk _ h4)
theorem aXd {ro:Option Nat} {ds:List Deferred} {k:aN->Prop} {Q':Exit->Act->World->Prop}: ∀(l:List Oper) (ρ:aN) (I:Nat->Prop) (A:dD) (a:Act) (w:World),RW P nt ops k l ρ->dB nt w I A ρ a->a.defers=ds->
  (∀I' A' a' w' ρ',dB nt w' I' A' ρ' a'->a'.defers=ds->f8 w I A w' I' A'->k ρ'->Q' .normal a' w')->wpListIn (FR ro) 0 P ops Q' l a w
 | [],ρ,I,A,a,w,h,hs,hd,hk=>hk I A a w ρ hs hd (f8.refl _ _ _) h
 |o::l,ρ,I,A,a,w,h,hs,hd,hk=>by
  refine wpListIn_step fun K hK=>h ro ds I A a w hs hd K Q' fun I' A' a' w' ρ' h1 h2 h3 h4=>hK _ _ ?_;exact aXd l ρ' I' A' a' w' h4 h1 h2 fun I2 A2 a2 w2 ρ2 k1 k2 k3 k4=>hk I2 A2 a2 w2 ρ2 k1 k2 (h3.trans k3) k4
theorem fU {id:Nat} {l:List Oper} {Q:Exit->aN->Prop} (h:RW P nt l.toArray (Q .normal) l ρ):AW P nt (.region id l.toArray false) Q ρ:=by
 intro ro ds I A a w hs hd;exact wpIn_region_lit (aXd l ρ I A a w h hs hd fun I' A' a' w' ρ' h1 h2 h3 h4=>⟨I',A',ρ',h1,h2,h3,h4⟩)
theorem gT (a:Act) (d:Option Nat) (x:Value):(a.put d x).defers=a.defers:=by cases d<;>rfl
theorem iF {o:Oper} {K:aN->Prop} (hg:o.guard=none)
  (h: ∀I A a w,dB nt w I A ρ a-> ∃x w' I' A' ρ',(execOp a.eval o).run P w=.ok (.value x) w'/\dB nt w' I' A' ρ' (a.put o.dst x)/\f8 w I A w' I' A'/\K ρ'):OW P nt ops o K ρ:=by
 intro ro ds I A a w hs hd next Q' hn
 obtain⟨x,w',I',A',ρ',h1,h2,h3,h4⟩:=h I A a w hs;rw[if_pos (by simp[Region.wanted,hg])];exact oO h1 (hn I' A' _ w' ρ' h2 (by rw[gT];exact hd) h3 h4)
theorem aAj {o:Oper} {K:aN->Prop} (hg:o.guard=none)
  (h: ∀I A a w,dB nt w I A ρ a-> ∃w' I' A' ρ',(execOp a.eval o).run P w=.ok .skip w'/\dB nt w' I' A' ρ' (a.put o.dst undef)/\f8 w I A w' I' A'/\K ρ'):OW P nt ops o K ρ:=by
 intro ro ds I A a w hs hd next Q' hn
 obtain⟨w',I',A',ρ',h1,h2,h3,h4⟩:=h I A a w hs;rw[if_pos (by simp[Region.wanted,hg])];exact bPa h1 (hn I' A' _ w' ρ' h2 (by rw[gT];exact hd) h3 h4)
def jH (nt:Nat) (o:Oper):Bool:=match o.dst with|some d=>decide (d<nt)|none=>true
theorem dB.putV {w:World} {I:Nat->Prop} {A:dD} {a:Act} (hs:dB nt w I A ρ a) {o:Oper} (hd:jH nt o=true) {v:DV} {x:Value} (hr:bP w I A v x):
  dB nt w I A (cO ρ o.dst v) (a.put o.dst x):=by
 unfold jH at hd;cases h:o.dst with
 |none=>exact hs
 |some d=>
  rw[h] at hd;exact hs.put (by simpa using hd) (.ofRel hr) (.ofPure (sT hr))
theorem aDu {o:Oper} {K:aN->Prop} (hg:o.guard=none) (ho:eJ nt o=true) (hd:jH nt o=true) (h:(vC P ρ o.op).1) (hK:K (cO ρ o.dst (vC P ρ o.op).2)):OW P nt ops o K ρ:=
 iF hg fun I A a w hs=>by
  obtain⟨x,h1,h2⟩:=bJt hs o ho h;exact⟨x,w,I,A,_,h1,hs.putV hd h2,f8.refl _ _ _,hK⟩
def gW (want:Bool):DV->Option Bool
 | .v (.bool b)=>some (b==want)
 | .cond g (.v (.bool b))=>some (g&&(b==want))
 |_=>none
def gAt (ops:List Oper) (ρ:aN) (j:Nat) (want:Bool):Option Bool:=
 match ops[j]? with
 |some o=>match o.dst with
  |some d=>gW want (ρ d)
  |none=>none
 |none=>none
theorem bJd {l:List Oper} {w:World} {I:Nat->Prop} {A:dD} {a:Act} (hs:dB nt w I A ρ a) {o:Oper} {j:Nat} {want g:Bool} (hg:o.guard=some (j,want))
  (hall:l.all (jH nt)=true) (h:gAt l ρ j want=some g):Region.wanted o (yielded l.toArray a.tmps)=g:=by
 unfold gAt at h;split at h<;>try cases h
 rename_i oj hj;split at h<;>try cases h
 rename_i d hd;have hdn:d<nt:=by
  have:=dI.1 hall oj (pP hj);unfold jH at this;rw[hd] at this;simpa using this
 have hsl:=hs.slot d hdn;have hy:yielded l.toArray a.tmps j=match a.tmps.getD d undef with| .bool b=>some b|_=>none:=by
  have hlt:d<a.tmps.size:=by rw[hs.size];exact hdn
  unfold yielded;simp only[xR,hj,Option.bind_some,hd,iY hlt,oB,iE];cases a.tmps[d]<;>rfl
 unfold Region.wanted;rw[hg];simp only[hy];generalize a.tmps.getD d undef=x at*;unfold gW at h;split at h
 ·rename_i b hρ;rw[hρ] at hsl;have hsl:bP w I A (.v (.bool b)) x:=hsl;cases hsl;cases h;cases b<;>cases want<;>rfl
 ·rename_i g' b hρ;rw[hρ] at hsl;cases h;cases g' with
  |true=>
   have:=hsl.1 rfl;cases this;cases b<;>cases want<;>rfl
  |false=>
   rw[hsl.2 rfl];rfl
 cases h
def bSy (ρ:aN) (d:Nat) (r:DV):aN:=if cK r=true then set (d4 d ρ) d r else set ρ d r
theorem dB.called {w w':World} {I I':Nat->Prop} {A:dD} {a:Act} {O':aN} (hs:dB nt w I A ρ a) (h1:jI w' I' A O') (h2: ∀s,fR (ρ s) (O' s)) (h3: ∀s,cX (ρ s)->cX (O' s)) (h4:f8 w I A w' I' A):
  dB nt w' I' A O' a where
 osim:=h1
 size:=hs.size
 bound:=hs.bound
 slot:=fun i hi=>by
  have hsl:=hs.slot i hi;have hf:=h2 i;have hrel: ∀d x,bP w I A d x->bP w' I' A d x:=fun d x hr=>h4.rel hs.osim hr;generalize a.tmps.getD i undef=x at*;generalize ρ i=d at*;generalize O' i=d' at*;cases d with
  |bx cs=>
   cases d'<;>simp only[fR] at hf<;>first|cases hf|skip
   exact hsl
  |row e z xs=>
   cases d' with
   |row e' z' xs'=>
    obtain⟨rfl,rfl,hl⟩:=hf;obtain⟨B,c,k1,k2⟩:=hsl;exact⟨B,c,k1,by rw[<- hl];exact k2⟩
   |_=>cases hf
  |cond g y=>simp only[fR] at hf;subst hf;exact⟨fun hg=>hrel _ _ (hsl.1 hg),hsl.2⟩
  |any=>simp only[fR] at hf;subst hf;exact .any A x
  |v y=>simp only[fR] at hf;subst hf;exact hrel _ _ hsl
  |sl z n f=>simp only[fR] at hf;subst hf;exact hrel _ _ hsl
  |agg cs=>simp only[fR] at hf;subst hf;exact hrel _ _ hsl
  |tup cs=>simp only[fR] at hf;subst hf;exact hrel _ _ hsl
  |dp cs=>simp only[fR] at hf;subst hf;exact hrel _ _ hsl
  |bp t o=>simp only[fR] at hf;subst hf;exact hrel _ _ hsl
  |own t n=>simp only[fR] at hf;subst hf;exact hrel _ _ hsl
  |rp t z i o=>simp only[fR] at hf;subst hf;exact hrel _ _ hsl
  |fn f b c=>simp only[fR] at hf;subst hf;exact hrel _ _ hsl
  |iface t y=>simp only[fR] at hf;subst hf;exact hrel _ _ hsl
  |mr t=>simp only[fR] at hf;subst hf;exact hrel _ _ hsl
  |ez=>simp only[fR] at hf;subst hf;exact hrel _ _ hsl
  |mo es=>simp only[fR] at hf;subst hf;exact hsl
 out:=fun s hs'=>h3 s (hs.out s hs')
theorem dB.res {w w0:World} {I I0:Nat->Prop} {A:dD} {a:Act} (hs:dB nt w I A ρ a) {d:Nat} (hd:d<nt) {r:DV} {x:Value} (h:qA w0 w I A r x) (hm:cK r=true->iG d r=r)
  (hA: ∀s g c,A s=some (some g,c)->g<w0.heap.size) (h0:f8 w0 I0 A w I A):
  ∃A',dB nt w I A' (bSy ρ d r) (a.put (some d) x)/\f8 w0 I0 A w I A':=by
 have hb:=hs.bound;cases r with
 |bx cs=>
  obtain⟨g,us,et,rfl,h1,h2,h3,h4,h5,h6,h7⟩:=h;refine⟨kC A d (some (some g,0)),?_,⟨h0.os,h0.tape,h0.output,h0.size,h0.imm,fun g' hg' hA'=>?_,fun s g' c' hs' hg' hl=>?_,fun s hs'=>fF A _ aV⟩⟩
  ·show dB nt w I _ (set (d4 d ρ) d _) _;refine hs.own hd (fun g' hg'=>?_) ⟨g,0,dJ _ _ _,rfl⟩ ⟨g,0,us,et,dJ _ _ _,h1,h2,h3,fun j e u he hu=>?_⟩
   ·cases hg';exact⟨h6,h7,fun s c' _ hc=>by have:=hA s g c' hc;omega⟩
   refine (h4 j e u he hu).congrA (fun s=>s !=d) ?_ fun t ht=>fF A _ (by simpa using ht);have hm:=hm rfl;unfold iG at hm;split at hm
   ·rename_i hk;exact gZ (by simpa[fL] using hk) he
   cases hm
  ·obtain⟨e1,e2,_⟩:=h0.old g' hg' hA';refine⟨e1,e2,fun s c' hc=>?_⟩;unfold kC at hc;split at hc
   ·simp only[bX,cF] at hc;omega
   exact hA' s c' hc
  unfold kC at hs';split at hs'
  ·simp only[bX,cF] at hs';omega
  exact⟨s,c',hl,hs'⟩
 |row e z xs=>
  obtain⟨B,c,⟨b,hb',rfl⟩,h1,h2⟩:=h;refine⟨kC A d (some (B,c)),?_,⟨h0.os,h0.tape,h0.output,h0.size,h0.imm,fun g' hg' hA'=>?_,fun s g' c' hs' hg' hl=>?_,fun s hs'=>fF A _ aV⟩⟩
  ·show dB nt w I _ (set (d4 d ρ) d _) _;refine hs.own hd (fun g' hg'=>?_) ⟨B,c,dJ _ _ _,b,hb',rfl⟩ ⟨B,c,dJ _ _ _,h1⟩;obtain⟨k1,k2,k3⟩:=h2 g' hg';exact⟨k2,k3,fun s c' _ hc=>by have:=hA s g' c' hc;omega⟩
  ·obtain⟨e1,e2,_⟩:=h0.old g' hg' hA';refine⟨e1,e2,fun s c' hc=>?_⟩;unfold kC at hc;split at hc
   ·simp only[bX,cF] at hc;have:=(h2 g' hc.1).1;omega
   exact hA' s c' hc
  unfold kC at hs';split at hs'
  ·simp only[bX,cF] at hs';have:=(h2 g' hs'.1).1;omega
  exact⟨s,c',hl,hs'⟩
 |cond g y=>exact absurd h (by intro h;cases h)
 |mo es=>exact absurd h (by intro h;cases h)
 |_=>
  refine⟨A,?_,h0⟩;show dB nt w I A (set ρ d _) _;exact hs.put hd (.ofRel h) trivial
def callee (d:DV) (args:List DV):Option (FuncId×List DV):=
 match d with
 | .fn f first captured=>some (f,first++args++captured)
 |_=>none
def aM (P:Program) (f:FuncId):Bool:=
 match P.funcs[f]? with
 |some fn=>fn.body.isSome&& !(fn.name== "runtime.NumGoroutine")
 |none=>false
def aHw (P:Program) (ρ:aN) (f:FuncId) (args:List DV) (k:aN->DV->Prop) (_:Tg k):Prop:=
 ∃R:aN->DV->Prop,iC P ρ f args R/\ ∀O' r,R O' r->k O' r
theorem nI {w:World} {I:Nat->Prop} {A:dD} {a:Act} (hs:dB nt w I A ρ a) {o:Oper} {fv:Operand} {args:Array Operand} {ts:Array TypeId} (hop:o.op=.call ⟨.value fv,args,ts⟩)
  (ho:eJ nt o=true) (hgf:gd (ev ρ fv)) (hga: ∀x∈args.toList,gd (ev ρ x)) {f:FuncId} {l:List DV} (hc:callee (un (ev ρ fv)) (args.toList.map fun x=>un (ev ρ x))=some (f,l)) (hb:aM P f=true):
  ∃vals:Array Value,(execOp a.eval o).run P w=.ok (.enter f vals) w/\vals.size=l.length/\ ∀(j:Nat) (d:DV) (u:Value),l[j]?=some d->vals[j]?=some u->bP w I A d u:=by
 have hop':=fun x hx hg=>hs.opd x (bM ho (x:=x) hx) hg;rw[hop] at hop';have hf:=hop' fv (by simp[Op.operands,Call.operands]) hgf;have hargs: ∀x∈args.toList,bP w I A (un (ev ρ x)) (a.eval x):=fun x hx=>hop' x (by simp[Op.operands,Call.operands];exact .inr (by simpa using hx)) (hga x hx);generalize un (ev ρ fv)=d at*;unfold callee at hc;cases d<;>try cases hc
 rename_i first captured
 generalize hv:a.eval fv=v at*;cases hf with
 |fn _ _ _ _ us vs hf1 hc1 hfr hcr=>
  have hcf: ∀vals:Array Value,(callFunc f vals).run P w=.ok (.enter f vals) w:=fun vals=>by
   unfold aM at hb;cases hP:P.funcs[f]? with
   |none=>rw[hP] at hb;cases hb
   |some fn=>
    rw[hP] at hb;simp only[cD,mH] at hb;have hn:fn.body.isNone=false:=by cases h:fn.body<;>simp_all
    simp only[callFunc,Sem.run_bind,run_program,Result.andThen_ok,hP,hb.2,hn,aQs,s7,Sem.run_pure]
  refine⟨us++args.map a.eval++vs,?_,by simp[hf1,hc1],?_⟩
  ·simp[execOp,hop,resolve,hv,Deferred.ofValue,invoke,hcf]
  intro j d u hd hu;rw[tH,tH] at hd;rw[bCm,bCm] at hu;simp only[fP,cJ,xT,Array.size_append,Array.size_map] at hd hu;rw[hf1] at hd;split at hd
  ·rename_i h1;rw[if_pos h1] at hu;split at hd
   ·rename_i h2;rw[if_pos h2] at hu;exact hfr j d u hd hu
   rename_i h2;rw[if_neg h2] at hu;simp only[dG,gC,kK,aZi] at hd hu;obtain⟨x,hx,rfl⟩:=hd;obtain⟨y,hy,rfl⟩:=hu;rw[hx] at hy;cases hy;exact hargs x (by simpa using tQ hx)
  rename_i h1;rw[if_neg h1] at hu;exact hcr _ d u hd hu
theorem bGs {o:Oper} {K:aN->Prop} {fv:Operand} {args:Array Operand} {ts:Array TypeId} {d:Nat} (hop:o.op=.call ⟨.value fv,args,ts⟩) (hg:o.guard=none) (hdst:o.dst=some d) (hd:d<nt)
  (ho:eJ nt o=true) (hgf:gd (ev ρ fv)) (hga: ∀x∈args.toList,gd (ev ρ x)) {f:FuncId} {l:List DV} (hc:callee (un (ev ρ fv)) (args.toList.map fun x=>un (ev ρ x))=some (f,l)) (hb:aM P f=true)
  {t:Tg _} (h:aHw P ρ f l (fun O' r=>(cK r=true->iG d r=r)/\K (bSy O' d r)) t):OW P nt ops o K ρ:=by
 intro ro ds I A a w hs hdf next Q' hn
 obtain⟨vals,h1,h2,h3⟩:=nI hs hop ho hgf hga hc hb;obtain⟨R,hR,hk⟩:=h;rw[if_pos (by simp[Region.wanted,hg])];refine tG h1 ?_;refine (hR w I A vals hs.osim h2 h3).mono ?_;rintro e w' ⟨v,I',O',r,rfl,k1,k2,k3,k4,k5,k6⟩;obtain⟨j1,j2⟩:=hk O' r k6;obtain⟨A',q1,q2⟩:=(hs.called k1 k2 k3 k4).res hd k5 j1 (fun s g c hA=>(hs.osim.sep s g c hA).1) k4;rw[hdst];exact hn I' A' _ w' _ q1 (by rw[gT];exact hdf) q2 j2
end
end Go.Sg
