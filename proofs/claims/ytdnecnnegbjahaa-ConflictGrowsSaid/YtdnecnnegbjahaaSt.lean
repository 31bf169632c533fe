/- Go data as Lean data: structures, their cells, and what a row reads; printed by gen_st.py. -/
import Derived.Test.YtdnecnnegbjahaaSgDec
import Derived.Test.YtdnecnnegbjahaaTy
import Derived.KernelRfl
set_option linter.unusedVariables false
set_option linter.unusedSimpArgs false
namespace Go.Sg
open Go.Proofs
/-- signalling/api.Fault. -/
structure Fault where
  fKind : Int
  fAt : Int
  fUntil : Int
  deriving DecidableEq
instance : Inhabited Fault := ⟨⟨default, default, default⟩⟩
def eFault (x : Fault) : List DV := [vi x.fKind, vi x.fAt, vi x.fUntil]
def okFault (x : Fault) : Prop := (-9223372036854775808 ≤ x.fKind ∧ x.fKind ≤ 9223372036854775807) ∧ (-9223372036854775808 ≤ x.fAt ∧ x.fAt ≤ 9223372036854775807) ∧ (-9223372036854775808 ≤ x.fUntil ∧ x.fUntil ≤ 9223372036854775807)
theorem snocFault (l : List Fault) (xkind : Int) (xat : Int) (xuntil : Int) : l.map eFault ++ [[vi xkind, vi xat, vi xuntil]] = (l ++ [(⟨xkind, xat, xuntil⟩ : Fault)]).map eFault := by simp [eFault]
theorem setmFault (l : List Fault) (i : Nat) (xkind : Int) (xat : Int) (xuntil : Int) : (l.map eFault).set i [vi xkind, vi xat, vi xuntil] = (l.set i (⟨xkind, xat, xuntil⟩ : Fault)).map eFault := by rw [List.map_set]; rfl
theorem rngFault (l : List Fault) : ((List.range l.length).map fun i => [vi (l.getD i default).fKind, vi (l.getD i default).fAt, vi (l.getD i default).fUntil]) = l.map eFault := rangeGetD eFault l
theorem etaFault (x : Fault) : (⟨x.fKind, x.fAt, x.fUntil⟩ : Fault) = x := rfl
theorem extFault (x y : Fault) : x = y ↔ x.fKind = y.fKind ∧ x.fAt = y.fAt ∧ x.fUntil = y.fUntil := by cases x; cases y; simp
theorem dec3 : Dec Try.prog 3 eI (fun n => -9223372036854775808 ≤ n ∧ n ≤ 9223372036854775807) := dec_int Try.underlying3
theorem dec24 : Dec Try.prog 24 eFault okFault := fun H enc w sp held fuel cs x h hw => by
  obtain ⟨a0, k0, r0⟩ := dec_field (s := 1) Try.underlying24 h hw 0 rfl (by kernel_rfl) dec3
  obtain ⟨a1, k1, r1⟩ := dec_field (s := 1) Try.underlying24 h hw 1 rfl (by kernel_rfl) dec3
  obtain ⟨a2, k2, r2⟩ := dec_field (s := 1) Try.underlying24 h hw 2 rfl (by kernel_rfl) dec3
  have hl : cs.length = 3 := by obtain ⟨_, _, _, _, h1, _⟩ := DataW.trod_struct Try.underlying24 h; exact h1.trans (by kernel_rfl)
  exact ⟨⟨a0, a1, a2⟩, ⟨k0, k1, k2⟩, (RC.join (o := 0) (s := 1) r0 (RC.join (o := 1) (s := 1) r1 (RC.join (o := 2) (s := 1) r2 (RC.stop hl))))⟩
/-- signalling/api.Read. -/
structure Read where
  fId : Int
  fOffset : Int
  deriving DecidableEq
instance : Inhabited Read := ⟨⟨default, default⟩⟩
def eRead (x : Read) : List DV := [vi x.fId, vi x.fOffset]
def okRead (x : Read) : Prop := (-9223372036854775808 ≤ x.fId ∧ x.fId ≤ 9223372036854775807) ∧ (-9223372036854775808 ≤ x.fOffset ∧ x.fOffset ≤ 9223372036854775807)
theorem snocRead (l : List Read) (xid : Int) (xoffset : Int) : l.map eRead ++ [[vi xid, vi xoffset]] = (l ++ [(⟨xid, xoffset⟩ : Read)]).map eRead := by simp [eRead]
theorem setmRead (l : List Read) (i : Nat) (xid : Int) (xoffset : Int) : (l.map eRead).set i [vi xid, vi xoffset] = (l.set i (⟨xid, xoffset⟩ : Read)).map eRead := by rw [List.map_set]; rfl
theorem rngRead (l : List Read) : ((List.range l.length).map fun i => [vi (l.getD i default).fId, vi (l.getD i default).fOffset]) = l.map eRead := rangeGetD eRead l
theorem etaRead (x : Read) : (⟨x.fId, x.fOffset⟩ : Read) = x := rfl
theorem extRead (x y : Read) : x = y ↔ x.fId = y.fId ∧ x.fOffset = y.fOffset := by cases x; cases y; simp
/-- signalling/signallinglaw28.Sight. -/
structure Sight where
  fOccupied : (List Bool)
  fDetected : (List Int)
  fReads : (List Read)
  fNow : Int
  deriving DecidableEq
instance : Inhabited Sight := ⟨⟨default, default, default, default⟩⟩
def eSight (x : Sight) : List DV := [encL 1 eB x.fOccupied, encL 1 eI x.fDetected, encL 2 eRead x.fReads, vi x.fNow]
def okSight (x : Sight) : Prop := ((∀ a ∈ x.fOccupied, True) ∧ x.fOccupied.length ≤ 140737488355328) ∧ ((∀ a ∈ x.fDetected, -9223372036854775808 ≤ a ∧ a ≤ 9223372036854775807) ∧ x.fDetected.length ≤ 140737488355328) ∧ ((∀ a ∈ x.fReads, okRead a) ∧ x.fReads.length ≤ 140737488355328) ∧ (-9223372036854775808 ≤ x.fNow ∧ x.fNow ≤ 9223372036854775807)
theorem snocSight (l : List Sight) (xoccupied : (List Bool)) (xdetected : (List Int)) (xreads : (List Read)) (xnow : Int) : l.map eSight ++ [[encL 1 eB xoccupied, encL 1 eI xdetected, encL 2 eRead xreads, vi xnow]] = (l ++ [(⟨xoccupied, xdetected, xreads, xnow⟩ : Sight)]).map eSight := by simp [eSight]
theorem setmSight (l : List Sight) (i : Nat) (xoccupied : (List Bool)) (xdetected : (List Int)) (xreads : (List Read)) (xnow : Int) : (l.map eSight).set i [encL 1 eB xoccupied, encL 1 eI xdetected, encL 2 eRead xreads, vi xnow] = (l.set i (⟨xoccupied, xdetected, xreads, xnow⟩ : Sight)).map eSight := by rw [List.map_set]; rfl
theorem rngSight (l : List Sight) : ((List.range l.length).map fun i => [encL 1 eB (l.getD i default).fOccupied, encL 1 eI (l.getD i default).fDetected, encL 2 eRead (l.getD i default).fReads, vi (l.getD i default).fNow]) = l.map eSight := rangeGetD eSight l
theorem etaSight (x : Sight) : (⟨x.fOccupied, x.fDetected, x.fReads, x.fNow⟩ : Sight) = x := rfl
theorem extSight (x y : Sight) : x = y ↔ x.fOccupied = y.fOccupied ∧ x.fDetected = y.fDetected ∧ x.fReads = y.fReads ∧ x.fNow = y.fNow := by cases x; cases y; simp
theorem dec4 : Dec Try.prog 4 eB (fun _ => True) := dec_bool Try.underlying4
theorem dec34 : Dec Try.prog 34 (fun l : (List Bool) => [encL 1 eB l]) (fun l => (∀ a ∈ l, True) ∧ l.length ≤ 140737488355328) := dec_slice Try.underlying34 (by kernel_rfl) (by decide) (of_decide_eq_true (by kernel_rfl)) dec4 (fun _ => rfl)
theorem dec33 : Dec Try.prog 33 (fun l : (List Int) => [encL 1 eI l]) (fun l => (∀ a ∈ l, -9223372036854775808 ≤ a ∧ a ≤ 9223372036854775807) ∧ l.length ≤ 140737488355328) := dec_slice Try.underlying33 (by kernel_rfl) (by decide) (of_decide_eq_true (by kernel_rfl)) dec3 (fun _ => rfl)
theorem dec46 : Dec Try.prog 46 eRead okRead := fun H enc w sp held fuel cs x h hw => by
  obtain ⟨a0, k0, r0⟩ := dec_field (s := 1) Try.underlying46 h hw 0 rfl (by kernel_rfl) dec3
  obtain ⟨a1, k1, r1⟩ := dec_field (s := 1) Try.underlying46 h hw 1 rfl (by kernel_rfl) dec3
  have hl : cs.length = 2 := by obtain ⟨_, _, _, _, h1, _⟩ := DataW.trod_struct Try.underlying46 h; exact h1.trans (by kernel_rfl)
  exact ⟨⟨a0, a1⟩, ⟨k0, k1⟩, (RC.join (o := 0) (s := 1) r0 (RC.join (o := 1) (s := 1) r1 (RC.stop hl)))⟩
theorem dec35 : Dec Try.prog 35 (fun l : (List Read) => [encL 2 eRead l]) (fun l => (∀ a ∈ l, okRead a) ∧ l.length ≤ 140737488355328) := dec_slice Try.underlying35 (by kernel_rfl) (by decide) (of_decide_eq_true (by kernel_rfl)) dec46 (fun _ => rfl)
theorem dec37 : Dec Try.prog 37 eSight okSight := fun H enc w sp held fuel cs x h hw => by
  obtain ⟨a0, k0, r0⟩ := dec_field (s := 1) Try.underlying37 h hw 0 rfl (by kernel_rfl) dec34
  obtain ⟨a1, k1, r1⟩ := dec_field (s := 1) Try.underlying37 h hw 1 rfl (by kernel_rfl) dec33
  obtain ⟨a2, k2, r2⟩ := dec_field (s := 1) Try.underlying37 h hw 2 rfl (by kernel_rfl) dec35
  obtain ⟨a3, k3, r3⟩ := dec_field (s := 1) Try.underlying37 h hw 3 rfl (by kernel_rfl) dec3
  have hl : cs.length = 4 := by obtain ⟨_, _, _, _, h1, _⟩ := DataW.trod_struct Try.underlying37 h; exact h1.trans (by kernel_rfl)
  exact ⟨⟨a0, a1, a2, a3⟩, ⟨k0, k1, k2, k3⟩, (RC.join (o := 0) (s := 1) r0 (RC.join (o := 1) (s := 1) r1 (RC.join (o := 2) (s := 1) r2 (RC.join (o := 3) (s := 1) r3 (RC.stop hl)))))⟩
/-- signalling/api.Step. -/
structure Step where
  fEl : Int
  fIn : Int
  fOut : Int
  deriving DecidableEq
instance : Inhabited Step := ⟨⟨default, default, default⟩⟩
def eStep (x : Step) : List DV := [vi x.fEl, vi x.fIn, vi x.fOut]
def okStep (x : Step) : Prop := (-9223372036854775808 ≤ x.fEl ∧ x.fEl ≤ 9223372036854775807) ∧ (-9223372036854775808 ≤ x.fIn ∧ x.fIn ≤ 9223372036854775807) ∧ (-9223372036854775808 ≤ x.fOut ∧ x.fOut ≤ 9223372036854775807)
theorem snocStep (l : List Step) (xel : Int) (xin : Int) (xout : Int) : l.map eStep ++ [[vi xel, vi xin, vi xout]] = (l ++ [(⟨xel, xin, xout⟩ : Step)]).map eStep := by simp [eStep]
theorem setmStep (l : List Step) (i : Nat) (xel : Int) (xin : Int) (xout : Int) : (l.map eStep).set i [vi xel, vi xin, vi xout] = (l.set i (⟨xel, xin, xout⟩ : Step)).map eStep := by rw [List.map_set]; rfl
theorem rngStep (l : List Step) : ((List.range l.length).map fun i => [vi (l.getD i default).fEl, vi (l.getD i default).fIn, vi (l.getD i default).fOut]) = l.map eStep := rangeGetD eStep l
theorem etaStep (x : Step) : (⟨x.fEl, x.fIn, x.fOut⟩ : Step) = x := rfl
theorem extStep (x y : Step) : x = y ↔ x.fEl = y.fEl ∧ x.fIn = y.fIn ∧ x.fOut = y.fOut := by cases x; cases y; simp
/-- signalling/api.Setting. -/
structure Setting where
  fEl : Int
  fPos : Int
  deriving DecidableEq
instance : Inhabited Setting := ⟨⟨default, default⟩⟩
def eSetting (x : Setting) : List DV := [vi x.fEl, vi x.fPos]
def okSetting (x : Setting) : Prop := (-9223372036854775808 ≤ x.fEl ∧ x.fEl ≤ 9223372036854775807) ∧ (-9223372036854775808 ≤ x.fPos ∧ x.fPos ≤ 9223372036854775807)
theorem snocSetting (l : List Setting) (xel : Int) (xpos : Int) : l.map eSetting ++ [[vi xel, vi xpos]] = (l ++ [(⟨xel, xpos⟩ : Setting)]).map eSetting := by simp [eSetting]
theorem setmSetting (l : List Setting) (i : Nat) (xel : Int) (xpos : Int) : (l.map eSetting).set i [vi xel, vi xpos] = (l.set i (⟨xel, xpos⟩ : Setting)).map eSetting := by rw [List.map_set]; rfl
theorem rngSetting (l : List Setting) : ((List.range l.length).map fun i => [vi (l.getD i default).fEl, vi (l.getD i default).fPos]) = l.map eSetting := rangeGetD eSetting l
theorem etaSetting (x : Setting) : (⟨x.fEl, x.fPos⟩ : Setting) = x := rfl
theorem extSetting (x y : Setting) : x = y ↔ x.fEl = y.fEl ∧ x.fPos = y.fPos := by cases x; cases y; simp
/-- signalling/api.End. -/
structure End where
  fEl : Int
  fSide : Int
  deriving DecidableEq
instance : Inhabited End := ⟨⟨default, default⟩⟩
def eEnd (x : End) : List DV := [vi x.fEl, vi x.fSide]
def okEnd (x : End) : Prop := (-9223372036854775808 ≤ x.fEl ∧ x.fEl ≤ 9223372036854775807) ∧ (-9223372036854775808 ≤ x.fSide ∧ x.fSide ≤ 9223372036854775807)
theorem snocEnd (l : List End) (xel : Int) (xside : Int) : l.map eEnd ++ [[vi xel, vi xside]] = (l ++ [(⟨xel, xside⟩ : End)]).map eEnd := by simp [eEnd]
theorem setmEnd (l : List End) (i : Nat) (xel : Int) (xside : Int) : (l.map eEnd).set i [vi xel, vi xside] = (l.set i (⟨xel, xside⟩ : End)).map eEnd := by rw [List.map_set]; rfl
theorem rngEnd (l : List End) : ((List.range l.length).map fun i => [vi (l.getD i default).fEl, vi (l.getD i default).fSide]) = l.map eEnd := rangeGetD eEnd l
theorem etaEnd (x : End) : (⟨x.fEl, x.fSide⟩ : End) = x := rfl
theorem extEnd (x y : End) : x = y ↔ x.fEl = y.fEl ∧ x.fSide = y.fSide := by cases x; cases y; simp
/-- signalling/api.Route. -/
structure Route where
  fName : ByteArray
  fEntry : Int
  fExit : Int
  fPath : (List Step)
  fPoints : (List Setting)
  fSections : (List Int)
  fApproach : Int
  fLength : Int
  fOver : (List Step)
  fOverPoints : (List Setting)
  fOverSections : (List Int)
  fFlank : (List Setting)
  fGuards : (List Int)
  fGaps : (List End)
  deriving DecidableEq
instance : Inhabited Route := ⟨⟨default, default, default, default, default, default, default, default, default, default, default, default, default, default⟩⟩
def eRoute (x : Route) : List DV := [vs x.fName, vi x.fEntry, vi x.fExit, encL 3 eStep x.fPath, encL 2 eSetting x.fPoints, encL 1 eI x.fSections, vi x.fApproach, vi x.fLength, encL 3 eStep x.fOver, encL 2 eSetting x.fOverPoints, encL 1 eI x.fOverSections, encL 2 eSetting x.fFlank, encL 1 eI x.fGuards, encL 2 eEnd x.fGaps]
def okRoute (x : Route) : Prop := (x.fName.size ≤ 140737488355328) ∧ (-9223372036854775808 ≤ x.fEntry ∧ x.fEntry ≤ 9223372036854775807) ∧ (-9223372036854775808 ≤ x.fExit ∧ x.fExit ≤ 9223372036854775807) ∧ ((∀ a ∈ x.fPath, okStep a) ∧ x.fPath.length ≤ 140737488355328) ∧ ((∀ a ∈ x.fPoints, okSetting a) ∧ x.fPoints.length ≤ 140737488355328) ∧ ((∀ a ∈ x.fSections, -9223372036854775808 ≤ a ∧ a ≤ 9223372036854775807) ∧ x.fSections.length ≤ 140737488355328) ∧ (-9223372036854775808 ≤ x.fApproach ∧ x.fApproach ≤ 9223372036854775807) ∧ (-9223372036854775808 ≤ x.fLength ∧ x.fLength ≤ 9223372036854775807) ∧ ((∀ a ∈ x.fOver, okStep a) ∧ x.fOver.length ≤ 140737488355328) ∧ ((∀ a ∈ x.fOverPoints, okSetting a) ∧ x.fOverPoints.length ≤ 140737488355328) ∧ ((∀ a ∈ x.fOverSections, -9223372036854775808 ≤ a ∧ a ≤ 9223372036854775807) ∧ x.fOverSections.length ≤ 140737488355328) ∧ ((∀ a ∈ x.fFlank, okSetting a) ∧ x.fFlank.length ≤ 140737488355328) ∧ ((∀ a ∈ x.fGuards, -9223372036854775808 ≤ a ∧ a ≤ 9223372036854775807) ∧ x.fGuards.length ≤ 140737488355328) ∧ ((∀ a ∈ x.fGaps, okEnd a) ∧ x.fGaps.length ≤ 140737488355328)
theorem snocRoute (l : List Route) (xname : ByteArray) (xentry : Int) (xexit : Int) (xpath : (List Step)) (xpoints : (List Setting)) (xsections : (List Int)) (xapproach : Int) (xlength : Int) (xover : (List Step)) (xoverPoints : (List Setting)) (xoverSections : (List Int)) (xflank : (List Setting)) (xguards : (List Int)) (xgaps : (List End)) : l.map eRoute ++ [[vs xname, vi xentry, vi xexit, encL 3 eStep xpath, encL 2 eSetting xpoints, encL 1 eI xsections, vi xapproach, vi xlength, encL 3 eStep xover, encL 2 eSetting xoverPoints, encL 1 eI xoverSections, encL 2 eSetting xflank, encL 1 eI xguards, encL 2 eEnd xgaps]] = (l ++ [(⟨xname, xentry, xexit, xpath, xpoints, xsections, xapproach, xlength, xover, xoverPoints, xoverSections, xflank, xguards, xgaps⟩ : Route)]).map eRoute := by simp [eRoute]
theorem setmRoute (l : List Route) (i : Nat) (xname : ByteArray) (xentry : Int) (xexit : Int) (xpath : (List Step)) (xpoints : (List Setting)) (xsections : (List Int)) (xapproach : Int) (xlength : Int) (xover : (List Step)) (xoverPoints : (List Setting)) (xoverSections : (List Int)) (xflank : (List Setting)) (xguards : (List Int)) (xgaps : (List End)) : (l.map eRoute).set i [vs xname, vi xentry, vi xexit, encL 3 eStep xpath, encL 2 eSetting xpoints, encL 1 eI xsections, vi xapproach, vi xlength, encL 3 eStep xover, encL 2 eSetting xoverPoints, encL 1 eI xoverSections, encL 2 eSetting xflank, encL 1 eI xguards, encL 2 eEnd xgaps] = (l.set i (⟨xname, xentry, xexit, xpath, xpoints, xsections, xapproach, xlength, xover, xoverPoints, xoverSections, xflank, xguards, xgaps⟩ : Route)).map eRoute := by rw [List.map_set]; rfl
theorem rngRoute (l : List Route) : ((List.range l.length).map fun i => [vs (l.getD i default).fName, vi (l.getD i default).fEntry, vi (l.getD i default).fExit, encL 3 eStep (l.getD i default).fPath, encL 2 eSetting (l.getD i default).fPoints, encL 1 eI (l.getD i default).fSections, vi (l.getD i default).fApproach, vi (l.getD i default).fLength, encL 3 eStep (l.getD i default).fOver, encL 2 eSetting (l.getD i default).fOverPoints, encL 1 eI (l.getD i default).fOverSections, encL 2 eSetting (l.getD i default).fFlank, encL 1 eI (l.getD i default).fGuards, encL 2 eEnd (l.getD i default).fGaps]) = l.map eRoute := rangeGetD eRoute l
theorem etaRoute (x : Route) : (⟨x.fName, x.fEntry, x.fExit, x.fPath, x.fPoints, x.fSections, x.fApproach, x.fLength, x.fOver, x.fOverPoints, x.fOverSections, x.fFlank, x.fGuards, x.fGaps⟩ : Route) = x := rfl
theorem extRoute (x y : Route) : x = y ↔ x.fName = y.fName ∧ x.fEntry = y.fEntry ∧ x.fExit = y.fExit ∧ x.fPath = y.fPath ∧ x.fPoints = y.fPoints ∧ x.fSections = y.fSections ∧ x.fApproach = y.fApproach ∧ x.fLength = y.fLength ∧ x.fOver = y.fOver ∧ x.fOverPoints = y.fOverPoints ∧ x.fOverSections = y.fOverSections ∧ x.fFlank = y.fFlank ∧ x.fGuards = y.fGuards ∧ x.fGaps = y.fGaps := by cases x; cases y; simp
theorem dec9 : Dec Try.prog 9 eS (fun s => s.size ≤ 140737488355328) := dec_string Try.underlying9
theorem dec130 : Dec Try.prog 130 eStep okStep := fun H enc w sp held fuel cs x h hw => by
  obtain ⟨a0, k0, r0⟩ := dec_field (s := 1) Try.underlying130 h hw 0 rfl (by kernel_rfl) dec3
  obtain ⟨a1, k1, r1⟩ := dec_field (s := 1) Try.underlying130 h hw 1 rfl (by kernel_rfl) dec3
  obtain ⟨a2, k2, r2⟩ := dec_field (s := 1) Try.underlying130 h hw 2 rfl (by kernel_rfl) dec3
  have hl : cs.length = 3 := by obtain ⟨_, _, _, _, h1, _⟩ := DataW.trod_struct Try.underlying130 h; exact h1.trans (by kernel_rfl)
  exact ⟨⟨a0, a1, a2⟩, ⟨k0, k1, k2⟩, (RC.join (o := 0) (s := 1) r0 (RC.join (o := 1) (s := 1) r1 (RC.join (o := 2) (s := 1) r2 (RC.stop hl))))⟩
theorem dec48 : Dec Try.prog 48 (fun l : (List Step) => [encL 3 eStep l]) (fun l => (∀ a ∈ l, okStep a) ∧ l.length ≤ 140737488355328) := dec_slice Try.underlying48 (by kernel_rfl) (by decide) (of_decide_eq_true (by kernel_rfl)) dec130 (fun _ => rfl)
theorem dec62 : Dec Try.prog 62 eSetting okSetting := fun H enc w sp held fuel cs x h hw => by
  obtain ⟨a0, k0, r0⟩ := dec_field (s := 1) Try.underlying62 h hw 0 rfl (by kernel_rfl) dec3
  obtain ⟨a1, k1, r1⟩ := dec_field (s := 1) Try.underlying62 h hw 1 rfl (by kernel_rfl) dec3
  have hl : cs.length = 2 := by obtain ⟨_, _, _, _, h1, _⟩ := DataW.trod_struct Try.underlying62 h; exact h1.trans (by kernel_rfl)
  exact ⟨⟨a0, a1⟩, ⟨k0, k1⟩, (RC.join (o := 0) (s := 1) r0 (RC.join (o := 1) (s := 1) r1 (RC.stop hl)))⟩
theorem dec49 : Dec Try.prog 49 (fun l : (List Setting) => [encL 2 eSetting l]) (fun l => (∀ a ∈ l, okSetting a) ∧ l.length ≤ 140737488355328) := dec_slice Try.underlying49 (by kernel_rfl) (by decide) (of_decide_eq_true (by kernel_rfl)) dec62 (fun _ => rfl)
theorem dec132 : Dec Try.prog 132 eEnd okEnd := fun H enc w sp held fuel cs x h hw => by
  obtain ⟨a0, k0, r0⟩ := dec_field (s := 1) Try.underlying132 h hw 0 rfl (by kernel_rfl) dec3
  obtain ⟨a1, k1, r1⟩ := dec_field (s := 1) Try.underlying132 h hw 1 rfl (by kernel_rfl) dec3
  have hl : cs.length = 2 := by obtain ⟨_, _, _, _, h1, _⟩ := DataW.trod_struct Try.underlying132 h; exact h1.trans (by kernel_rfl)
  exact ⟨⟨a0, a1⟩, ⟨k0, k1⟩, (RC.join (o := 0) (s := 1) r0 (RC.join (o := 1) (s := 1) r1 (RC.stop hl)))⟩
theorem dec50 : Dec Try.prog 50 (fun l : (List End) => [encL 2 eEnd l]) (fun l => (∀ a ∈ l, okEnd a) ∧ l.length ≤ 140737488355328) := dec_slice Try.underlying50 (by kernel_rfl) (by decide) (of_decide_eq_true (by kernel_rfl)) dec132 (fun _ => rfl)
theorem dec52 : Dec Try.prog 52 eRoute okRoute := fun H enc w sp held fuel cs x h hw => by
  obtain ⟨a0, k0, r0⟩ := dec_field (s := 1) Try.underlying52 h hw 0 rfl (by kernel_rfl) dec9
  obtain ⟨a1, k1, r1⟩ := dec_field (s := 1) Try.underlying52 h hw 1 rfl (by kernel_rfl) dec3
  obtain ⟨a2, k2, r2⟩ := dec_field (s := 1) Try.underlying52 h hw 2 rfl (by kernel_rfl) dec3
  obtain ⟨a3, k3, r3⟩ := dec_field (s := 1) Try.underlying52 h hw 3 rfl (by kernel_rfl) dec48
  obtain ⟨a4, k4, r4⟩ := dec_field (s := 1) Try.underlying52 h hw 4 rfl (by kernel_rfl) dec49
  obtain ⟨a5, k5, r5⟩ := dec_field (s := 1) Try.underlying52 h hw 5 rfl (by kernel_rfl) dec33
  obtain ⟨a6, k6, r6⟩ := dec_field (s := 1) Try.underlying52 h hw 6 rfl (by kernel_rfl) dec3
  obtain ⟨a7, k7, r7⟩ := dec_field (s := 1) Try.underlying52 h hw 7 rfl (by kernel_rfl) dec3
  obtain ⟨a8, k8, r8⟩ := dec_field (s := 1) Try.underlying52 h hw 8 rfl (by kernel_rfl) dec48
  obtain ⟨a9, k9, r9⟩ := dec_field (s := 1) Try.underlying52 h hw 9 rfl (by kernel_rfl) dec49
  obtain ⟨a10, k10, r10⟩ := dec_field (s := 1) Try.underlying52 h hw 10 rfl (by kernel_rfl) dec33
  obtain ⟨a11, k11, r11⟩ := dec_field (s := 1) Try.underlying52 h hw 11 rfl (by kernel_rfl) dec49
  obtain ⟨a12, k12, r12⟩ := dec_field (s := 1) Try.underlying52 h hw 12 rfl (by kernel_rfl) dec33
  obtain ⟨a13, k13, r13⟩ := dec_field (s := 1) Try.underlying52 h hw 13 rfl (by kernel_rfl) dec50
  have hl : cs.length = 14 := by obtain ⟨_, _, _, _, h1, _⟩ := DataW.trod_struct Try.underlying52 h; exact h1.trans (by kernel_rfl)
  exact ⟨⟨a0, a1, a2, a3, a4, a5, a6, a7, a8, a9, a10, a11, a12, a13⟩, ⟨k0, k1, k2, k3, k4, k5, k6, k7, k8, k9, k10, k11, k12, k13⟩, (RC.join (o := 0) (s := 1) r0 (RC.join (o := 1) (s := 1) r1 (RC.join (o := 2) (s := 1) r2 (RC.join (o := 3) (s := 1) r3 (RC.join (o := 4) (s := 1) r4 (RC.join (o := 5) (s := 1) r5 (RC.join (o := 6) (s := 1) r6 (RC.join (o := 7) (s := 1) r7 (RC.join (o := 8) (s := 1) r8 (RC.join (o := 9) (s := 1) r9 (RC.join (o := 10) (s := 1) r10 (RC.join (o := 11) (s := 1) r11 (RC.join (o := 12) (s := 1) r12 (RC.join (o := 13) (s := 1) r13 (RC.stop hl)))))))))))))))⟩
theorem dec22 : Dec Try.prog 22 (fun l : (List Fault) => [encL 3 eFault l]) (fun l => (∀ a ∈ l, okFault a) ∧ l.length ≤ 140737488355328) := dec_slice Try.underlying22 (by kernel_rfl) (by decide) (of_decide_eq_true (by kernel_rfl)) dec24 (fun _ => rfl)
theorem dec57 : Dec Try.prog 57 (fun l : (List Route) => [encL 14 eRoute l]) (fun l => (∀ a ∈ l, okRoute a) ∧ l.length ≤ 140737488355328) := dec_slice Try.underlying57 (by kernel_rfl) (by decide) (of_decide_eq_true (by kernel_rfl)) dec52 (fun _ => rfl)
attribute [go_sem] eFault snocFault setmFault rngFault etaFault eRead snocRead setmRead rngRead etaRead eSight snocSight setmSight rngSight etaSight eStep snocStep setmStep rngStep etaStep eSetting snocSetting setmSetting rngSetting etaSetting eEnd snocEnd setmEnd rngEnd etaEnd eRoute snocRoute setmRoute rngRoute etaRoute
end Go.Sg
