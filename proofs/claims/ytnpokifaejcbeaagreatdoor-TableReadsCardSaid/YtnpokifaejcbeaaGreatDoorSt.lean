/- Go data as Lean data: structures, their cells, and what a row reads; printed by gen_st.py. -/
import Derived.Test.YtnpokifaejcbeaaGreatDoorSgDec
import Derived.Test.YtnpokifaejcbeaaGreatDoorTy
import Derived.KernelRfl
set_option linter.unusedVariables false
set_option linter.unusedSimpArgs false
namespace Go.Sg
open Go.Proofs
/-- signalling/api.Step. -/
structure Step where
  fEl : Int
  fIn : Int
  fOut : Int
  deriving DecidableEq
instance : Inhabited Step := ⟨⟨default, default, default⟩⟩
def eStep (x : Step) : List DV := [vi x.fEl, vi x.fIn, vi x.fOut]
def okStep (x : Step) : Prop := (-9223372036854775808 ≤ x.fEl ∧ x.fEl ≤ 9223372036854775807) ∧ (-9223372036854775808 ≤ x.fIn ∧ x.fIn ≤ 9223372036854775807) ∧ (-9223372036854775808 ≤ x.fOut ∧ x.fOut ≤ 9223372036854775807)
theorem snocStep (l : List Step) (xel : Int) (xin : Int) (xout : Int) : l.map eStep ++ [[vi xel, vi xin, vi xout]] = (l ++ [(⟨xel, xin, xout⟩ : Step)]).map eStep := by simp [eStep]
theorem setmStep (l : List Step) (i : Nat) (xel : Int) (xin : Int) (xout : Int) : (l.map eStep).set i [vi xel, vi xin, vi xout] = (l.set i (⟨xel, xin, xout⟩ : Step)).map eStep := by rw [List.map_set]; rfl
theorem rngStep (l : List Step) : ((List.range l.length).map fun i => [vi (l.getD i default).fEl, vi (l.getD i default).fIn, vi (l.getD i default).fOut]) = l.map eStep := rangeGetD eStep l
theorem etaStep (x : Step) : (⟨x.fEl, x.fIn, x.fOut⟩ : Step) = x := rfl
theorem extStep (x y : Step) : x = y ↔ x.fEl = y.fEl ∧ x.fIn = y.fIn ∧ x.fOut = y.fOut := by cases x; cases y; simp
/-- signalling/api.Setting. -/
structure Setting where
  fEl : Int
  fPos : Int
  deriving DecidableEq
instance : Inhabited Setting := ⟨⟨default, default⟩⟩
def eSetting (x : Setting) : List DV := [vi x.fEl, vi x.fPos]
def okSetting (x : Setting) : Prop := (-9223372036854775808 ≤ x.fEl ∧ x.fEl ≤ 9223372036854775807) ∧ (-9223372036854775808 ≤ x.fPos ∧ x.fPos ≤ 9223372036854775807)
theorem snocSetting (l : List Setting) (xel : Int) (xpos : Int) : l.map eSetting ++ [[vi xel, vi xpos]] = (l ++ [(⟨xel, xpos⟩ : Setting)]).map eSetting := by simp [eSetting]
theorem setmSetting (l : List Setting) (i : Nat) (xel : Int) (xpos : Int) : (l.map eSetting).set i [vi xel, vi xpos] = (l.set i (⟨xel, xpos⟩ : Setting)).map eSetting := by rw [List.map_set]; rfl
theorem rngSetting (l : List Setting) : ((List.range l.length).map fun i => [vi (l.getD i default).fEl, vi (l.getD i default).fPos]) = l.map eSetting := rangeGetD eSetting l
theorem etaSetting (x : Setting) : (⟨x.fEl, x.fPos⟩ : Setting) = x := rfl
theorem extSetting (x y : Setting) : x = y ↔ x.fEl = y.fEl ∧ x.fPos = y.fPos := by cases x; cases y; simp
/-- signalling/api.End. -/
structure End where
  fEl : Int
  fSide : Int
  deriving DecidableEq
instance : Inhabited End := ⟨⟨default, default⟩⟩
def eEnd (x : End) : List DV := [vi x.fEl, vi x.fSide]
def okEnd (x : End) : Prop := (-9223372036854775808 ≤ x.fEl ∧ x.fEl ≤ 9223372036854775807) ∧ (-9223372036854775808 ≤ x.fSide ∧ x.fSide ≤ 9223372036854775807)
theorem snocEnd (l : List End) (xel : Int) (xside : Int) : l.map eEnd ++ [[vi xel, vi xside]] = (l ++ [(⟨xel, xside⟩ : End)]).map eEnd := by simp [eEnd]
theorem setmEnd (l : List End) (i : Nat) (xel : Int) (xside : Int) : (l.map eEnd).set i [vi xel, vi xside] = (l.set i (⟨xel, xside⟩ : End)).map eEnd := by rw [List.map_set]; rfl
theorem rngEnd (l : List End) : ((List.range l.length).map fun i => [vi (l.getD i default).fEl, vi (l.getD i default).fSide]) = l.map eEnd := rangeGetD eEnd l
theorem etaEnd (x : End) : (⟨x.fEl, x.fSide⟩ : End) = x := rfl
theorem extEnd (x y : End) : x = y ↔ x.fEl = y.fEl ∧ x.fSide = y.fSide := by cases x; cases y; simp
/-- signalling/api.Route. -/
structure Route where
  fName : ByteArray
  fEntry : Int
  fExit : Int
  fPath : (List Step)
  fPoints : (List Setting)
  fSections : (List Int)
  fApproach : Int
  fLength : Int
  fOver : (List Step)
  fOverPoints : (List Setting)
  fOverSections : (List Int)
  fFlank : (List Setting)
  fGuards : (List Int)
  fGaps : (List End)
  deriving DecidableEq
instance : Inhabited Route := ⟨⟨default, default, default, default, default, default, default, default, default, default, default, default, default, default⟩⟩
def eRoute (x : Route) : List DV := [vs x.fName, vi x.fEntry, vi x.fExit, encL 3 eStep x.fPath, encL 2 eSetting x.fPoints, encL 1 eI x.fSections, vi x.fApproach, vi x.fLength, encL 3 eStep x.fOver, encL 2 eSetting x.fOverPoints, encL 1 eI x.fOverSections, encL 2 eSetting x.fFlank, encL 1 eI x.fGuards, encL 2 eEnd x.fGaps]
def okRoute (x : Route) : Prop := (x.fName.size ≤ 140737488355328) ∧ (-9223372036854775808 ≤ x.fEntry ∧ x.fEntry ≤ 9223372036854775807) ∧ (-9223372036854775808 ≤ x.fExit ∧ x.fExit ≤ 9223372036854775807) ∧ ((∀ a ∈ x.fPath, okStep a) ∧ x.fPath.length ≤ 140737488355328) ∧ ((∀ a ∈ x.fPoints, okSetting a) ∧ x.fPoints.length ≤ 140737488355328) ∧ ((∀ a ∈ x.fSections, -9223372036854775808 ≤ a ∧ a ≤ 9223372036854775807) ∧ x.fSections.length ≤ 140737488355328) ∧ (-9223372036854775808 ≤ x.fApproach ∧ x.fApproach ≤ 9223372036854775807) ∧ (-9223372036854775808 ≤ x.fLength ∧ x.fLength ≤ 9223372036854775807) ∧ ((∀ a ∈ x.fOver, okStep a) ∧ x.fOver.length ≤ 140737488355328) ∧ ((∀ a ∈ x.fOverPoints, okSetting a) ∧ x.fOverPoints.length ≤ 140737488355328) ∧ ((∀ a ∈ x.fOverSections, -9223372036854775808 ≤ a ∧ a ≤ 9223372036854775807) ∧ x.fOverSections.length ≤ 140737488355328) ∧ ((∀ a ∈ x.fFlank, okSetting a) ∧ x.fFlank.length ≤ 140737488355328) ∧ ((∀ a ∈ x.fGuards, -9223372036854775808 ≤ a ∧ a ≤ 9223372036854775807) ∧ x.fGuards.length ≤ 140737488355328) ∧ ((∀ a ∈ x.fGaps, okEnd a) ∧ x.fGaps.length ≤ 140737488355328)
theorem snocRoute (l : List Route) (xname : ByteArray) (xentry : Int) (xexit : Int) (xpath : (List Step)) (xpoints : (List Setting)) (xsections : (List Int)) (xapproach : Int) (xlength : Int) (xover : (List Step)) (xoverPoints : (List Setting)) (xoverSections : (List Int)) (xflank : (List Setting)) (xguards : (List Int)) (xgaps : (List End)) : l.map eRoute ++ [[vs xname, vi xentry, vi xexit, encL 3 eStep xpath, encL 2 eSetting xpoints, encL 1 eI xsections, vi xapproach, vi xlength, encL 3 eStep xover, encL 2 eSetting xoverPoints, encL 1 eI xoverSections, encL 2 eSetting xflank, encL 1 eI xguards, encL 2 eEnd xgaps]] = (l ++ [(⟨xname, xentry, xexit, xpath, xpoints, xsections, xapproach, xlength, xover, xoverPoints, xoverSections, xflank, xguards, xgaps⟩ : Route)]).map eRoute := by simp [eRoute]
theorem setmRoute (l : List Route) (i : Nat) (xname : ByteArray) (xentry : Int) (xexit : Int) (xpath : (List Step)) (xpoints : (List Setting)) (xsections : (List Int)) (xapproach : Int) (xlength : Int) (xover : (List Step)) (xoverPoints : (List Setting)) (xoverSections : (List Int)) (xflank : (List Setting)) (xguards : (List Int)) (xgaps : (List End)) : (l.map eRoute).set i [vs xname, vi xentry, vi xexit, encL 3 eStep xpath, encL 2 eSetting xpoints, encL 1 eI xsections, vi xapproach, vi xlength, encL 3 eStep xover, encL 2 eSetting xoverPoints, encL 1 eI xoverSections, encL 2 eSetting xflank, encL 1 eI xguards, encL 2 eEnd xgaps] = (l.set i (⟨xname, xentry, xexit, xpath, xpoints, xsections, xapproach, xlength, xover, xoverPoints, xoverSections, xflank, xguards, xgaps⟩ : Route)).map eRoute := by rw [List.map_set]; rfl
theorem rngRoute (l : List Route) : ((List.range l.length).map fun i => [vs (l.getD i default).fName, vi (l.getD i default).fEntry, vi (l.getD i default).fExit, encL 3 eStep (l.getD i default).fPath, encL 2 eSetting (l.getD i default).fPoints, encL 1 eI (l.getD i default).fSections, vi (l.getD i default).fApproach, vi (l.getD i default).fLength, encL 3 eStep (l.getD i default).fOver, encL 2 eSetting (l.getD i default).fOverPoints, encL 1 eI (l.getD i default).fOverSections, encL 2 eSetting (l.getD i default).fFlank, encL 1 eI (l.getD i default).fGuards, encL 2 eEnd (l.getD i default).fGaps]) = l.map eRoute := rangeGetD eRoute l
theorem etaRoute (x : Route) : (⟨x.fName, x.fEntry, x.fExit, x.fPath, x.fPoints, x.fSections, x.fApproach, x.fLength, x.fOver, x.fOverPoints, x.fOverSections, x.fFlank, x.fGuards, x.fGaps⟩ : Route) = x := rfl
theorem extRoute (x y : Route) : x = y ↔ x.fName = y.fName ∧ x.fEntry = y.fEntry ∧ x.fExit = y.fExit ∧ x.fPath = y.fPath ∧ x.fPoints = y.fPoints ∧ x.fSections = y.fSections ∧ x.fApproach = y.fApproach ∧ x.fLength = y.fLength ∧ x.fOver = y.fOver ∧ x.fOverPoints = y.fOverPoints ∧ x.fOverSections = y.fOverSections ∧ x.fFlank = y.fFlank ∧ x.fGuards = y.fGuards ∧ x.fGaps = y.fGaps := by cases x; cases y; simp
/-- signalling/api.Table. -/
structure Table where
  fRoutes : (List Route)
  fPoints : (List Int)
  fHomes : (List Int)
  fSections : Int
  fSignals : Int
  deriving DecidableEq
instance : Inhabited Table := ⟨⟨default, default, default, default, default⟩⟩
def eTable (x : Table) : List DV := [encL 14 eRoute x.fRoutes, encL 1 eI x.fPoints, encL 1 eI x.fHomes, vi x.fSections, vi x.fSignals]
def okTable (x : Table) : Prop := ((∀ a ∈ x.fRoutes, okRoute a) ∧ x.fRoutes.length ≤ 140737488355328) ∧ ((∀ a ∈ x.fPoints, -9223372036854775808 ≤ a ∧ a ≤ 9223372036854775807) ∧ x.fPoints.length ≤ 140737488355328) ∧ ((∀ a ∈ x.fHomes, -9223372036854775808 ≤ a ∧ a ≤ 9223372036854775807) ∧ x.fHomes.length ≤ 140737488355328) ∧ (-9223372036854775808 ≤ x.fSections ∧ x.fSections ≤ 9223372036854775807) ∧ (-9223372036854775808 ≤ x.fSignals ∧ x.fSignals ≤ 9223372036854775807)
theorem snocTable (l : List Table) (xroutes : (List Route)) (xpoints : (List Int)) (xhomes : (List Int)) (xsections : Int) (xsignals : Int) : l.map eTable ++ [[encL 14 eRoute xroutes, encL 1 eI xpoints, encL 1 eI xhomes, vi xsections, vi xsignals]] = (l ++ [(⟨xroutes, xpoints, xhomes, xsections, xsignals⟩ : Table)]).map eTable := by simp [eTable]
theorem setmTable (l : List Table) (i : Nat) (xroutes : (List Route)) (xpoints : (List Int)) (xhomes : (List Int)) (xsections : Int) (xsignals : Int) : (l.map eTable).set i [encL 14 eRoute xroutes, encL 1 eI xpoints, encL 1 eI xhomes, vi xsections, vi xsignals] = (l.set i (⟨xroutes, xpoints, xhomes, xsections, xsignals⟩ : Table)).map eTable := by rw [List.map_set]; rfl
theorem rngTable (l : List Table) : ((List.range l.length).map fun i => [encL 14 eRoute (l.getD i default).fRoutes, encL 1 eI (l.getD i default).fPoints, encL 1 eI (l.getD i default).fHomes, vi (l.getD i default).fSections, vi (l.getD i default).fSignals]) = l.map eTable := rangeGetD eTable l
theorem etaTable (x : Table) : (⟨x.fRoutes, x.fPoints, x.fHomes, x.fSections, x.fSignals⟩ : Table) = x := rfl
theorem extTable (x y : Table) : x = y ↔ x.fRoutes = y.fRoutes ∧ x.fPoints = y.fPoints ∧ x.fHomes = y.fHomes ∧ x.fSections = y.fSections ∧ x.fSignals = y.fSignals := by cases x; cases y; simp
theorem dec9 : Dec Tryz.prog 9 eS (fun s => s.size ≤ 140737488355328) := dec_string Tryz.underlying9
theorem dec3 : Dec Tryz.prog 3 eI (fun n => -9223372036854775808 ≤ n ∧ n ≤ 9223372036854775807) := dec_int Tryz.underlying3
theorem dec85 : Dec Tryz.prog 85 eStep okStep := fun H enc w sp held fuel cs x h hw => by
  obtain ⟨a0, k0, r0⟩ := dec_field (s := 1) Tryz.underlying85 h hw 0 rfl (by kernel_rfl) dec3
  obtain ⟨a1, k1, r1⟩ := dec_field (s := 1) Tryz.underlying85 h hw 1 rfl (by kernel_rfl) dec3
  obtain ⟨a2, k2, r2⟩ := dec_field (s := 1) Tryz.underlying85 h hw 2 rfl (by kernel_rfl) dec3
  have hl : cs.length = 3 := by obtain ⟨_, _, _, _, h1, _⟩ := DataW.trod_struct Tryz.underlying85 h; exact h1.trans (by kernel_rfl)
  exact ⟨⟨a0, a1, a2⟩, ⟨k0, k1, k2⟩, (RC.join (o := 0) (s := 1) r0 (RC.join (o := 1) (s := 1) r1 (RC.join (o := 2) (s := 1) r2 (RC.stop hl))))⟩
theorem dec42 : Dec Tryz.prog 42 (fun l : (List Step) => [encL 3 eStep l]) (fun l => (∀ a ∈ l, okStep a) ∧ l.length ≤ 140737488355328) := dec_slice Tryz.underlying42 (by kernel_rfl) (by decide) (of_decide_eq_true (by kernel_rfl)) dec85 (fun _ => rfl)
theorem dec68 : Dec Tryz.prog 68 eSetting okSetting := fun H enc w sp held fuel cs x h hw => by
  obtain ⟨a0, k0, r0⟩ := dec_field (s := 1) Tryz.underlying68 h hw 0 rfl (by kernel_rfl) dec3
  obtain ⟨a1, k1, r1⟩ := dec_field (s := 1) Tryz.underlying68 h hw 1 rfl (by kernel_rfl) dec3
  have hl : cs.length = 2 := by obtain ⟨_, _, _, _, h1, _⟩ := DataW.trod_struct Tryz.underlying68 h; exact h1.trans (by kernel_rfl)
  exact ⟨⟨a0, a1⟩, ⟨k0, k1⟩, (RC.join (o := 0) (s := 1) r0 (RC.join (o := 1) (s := 1) r1 (RC.stop hl)))⟩
theorem dec43 : Dec Tryz.prog 43 (fun l : (List Setting) => [encL 2 eSetting l]) (fun l => (∀ a ∈ l, okSetting a) ∧ l.length ≤ 140737488355328) := dec_slice Tryz.underlying43 (by kernel_rfl) (by decide) (of_decide_eq_true (by kernel_rfl)) dec68 (fun _ => rfl)
theorem dec32 : Dec Tryz.prog 32 (fun l : (List Int) => [encL 1 eI l]) (fun l => (∀ a ∈ l, -9223372036854775808 ≤ a ∧ a ≤ 9223372036854775807) ∧ l.length ≤ 140737488355328) := dec_slice Tryz.underlying32 (by kernel_rfl) (by decide) (of_decide_eq_true (by kernel_rfl)) dec3 (fun _ => rfl)
theorem dec49 : Dec Tryz.prog 49 eEnd okEnd := fun H enc w sp held fuel cs x h hw => by
  obtain ⟨a0, k0, r0⟩ := dec_field (s := 1) Tryz.underlying49 h hw 0 rfl (by kernel_rfl) dec3
  obtain ⟨a1, k1, r1⟩ := dec_field (s := 1) Tryz.underlying49 h hw 1 rfl (by kernel_rfl) dec3
  have hl : cs.length = 2 := by obtain ⟨_, _, _, _, h1, _⟩ := DataW.trod_struct Tryz.underlying49 h; exact h1.trans (by kernel_rfl)
  exact ⟨⟨a0, a1⟩, ⟨k0, k1⟩, (RC.join (o := 0) (s := 1) r0 (RC.join (o := 1) (s := 1) r1 (RC.stop hl)))⟩
theorem dec44 : Dec Tryz.prog 44 (fun l : (List End) => [encL 2 eEnd l]) (fun l => (∀ a ∈ l, okEnd a) ∧ l.length ≤ 140737488355328) := dec_slice Tryz.underlying44 (by kernel_rfl) (by decide) (of_decide_eq_true (by kernel_rfl)) dec49 (fun _ => rfl)
theorem dec46 : Dec Tryz.prog 46 eRoute okRoute := fun H enc w sp held fuel cs x h hw => by
  obtain ⟨a0, k0, r0⟩ := dec_field (s := 1) Tryz.underlying46 h hw 0 rfl (by kernel_rfl) dec9
  obtain ⟨a1, k1, r1⟩ := dec_field (s := 1) Tryz.underlying46 h hw 1 rfl (by kernel_rfl) dec3
  obtain ⟨a2, k2, r2⟩ := dec_field (s := 1) Tryz.underlying46 h hw 2 rfl (by kernel_rfl) dec3
  obtain ⟨a3, k3, r3⟩ := dec_field (s := 1) Tryz.underlying46 h hw 3 rfl (by kernel_rfl) dec42
  obtain ⟨a4, k4, r4⟩ := dec_field (s := 1) Tryz.underlying46 h hw 4 rfl (by kernel_rfl) dec43
  obtain ⟨a5, k5, r5⟩ := dec_field (s := 1) Tryz.underlying46 h hw 5 rfl (by kernel_rfl) dec32
  obtain ⟨a6, k6, r6⟩ := dec_field (s := 1) Tryz.underlying46 h hw 6 rfl (by kernel_rfl) dec3
  obtain ⟨a7, k7, r7⟩ := dec_field (s := 1) Tryz.underlying46 h hw 7 rfl (by kernel_rfl) dec3
  obtain ⟨a8, k8, r8⟩ := dec_field (s := 1) Tryz.underlying46 h hw 8 rfl (by kernel_rfl) dec42
  obtain ⟨a9, k9, r9⟩ := dec_field (s := 1) Tryz.underlying46 h hw 9 rfl (by kernel_rfl) dec43
  obtain ⟨a10, k10, r10⟩ := dec_field (s := 1) Tryz.underlying46 h hw 10 rfl (by kernel_rfl) dec32
  obtain ⟨a11, k11, r11⟩ := dec_field (s := 1) Tryz.underlying46 h hw 11 rfl (by kernel_rfl) dec43
  obtain ⟨a12, k12, r12⟩ := dec_field (s := 1) Tryz.underlying46 h hw 12 rfl (by kernel_rfl) dec32
  obtain ⟨a13, k13, r13⟩ := dec_field (s := 1) Tryz.underlying46 h hw 13 rfl (by kernel_rfl) dec44
  have hl : cs.length = 14 := by obtain ⟨_, _, _, _, h1, _⟩ := DataW.trod_struct Tryz.underlying46 h; exact h1.trans (by kernel_rfl)
  exact ⟨⟨a0, a1, a2, a3, a4, a5, a6, a7, a8, a9, a10, a11, a12, a13⟩, ⟨k0, k1, k2, k3, k4, k5, k6, k7, k8, k9, k10, k11, k12, k13⟩, (RC.join (o := 0) (s := 1) r0 (RC.join (o := 1) (s := 1) r1 (RC.join (o := 2) (s := 1) r2 (RC.join (o := 3) (s := 1) r3 (RC.join (o := 4) (s := 1) r4 (RC.join (o := 5) (s := 1) r5 (RC.join (o := 6) (s := 1) r6 (RC.join (o := 7) (s := 1) r7 (RC.join (o := 8) (s := 1) r8 (RC.join (o := 9) (s := 1) r9 (RC.join (o := 10) (s := 1) r10 (RC.join (o := 11) (s := 1) r11 (RC.join (o := 12) (s := 1) r12 (RC.join (o := 13) (s := 1) r13 (RC.stop hl)))))))))))))))⟩
theorem dec31 : Dec Tryz.prog 31 (fun l : (List Route) => [encL 14 eRoute l]) (fun l => (∀ a ∈ l, okRoute a) ∧ l.length ≤ 140737488355328) := dec_slice Tryz.underlying31 (by kernel_rfl) (by decide) (of_decide_eq_true (by kernel_rfl)) dec46 (fun _ => rfl)
theorem dec34 : Dec Tryz.prog 34 eTable okTable := fun H enc w sp held fuel cs x h hw => by
  obtain ⟨a0, k0, r0⟩ := dec_field (s := 1) Tryz.underlying34 h hw 0 rfl (by kernel_rfl) dec31
  obtain ⟨a1, k1, r1⟩ := dec_field (s := 1) Tryz.underlying34 h hw 1 rfl (by kernel_rfl) dec32
  obtain ⟨a2, k2, r2⟩ := dec_field (s := 1) Tryz.underlying34 h hw 2 rfl (by kernel_rfl) dec32
  obtain ⟨a3, k3, r3⟩ := dec_field (s := 1) Tryz.underlying34 h hw 3 rfl (by kernel_rfl) dec3
  obtain ⟨a4, k4, r4⟩ := dec_field (s := 1) Tryz.underlying34 h hw 4 rfl (by kernel_rfl) dec3
  have hl : cs.length = 5 := by obtain ⟨_, _, _, _, h1, _⟩ := DataW.trod_struct Tryz.underlying34 h; exact h1.trans (by kernel_rfl)
  exact ⟨⟨a0, a1, a2, a3, a4⟩, ⟨k0, k1, k2, k3, k4⟩, (RC.join (o := 0) (s := 1) r0 (RC.join (o := 1) (s := 1) r1 (RC.join (o := 2) (s := 1) r2 (RC.join (o := 3) (s := 1) r3 (RC.join (o := 4) (s := 1) r4 (RC.stop hl))))))⟩
/-- signalling/signallinglaw16.Query. -/
structure Query where
  fName : ByteArray
  fSignal : Int
  fEl : Int
  fRoute : Int
  deriving DecidableEq
instance : Inhabited Query := ⟨⟨default, default, default, default⟩⟩
def eQuery (x : Query) : List DV := [vs x.fName, vi x.fSignal, vi x.fEl, vi x.fRoute]
def okQuery (x : Query) : Prop := (x.fName.size ≤ 140737488355328) ∧ (-9223372036854775808 ≤ x.fSignal ∧ x.fSignal ≤ 9223372036854775807) ∧ (-9223372036854775808 ≤ x.fEl ∧ x.fEl ≤ 9223372036854775807) ∧ (-9223372036854775808 ≤ x.fRoute ∧ x.fRoute ≤ 9223372036854775807)
theorem snocQuery (l : List Query) (xname : ByteArray) (xsignal : Int) (xel : Int) (xroute : Int) : l.map eQuery ++ [[vs xname, vi xsignal, vi xel, vi xroute]] = (l ++ [(⟨xname, xsignal, xel, xroute⟩ : Query)]).map eQuery := by simp [eQuery]
theorem setmQuery (l : List Query) (i : Nat) (xname : ByteArray) (xsignal : Int) (xel : Int) (xroute : Int) : (l.map eQuery).set i [vs xname, vi xsignal, vi xel, vi xroute] = (l.set i (⟨xname, xsignal, xel, xroute⟩ : Query)).map eQuery := by rw [List.map_set]; rfl
theorem rngQuery (l : List Query) : ((List.range l.length).map fun i => [vs (l.getD i default).fName, vi (l.getD i default).fSignal, vi (l.getD i default).fEl, vi (l.getD i default).fRoute]) = l.map eQuery := rangeGetD eQuery l
theorem etaQuery (x : Query) : (⟨x.fName, x.fSignal, x.fEl, x.fRoute⟩ : Query) = x := rfl
theorem extQuery (x y : Query) : x = y ↔ x.fName = y.fName ∧ x.fSignal = y.fSignal ∧ x.fEl = y.fEl ∧ x.fRoute = y.fRoute := by cases x; cases y; simp
theorem dec61 : Dec Tryz.prog 61 eQuery okQuery := fun H enc w sp held fuel cs x h hw => by
  obtain ⟨a0, k0, r0⟩ := dec_field (s := 1) Tryz.underlying61 h hw 0 rfl (by kernel_rfl) dec9
  obtain ⟨a1, k1, r1⟩ := dec_field (s := 1) Tryz.underlying61 h hw 1 rfl (by kernel_rfl) dec3
  obtain ⟨a2, k2, r2⟩ := dec_field (s := 1) Tryz.underlying61 h hw 2 rfl (by kernel_rfl) dec3
  obtain ⟨a3, k3, r3⟩ := dec_field (s := 1) Tryz.underlying61 h hw 3 rfl (by kernel_rfl) dec3
  have hl : cs.length = 4 := by obtain ⟨_, _, _, _, h1, _⟩ := DataW.trod_struct Tryz.underlying61 h; exact h1.trans (by kernel_rfl)
  exact ⟨⟨a0, a1, a2, a3⟩, ⟨k0, k1, k2, k3⟩, (RC.join (o := 0) (s := 1) r0 (RC.join (o := 1) (s := 1) r1 (RC.join (o := 2) (s := 1) r2 (RC.join (o := 3) (s := 1) r3 (RC.stop hl)))))⟩
/-- signalling/api.Element. -/
structure Element where
  fName : ByteArray
  fKind : Int
  fLength : Int
  fGrade : Int
  fSpeed : Int
  fSlow : Int
  fSection : Int
  deriving DecidableEq
instance : Inhabited Element := ⟨⟨default, default, default, default, default, default, default⟩⟩
def eElement (x : Element) : List DV := [vs x.fName, vi x.fKind, vi x.fLength, vi x.fGrade, vi x.fSpeed, vi x.fSlow, vi x.fSection]
def okElement (x : Element) : Prop := (x.fName.size ≤ 140737488355328) ∧ (-9223372036854775808 ≤ x.fKind ∧ x.fKind ≤ 9223372036854775807) ∧ (-9223372036854775808 ≤ x.fLength ∧ x.fLength ≤ 9223372036854775807) ∧ (-9223372036854775808 ≤ x.fGrade ∧ x.fGrade ≤ 9223372036854775807) ∧ (-9223372036854775808 ≤ x.fSpeed ∧ x.fSpeed ≤ 9223372036854775807) ∧ (-9223372036854775808 ≤ x.fSlow ∧ x.fSlow ≤ 9223372036854775807) ∧ (-9223372036854775808 ≤ x.fSection ∧ x.fSection ≤ 9223372036854775807)
theorem snocElement (l : List Element) (xname : ByteArray) (xkind : Int) (xlength : Int) (xgrade : Int) (xspeed : Int) (xslow : Int) (xsection : Int) : l.map eElement ++ [[vs xname, vi xkind, vi xlength, vi xgrade, vi xspeed, vi xslow, vi xsection]] = (l ++ [(⟨xname, xkind, xlength, xgrade, xspeed, xslow, xsection⟩ : Element)]).map eElement := by simp [eElement]
theorem setmElement (l : List Element) (i : Nat) (xname : ByteArray) (xkind : Int) (xlength : Int) (xgrade : Int) (xspeed : Int) (xslow : Int) (xsection : Int) : (l.map eElement).set i [vs xname, vi xkind, vi xlength, vi xgrade, vi xspeed, vi xslow, vi xsection] = (l.set i (⟨xname, xkind, xlength, xgrade, xspeed, xslow, xsection⟩ : Element)).map eElement := by rw [List.map_set]; rfl
theorem rngElement (l : List Element) : ((List.range l.length).map fun i => [vs (l.getD i default).fName, vi (l.getD i default).fKind, vi (l.getD i default).fLength, vi (l.getD i default).fGrade, vi (l.getD i default).fSpeed, vi (l.getD i default).fSlow, vi (l.getD i default).fSection]) = l.map eElement := rangeGetD eElement l
theorem etaElement (x : Element) : (⟨x.fName, x.fKind, x.fLength, x.fGrade, x.fSpeed, x.fSlow, x.fSection⟩ : Element) = x := rfl
theorem extElement (x y : Element) : x = y ↔ x.fName = y.fName ∧ x.fKind = y.fKind ∧ x.fLength = y.fLength ∧ x.fGrade = y.fGrade ∧ x.fSpeed = y.fSpeed ∧ x.fSlow = y.fSlow ∧ x.fSection = y.fSection := by cases x; cases y; simp
/-- signalling/api.Joint. -/
structure Joint where
  fA : End
  fB : End
  deriving DecidableEq
instance : Inhabited Joint := ⟨⟨default, default⟩⟩
def eJoint (x : Joint) : List DV := [vi x.fA.fEl, vi x.fA.fSide, vi x.fB.fEl, vi x.fB.fSide]
def okJoint (x : Joint) : Prop := (okEnd x.fA) ∧ (okEnd x.fB)
theorem snocJoint (l : List Joint) (xa_el : Int) (xa_side : Int) (xb_el : Int) (xb_side : Int) : l.map eJoint ++ [[vi xa_el, vi xa_side, vi xb_el, vi xb_side]] = (l ++ [(⟨⟨xa_el, xa_side⟩, ⟨xb_el, xb_side⟩⟩ : Joint)]).map eJoint := by simp [eJoint]
theorem setmJoint (l : List Joint) (i : Nat) (xa_el : Int) (xa_side : Int) (xb_el : Int) (xb_side : Int) : (l.map eJoint).set i [vi xa_el, vi xa_side, vi xb_el, vi xb_side] = (l.set i (⟨⟨xa_el, xa_side⟩, ⟨xb_el, xb_side⟩⟩ : Joint)).map eJoint := by rw [List.map_set]; rfl
theorem rngJoint (l : List Joint) : ((List.range l.length).map fun i => [vi (l.getD i default).fA.fEl, vi (l.getD i default).fA.fSide, vi (l.getD i default).fB.fEl, vi (l.getD i default).fB.fSide]) = l.map eJoint := rangeGetD eJoint l
theorem etaJoint (x : Joint) : (⟨x.fA, x.fB⟩ : Joint) = x := rfl
theorem extJoint (x y : Joint) : x = y ↔ x.fA = y.fA ∧ x.fB = y.fB := by cases x; cases y; simp
/-- signalling/api.Signal. -/
structure Signal where
  fName : ByteArray
  fAt : End
  fOverlap : Int
  deriving DecidableEq
instance : Inhabited Signal := ⟨⟨default, default, default⟩⟩
def eSignal (x : Signal) : List DV := [vs x.fName, vi x.fAt.fEl, vi x.fAt.fSide, vi x.fOverlap]
def okSignal (x : Signal) : Prop := (x.fName.size ≤ 140737488355328) ∧ (okEnd x.fAt) ∧ (-9223372036854775808 ≤ x.fOverlap ∧ x.fOverlap ≤ 9223372036854775807)
theorem snocSignal (l : List Signal) (xname : ByteArray) (xat_el : Int) (xat_side : Int) (xoverlap : Int) : l.map eSignal ++ [[vs xname, vi xat_el, vi xat_side, vi xoverlap]] = (l ++ [(⟨xname, ⟨xat_el, xat_side⟩, xoverlap⟩ : Signal)]).map eSignal := by simp [eSignal]
theorem setmSignal (l : List Signal) (i : Nat) (xname : ByteArray) (xat_el : Int) (xat_side : Int) (xoverlap : Int) : (l.map eSignal).set i [vs xname, vi xat_el, vi xat_side, vi xoverlap] = (l.set i (⟨xname, ⟨xat_el, xat_side⟩, xoverlap⟩ : Signal)).map eSignal := by rw [List.map_set]; rfl
theorem rngSignal (l : List Signal) : ((List.range l.length).map fun i => [vs (l.getD i default).fName, vi (l.getD i default).fAt.fEl, vi (l.getD i default).fAt.fSide, vi (l.getD i default).fOverlap]) = l.map eSignal := rangeGetD eSignal l
theorem etaSignal (x : Signal) : (⟨x.fName, x.fAt, x.fOverlap⟩ : Signal) = x := rfl
theorem extSignal (x y : Signal) : x = y ↔ x.fName = y.fName ∧ x.fAt = y.fAt ∧ x.fOverlap = y.fOverlap := by cases x; cases y; simp
/-- signalling/api.Balise. -/
structure Balise where
  fId : Int
  fEl : Int
  fOffset : Int
  deriving DecidableEq
instance : Inhabited Balise := ⟨⟨default, default, default⟩⟩
def eBalise (x : Balise) : List DV := [vi x.fId, vi x.fEl, vi x.fOffset]
def okBalise (x : Balise) : Prop := (-9223372036854775808 ≤ x.fId ∧ x.fId ≤ 9223372036854775807) ∧ (-9223372036854775808 ≤ x.fEl ∧ x.fEl ≤ 9223372036854775807) ∧ (-9223372036854775808 ≤ x.fOffset ∧ x.fOffset ≤ 9223372036854775807)
theorem snocBalise (l : List Balise) (xid : Int) (xel : Int) (xoffset : Int) : l.map eBalise ++ [[vi xid, vi xel, vi xoffset]] = (l ++ [(⟨xid, xel, xoffset⟩ : Balise)]).map eBalise := by simp [eBalise]
theorem setmBalise (l : List Balise) (i : Nat) (xid : Int) (xel : Int) (xoffset : Int) : (l.map eBalise).set i [vi xid, vi xel, vi xoffset] = (l.set i (⟨xid, xel, xoffset⟩ : Balise)).map eBalise := by rw [List.map_set]; rfl
theorem rngBalise (l : List Balise) : ((List.range l.length).map fun i => [vi (l.getD i default).fId, vi (l.getD i default).fEl, vi (l.getD i default).fOffset]) = l.map eBalise := rangeGetD eBalise l
theorem etaBalise (x : Balise) : (⟨x.fId, x.fEl, x.fOffset⟩ : Balise) = x := rfl
theorem extBalise (x y : Balise) : x = y ↔ x.fId = y.fId ∧ x.fEl = y.fEl ∧ x.fOffset = y.fOffset := by cases x; cases y; simp
/-- signalling/api.Layout. -/
structure Layout where
  fName : ByteArray
  fSections : (List ByteArray)
  fElements : (List Element)
  fJoints : (List Joint)
  fSignals : (List Signal)
  fBalises : (List Balise)
  deriving DecidableEq
instance : Inhabited Layout := ⟨⟨default, default, default, default, default, default⟩⟩
def eLayout (x : Layout) : List DV := [vs x.fName, encL 1 eS x.fSections, encL 7 eElement x.fElements, encL 4 eJoint x.fJoints, encL 4 eSignal x.fSignals, encL 3 eBalise x.fBalises]
def okLayout (x : Layout) : Prop := (x.fName.size ≤ 140737488355328) ∧ ((∀ a ∈ x.fSections, a.size ≤ 140737488355328) ∧ x.fSections.length ≤ 140737488355328) ∧ ((∀ a ∈ x.fElements, okElement a) ∧ x.fElements.length ≤ 140737488355328) ∧ ((∀ a ∈ x.fJoints, okJoint a) ∧ x.fJoints.length ≤ 140737488355328) ∧ ((∀ a ∈ x.fSignals, okSignal a) ∧ x.fSignals.length ≤ 140737488355328) ∧ ((∀ a ∈ x.fBalises, okBalise a) ∧ x.fBalises.length ≤ 140737488355328)
theorem snocLayout (l : List Layout) (xname : ByteArray) (xsections : (List ByteArray)) (xelements : (List Element)) (xjoints : (List Joint)) (xsignals : (List Signal)) (xbalises : (List Balise)) : l.map eLayout ++ [[vs xname, encL 1 eS xsections, encL 7 eElement xelements, encL 4 eJoint xjoints, encL 4 eSignal xsignals, encL 3 eBalise xbalises]] = (l ++ [(⟨xname, xsections, xelements, xjoints, xsignals, xbalises⟩ : Layout)]).map eLayout := by simp [eLayout]
theorem setmLayout (l : List Layout) (i : Nat) (xname : ByteArray) (xsections : (List ByteArray)) (xelements : (List Element)) (xjoints : (List Joint)) (xsignals : (List Signal)) (xbalises : (List Balise)) : (l.map eLayout).set i [vs xname, encL 1 eS xsections, encL 7 eElement xelements, encL 4 eJoint xjoints, encL 4 eSignal xsignals, encL 3 eBalise xbalises] = (l.set i (⟨xname, xsections, xelements, xjoints, xsignals, xbalises⟩ : Layout)).map eLayout := by rw [List.map_set]; rfl
theorem rngLayout (l : List Layout) : ((List.range l.length).map fun i => [vs (l.getD i default).fName, encL 1 eS (l.getD i default).fSections, encL 7 eElement (l.getD i default).fElements, encL 4 eJoint (l.getD i default).fJoints, encL 4 eSignal (l.getD i default).fSignals, encL 3 eBalise (l.getD i default).fBalises]) = l.map eLayout := rangeGetD eLayout l
theorem etaLayout (x : Layout) : (⟨x.fName, x.fSections, x.fElements, x.fJoints, x.fSignals, x.fBalises⟩ : Layout) = x := rfl
theorem extLayout (x y : Layout) : x = y ↔ x.fName = y.fName ∧ x.fSections = y.fSections ∧ x.fElements = y.fElements ∧ x.fJoints = y.fJoints ∧ x.fSignals = y.fSignals ∧ x.fBalises = y.fBalises := by cases x; cases y; simp
theorem dec22 : Dec Tryz.prog 22 (fun l : (List ByteArray) => [encL 1 eS l]) (fun l => (∀ a ∈ l, a.size ≤ 140737488355328) ∧ l.length ≤ 140737488355328) := dec_slice Tryz.underlying22 (by kernel_rfl) (by decide) (of_decide_eq_true (by kernel_rfl)) dec9 (fun _ => rfl)
theorem dec91 : Dec Tryz.prog 91 eElement okElement := fun H enc w sp held fuel cs x h hw => by
  obtain ⟨a0, k0, r0⟩ := dec_field (s := 1) Tryz.underlying91 h hw 0 rfl (by kernel_rfl) dec9
  obtain ⟨a1, k1, r1⟩ := dec_field (s := 1) Tryz.underlying91 h hw 1 rfl (by kernel_rfl) dec3
  obtain ⟨a2, k2, r2⟩ := dec_field (s := 1) Tryz.underlying91 h hw 2 rfl (by kernel_rfl) dec3
  obtain ⟨a3, k3, r3⟩ := dec_field (s := 1) Tryz.underlying91 h hw 3 rfl (by kernel_rfl) dec3
  obtain ⟨a4, k4, r4⟩ := dec_field (s := 1) Tryz.underlying91 h hw 4 rfl (by kernel_rfl) dec3
  obtain ⟨a5, k5, r5⟩ := dec_field (s := 1) Tryz.underlying91 h hw 5 rfl (by kernel_rfl) dec3
  obtain ⟨a6, k6, r6⟩ := dec_field (s := 1) Tryz.underlying91 h hw 6 rfl (by kernel_rfl) dec3
  have hl : cs.length = 7 := by obtain ⟨_, _, _, _, h1, _⟩ := DataW.trod_struct Tryz.underlying91 h; exact h1.trans (by kernel_rfl)
  exact ⟨⟨a0, a1, a2, a3, a4, a5, a6⟩, ⟨k0, k1, k2, k3, k4, k5, k6⟩, (RC.join (o := 0) (s := 1) r0 (RC.join (o := 1) (s := 1) r1 (RC.join (o := 2) (s := 1) r2 (RC.join (o := 3) (s := 1) r3 (RC.join (o := 4) (s := 1) r4 (RC.join (o := 5) (s := 1) r5 (RC.join (o := 6) (s := 1) r6 (RC.stop hl))))))))⟩
theorem dec23 : Dec Tryz.prog 23 (fun l : (List Element) => [encL 7 eElement l]) (fun l => (∀ a ∈ l, okElement a) ∧ l.length ≤ 140737488355328) := dec_slice Tryz.underlying23 (by kernel_rfl) (by decide) (of_decide_eq_true (by kernel_rfl)) dec91 (fun _ => rfl)
theorem dec82 : Dec Tryz.prog 82 eJoint okJoint := fun H enc w sp held fuel cs x h hw => by
  obtain ⟨a0, k0, r0⟩ := dec_field (s := 2) Tryz.underlying82 h hw 0 rfl (by kernel_rfl) dec49
  obtain ⟨a1, k1, r1⟩ := dec_field (s := 2) Tryz.underlying82 h hw 1 rfl (by kernel_rfl) dec49
  have hl : cs.length = 4 := by obtain ⟨_, _, _, _, h1, _⟩ := DataW.trod_struct Tryz.underlying82 h; exact h1.trans (by kernel_rfl)
  exact ⟨⟨a0, a1⟩, ⟨k0, k1⟩, (RC.join (o := 0) (s := 2) r0 (RC.join (o := 2) (s := 2) r1 (RC.stop hl)))⟩
theorem dec24 : Dec Tryz.prog 24 (fun l : (List Joint) => [encL 4 eJoint l]) (fun l => (∀ a ∈ l, okJoint a) ∧ l.length ≤ 140737488355328) := dec_slice Tryz.underlying24 (by kernel_rfl) (by decide) (of_decide_eq_true (by kernel_rfl)) dec82 (fun _ => rfl)
theorem dec51 : Dec Tryz.prog 51 eSignal okSignal := fun H enc w sp held fuel cs x h hw => by
  obtain ⟨a0, k0, r0⟩ := dec_field (s := 1) Tryz.underlying51 h hw 0 rfl (by kernel_rfl) dec9
  obtain ⟨a1, k1, r1⟩ := dec_field (s := 2) Tryz.underlying51 h hw 1 rfl (by kernel_rfl) dec49
  obtain ⟨a2, k2, r2⟩ := dec_field (s := 1) Tryz.underlying51 h hw 2 rfl (by kernel_rfl) dec3
  have hl : cs.length = 4 := by obtain ⟨_, _, _, _, h1, _⟩ := DataW.trod_struct Tryz.underlying51 h; exact h1.trans (by kernel_rfl)
  exact ⟨⟨a0, a1, a2⟩, ⟨k0, k1, k2⟩, (RC.join (o := 0) (s := 1) r0 (RC.join (o := 1) (s := 2) r1 (RC.join (o := 3) (s := 1) r2 (RC.stop hl))))⟩
theorem dec25 : Dec Tryz.prog 25 (fun l : (List Signal) => [encL 4 eSignal l]) (fun l => (∀ a ∈ l, okSignal a) ∧ l.length ≤ 140737488355328) := dec_slice Tryz.underlying25 (by kernel_rfl) (by decide) (of_decide_eq_true (by kernel_rfl)) dec51 (fun _ => rfl)
theorem dec179 : Dec Tryz.prog 179 eBalise okBalise := fun H enc w sp held fuel cs x h hw => by
  obtain ⟨a0, k0, r0⟩ := dec_field (s := 1) Tryz.underlying179 h hw 0 rfl (by kernel_rfl) dec3
  obtain ⟨a1, k1, r1⟩ := dec_field (s := 1) Tryz.underlying179 h hw 1 rfl (by kernel_rfl) dec3
  obtain ⟨a2, k2, r2⟩ := dec_field (s := 1) Tryz.underlying179 h hw 2 rfl (by kernel_rfl) dec3
  have hl : cs.length = 3 := by obtain ⟨_, _, _, _, h1, _⟩ := DataW.trod_struct Tryz.underlying179 h; exact h1.trans (by kernel_rfl)
  exact ⟨⟨a0, a1, a2⟩, ⟨k0, k1, k2⟩, (RC.join (o := 0) (s := 1) r0 (RC.join (o := 1) (s := 1) r1 (RC.join (o := 2) (s := 1) r2 (RC.stop hl))))⟩
theorem dec26 : Dec Tryz.prog 26 (fun l : (List Balise) => [encL 3 eBalise l]) (fun l => (∀ a ∈ l, okBalise a) ∧ l.length ≤ 140737488355328) := dec_slice Tryz.underlying26 (by kernel_rfl) (by decide) (of_decide_eq_true (by kernel_rfl)) dec179 (fun _ => rfl)
theorem dec28 : Dec Tryz.prog 28 eLayout okLayout := fun H enc w sp held fuel cs x h hw => by
  obtain ⟨a0, k0, r0⟩ := dec_field (s := 1) Tryz.underlying28 h hw 0 rfl (by kernel_rfl) dec9
  obtain ⟨a1, k1, r1⟩ := dec_field (s := 1) Tryz.underlying28 h hw 1 rfl (by kernel_rfl) dec22
  obtain ⟨a2, k2, r2⟩ := dec_field (s := 1) Tryz.underlying28 h hw 2 rfl (by kernel_rfl) dec23
  obtain ⟨a3, k3, r3⟩ := dec_field (s := 1) Tryz.underlying28 h hw 3 rfl (by kernel_rfl) dec24
  obtain ⟨a4, k4, r4⟩ := dec_field (s := 1) Tryz.underlying28 h hw 4 rfl (by kernel_rfl) dec25
  obtain ⟨a5, k5, r5⟩ := dec_field (s := 1) Tryz.underlying28 h hw 5 rfl (by kernel_rfl) dec26
  have hl : cs.length = 6 := by obtain ⟨_, _, _, _, h1, _⟩ := DataW.trod_struct Tryz.underlying28 h; exact h1.trans (by kernel_rfl)
  exact ⟨⟨a0, a1, a2, a3, a4, a5⟩, ⟨k0, k1, k2, k3, k4, k5⟩, (RC.join (o := 0) (s := 1) r0 (RC.join (o := 1) (s := 1) r1 (RC.join (o := 2) (s := 1) r2 (RC.join (o := 3) (s := 1) r3 (RC.join (o := 4) (s := 1) r4 (RC.join (o := 5) (s := 1) r5 (RC.stop hl)))))))⟩
attribute [go_sem] eStep snocStep setmStep rngStep etaStep eSetting snocSetting setmSetting rngSetting etaSetting eEnd snocEnd setmEnd rngEnd etaEnd eRoute snocRoute setmRoute rngRoute etaRoute eTable snocTable setmTable rngTable etaTable eQuery snocQuery setmQuery rngQuery etaQuery eElement snocElement setmElement rngElement etaElement eJoint snocJoint setmJoint rngJoint etaJoint eSignal snocSignal setmSignal rngSignal etaSignal eBalise snocBalise setmBalise rngBalise etaBalise eLayout snocLayout setmLayout rngLayout etaLayout
end Go.Sg
