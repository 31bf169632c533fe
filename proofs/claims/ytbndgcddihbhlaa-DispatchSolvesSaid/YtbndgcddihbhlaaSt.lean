/- Go data as Lean data: structures, their cells, and what a row reads; printed by gen_st.py. -/
import Derived.Test.YtbndgcddihbhlaaSgC
import Derived.Test.YtbndgcddihbhlaaTy
import Derived.KernelRfl
set_option linter.unusedVariables false
set_option linter.unusedSimpArgs false
namespace Go.Sg
open Go.Proofs
structure Step where
  fEl : Int
  fIn : Int
  fOut : Int
  deriving DecidableEq
instance : Inhabited Step := ⟨⟨default, default, default⟩⟩
def eStep (x : Step) : List DV := [vi x.fEl, vi x.fIn, vi x.fOut]
def okStep (x : Step) : Prop := (-9223372036854775808 ≤ x.fEl ∧ x.fEl ≤ 9223372036854775807) ∧ (-9223372036854775808 ≤ x.fIn ∧ x.fIn ≤ 9223372036854775807) ∧ (-9223372036854775808 ≤ x.fOut ∧ x.fOut ≤ 9223372036854775807)
theorem snocStep (l : List Step) (xel : Int) (xin : Int) (xout : Int) : l.map eStep ++ [[vi xel, vi xin, vi xout]] = (l ++ [(⟨xel, xin, xout⟩ : Step)]).map eStep := by simp [eStep]
theorem setmStep (l : List Step) (i : Nat) (xel : Int) (xin : Int) (xout : Int) : (l.map eStep).set i [vi xel, vi xin, vi xout] = (l.set i (⟨xel, xin, xout⟩ : Step)).map eStep := by rw [List.map_set]; rfl
theorem rngStep (l : List Step) : ((List.range l.length).map fun i => [vi (l.getD i default).fEl, vi (l.getD i default).fIn, vi (l.getD i default).fOut]) = l.map eStep := rangeGetD eStep l
theorem etaStep (x : Step) : (⟨x.fEl, x.fIn, x.fOut⟩ : Step) = x := rfl
structure Setting where
  fEl : Int
  fPos : Int
  deriving DecidableEq
instance : Inhabited Setting := ⟨⟨default, default⟩⟩
def eSetting (x : Setting) : List DV := [vi x.fEl, vi x.fPos]
def okSetting (x : Setting) : Prop := (-9223372036854775808 ≤ x.fEl ∧ x.fEl ≤ 9223372036854775807) ∧ (-9223372036854775808 ≤ x.fPos ∧ x.fPos ≤ 9223372036854775807)
theorem snocSetting (l : List Setting) (xel : Int) (xpos : Int) : l.map eSetting ++ [[vi xel, vi xpos]] = (l ++ [(⟨xel, xpos⟩ : Setting)]).map eSetting := by simp [eSetting]
theorem setmSetting (l : List Setting) (i : Nat) (xel : Int) (xpos : Int) : (l.map eSetting).set i [vi xel, vi xpos] = (l.set i (⟨xel, xpos⟩ : Setting)).map eSetting := by rw [List.map_set]; rfl
theorem rngSetting (l : List Setting) : ((List.range l.length).map fun i => [vi (l.getD i default).fEl, vi (l.getD i default).fPos]) = l.map eSetting := rangeGetD eSetting l
theorem etaSetting (x : Setting) : (⟨x.fEl, x.fPos⟩ : Setting) = x := rfl
structure End where
  fEl : Int
  fSide : Int
  deriving DecidableEq
instance : Inhabited End := ⟨⟨default, default⟩⟩
def eEnd (x : End) : List DV := [vi x.fEl, vi x.fSide]
def okEnd (x : End) : Prop := (-9223372036854775808 ≤ x.fEl ∧ x.fEl ≤ 9223372036854775807) ∧ (-9223372036854775808 ≤ x.fSide ∧ x.fSide ≤ 9223372036854775807)
theorem snocEnd (l : List End) (xel : Int) (xside : Int) : l.map eEnd ++ [[vi xel, vi xside]] = (l ++ [(⟨xel, xside⟩ : End)]).map eEnd := by simp [eEnd]
theorem setmEnd (l : List End) (i : Nat) (xel : Int) (xside : Int) : (l.map eEnd).set i [vi xel, vi xside] = (l.set i (⟨xel, xside⟩ : End)).map eEnd := by rw [List.map_set]; rfl
theorem rngEnd (l : List End) : ((List.range l.length).map fun i => [vi (l.getD i default).fEl, vi (l.getD i default).fSide]) = l.map eEnd := rangeGetD eEnd l
theorem etaEnd (x : End) : (⟨x.fEl, x.fSide⟩ : End) = x := rfl
structure Route where
  fName : ByteArray
  fEntry : Int
  fExit : Int
  fPath : (List Step)
  fPoints : (List Setting)
  fSections : (List Int)
  fApproach : Int
  fLength : Int
  fOver : (List Step)
  fOverPoints : (List Setting)
  fOverSections : (List Int)
  fFlank : (List Setting)
  fGuards : (List Int)
  fGaps : (List End)
  deriving DecidableEq
instance : Inhabited Route := ⟨⟨default, default, default, default, default, default, default, default, default, default, default, default, default, default⟩⟩
def eRoute (x : Route) : List DV := [vs x.fName, vi x.fEntry, vi x.fExit, encL 3 eStep x.fPath, encL 2 eSetting x.fPoints, encL 1 eI x.fSections, vi x.fApproach, vi x.fLength, encL 3 eStep x.fOver, encL 2 eSetting x.fOverPoints, encL 1 eI x.fOverSections, encL 2 eSetting x.fFlank, encL 1 eI x.fGuards, encL 2 eEnd x.fGaps]
def okRoute (x : Route) : Prop := (x.fName.size ≤ 140737488355328) ∧ (-9223372036854775808 ≤ x.fEntry ∧ x.fEntry ≤ 9223372036854775807) ∧ (-9223372036854775808 ≤ x.fExit ∧ x.fExit ≤ 9223372036854775807) ∧ ((∀ a ∈ x.fPath, okStep a) ∧ x.fPath.length ≤ 140737488355328) ∧ ((∀ a ∈ x.fPoints, okSetting a) ∧ x.fPoints.length ≤ 140737488355328) ∧ ((∀ a ∈ x.fSections, -9223372036854775808 ≤ a ∧ a ≤ 9223372036854775807) ∧ x.fSections.length ≤ 140737488355328) ∧ (-9223372036854775808 ≤ x.fApproach ∧ x.fApproach ≤ 9223372036854775807) ∧ (-9223372036854775808 ≤ x.fLength ∧ x.fLength ≤ 9223372036854775807) ∧ ((∀ a ∈ x.fOver, okStep a) ∧ x.fOver.length ≤ 140737488355328) ∧ ((∀ a ∈ x.fOverPoints, okSetting a) ∧ x.fOverPoints.length ≤ 140737488355328) ∧ ((∀ a ∈ x.fOverSections, -9223372036854775808 ≤ a ∧ a ≤ 9223372036854775807) ∧ x.fOverSections.length ≤ 140737488355328) ∧ ((∀ a ∈ x.fFlank, okSetting a) ∧ x.fFlank.length ≤ 140737488355328) ∧ ((∀ a ∈ x.fGuards, -9223372036854775808 ≤ a ∧ a ≤ 9223372036854775807) ∧ x.fGuards.length ≤ 140737488355328) ∧ ((∀ a ∈ x.fGaps, okEnd a) ∧ x.fGaps.length ≤ 140737488355328)
theorem snocRoute (l : List Route) (xname : ByteArray) (xentry : Int) (xexit : Int) (xpath : (List Step)) (xpoints : (List Setting)) (xsections : (List Int)) (xapproach : Int) (xlength : Int) (xover : (List Step)) (xoverPoints : (List Setting)) (xoverSections : (List Int)) (xflank : (List Setting)) (xguards : (List Int)) (xgaps : (List End)) : l.map eRoute ++ [[vs xname, vi xentry, vi xexit, encL 3 eStep xpath, encL 2 eSetting xpoints, encL 1 eI xsections, vi xapproach, vi xlength, encL 3 eStep xover, encL 2 eSetting xoverPoints, encL 1 eI xoverSections, encL 2 eSetting xflank, encL 1 eI xguards, encL 2 eEnd xgaps]] = (l ++ [(⟨xname, xentry, xexit, xpath, xpoints, xsections, xapproach, xlength, xover, xoverPoints, xoverSections, xflank, xguards, xgaps⟩ : Route)]).map eRoute := by simp [eRoute]
theorem setmRoute (l : List Route) (i : Nat) (xname : ByteArray) (xentry : Int) (xexit : Int) (xpath : (List Step)) (xpoints : (List Setting)) (xsections : (List Int)) (xapproach : Int) (xlength : Int) (xover : (List Step)) (xoverPoints : (List Setting)) (xoverSections : (List Int)) (xflank : (List Setting)) (xguards : (List Int)) (xgaps : (List End)) : (l.map eRoute).set i [vs xname, vi xentry, vi xexit, encL 3 eStep xpath, encL 2 eSetting xpoints, encL 1 eI xsections, vi xapproach, vi xlength, encL 3 eStep xover, encL 2 eSetting xoverPoints, encL 1 eI xoverSections, encL 2 eSetting xflank, encL 1 eI xguards, encL 2 eEnd xgaps] = (l.set i (⟨xname, xentry, xexit, xpath, xpoints, xsections, xapproach, xlength, xover, xoverPoints, xoverSections, xflank, xguards, xgaps⟩ : Route)).map eRoute := by rw [List.map_set]; rfl
theorem rngRoute (l : List Route) : ((List.range l.length).map fun i => [vs (l.getD i default).fName, vi (l.getD i default).fEntry, vi (l.getD i default).fExit, encL 3 eStep (l.getD i default).fPath, encL 2 eSetting (l.getD i default).fPoints, encL 1 eI (l.getD i default).fSections, vi (l.getD i default).fApproach, vi (l.getD i default).fLength, encL 3 eStep (l.getD i default).fOver, encL 2 eSetting (l.getD i default).fOverPoints, encL 1 eI (l.getD i default).fOverSections, encL 2 eSetting (l.getD i default).fFlank, encL 1 eI (l.getD i default).fGuards, encL 2 eEnd (l.getD i default).fGaps]) = l.map eRoute := rangeGetD eRoute l
theorem etaRoute (x : Route) : (⟨x.fName, x.fEntry, x.fExit, x.fPath, x.fPoints, x.fSections, x.fApproach, x.fLength, x.fOver, x.fOverPoints, x.fOverSections, x.fFlank, x.fGuards, x.fGaps⟩ : Route) = x := rfl
structure Table where
  fRoutes : (List Route)
  fPoints : (List Int)
  fHomes : (List Int)
  fSections : Int
  fSignals : Int
  deriving DecidableEq
instance : Inhabited Table := ⟨⟨default, default, default, default, default⟩⟩
def eTable (x : Table) : List DV := [encL 14 eRoute x.fRoutes, encL 1 eI x.fPoints, encL 1 eI x.fHomes, vi x.fSections, vi x.fSignals]
def okTable (x : Table) : Prop := ((∀ a ∈ x.fRoutes, okRoute a) ∧ x.fRoutes.length ≤ 140737488355328) ∧ ((∀ a ∈ x.fPoints, -9223372036854775808 ≤ a ∧ a ≤ 9223372036854775807) ∧ x.fPoints.length ≤ 140737488355328) ∧ ((∀ a ∈ x.fHomes, -9223372036854775808 ≤ a ∧ a ≤ 9223372036854775807) ∧ x.fHomes.length ≤ 140737488355328) ∧ (-9223372036854775808 ≤ x.fSections ∧ x.fSections ≤ 9223372036854775807) ∧ (-9223372036854775808 ≤ x.fSignals ∧ x.fSignals ≤ 9223372036854775807)
theorem snocTable (l : List Table) (xroutes : (List Route)) (xpoints : (List Int)) (xhomes : (List Int)) (xsections : Int) (xsignals : Int) : l.map eTable ++ [[encL 14 eRoute xroutes, encL 1 eI xpoints, encL 1 eI xhomes, vi xsections, vi xsignals]] = (l ++ [(⟨xroutes, xpoints, xhomes, xsections, xsignals⟩ : Table)]).map eTable := by simp [eTable]
theorem setmTable (l : List Table) (i : Nat) (xroutes : (List Route)) (xpoints : (List Int)) (xhomes : (List Int)) (xsections : Int) (xsignals : Int) : (l.map eTable).set i [encL 14 eRoute xroutes, encL 1 eI xpoints, encL 1 eI xhomes, vi xsections, vi xsignals] = (l.set i (⟨xroutes, xpoints, xhomes, xsections, xsignals⟩ : Table)).map eTable := by rw [List.map_set]; rfl
theorem rngTable (l : List Table) : ((List.range l.length).map fun i => [encL 14 eRoute (l.getD i default).fRoutes, encL 1 eI (l.getD i default).fPoints, encL 1 eI (l.getD i default).fHomes, vi (l.getD i default).fSections, vi (l.getD i default).fSignals]) = l.map eTable := rangeGetD eTable l
theorem etaTable (x : Table) : (⟨x.fRoutes, x.fPoints, x.fHomes, x.fSections, x.fSignals⟩ : Table) = x := rfl
theorem dec9 : Dec Try.prog 9 eS (fun s => s.size ≤ 140737488355328) := dec_string Try.underlying9
theorem dec3 : Dec Try.prog 3 eI (fun n => -9223372036854775808 ≤ n ∧ n ≤ 9223372036854775807) := dec_int Try.underlying3
theorem dec89 : Dec Try.prog 89 eStep okStep := fun H enc w sp held fuel cs x h hw => by
  obtain ⟨a0, k0, r0⟩ := dec_field (s := 1) Try.underlying89 h hw 0 rfl (by kernel_rfl) dec3
  obtain ⟨a1, k1, r1⟩ := dec_field (s := 1) Try.underlying89 h hw 1 rfl (by kernel_rfl) dec3
  obtain ⟨a2, k2, r2⟩ := dec_field (s := 1) Try.underlying89 h hw 2 rfl (by kernel_rfl) dec3
  have hl : cs.length = 3 := by obtain ⟨_, _, _, _, h1, _⟩ := DataW.trod_struct Try.underlying89 h; exact h1.trans (by kernel_rfl)
  exact ⟨⟨a0, a1, a2⟩, ⟨k0, k1, k2⟩, (RC.join (o := 0) (s := 1) r0 (RC.join (o := 1) (s := 1) r1 (RC.join (o := 2) (s := 1) r2 (RC.stop hl))))⟩
theorem dec46 : Dec Try.prog 46 (fun l : (List Step) => [encL 3 eStep l]) (fun l => (∀ a ∈ l, okStep a) ∧ l.length ≤ 140737488355328) := dec_slice Try.underlying46 (by kernel_rfl) (by decide) (of_decide_eq_true (by kernel_rfl)) dec89 (fun _ => rfl)
theorem dec113 : Dec Try.prog 113 eSetting okSetting := fun H enc w sp held fuel cs x h hw => by
  obtain ⟨a0, k0, r0⟩ := dec_field (s := 1) Try.underlying113 h hw 0 rfl (by kernel_rfl) dec3
  obtain ⟨a1, k1, r1⟩ := dec_field (s := 1) Try.underlying113 h hw 1 rfl (by kernel_rfl) dec3
  have hl : cs.length = 2 := by obtain ⟨_, _, _, _, h1, _⟩ := DataW.trod_struct Try.underlying113 h; exact h1.trans (by kernel_rfl)
  exact ⟨⟨a0, a1⟩, ⟨k0, k1⟩, (RC.join (o := 0) (s := 1) r0 (RC.join (o := 1) (s := 1) r1 (RC.stop hl)))⟩
theorem dec47 : Dec Try.prog 47 (fun l : (List Setting) => [encL 2 eSetting l]) (fun l => (∀ a ∈ l, okSetting a) ∧ l.length ≤ 140737488355328) := dec_slice Try.underlying47 (by kernel_rfl) (by decide) (of_decide_eq_true (by kernel_rfl)) dec113 (fun _ => rfl)
theorem dec23 : Dec Try.prog 23 (fun l : (List Int) => [encL 1 eI l]) (fun l => (∀ a ∈ l, -9223372036854775808 ≤ a ∧ a ≤ 9223372036854775807) ∧ l.length ≤ 140737488355328) := dec_slice Try.underlying23 (by kernel_rfl) (by decide) (of_decide_eq_true (by kernel_rfl)) dec3 (fun _ => rfl)
theorem dec168 : Dec Try.prog 168 eEnd okEnd := fun H enc w sp held fuel cs x h hw => by
  obtain ⟨a0, k0, r0⟩ := dec_field (s := 1) Try.underlying168 h hw 0 rfl (by kernel_rfl) dec3
  obtain ⟨a1, k1, r1⟩ := dec_field (s := 1) Try.underlying168 h hw 1 rfl (by kernel_rfl) dec3
  have hl : cs.length = 2 := by obtain ⟨_, _, _, _, h1, _⟩ := DataW.trod_struct Try.underlying168 h; exact h1.trans (by kernel_rfl)
  exact ⟨⟨a0, a1⟩, ⟨k0, k1⟩, (RC.join (o := 0) (s := 1) r0 (RC.join (o := 1) (s := 1) r1 (RC.stop hl)))⟩
theorem dec48 : Dec Try.prog 48 (fun l : (List End) => [encL 2 eEnd l]) (fun l => (∀ a ∈ l, okEnd a) ∧ l.length ≤ 140737488355328) := dec_slice Try.underlying48 (by kernel_rfl) (by decide) (of_decide_eq_true (by kernel_rfl)) dec168 (fun _ => rfl)
theorem dec50 : Dec Try.prog 50 eRoute okRoute := fun H enc w sp held fuel cs x h hw => by
  obtain ⟨a0, k0, r0⟩ := dec_field (s := 1) Try.underlying50 h hw 0 rfl (by kernel_rfl) dec9
  obtain ⟨a1, k1, r1⟩ := dec_field (s := 1) Try.underlying50 h hw 1 rfl (by kernel_rfl) dec3
  obtain ⟨a2, k2, r2⟩ := dec_field (s := 1) Try.underlying50 h hw 2 rfl (by kernel_rfl) dec3
  obtain ⟨a3, k3, r3⟩ := dec_field (s := 1) Try.underlying50 h hw 3 rfl (by kernel_rfl) dec46
  obtain ⟨a4, k4, r4⟩ := dec_field (s := 1) Try.underlying50 h hw 4 rfl (by kernel_rfl) dec47
  obtain ⟨a5, k5, r5⟩ := dec_field (s := 1) Try.underlying50 h hw 5 rfl (by kernel_rfl) dec23
  obtain ⟨a6, k6, r6⟩ := dec_field (s := 1) Try.underlying50 h hw 6 rfl (by kernel_rfl) dec3
  obtain ⟨a7, k7, r7⟩ := dec_field (s := 1) Try.underlying50 h hw 7 rfl (by kernel_rfl) dec3
  obtain ⟨a8, k8, r8⟩ := dec_field (s := 1) Try.underlying50 h hw 8 rfl (by kernel_rfl) dec46
  obtain ⟨a9, k9, r9⟩ := dec_field (s := 1) Try.underlying50 h hw 9 rfl (by kernel_rfl) dec47
  obtain ⟨a10, k10, r10⟩ := dec_field (s := 1) Try.underlying50 h hw 10 rfl (by kernel_rfl) dec23
  obtain ⟨a11, k11, r11⟩ := dec_field (s := 1) Try.underlying50 h hw 11 rfl (by kernel_rfl) dec47
  obtain ⟨a12, k12, r12⟩ := dec_field (s := 1) Try.underlying50 h hw 12 rfl (by kernel_rfl) dec23
  obtain ⟨a13, k13, r13⟩ := dec_field (s := 1) Try.underlying50 h hw 13 rfl (by kernel_rfl) dec48
  have hl : cs.length = 14 := by obtain ⟨_, _, _, _, h1, _⟩ := DataW.trod_struct Try.underlying50 h; exact h1.trans (by kernel_rfl)
  exact ⟨⟨a0, a1, a2, a3, a4, a5, a6, a7, a8, a9, a10, a11, a12, a13⟩, ⟨k0, k1, k2, k3, k4, k5, k6, k7, k8, k9, k10, k11, k12, k13⟩, (RC.join (o := 0) (s := 1) r0 (RC.join (o := 1) (s := 1) r1 (RC.join (o := 2) (s := 1) r2 (RC.join (o := 3) (s := 1) r3 (RC.join (o := 4) (s := 1) r4 (RC.join (o := 5) (s := 1) r5 (RC.join (o := 6) (s := 1) r6 (RC.join (o := 7) (s := 1) r7 (RC.join (o := 8) (s := 1) r8 (RC.join (o := 9) (s := 1) r9 (RC.join (o := 10) (s := 1) r10 (RC.join (o := 11) (s := 1) r11 (RC.join (o := 12) (s := 1) r12 (RC.join (o := 13) (s := 1) r13 (RC.stop hl)))))))))))))))⟩
theorem dec22 : Dec Try.prog 22 (fun l : (List Route) => [encL 14 eRoute l]) (fun l => (∀ a ∈ l, okRoute a) ∧ l.length ≤ 140737488355328) := dec_slice Try.underlying22 (by kernel_rfl) (by decide) (of_decide_eq_true (by kernel_rfl)) dec50 (fun _ => rfl)
theorem dec25 : Dec Try.prog 25 eTable okTable := fun H enc w sp held fuel cs x h hw => by
  obtain ⟨a0, k0, r0⟩ := dec_field (s := 1) Try.underlying25 h hw 0 rfl (by kernel_rfl) dec22
  obtain ⟨a1, k1, r1⟩ := dec_field (s := 1) Try.underlying25 h hw 1 rfl (by kernel_rfl) dec23
  obtain ⟨a2, k2, r2⟩ := dec_field (s := 1) Try.underlying25 h hw 2 rfl (by kernel_rfl) dec23
  obtain ⟨a3, k3, r3⟩ := dec_field (s := 1) Try.underlying25 h hw 3 rfl (by kernel_rfl) dec3
  obtain ⟨a4, k4, r4⟩ := dec_field (s := 1) Try.underlying25 h hw 4 rfl (by kernel_rfl) dec3
  have hl : cs.length = 5 := by obtain ⟨_, _, _, _, h1, _⟩ := DataW.trod_struct Try.underlying25 h; exact h1.trans (by kernel_rfl)
  exact ⟨⟨a0, a1, a2, a3, a4⟩, ⟨k0, k1, k2, k3, k4⟩, (RC.join (o := 0) (s := 1) r0 (RC.join (o := 1) (s := 1) r1 (RC.join (o := 2) (s := 1) r2 (RC.join (o := 3) (s := 1) r3 (RC.join (o := 4) (s := 1) r4 (RC.stop hl))))))⟩
structure Stop where
  fRoute : Int
  fDue : Int
  fRun : Int
  fWeight : Int
  deriving DecidableEq
instance : Inhabited Stop := ⟨⟨default, default, default, default⟩⟩
def eStop (x : Stop) : List DV := [vi x.fRoute, vi x.fDue, vi x.fRun, vi x.fWeight]
def okStop (x : Stop) : Prop := (-9223372036854775808 ≤ x.fRoute ∧ x.fRoute ≤ 9223372036854775807) ∧ (-9223372036854775808 ≤ x.fDue ∧ x.fDue ≤ 9223372036854775807) ∧ (-9223372036854775808 ≤ x.fRun ∧ x.fRun ≤ 9223372036854775807) ∧ (-9223372036854775808 ≤ x.fWeight ∧ x.fWeight ≤ 9223372036854775807)
theorem snocStop (l : List Stop) (xroute : Int) (xdue : Int) (xrun : Int) (xweight : Int) : l.map eStop ++ [[vi xroute, vi xdue, vi xrun, vi xweight]] = (l ++ [(⟨xroute, xdue, xrun, xweight⟩ : Stop)]).map eStop := by simp [eStop]
theorem setmStop (l : List Stop) (i : Nat) (xroute : Int) (xdue : Int) (xrun : Int) (xweight : Int) : (l.map eStop).set i [vi xroute, vi xdue, vi xrun, vi xweight] = (l.set i (⟨xroute, xdue, xrun, xweight⟩ : Stop)).map eStop := by rw [List.map_set]; rfl
theorem rngStop (l : List Stop) : ((List.range l.length).map fun i => [vi (l.getD i default).fRoute, vi (l.getD i default).fDue, vi (l.getD i default).fRun, vi (l.getD i default).fWeight]) = l.map eStop := rangeGetD eStop l
theorem etaStop (x : Stop) : (⟨x.fRoute, x.fDue, x.fRun, x.fWeight⟩ : Stop) = x := rfl
structure Trip where
  fTrain : Int
  fStops : (List Stop)
  deriving DecidableEq
instance : Inhabited Trip := ⟨⟨default, default⟩⟩
def eTrip (x : Trip) : List DV := [vi x.fTrain, encL 4 eStop x.fStops]
def okTrip (x : Trip) : Prop := (-9223372036854775808 ≤ x.fTrain ∧ x.fTrain ≤ 9223372036854775807) ∧ ((∀ a ∈ x.fStops, okStop a) ∧ x.fStops.length ≤ 140737488355328)
theorem snocTrip (l : List Trip) (xtrain : Int) (xstops : (List Stop)) : l.map eTrip ++ [[vi xtrain, encL 4 eStop xstops]] = (l ++ [(⟨xtrain, xstops⟩ : Trip)]).map eTrip := by simp [eTrip]
theorem setmTrip (l : List Trip) (i : Nat) (xtrain : Int) (xstops : (List Stop)) : (l.map eTrip).set i [vi xtrain, encL 4 eStop xstops] = (l.set i (⟨xtrain, xstops⟩ : Trip)).map eTrip := by rw [List.map_set]; rfl
theorem rngTrip (l : List Trip) : ((List.range l.length).map fun i => [vi (l.getD i default).fTrain, encL 4 eStop (l.getD i default).fStops]) = l.map eTrip := rangeGetD eTrip l
theorem etaTrip (x : Trip) : (⟨x.fTrain, x.fStops⟩ : Trip) = x := rfl
theorem dec44 : Dec Try.prog 44 eStop okStop := fun H enc w sp held fuel cs x h hw => by
  obtain ⟨a0, k0, r0⟩ := dec_field (s := 1) Try.underlying44 h hw 0 rfl (by kernel_rfl) dec3
  obtain ⟨a1, k1, r1⟩ := dec_field (s := 1) Try.underlying44 h hw 1 rfl (by kernel_rfl) dec3
  obtain ⟨a2, k2, r2⟩ := dec_field (s := 1) Try.underlying44 h hw 2 rfl (by kernel_rfl) dec3
  obtain ⟨a3, k3, r3⟩ := dec_field (s := 1) Try.underlying44 h hw 3 rfl (by kernel_rfl) dec3
  have hl : cs.length = 4 := by obtain ⟨_, _, _, _, h1, _⟩ := DataW.trod_struct Try.underlying44 h; exact h1.trans (by kernel_rfl)
  exact ⟨⟨a0, a1, a2, a3⟩, ⟨k0, k1, k2, k3⟩, (RC.join (o := 0) (s := 1) r0 (RC.join (o := 1) (s := 1) r1 (RC.join (o := 2) (s := 1) r2 (RC.join (o := 3) (s := 1) r3 (RC.stop hl)))))⟩
theorem dec40 : Dec Try.prog 40 (fun l : (List Stop) => [encL 4 eStop l]) (fun l => (∀ a ∈ l, okStop a) ∧ l.length ≤ 140737488355328) := dec_slice Try.underlying40 (by kernel_rfl) (by decide) (of_decide_eq_true (by kernel_rfl)) dec44 (fun _ => rfl)
theorem dec42 : Dec Try.prog 42 eTrip okTrip := fun H enc w sp held fuel cs x h hw => by
  obtain ⟨a0, k0, r0⟩ := dec_field (s := 1) Try.underlying42 h hw 0 rfl (by kernel_rfl) dec3
  obtain ⟨a1, k1, r1⟩ := dec_field (s := 1) Try.underlying42 h hw 1 rfl (by kernel_rfl) dec40
  have hl : cs.length = 2 := by obtain ⟨_, _, _, _, h1, _⟩ := DataW.trod_struct Try.underlying42 h; exact h1.trans (by kernel_rfl)
  exact ⟨⟨a0, a1⟩, ⟨k0, k1⟩, (RC.join (o := 0) (s := 1) r0 (RC.join (o := 1) (s := 1) r1 (RC.stop hl)))⟩
structure Schedule where
  fStarts : (List (List Int))
  fCost : Int
  deriving DecidableEq
instance : Inhabited Schedule := ⟨⟨default, default⟩⟩
def eSchedule (x : Schedule) : List DV := [encL 1 (fun l : (List Int) => [encL 1 eI l]) x.fStarts, vi x.fCost]
theorem snocSchedule (l : List Schedule) (xstarts : (List (List Int))) (xcost : Int) : l.map eSchedule ++ [[encL 1 (fun l : (List Int) => [encL 1 eI l]) xstarts, vi xcost]] = (l ++ [(⟨xstarts, xcost⟩ : Schedule)]).map eSchedule := by simp [eSchedule]
theorem setmSchedule (l : List Schedule) (i : Nat) (xstarts : (List (List Int))) (xcost : Int) : (l.map eSchedule).set i [encL 1 (fun l : (List Int) => [encL 1 eI l]) xstarts, vi xcost] = (l.set i (⟨xstarts, xcost⟩ : Schedule)).map eSchedule := by rw [List.map_set]; rfl
theorem rngSchedule (l : List Schedule) : ((List.range l.length).map fun i => [encL 1 (fun l : (List Int) => [encL 1 eI l]) (l.getD i default).fStarts, vi (l.getD i default).fCost]) = l.map eSchedule := rangeGetD eSchedule l
theorem etaSchedule (x : Schedule) : (⟨x.fStarts, x.fCost⟩ : Schedule) = x := rfl
attribute [go_sem] eStep snocStep setmStep rngStep etaStep eSetting snocSetting setmSetting rngSetting etaSetting eEnd snocEnd setmEnd rngEnd etaEnd eRoute snocRoute setmRoute rngRoute etaRoute eTable snocTable setmTable rngTable etaTable eStop snocStop setmStop rngStop etaStop eTrip snocTrip setmTrip rngTrip etaTrip eSchedule snocSchedule setmSchedule rngSchedule etaSchedule
end Go.Sg
