/- The facts of the row WorldBegins, each for itself. -/
import Derived.JoinedCond
import Derived.KernelRfl
import Derived.Test.YtanpjnlhfdcicaaGreatDoorCards
import Derived.WalkKit
set_option linter.unusedSectionVars false
set_option linter.unusedVariables false
set_option linter.unusedSimpArgs false
set_option maxRecDepth 20000
namespace Go.Proofs.YtanpjnlhfdcicaaGreatDoor.worldBegins
open Go.ChangeShapes Go.WideShapes Go.ChangeAt
noncomputable abbrev pj:Program:=Tryz.pinned.checked.prog
abbrev sj:ChangeSpec:=(OpenSpec.ofChange Rows.worldBeginsSpec).bare
abbrev cj:OpenClaim:=Rows.worldBeginsRow
theorem j0:(cj.wf (OpenSpec.ofChange sj))=true:=by kernel_rfl
theorem j1:(laidOutB pj)=true:=by kernel_rfl
theorem j2:(mapsRowed pj)=true:=by kernel_rfl
theorem j3:(Tryz.f3.params.all (pj.readableRec ·))=true:=by kernel_rfl
theorem j4:(namedTie pj cj.named sj.vars)=true:=by kernel_rfl
theorem j5:((cj.stops==[]))=true:=by kernel_rfl
theorem j6:((pj.stops==[]))=true:=by kernel_rfl
theorem j7:((cj.knobs==[]))=true:=by kernel_rfl
theorem j8:((pj.stopKnobs==[]))=true:=by kernel_rfl
theorem j9:((cj.inPlace==pj.inPlace 3))=true:=by kernel_rfl
theorem j10:((cj.unfollowed==pj.unfollowed 3))=true:=by kernel_rfl
theorem j11:((cj.recurses==pj.recurses 3))=true:=by kernel_rfl
theorem j12:((cj.named==pj.varsNamed 3))=true:=by kernel_rfl
theorem j13:((cj.maps==(Tryz.f3.params.toList++sj.plain.varTypes pj).any (pj.mapsRec ·)))=true:=by kernel_rfl
theorem j14:((cj.ifaces==(Tryz.f3.params.toList++sj.plain.varTypes pj).any (pj.ifacesRec ·)))=true:=by kernel_rfl
theorem j15:((cj.mapsOut==pj.mapsAmong Tryz.f3.resultTypes.toList))=true:=by kernel_rfl
theorem j16:((cj.loops==(Tryz.f3.params.toList++sj.plain.varTypes pj).any (pj.loopsFrom ·)))=true:=by kernel_rfl
theorem j17:((cj.wideKeys==(Tryz.f3.params.toList++sj.plain.varTypes pj++Tryz.f3.resultTypes.toList).any (pj.wideKeysFrom ·)))=true:=by kernel_rfl
theorem j18:(sj.vars.all (pj.varReadable ·))=true:=by kernel_rfl
theorem j19:(Tryz.f3.resultTypes.all (fun t=>pj.readableRec t&&decide (t<pj.types.size)))=true:=by kernel_rfl
theorem j20:((cj.ifacesOut==Tryz.f3.resultTypes.toList.any (pj.ifacesRec ·)))=true:=by kernel_rfl
theorem j21:((cj.loopsOut==Tryz.f3.resultTypes.toList.any (pj.loopsFrom ·)))=true:=by kernel_rfl
theorem j22:((cj.plainKeys==pj.plainKeys))=true:=by kernel_rfl
theorem j23:(cj.shortTexts.isNone)=true:=by kernel_rfl
theorem j24:(pj.stopsHeard)=true:=by kernel_rfl
theorem j25:(pj.mayEnter)=true:=by kernel_rfl
theorem j26:((cj.lifted==pj.liftsFinal))=true:=by kernel_rfl
theorem j27:((pj.make==some cj.make))=true:=by kernel_rfl
theorem j28:((cj.kinds==(if cj.domain.isEmpty then [] else Tryz.f3.params.toList.map fun t=>match pj.underlying t with|some (.int k)=>some k|_=>none)))=true:=by kernel_rfl
theorem j29:((cj.pinned==cj.pinnedBy))=true:=by kernel_rfl
theorem j30:((cj.veiled==(Tryz.f3.params.toList++sj.plain.varTypes pj++Tryz.f3.resultTypes.toList).any (pj.veiledRec ·)))=true:=by kernel_rfl
theorem j31:(cj.veiledFits pj Tryz.f3.params.toList (Tryz.f3.params.toList++sj.plain.varTypes pj++Tryz.f3.resultTypes.toList))=true:=by kernel_rfl
theorem cJa:joinedFacts pj 3 Tryz.f3 sj cj=true:=by
 unfold joinedFacts;simp only[Bool.and_eq_true];exact ⟨⟨⟨⟨⟨⟨⟨⟨⟨⟨⟨⟨⟨⟨⟨⟨⟨⟨⟨⟨⟨⟨⟨⟨⟨⟨⟨⟨⟨⟨⟨j0,j1⟩,j2⟩,j3⟩,j4⟩,j5⟩,j6⟩,j7⟩,j8⟩,j9⟩,j10⟩,j11⟩,j12⟩,j13⟩,j14⟩,j15⟩,j16⟩,j17⟩,j18⟩,j19⟩,j20⟩,j21⟩,j22⟩,j23⟩,j24⟩,j25⟩,j26⟩,j27⟩,j28⟩,j29⟩,j30⟩,j31⟩
end Go.Proofs.YtanpjnlhfdcicaaGreatDoor.worldBegins
