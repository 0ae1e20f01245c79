/- The closed facts on the program that the statement asks for. -/
import Derived.Test.YtkahfcmeeloikaaGreatDoorRows
import Derived.WalkKit
import Derived.ProofKit
import Derived.OpenShut
import Derived.JoinedCond
import Derived.SevenTiedAt
set_option linter.all false
namespace Go.Proofs.YtkahfcmeeloikaaGreatDoor
open Go.ChangeShapes Go.WideShapes Go.ChangeAt Go.RowKit
abbrev cR:=Rows.topLessUptoRow
noncomputable abbrev cP:=Tryz.pinned.checked.prog
noncomputable abbrev cF:=Tryz.f3
abbrev cS:=(Rows.OpenSpec.upto Rows.topLessSpec).bare
theorem and_mk {a b:Bool}(h:a=true) (k:b=true):(a && b)=true:=by rw [h,k];rfl
theorem j1:(cR.wf (OpenSpec.ofChange cS))=true:=by kernel_rfl
theorem j2:laidOutB cP=true:=by kernel_rfl
theorem j3:(mapsRowed cP)=true:=by kernel_rfl
theorem j4:(cF.params.all (cP.readableRec ·))=true:=by kernel_rfl
theorem j5:(namedTie cP cR.named cS.vars)=true:=by kernel_rfl
theorem j6:(cR.stops == [])=true:=by kernel_rfl
theorem j7:(cP.stops == [])=true:=by kernel_rfl
theorem j8:(cR.knobs == [])=true:=by kernel_rfl
theorem j9:(cP.stopKnobs == [])=true:=by kernel_rfl
theorem j10:(cR.inPlace == cP.inPlace 3)=true:=by kernel_rfl
theorem j11:(cR.unfollowed == cP.unfollowed 3)=true:=by kernel_rfl
theorem j12:(cR.recurses == cP.recurses 3)=true:=by kernel_rfl
theorem j13:(cR.named == cP.varsNamed 3)=true:=by kernel_rfl
theorem j14:(cR.maps == (cF.params.toList++cS.plain.varTypes cP).any (cP.mapsRec ·))=true:=by kernel_rfl
theorem j15:(cR.ifaces == (cF.params.toList++cS.plain.varTypes cP).any (cP.ifacesRec ·))=true:=by kernel_rfl
theorem j16:(cR.mapsOut == cP.mapsAmong cF.resultTypes.toList)=true:=by kernel_rfl
theorem j17:(cR.loops == (cF.params.toList++cS.plain.varTypes cP).any (cP.loopsFrom ·))=true:=by kernel_rfl
theorem j18:(cR.wideKeys == (cF.params.toList++cS.plain.varTypes cP++cF.resultTypes.toList).any (cP.wideKeysFrom ·))=true:=by kernel_rfl
theorem j19:(cS.vars.all (cP.varReadable ·))=true:=by kernel_rfl
theorem j20:(cF.resultTypes.all (fun t=>cP.readableRec t && decide (t<cP.types.size)))=true:=by kernel_rfl
theorem j21:(cR.ifacesOut == cF.resultTypes.toList.any (cP.ifacesRec ·))=true:=by kernel_rfl
theorem j22:(cR.loopsOut == cF.resultTypes.toList.any (cP.loopsFrom ·))=true:=by kernel_rfl
theorem j23:(cR.plainKeys == cP.plainKeys)=true:=by kernel_rfl
theorem j24:(cR.shortTexts.isNone)=true:=by kernel_rfl
theorem j25:(cP.stopsHeard)=true:=by kernel_rfl
theorem j26:(cP.mayEnter)=true:=by kernel_rfl
theorem j27:(cR.lifted == cP.liftsFinal)=true:=by kernel_rfl
theorem j28:(cP.make == some cR.make)=true:=by kernel_rfl
theorem j29:(cR.kinds == (if cR.domain.isEmpty then [] else cF.params.toList.map fun t=>match cP.underlying t with|some (.int k)=>some k|_=>none))=true:=by kernel_rfl
theorem j30:(cR.pinned == cR.pinnedBy)=true:=by kernel_rfl
theorem j31:(cR.veiled == (cF.params.toList++cS.plain.varTypes cP++cF.resultTypes.toList).any (cP.veiledRec ·))=true:=by kernel_rfl
theorem j32:(cR.veiledFits cP cF.params.toList (cF.params.toList++cS.plain.varTypes cP++cF.resultTypes.toList))=true:=by kernel_rfl
set_option maxRecDepth 100000 in
theorem closed:joinedFacts cP 3 cF cS cR=true :=
 and_mk (and_mk (and_mk (and_mk (and_mk (and_mk (and_mk (and_mk (and_mk (and_mk (and_mk (and_mk (and_mk (and_mk (and_mk (and_mk (and_mk (and_mk (and_mk (and_mk (and_mk (and_mk (and_mk (and_mk (and_mk (and_mk (and_mk (and_mk (and_mk (and_mk (and_mk (j1) j2) j3) j4) j5) j6) j7) j8) j9) j10) j11) j12) j13) j14) j15) j16) j17) j18) j19) j20) j21) j22) j23) j24) j25) j26) j27) j28) j29) j30) j31) j32
theorem k1:Rows.topLessUptoRow.wfByText (Rows.OpenSpec.upto Rows.topLessSpec)=true:=by kernel_rfl
theorem k2:Tryz.pinned.checked.prog.mainIs=some (true, "70149a74a2db5ecfccb07973f8367d8e39078f0297616d7f513b8135c635c5e8".toList):=by kernel_rfl
theorem k3:false=Tryz.pinned.checked.prog.looks []:=by kernel_rfl
theorem k4:false=Rows.topLessUptoRow.goesBy Tryz.pinned.checked.prog:=by kernel_rfl
theorem k5:Tryz.prog.funcNamed "langdoc/langdoctop.TopLess" = some 3:=by kernel_rfl
theorem k6:Tryz.f3.params = #[47,49,55]:=by kernel_rfl
theorem k7:([47,49,55].all fun u=> !Tryz.prog.wantsStandIn u)=true:=by kernel_rfl
end Go.Proofs.YtkahfcmeeloikaaGreatDoor
