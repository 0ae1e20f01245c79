/- The example's run in two halves: withdraw.View at the sample is told first: the second half. -/
import Derived.Test.YtkahfcmeeloikaaGreatDoorZ10
set_option linter.all false
set_option maxHeartbeats 1000000
namespace Go.Eng
open Go.Proofs
set_option maxRecDepth 100000
noncomputable def tabV:Tab:={ xA with prims:=(7,w7 CXA 7 990 exP (.agg exQ))::xA.prims }
noncomputable def CXV:dV:=Dl tabV Tryz.prog
def IJ:aB CXV 5 [] (· = .bool true):=aB.intro 1000 (r := .bool true) (by kernel_rfl) rfl
end Go.Eng
