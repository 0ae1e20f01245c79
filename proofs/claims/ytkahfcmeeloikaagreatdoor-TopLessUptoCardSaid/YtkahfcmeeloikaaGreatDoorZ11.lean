/- The example's run in two halves: withdraw.View at the sample is told first: what the example owes. -/
import Derived.Test.YtkahfcmeeloikaaGreatDoorCh
set_option linter.all false
set_option maxHeartbeats 1000000
namespace Go.Eng
open Go.Proofs
section
set_option maxRecDepth 100000
def ctxOKV[aw]:eC Tryz.prog CXV:=⟨pf.mixed,pf.ty,pf.eqT,pf.meth,pf.keyT,pf.glob⟩
theorem vwSound[aw](hT:lN):bQ Tryz.prog 7 (w7 CXA 7 990 exP (.agg exQ)):=zY pf (fnsOKA hT) Tryz.func7 (by kernel_rfl) (by kernel_rfl) (fun S=>by
 have h:=exSnap S;revert h;cases dU S exP with
 | none=>intro h;cases h
 | some l=>intro h;rw[y8 (show eqL l exP=true from h)]) exRun
def fnsOKV[aw](hT:lN):mP Tryz.prog CXV:=xa (by kernel_rfl) clA sqA (by intro c hc;cases hc) (fun c hc=>by
 rcases U2.1 hc with rfl|hc
 .exact vwSound hT
 .exact prA hT c hc)
def Ej[aw](hT:lN):bQ Tryz.prog 5 oF:=xX ctxOKV (fnsOKV hT) (fn:=Tryz.f5) (by kernel_rfl) (by kernel_rfl) (by kernel_rfl) IJ
end
section
set_option maxRecDepth 100000
def ctxOK[aw]:eC Tryz.prog CX:=BR (by kernel_rfl) (ts:=[0,1,2,3,4,5,6,7,8,9,10,11,12,13,14,15,16,17,18,19,20,21,22,23,24,25,26,27,28,29,30,31,32,33,34,35,36,37,38,39,40,41,42,43,44,45,46,47,48,49,50,51,52,53,54,55,56,57,58,59,60,61,62,63,64,65,66,0,68,69,70,71,72,73,74,0,76,77,78,0,80,81,82,83,84,85,86,87,88,89,90,91,92,93,94,95,96,97,98,99,100,101,102,103,104,105,106,107,108,109,110,111,112,113,114,115,116,117,118,119,120,121,0,123,124,125,126,127,128,0,130,131,132,133,134,135,136,137,138,139,140,141,142,143,144,145,146,147,148,149,150,151,152,153,154,155,0,157,0,159,160,161,162,163,164,165,166,167,168,169,170,171,172,173,174,175,176,177,178,179,180,181,182,0,184,185,0,187,188,189,190,191,192,193,194,195,196,197,198,199,200,201,202,203,204,205,206,207,208,209,210,211,212,213,214,215,216,217,218,219,220,221,222,223,224,225,0,227,228,229,0,0,0,233,0,235,0,237,0,239,240,0,242,243,0,245,246,247,248,0,250,251,252,253,254,255,0,0,0,0,0,0,0,0,0,0,0,267,268,269,270,271,0,0,0,0,0,277,0,0,0,0,282,283,0,0,0,0,0,0,0,0,292,293,294,0,0,0,0,0,300,301,0,303,0,0,0,307,0,0,310,311,0,0,314,315,316,317,318,319,0,0,0,0,0,0,0,0,0,0,0,0,0,0,0,0,0,0,0,0,0,0,342,343,344,345,346,347,348,0,350,351,352,353,0,355,356,0,0,359,0,361,362,363,0,365,0,0,0,0,0,0,0,0,0,0,0,0,0,0,0,0,0,0,0,0,0,0,0,0,0,0,0,0,0,0,0,0,0,0,0,0,0,0,0,0,0,0,408,0,0,0,0,0,0,0,0,0,0,0,0,0,0,0,0,0,0,0,428,429,0,431,0,433,0,0,0,0,0,0,0,0,0,0,0,0,0,0,0,449,0,451]) (by kernel_rfl) (yH (by kernel_rfl)) (by kernel_rfl) (by kernel_rfl) (by intro p hp;cases hp)
def fnsOK[aw](hT:lN):mP Tryz.prog CX:=xa (by kernel_rfl) (by
 intro c hc;simp only[jR,U2,VA,or_false,false_or]at hc;subst hc;exact DY) (by
 intro c hc;simp only[jR,U2,VA,or_false]at hc;subst hc;exact CU) (by
 intro c hc;simp only[jR,U2,VA,or_false]at hc;subst hc;exact Ej hT) (by
 intro c hc;simp only[jR,U2,VA,or_false]at hc;rcases hc with rfl|rfl|rfl|rfl|rfl
 .exact xW hT
 .exact Hi
 .exact vW
 .exact xG
 .exact xF)
def GU:laidOutB Tryz.prog=true:=by kernel_rfl
end
end Go.Eng
