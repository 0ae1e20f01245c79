/- The tables are the program, and the examples hold. -/
import Derived.Test.YtpdacimgcojgnaaGreatDoorCtx
import Derived.Test.YtpdacimgcojgnaaGreatDoorSeqI
import Derived.Test.YtpdacimgcojgnaaGreatDoorPj
import Derived.Test.YtpdacimgcojgnaaGreatDoorAk
set_option linter.all false
namespace Go.Eng
open Go.Proofs
set_option maxRecDepth 100000
theorem ctxOKA:CtxOK Tryz.prog CXA:=mkC_ctx (by kernel_rfl) (ts:=[0,1,2,3,4,5,6,7,8,9,10,11,12,13,14,15,16,17,18,19,20,21,22,23,24,25,26,27,28,29,30,31,32,33,34,35,36,37,38,39,40,41,42,43,44,45,46,47,48,49,50,51,52,53,54,55,56,57,58,59,60,61,62,0,64,65,66,67,68,69,70,71,72,73,74,75,76,77,78,0,80,81,82,83,84,85,86,87,88,89,90,91,92,93,94,0,96,97,98,99,100,101,102,103,104,105,106,107,108,109,110,111,112,113,0,115,116,117,118,119,120,121,122,123,124,125,126,127,128,129,130,131,132,133,134,135,136,137,138,0,140,141,142,143,144,145,146,147,148,149,150,0,152,153,154,155,156,157,158,159,0,161,162,163,0,165,166,167,168,169,170,171,172,173,174,175,176,177,178,179,180,181,182,183,184,185,186,187,188,189,190,191,192,193,194,195,196,197,198,199,200,201]) (by kernel_rfl) (idxOK_ok (by kernel_rfl)) (by kernel_rfl) (by kernel_rfl)
theorem clone113 [Known]:PrimSound Tryz.prog 113 (primClone (szOf tab 47)):=primClone_sound ctxOKA (fn:=Tryz.f113) (by kernel_rfl) (by kernel_rfl) rfl rfl rfl (show CXA.ty 44=_ from ty44) rfl (show CXA.ty 47=_ from ty47) (by decide) rfl (by decide) (by kernel_rfl)
theorem fnsOKA [Known] (hT:TabsK):FnsOK Tryz.prog CXA:=mkC_fns (by kernel_rfl) (by
 intro c hc
 simp only [tabA,List.mem_cons,List.not_mem_nil,or_false,false_or] at hc
 subst hc;exact clone113) (by
 intro c hc
 simp only [tabA,List.mem_cons,List.not_mem_nil,or_false] at hc
 subst hc;exact seqSound) (by intro c hc;simp [tabA] at hc) (by
 intro c hc
 simp only [tabA,List.mem_cons,List.not_mem_nil,or_false] at hc
 rcases hc with rfl|rfl
 ·exact ptsSound hT
 ·exact atSound)
theorem awakeRun13:EvV CXA 13 [] (· = .bool true):=EvV.intro 1000 (r := .bool true) (by kernel_rfl) rfl
theorem awakeSound13 [Known] (hT:TabsK):PrimSound Tryz.prog 13 primTrue:=primTrue_sound ctxOKA (fnsOKA hT) (fn:=Tryz.f13) (by kernel_rfl) (by kernel_rfl) (by kernel_rfl) awakeRun13
end Go.Eng
