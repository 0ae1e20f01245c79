/- The tables are the program, and the examples hold. -/
import Derived.Test.YtkbmoekomicjeaaDoorCtx
import Derived.Test.YtkbmoekomicjeaaDoorSeqI
import Derived.Test.YtkbmoekomicjeaaDoorPj
namespace Go.Eng
open Go.Proofs
set_option maxRecDepth 100000
theorem ctxOKA : CtxOK Tryd.prog CXA := mkC_ctx (by kernel_rfl) (ts := [0, 1, 2, 3, 4, 5, 6, 7, 8, 9, 10, 11, 12, 13, 14, 15, 16, 17, 18, 19, 20, 21, 22, 23, 24, 25, 26, 27, 28, 29, 30, 31, 32, 33, 34, 0, 36, 37, 38, 39, 40, 41, 42, 43, 44, 45, 46, 47, 48, 49, 50, 51, 52, 53, 54, 55, 56, 57, 58, 59, 60, 61, 0, 63, 64, 65, 66, 67, 68, 69, 70, 71, 72, 0, 74, 75, 76, 0, 78, 79, 80, 81, 82, 83, 84, 85, 86, 87, 88, 89, 0, 91, 92, 93, 0, 95, 96, 97, 98, 99, 100, 101, 102, 103, 104, 105, 106, 107, 108, 109, 110, 111, 112, 113, 114, 115, 116, 117, 118, 119, 120, 121, 122]) (by kernel_rfl) (idxOK_ok (by kernel_rfl)) (by kernel_rfl)
theorem fnsOKA [Known] (hT : TabsK) : FnsOK Tryd.prog CXA := mkC_fns (by kernel_rfl) (by
  intro c hc
  simp [tabA] at hc) (by
  intro c hc
  simp only [tabA, List.mem_cons, List.not_mem_nil, or_false] at hc
  subst hc; exact seqSound) (by intro c hc; simp [tabA] at hc) (by
  intro c hc
  simp only [tabA, List.mem_cons, List.not_mem_nil, or_false] at hc
  subst hc; exact ptsSound hT)
theorem awakeRun12 : EvV CXA 12 [] (· = .bool true) := EvV.intro 1000 (r := .bool true) (by kernel_rfl) rfl
theorem awakeSound12 [Known] (hT : TabsK) : PrimSound Tryd.prog 12 primTrue := primTrue_sound ctxOKA (fnsOKA hT) (fn := Tryd.f12) (by kernel_rfl) (by kernel_rfl) (by kernel_rfl) awakeRun12
end Go.Eng
