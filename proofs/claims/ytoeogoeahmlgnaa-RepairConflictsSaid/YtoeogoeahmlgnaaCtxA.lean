/- The tables are the program, and the examples hold. -/
import Derived.Test.YtoeogoeahmlgnaaCtx
import Derived.Test.YtoeogoeahmlgnaaSeqI
import Derived.Test.YtoeogoeahmlgnaaCtxB
set_option linter.all false
namespace Go.Eng
open Go.Proofs
set_option maxRecDepth 100000
theorem ctxOKA : CtxOK Try.prog CXA := mkC_ctx (by kernel_rfl) (ts := [0, 1, 2, 3, 4, 5, 6, 7, 8, 9, 10, 11, 12, 13, 14, 15, 16, 17, 18, 19, 20, 21, 22, 23, 24, 25, 26, 27, 28, 29, 30, 31, 32, 33, 34, 0, 36, 37, 38, 39, 40, 41, 42, 43, 44, 45, 46, 47, 48, 49, 50, 51, 52, 53, 54, 55, 0, 57, 58, 59, 60, 61, 0, 63, 64, 65, 66, 67, 68, 69, 70, 71, 72, 73, 74, 75, 76, 77, 78, 79, 80, 81, 82, 83, 84, 85, 86, 87, 88, 89, 90, 91, 92, 93, 0, 95, 96, 97, 98, 99, 100, 101, 102, 103, 104, 105, 106, 107, 108, 109, 110, 111, 112, 113, 114, 115, 116, 117, 118, 119, 0, 121, 122, 123, 124, 0, 126, 127, 128, 129, 130, 131, 132, 133, 134, 135, 0, 137, 138, 139, 140, 0, 142, 143, 144, 145, 146, 147, 148, 149, 150, 151, 152, 153, 154, 155, 156, 157, 158, 159, 160, 161, 162, 163, 164, 165, 166, 167, 168, 169, 170, 171, 172, 173, 174, 0, 176, 177, 178, 179]) (by kernel_rfl) (idxOK_ok (by kernel_rfl)) (by kernel_rfl) (by kernel_rfl)
theorem fnsOKA [Known] : FnsOK Try.prog CXA := mkC_fns (by kernel_rfl) (by
  intro c hc
  simp [tabA] at hc) (by
  intro c hc
  simp only [tabA, List.mem_cons, List.not_mem_nil, or_false] at hc
  subst hc; exact seqSound) (by intro c hc; simp [tabA] at hc) (by
  intro c hc
  simp only [tabA, List.mem_cons, List.not_mem_nil, or_false] at hc
  subst hc; exact ptsSoundR)
theorem awakeRun10 : trueF CXA Try.f10 1000 20 6 = true := by kernel_rfl
theorem awakeSound10 [Known] : PrimSound Try.prog 10 primTrue := primTrueF_sound ctxOKA (fnsOKA) (fn := Try.f10) (by kernel_rfl) awakeRun10
end Go.Eng
