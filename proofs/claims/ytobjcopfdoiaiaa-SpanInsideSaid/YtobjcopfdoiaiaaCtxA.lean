/- The tables are the program, and the examples hold. -/
import Derived.Test.YtobjcopfdoiaiaaCtx
namespace Go.Eng
open Go.Proofs
set_option maxRecDepth 100000
theorem ctxOKA : CtxOK Try.prog CXA := mkC_ctx (by kernel_rfl) (ts := [0, 1, 2, 3, 4, 5, 6, 7, 8, 9, 10, 11, 12, 13, 14, 15, 16, 17, 18, 19, 20, 21, 22, 23, 24, 25, 26, 27, 28, 29, 30, 31, 32, 33, 34, 35, 36, 37, 38, 39, 40, 41, 42, 43, 44, 45, 46, 47, 48, 49, 50, 0, 52, 53, 54, 0, 56, 57, 58, 59, 60, 61, 62, 63, 64, 65, 66, 67, 0, 69, 70, 71, 72, 73, 74, 75, 76, 77, 78, 79, 80, 81, 82, 83, 84, 85]) (by kernel_rfl) (idxOK_ok (by kernel_rfl)) (by kernel_rfl)
theorem clone37 [Known] : PrimSound Try.prog 37 (primClone (szOf tab 23)) := primClone_sound ctxOKA (fn := Try.f37) (by kernel_rfl) (by kernel_rfl) rfl rfl rfl (show CXA.ty 30 = _ from ty30) rfl (show CXA.ty 23 = _ from ty23) (by decide) rfl (by decide) (by kernel_rfl)
theorem fnsOKA [Known] : FnsOK Try.prog CXA := mkC_fns (by kernel_rfl) (by
  intro c hc
  simp only [tabA, List.mem_cons, List.not_mem_nil, or_false, false_or] at hc
  subst hc; exact clone37) (by intro c hc; simp [tabA] at hc) (by intro c hc; simp [tabA] at hc)
theorem awakeRun16 : EvV CXA 16 [] (· = .bool true) := EvV.intro 1000 (r := .bool true) (by kernel_rfl) rfl
theorem awakeSound16 [Known] : PrimSound Try.prog 16 primTrue := primTrue_sound ctxOKA fnsOKA (fn := Try.f16) (by kernel_rfl) (by kernel_rfl) (by kernel_rfl) awakeRun16
end Go.Eng
