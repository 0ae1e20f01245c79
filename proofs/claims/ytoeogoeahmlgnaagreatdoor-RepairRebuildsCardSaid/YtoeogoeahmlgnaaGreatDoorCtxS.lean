/- The tables are the program. -/
import Derived.Test.YtoeogoeahmlgnaaGreatDoorCtxA
set_option linter.all false
namespace Go.Eng
open Go.Proofs
set_option maxRecDepth 100000
theorem ctxOK [Known] (hG : GlobsK) : CtxOK Tryz.prog CX := mkC_ctx (by kernel_rfl) (ts := [0, 1, 2, 3, 4, 5, 6, 7, 8, 9, 10, 11, 12, 13, 14, 15, 16, 17, 18, 19, 20, 21, 22, 23, 24, 25, 26, 27, 28, 29, 30, 31, 32, 33, 34, 0, 36, 37, 38, 39, 40, 0, 42, 43, 0, 45, 46, 47, 0, 49, 50, 51, 52, 53, 54, 55, 56, 57, 58, 59, 60, 61, 62, 63, 64, 65, 66, 67, 68, 69, 70, 71, 0, 73, 74, 75, 76, 77, 78, 79, 80, 81, 82, 83, 84, 85, 86, 0, 88, 89, 90, 91, 92, 93, 94, 95, 96, 97, 98, 0, 100, 101, 102, 103, 104, 105, 106, 107, 108, 109, 110, 111, 112, 113, 0, 115, 116, 117, 118, 119, 120, 121, 122, 123, 124, 125, 126, 127, 128, 129, 130, 131, 132, 133, 134, 135, 136, 137, 138, 139, 140, 141, 142, 143, 144, 0, 146, 147, 148, 149, 150, 0, 152, 153, 154, 155, 156, 157, 158, 159, 160, 0, 162, 163, 164, 165, 166, 167, 168, 169, 170, 0, 172, 173, 174, 175, 176, 177, 178, 179, 180, 181, 182, 183, 184, 185, 186, 187, 188, 189, 190, 191, 192, 193, 194, 195, 196, 197, 198, 199, 200, 201, 202, 203, 204, 0, 206, 207, 208, 209, 210, 211, 212, 213, 214, 215, 216, 217, 218, 219, 220, 221, 222, 223, 224]) (by kernel_rfl) (idxOK_ok (by kernel_rfl)) (by kernel_rfl) (by kernel_rfl) hG
theorem fnsOK [Known] (hT : TabsK) (hG : GlobsK) : FnsOK Tryz.prog CX := mkC_fns (by kernel_rfl) (by
  intro c hc
  simp only [tab, List.mem_cons, List.not_mem_nil, or_false, false_or] at hc
  subst hc; exact clone36 hG) (by
  intro c hc
  simp only [tab, List.mem_cons, List.not_mem_nil, or_false] at hc
  subst hc; exact seqSound) (by
  intro c hc
  simp only [tab, List.mem_cons, List.not_mem_nil, or_false] at hc
  subst hc; exact awakeSound6 hT hG) (by
  intro c hc
  simp only [tab, List.mem_cons, List.not_mem_nil, or_false] at hc
  subst hc; exact ptsSound hT)
theorem laidOut : laidOutB Tryz.prog = true := by kernel_rfl
theorem awake : EvV CX 6 [] (· = .bool true) := EvV.prim rfl rfl rfl
end Go.Eng
