/- runes.Points at the strings of the example: utf8.ValidString is run there by the small machine. -/
import Derived.Test.YtoeogoeahmlgnaaCtx
import Derived.Test.YtoeogoeahmlgnaaPk
set_option linter.all false
namespace Go.Eng
open Go.Proofs Go.RowKit
set_option maxRecDepth 100000
def tabB : Tab := { tys := tys, fns := [123, 125], refs := [], clones := [], eqs := [] }
noncomputable def CXB : Ctx := mkC tabB Try.prog
theorem ctxOKB : CtxOK Try.prog CXB := mkC_ctx (by kernel_rfl) (ts := [0, 1, 2, 3, 4, 5, 6, 7, 8, 9, 10, 11, 12, 13, 14, 15, 16, 17, 18, 19, 20, 21, 22, 23, 24, 25, 26, 27, 28, 29, 30, 31, 32, 33, 34, 0, 36, 37, 38, 39, 40, 41, 42, 43, 44, 45, 46, 47, 48, 49, 50, 51, 52, 53, 54, 55, 0, 57, 58, 59, 60, 61, 0, 63, 64, 65, 66, 67, 68, 69, 70, 71, 72, 73, 74, 75, 76, 77, 78, 79, 80, 81, 82, 83, 84, 85, 86, 87, 88, 89, 90, 91, 92, 93, 0, 95, 96, 97, 98, 99, 100, 101, 102, 103, 104, 105, 106, 107, 108, 109, 110, 111, 112, 113, 114, 115, 116, 117, 118, 119, 0, 121, 122, 123, 124, 0, 126, 127, 128, 129, 130, 131, 132, 133, 134, 135, 0, 137, 138, 139, 140, 0, 142, 143, 144, 145, 146, 147, 148, 149, 150, 151, 152, 153, 154, 155, 156, 157, 158, 159, 160, 161, 162, 163, 164, 165, 166, 167, 168, 169, 170, 171, 172, 173, 174, 0, 176, 177, 178, 179]) (by kernel_rfl) (idxOK_ok (by kernel_rfl)) (by kernel_rfl) (by kernel_rfl)
theorem fnsOKB [Known] : FnsOK Try.prog CXB := mkC_fns (by kernel_rfl) (by intro c hc; simp [tabB] at hc) (by intro c hc; simp [tabB] at hc) (by intro c hc; simp [tabB] at hc) (by intro c hc; simp [tabB] at hc)
theorem valid0 : EvV CXB 123 [.str ⟨#[97]⟩] (· = .bool true) := EvV.intro 100 (r := .bool true) (by kernel_rfl) rfl
theorem valid1 : EvV CXB 123 [.str ⟨#[98]⟩] (· = .bool true) := EvV.intro 100 (r := .bool true) (by kernel_rfl) rfl
theorem ptsSoundR [Known] : PrimSound Try.prog 122 (primPtsR exStr) := primPtsR_sound (fn := Try.f122) (te := 3) exStr Try.func122 (by kernel_rfl) (by kernel_rfl) fun s hs hl w hk => (callsIn_wide (n := 8)).1 (points_by s hl w (callsIn_wide.2 (by
  unfold exStr at hs
  simp only [Bool.or_eq_true, decide_eq_true_eq] at hs
  rcases hs with rfl | rfl
  · exact calls_of_EvV ctxOKB fnsOKB hk (by simp only [listRep, vrep]; exact ⟨_, _, rfl, rfl, rfl⟩) valid0
  · exact calls_of_EvV ctxOKB fnsOKB hk (by simp only [listRep, vrep]; exact ⟨_, _, rfl, rfl, rfl⟩) valid1)) (by
  unfold exStr at hs
  simp only [Bool.or_eq_true, decide_eq_true_eq] at hs
  rcases hs with rfl | rfl <;> exact ⟨_, rfl⟩))
end Go.Eng
