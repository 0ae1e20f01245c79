/- The tables of types and functions of this translation. -/
import Derived.Test.YtkbmoekomicjeaaDoorProg
import Derived.Test.YtkbmoekomicjeaaDoorEngU
import Derived.Test.YtkbmoekomicjeaaDoorPt
import Derived.KernelRfl
namespace Go.Eng
open Go.Proofs
def tys : List (Option TyI) := [
none,
  some ⟨1, false, 8, [(.flat .nilFunc)], .other⟩,
  some ⟨1, false, 8, [(.int .i64 0)], (.int .i64)⟩,
  some ⟨1, false, 8, [(.int .i64 0)], (.int .i64)⟩,
  some ⟨1, false, 1, [(.bool false)], .bool⟩,
  some ⟨1, false, 1, [(.int .u8 0)], (.int .u8)⟩,
  some ⟨1, false, 1, [(.int .u8 0)], (.int .u8)⟩,
  some ⟨4, true, 24, [(.int .i64 0), (.int .i64 0), (.bool false), (.int .u8 0)], (.struct [(0, 2), (1, 3), (2, 4), (3, 6)])⟩,
  some ⟨4, true, 24, [(.int .i64 0), (.int .i64 0), (.bool false), (.int .u8 0)], (.struct [(0, 2), (1, 3), (2, 4), (3, 6)])⟩,
  some ⟨1, false, 16, [(.str .empty)], .str⟩,
  some ⟨1, false, 16, [(.str .empty)], .str⟩,
  some ⟨1, false, 16, [(.str .empty)], .str⟩,
  some ⟨1, false, 8, [(.int .u64 0)], (.int .u64)⟩,
  some ⟨2, true, 24, [(.str .empty), (.int .u64 0)], (.struct [(0, 9), (1, 12)])⟩,
  some ⟨2, true, 24, [(.str .empty), (.int .u64 0)], (.struct [(0, 9), (1, 12)])⟩,
  some ⟨1, false, 8, [(.flat (.pointer none))], .other⟩,
  some ⟨1, false, 8, [(.flat (.pointer none))], .other⟩,
  some ⟨1, false, 8, [(.flat (.pointer none))], .other⟩,
  some ⟨1, true, 8, [(.flat (.pointer none))], (.struct [(0, 17)])⟩,
  some ⟨1, true, 8, [(.flat (.pointer none))], (.struct [(0, 17)])⟩,
  some ⟨1, false, 16, [(.flat .nilIface)], .other⟩,
  some ⟨1, false, 4, [(.int .i32 0)], (.int .i32)⟩,
  some ⟨1, false, 24, [(.flat (.slice none 0 0))], (.slice 46)⟩,
  some ⟨1, true, 24, [(.flat (.slice none 0 0))], (.struct [(0, 22)])⟩,
  some ⟨1, true, 24, [(.flat (.slice none 0 0))], (.struct [(0, 22)])⟩,
  some ⟨1, false, 8, [(.flat .nilFunc)], .other⟩,
  some ⟨1, false, 8, [(.flat .nilFunc)], .other⟩,
  some ⟨1, false, 8, [(.int .i64 0)], (.int .i64)⟩,
  some ⟨1, false, 8, [(.flat .nilFunc)], .other⟩,
  some ⟨2, true, 16, [(.int .i64 0), (.int .i64 0)], (.struct [(0, 3), (1, 3)])⟩,
  some ⟨2, true, 16, [(.int .i64 0), (.int .i64 0)], (.struct [(0, 3), (1, 3)])⟩,
  some ⟨1, false, 8, [(.flat .nilFunc)], .other⟩,
  some ⟨1, false, 8, [(.flat .nilFunc)], .other⟩,
  some ⟨1, false, 24, [(.flat (.slice none 0 0))], (.slice 3)⟩,
  some ⟨1, false, 8, [(.flat .nilFunc)], .other⟩,
  none,
  some ⟨1, false, 8, [(.flat .nilFunc)], .other⟩,
  some ⟨1, false, 8, [(.flat .nilFunc)], .other⟩,
  some ⟨1, false, 8, [(.flat .nilFunc)], .other⟩,
  some ⟨1, false, 8, [(.flat .nilFunc)], .other⟩,
  some ⟨1, false, 8, [(.flat .nilFunc)], .other⟩,
  some ⟨1, false, 8, [(.flat .nilFunc)], .other⟩,
  some ⟨1, false, 8, [(.flat .nilFunc)], .other⟩,
  some ⟨1, false, 8, [(.flat .nilFunc)], .other⟩,
  some ⟨1, false, 8, [(.flat .nilFunc)], .other⟩,
  some ⟨2, true, 24, [(.str .empty), (.int .i64 0)], (.struct [(0, 9), (1, 3)])⟩,
  some ⟨2, true, 24, [(.str .empty), (.int .i64 0)], (.struct [(0, 9), (1, 3)])⟩,
  some ⟨1, false, 8, [(.flat .nilFunc)], .other⟩,
  some ⟨1, false, 8, [(.flat .nilFunc)], .other⟩,
  some ⟨1, false, 8, [(.flat .nilFunc)], .other⟩,
  some ⟨1, false, 8, [(.flat .nilFunc)], .other⟩,
  some ⟨1, false, 8, [(.flat .nilFunc)], .other⟩,
  some ⟨1, false, 8, [(.flat .nilFunc)], .other⟩,
  some ⟨1, false, 8, [(.flat .nilFunc)], .other⟩,
  some ⟨1, false, 8, [(.flat .nilFunc)], .other⟩,
  some ⟨1, false, 8, [(.flat .nilFunc)], .other⟩,
  some ⟨1, false, 8, [(.flat .nilFunc)], .other⟩,
  some ⟨1, false, 8, [(.flat .nilFunc)], .other⟩,
  some ⟨1, false, 8, [(.flat .nilFunc)], .other⟩,
  some ⟨1, false, 8, [(.flat .nilFunc)], .other⟩,
  some ⟨1, false, 24, [(.flat (.slice none 0 0))], (.slice 5)⟩,
  some ⟨1, false, 8, [(.flat .nilFunc)], .other⟩,
  none,
  some ⟨1, false, 8, [(.flat .nilFunc)], .other⟩,
  some ⟨1, false, 8, [(.flat .nilFunc)], .other⟩,
  some ⟨1, false, 8, [(.flat .nilFunc)], .other⟩,
  some ⟨1, false, 8, [(.flat .nilFunc)], .other⟩,
  some ⟨1, false, 8, [(.flat .nilFunc)], .other⟩,
  some ⟨1, false, 8, [(.flat .nilFunc)], .other⟩,
  some ⟨1, false, 8, [(.flat .nilFunc)], .other⟩,
  some ⟨1, false, 8, [(.flat .nilFunc)], .other⟩,
  some ⟨1, false, 8, [(.flat .nilFunc)], .other⟩,
  some ⟨1, false, 8, [(.flat .nilFunc)], .other⟩,
  none,
  some ⟨1, false, 8, [(.flat .nilFunc)], .other⟩,
  some ⟨1, false, 8, [(.flat .nilFunc)], .other⟩,
  some ⟨1, false, 8, [(.flat .nilFunc)], .other⟩,
  none,
  some ⟨2, true, 2, [(.int .u8 0), (.int .u8 0)], (.struct [(0, 5), (1, 5)])⟩,
  some ⟨2, true, 2, [(.int .u8 0), (.int .u8 0)], (.struct [(0, 5), (1, 5)])⟩,
  some ⟨32, true, 32, [(.int .u8 0), (.int .u8 0), (.int .u8 0), (.int .u8 0), (.int .u8 0), (.int .u8 0), (.int .u8 0), (.int .u8 0), (.int .u8 0), (.int .u8 0), (.int .u8 0), (.int .u8 0), (.int .u8 0), (.int .u8 0), (.int .u8 0), (.int .u8 0), (.int .u8 0), (.int .u8 0), (.int .u8 0), (.int .u8 0), (.int .u8 0), (.int .u8 0), (.int .u8 0), (.int .u8 0), (.int .u8 0), (.int .u8 0), (.int .u8 0), (.int .u8 0), (.int .u8 0), (.int .u8 0), (.int .u8 0), (.int .u8 0)], (.array 16 79)⟩,
  some ⟨1, false, 8, [(.int .u64 0)], (.int .u64)⟩,
  some ⟨1, false, 8, [(.flat .nilFunc)], .other⟩,
  some ⟨1, false, 8, [(.flat .nilFunc)], .other⟩,
  some ⟨1, false, 8, [(.flat .nilFunc)], .other⟩,
  some ⟨1, false, 8, [(.flat .nilFunc)], .other⟩,
  some ⟨1, false, 8, [(.flat .nilFunc)], .other⟩,
  some ⟨1, false, 8, [(.int .u64 0)], (.int .u64)⟩,
  some ⟨1, false, 8, [(.flat .nilFunc)], .other⟩,
  some ⟨1, false, 8, [(.int .i64 0)], (.int .i64)⟩,
  none,
  some ⟨1, false, 8, [(.flat .nilFunc)], .other⟩,
  some ⟨1, false, 8, [(.flat .nilFunc)], .other⟩,
  some ⟨1, false, 8, [(.flat .nilFunc)], .other⟩,
  none,
  some ⟨1, false, 8, [(.flat .nilFunc)], .other⟩,
  some ⟨1, false, 8, [(.flat .nilFunc)], .other⟩,
  some ⟨1, false, 4, [(.int .u32 0)], (.int .u32)⟩,
  some ⟨1, false, 8, [(.flat .nilFunc)], .other⟩,
  some ⟨1, false, 8, [(.int .u64 0)], (.int .u64)⟩,
  some ⟨1, false, 8, [(.flat .nilFunc)], .other⟩,
  some ⟨1, false, 8, [(.flat .nilFunc)], .other⟩,
  some ⟨1, false, 8, [(.flat .nilFunc)], .other⟩,
  some ⟨1, false, 8, [(.flat (.pointer none))], .other⟩,
  some ⟨1, false, 8, [(.flat .nilFunc)], .other⟩,
  some ⟨1, false, 8, [(.flat (.pointer none))], .other⟩,
  some ⟨1, false, 8, [(.flat .nilFunc)], .other⟩,
  some ⟨1, false, 8, [(.flat .nilFunc)], .other⟩,
  some ⟨4, true, 40, [(.flat (.pointer none)), (.flat (.pointer none)), (.flat (.pointer none)), (.str .empty)], (.struct [(0, 17), (1, 17), (2, 17), (3, 9)])⟩,
  some ⟨4, true, 40, [(.flat (.pointer none)), (.flat (.pointer none)), (.flat (.pointer none)), (.str .empty)], (.struct [(0, 17), (1, 17), (2, 17), (3, 9)])⟩,
  some ⟨0, true, 0, [], (.array 0 16)⟩,
  some ⟨0, true, 0, [], (.struct [(0, 110)])⟩,
  some ⟨0, true, 0, [], (.struct [(0, 110)])⟩,
  some ⟨1, false, 8, [(.flat .nilFunc)], .other⟩,
  some ⟨1, false, 1, [(.int .u8 0)], (.int .u8)⟩,
  some ⟨1, false, 1, [(.int .u8 0)], (.int .u8)⟩,
  some ⟨1, false, 8, [(.flat .nilFunc)], .other⟩,
  some ⟨1, false, 8, [(.flat (.pointer none))], .other⟩,
  some ⟨1, false, 4, [(.int .i32 0)], (.int .i32)⟩,
  some ⟨1, false, 4, [(.int .i32 0)], (.int .i32)⟩,
  some ⟨11, true, 48, [(.int .u64 0), (.int .u64 0), (.int .u32 0), (.int .u8 0), (.int .u8 0), (.int .u8 0), (.int .u8 0), (.flat .nilFunc), (.flat (.pointer none)), (.int .i32 0), (.int .i32 0)], (.struct [(0, 12), (1, 12), (2, 97), (3, 114), (4, 5), (5, 5), (6, 115), (7, 116), (8, 117), (9, 118), (10, 119)])⟩,
  some ⟨11, true, 48, [(.int .u64 0), (.int .u64 0), (.int .u32 0), (.int .u8 0), (.int .u8 0), (.int .u8 0), (.int .u8 0), (.flat .nilFunc), (.flat (.pointer none)), (.int .i32 0), (.int .i32 0)], (.struct [(0, 12), (1, 12), (2, 97), (3, 114), (4, 5), (5, 5), (6, 115), (7, 116), (8, 117), (9, 118), (10, 119)])⟩,
  some ⟨1, false, 8, [(.flat (.pointer none))], .other⟩]
def tab : Tab := { tys := tys, fns := [3, 4, 5, 6, 7, 8, 9, 10, 11, 12, 13, 14, 15, 16, 17, 18, 19, 20, 21, 22, 23, 24, 25, 26, 27, 28, 29, 30, 31, 32, 33, 34, 35, 36, 37, 38, 39, 40, 41, 42, 43, 44, 45, 46, 47, 48, 49, 50, 51, 52, 53, 54, 55, 56, 57, 58, 59, 60, 61, 62, 63, 64, 65, 66, 67, 68, 69, 70, 71, 72, 73, 74, 75, 76, 77, 78, 79, 80, 81, 82, 83, 84], refs := [31, 49, 51, 58, 59, 65, 67, 68, 69, 70, 71, 72, 74, 75, 78, 80, 81, 82, 84], clones := [], eqs := [(30, [.int, .int])], seqs := [(64, 59)], trues := [12], frz := [[108, 97, 119, 46, 103, 111, 58, 49, 48, 51], [108, 97, 119, 46, 103, 111, 58, 49, 48, 52], [108, 97, 119, 46, 103, 111, 58, 49, 49, 49], [108, 97, 119, 46, 103, 111, 58, 49, 49, 50], [108, 97, 119, 46, 103, 111, 58, 49, 49, 55], [108, 97, 119, 46, 103, 111, 58, 49, 49, 56], [108, 97, 119, 46, 103, 111, 58, 49, 50, 49], [108, 97, 119, 46, 103, 111, 58, 49, 50, 52], [108, 97, 119, 46, 103, 111, 58, 49, 50, 53], [108, 97, 119, 46, 103, 111, 58, 49, 50, 55], [108, 97, 119, 46, 103, 111, 58, 51, 54], [108, 97, 119, 46, 103, 111, 58, 52, 48], [108, 97, 119, 46, 103, 111, 58, 52, 49], [108, 97, 119, 46, 103, 111, 58, 52, 51], [108, 97, 119, 46, 103, 111, 58, 52, 56], [108, 97, 119, 46, 103, 111, 58, 52, 57], [108, 97, 119, 46, 103, 111, 58, 53, 49], [108, 97, 119, 46, 103, 111, 58, 53, 54], [108, 97, 119, 46, 103, 111, 58, 53, 55], [108, 97, 119, 46, 103, 111, 58, 53, 57], [108, 97, 119, 46, 103, 111, 58, 54, 48], [108, 97, 119, 46, 103, 111, 58, 54, 49], [108, 97, 119, 46, 103, 111, 58, 54, 54], [108, 97, 119, 46, 103, 111, 58, 54, 55], [108, 97, 119, 46, 103, 111, 58, 54, 57], [108, 97, 119, 46, 103, 111, 58, 55, 52], [108, 97, 119, 46, 103, 111, 58, 55, 53], [108, 97, 119, 46, 103, 111, 58, 56, 48], [108, 97, 119, 46, 103, 111, 58, 56, 50], [108, 97, 119, 46, 103, 111, 58, 56, 52], [108, 97, 119, 46, 103, 111, 58, 56, 53], [108, 97, 119, 46, 103, 111, 58, 56, 54], [108, 97, 119, 46, 103, 111, 58, 56, 57], [108, 97, 119, 46, 103, 111, 58, 57, 52], [108, 97, 119, 46, 103, 111, 58, 57, 53], [108, 97, 119, 46, 103, 111, 58, 57, 56]], prims := [(47, primPts)] }
def tabA : Tab := { tys := tys, fns := [3, 4, 5, 6, 7, 8, 9, 10, 11, 12, 13, 14, 15, 16, 17, 18, 19, 20, 21, 22, 23, 24, 25, 26, 27, 28, 29, 30, 31, 32, 33, 34, 35, 36, 37, 38, 39, 40, 41, 42, 43, 44, 45, 46, 47, 48, 49, 50, 51, 52, 53, 54, 55, 56, 57, 58, 59, 60, 61, 62, 63, 64, 65, 66, 67, 68, 69, 70, 71, 72, 73, 74, 75, 76, 77, 78, 79, 80, 81, 82, 83, 84], refs := [31, 49, 51, 58, 59, 65, 67, 68, 69, 70, 71, 72, 74, 75, 78, 80, 81, 82, 84], clones := [], eqs := [(30, [.int, .int])], seqs := [(64, 59)], trues := [], frz := [[108, 97, 119, 46, 103, 111, 58, 49, 56], [108, 97, 119, 46, 103, 111, 58, 49, 57], [108, 97, 119, 46, 103, 111, 58, 50, 50]], prims := [(47, primPts)] }
noncomputable def CX : Ctx := mkC tab Tryd.prog
/-- For the run of the examples: slices that are written out there stand as they are. -/
noncomputable def CXA : Ctx := mkC tabA Tryd.prog
theorem ty1 : CX.ty 1 = some ⟨1, false, 8, [(.flat .nilFunc)], .other⟩ := rfl
theorem ty2 : CX.ty 2 = some ⟨1, false, 8, [(.int .i64 0)], (.int .i64)⟩ := rfl
theorem ty3 : CX.ty 3 = some ⟨1, false, 8, [(.int .i64 0)], (.int .i64)⟩ := rfl
theorem ty4 : CX.ty 4 = some ⟨1, false, 1, [(.bool false)], .bool⟩ := rfl
theorem ty5 : CX.ty 5 = some ⟨1, false, 1, [(.int .u8 0)], (.int .u8)⟩ := rfl
theorem ty6 : CX.ty 6 = some ⟨1, false, 1, [(.int .u8 0)], (.int .u8)⟩ := rfl
theorem ty7 : CX.ty 7 = some ⟨4, true, 24, [(.int .i64 0), (.int .i64 0), (.bool false), (.int .u8 0)], (.struct [(0, 2), (1, 3), (2, 4), (3, 6)])⟩ := rfl
theorem ty8 : CX.ty 8 = some ⟨4, true, 24, [(.int .i64 0), (.int .i64 0), (.bool false), (.int .u8 0)], (.struct [(0, 2), (1, 3), (2, 4), (3, 6)])⟩ := rfl
theorem ty9 : CX.ty 9 = some ⟨1, false, 16, [(.str .empty)], .str⟩ := rfl
theorem ty10 : CX.ty 10 = some ⟨1, false, 16, [(.str .empty)], .str⟩ := rfl
theorem ty11 : CX.ty 11 = some ⟨1, false, 16, [(.str .empty)], .str⟩ := rfl
theorem ty12 : CX.ty 12 = some ⟨1, false, 8, [(.int .u64 0)], (.int .u64)⟩ := rfl
theorem ty13 : CX.ty 13 = some ⟨2, true, 24, [(.str .empty), (.int .u64 0)], (.struct [(0, 9), (1, 12)])⟩ := rfl
theorem ty14 : CX.ty 14 = some ⟨2, true, 24, [(.str .empty), (.int .u64 0)], (.struct [(0, 9), (1, 12)])⟩ := rfl
theorem ty15 : CX.ty 15 = some ⟨1, false, 8, [(.flat (.pointer none))], .other⟩ := rfl
theorem ty16 : CX.ty 16 = some ⟨1, false, 8, [(.flat (.pointer none))], .other⟩ := rfl
theorem ty17 : CX.ty 17 = some ⟨1, false, 8, [(.flat (.pointer none))], .other⟩ := rfl
theorem ty18 : CX.ty 18 = some ⟨1, true, 8, [(.flat (.pointer none))], (.struct [(0, 17)])⟩ := rfl
theorem ty19 : CX.ty 19 = some ⟨1, true, 8, [(.flat (.pointer none))], (.struct [(0, 17)])⟩ := rfl
theorem ty20 : CX.ty 20 = some ⟨1, false, 16, [(.flat .nilIface)], .other⟩ := rfl
theorem ty21 : CX.ty 21 = some ⟨1, false, 4, [(.int .i32 0)], (.int .i32)⟩ := rfl
theorem ty22 : CX.ty 22 = some ⟨1, false, 24, [(.flat (.slice none 0 0))], (.slice 46)⟩ := rfl
theorem ty23 : CX.ty 23 = some ⟨1, true, 24, [(.flat (.slice none 0 0))], (.struct [(0, 22)])⟩ := rfl
theorem ty24 : CX.ty 24 = some ⟨1, true, 24, [(.flat (.slice none 0 0))], (.struct [(0, 22)])⟩ := rfl
theorem ty25 : CX.ty 25 = some ⟨1, false, 8, [(.flat .nilFunc)], .other⟩ := rfl
theorem ty26 : CX.ty 26 = some ⟨1, false, 8, [(.flat .nilFunc)], .other⟩ := rfl
theorem ty27 : CX.ty 27 = some ⟨1, false, 8, [(.int .i64 0)], (.int .i64)⟩ := rfl
theorem ty28 : CX.ty 28 = some ⟨1, false, 8, [(.flat .nilFunc)], .other⟩ := rfl
theorem ty29 : CX.ty 29 = some ⟨2, true, 16, [(.int .i64 0), (.int .i64 0)], (.struct [(0, 3), (1, 3)])⟩ := rfl
theorem ty30 : CX.ty 30 = some ⟨2, true, 16, [(.int .i64 0), (.int .i64 0)], (.struct [(0, 3), (1, 3)])⟩ := rfl
theorem ty31 : CX.ty 31 = some ⟨1, false, 8, [(.flat .nilFunc)], .other⟩ := rfl
theorem ty32 : CX.ty 32 = some ⟨1, false, 8, [(.flat .nilFunc)], .other⟩ := rfl
theorem ty33 : CX.ty 33 = some ⟨1, false, 24, [(.flat (.slice none 0 0))], (.slice 3)⟩ := rfl
theorem ty34 : CX.ty 34 = some ⟨1, false, 8, [(.flat .nilFunc)], .other⟩ := rfl
theorem ty36 : CX.ty 36 = some ⟨1, false, 8, [(.flat .nilFunc)], .other⟩ := rfl
theorem ty37 : CX.ty 37 = some ⟨1, false, 8, [(.flat .nilFunc)], .other⟩ := rfl
theorem ty38 : CX.ty 38 = some ⟨1, false, 8, [(.flat .nilFunc)], .other⟩ := rfl
theorem ty39 : CX.ty 39 = some ⟨1, false, 8, [(.flat .nilFunc)], .other⟩ := rfl
theorem ty40 : CX.ty 40 = some ⟨1, false, 8, [(.flat .nilFunc)], .other⟩ := rfl
theorem ty41 : CX.ty 41 = some ⟨1, false, 8, [(.flat .nilFunc)], .other⟩ := rfl
theorem ty42 : CX.ty 42 = some ⟨1, false, 8, [(.flat .nilFunc)], .other⟩ := rfl
theorem ty43 : CX.ty 43 = some ⟨1, false, 8, [(.flat .nilFunc)], .other⟩ := rfl
theorem ty44 : CX.ty 44 = some ⟨1, false, 8, [(.flat .nilFunc)], .other⟩ := rfl
theorem ty45 : CX.ty 45 = some ⟨2, true, 24, [(.str .empty), (.int .i64 0)], (.struct [(0, 9), (1, 3)])⟩ := rfl
theorem ty46 : CX.ty 46 = some ⟨2, true, 24, [(.str .empty), (.int .i64 0)], (.struct [(0, 9), (1, 3)])⟩ := rfl
theorem ty47 : CX.ty 47 = some ⟨1, false, 8, [(.flat .nilFunc)], .other⟩ := rfl
theorem ty48 : CX.ty 48 = some ⟨1, false, 8, [(.flat .nilFunc)], .other⟩ := rfl
theorem ty49 : CX.ty 49 = some ⟨1, false, 8, [(.flat .nilFunc)], .other⟩ := rfl
theorem ty50 : CX.ty 50 = some ⟨1, false, 8, [(.flat .nilFunc)], .other⟩ := rfl
theorem ty51 : CX.ty 51 = some ⟨1, false, 8, [(.flat .nilFunc)], .other⟩ := rfl
theorem ty52 : CX.ty 52 = some ⟨1, false, 8, [(.flat .nilFunc)], .other⟩ := rfl
theorem ty53 : CX.ty 53 = some ⟨1, false, 8, [(.flat .nilFunc)], .other⟩ := rfl
theorem ty54 : CX.ty 54 = some ⟨1, false, 8, [(.flat .nilFunc)], .other⟩ := rfl
theorem ty55 : CX.ty 55 = some ⟨1, false, 8, [(.flat .nilFunc)], .other⟩ := rfl
theorem ty56 : CX.ty 56 = some ⟨1, false, 8, [(.flat .nilFunc)], .other⟩ := rfl
theorem ty57 : CX.ty 57 = some ⟨1, false, 8, [(.flat .nilFunc)], .other⟩ := rfl
theorem ty58 : CX.ty 58 = some ⟨1, false, 8, [(.flat .nilFunc)], .other⟩ := rfl
theorem ty59 : CX.ty 59 = some ⟨1, false, 8, [(.flat .nilFunc)], .other⟩ := rfl
theorem ty60 : CX.ty 60 = some ⟨1, false, 24, [(.flat (.slice none 0 0))], (.slice 5)⟩ := rfl
theorem ty61 : CX.ty 61 = some ⟨1, false, 8, [(.flat .nilFunc)], .other⟩ := rfl
theorem ty63 : CX.ty 63 = some ⟨1, false, 8, [(.flat .nilFunc)], .other⟩ := rfl
theorem ty64 : CX.ty 64 = some ⟨1, false, 8, [(.flat .nilFunc)], .other⟩ := rfl
theorem ty65 : CX.ty 65 = some ⟨1, false, 8, [(.flat .nilFunc)], .other⟩ := rfl
theorem ty66 : CX.ty 66 = some ⟨1, false, 8, [(.flat .nilFunc)], .other⟩ := rfl
theorem ty67 : CX.ty 67 = some ⟨1, false, 8, [(.flat .nilFunc)], .other⟩ := rfl
theorem ty68 : CX.ty 68 = some ⟨1, false, 8, [(.flat .nilFunc)], .other⟩ := rfl
theorem ty69 : CX.ty 69 = some ⟨1, false, 8, [(.flat .nilFunc)], .other⟩ := rfl
theorem ty70 : CX.ty 70 = some ⟨1, false, 8, [(.flat .nilFunc)], .other⟩ := rfl
theorem ty71 : CX.ty 71 = some ⟨1, false, 8, [(.flat .nilFunc)], .other⟩ := rfl
theorem ty72 : CX.ty 72 = some ⟨1, false, 8, [(.flat .nilFunc)], .other⟩ := rfl
theorem ty74 : CX.ty 74 = some ⟨1, false, 8, [(.flat .nilFunc)], .other⟩ := rfl
theorem ty75 : CX.ty 75 = some ⟨1, false, 8, [(.flat .nilFunc)], .other⟩ := rfl
theorem ty76 : CX.ty 76 = some ⟨1, false, 8, [(.flat .nilFunc)], .other⟩ := rfl
theorem ty78 : CX.ty 78 = some ⟨2, true, 2, [(.int .u8 0), (.int .u8 0)], (.struct [(0, 5), (1, 5)])⟩ := rfl
theorem ty79 : CX.ty 79 = some ⟨2, true, 2, [(.int .u8 0), (.int .u8 0)], (.struct [(0, 5), (1, 5)])⟩ := rfl
theorem ty80 : CX.ty 80 = some ⟨32, true, 32, [(.int .u8 0), (.int .u8 0), (.int .u8 0), (.int .u8 0), (.int .u8 0), (.int .u8 0), (.int .u8 0), (.int .u8 0), (.int .u8 0), (.int .u8 0), (.int .u8 0), (.int .u8 0), (.int .u8 0), (.int .u8 0), (.int .u8 0), (.int .u8 0), (.int .u8 0), (.int .u8 0), (.int .u8 0), (.int .u8 0), (.int .u8 0), (.int .u8 0), (.int .u8 0), (.int .u8 0), (.int .u8 0), (.int .u8 0), (.int .u8 0), (.int .u8 0), (.int .u8 0), (.int .u8 0), (.int .u8 0), (.int .u8 0)], (.array 16 79)⟩ := rfl
theorem ty81 : CX.ty 81 = some ⟨1, false, 8, [(.int .u64 0)], (.int .u64)⟩ := rfl
theorem ty82 : CX.ty 82 = some ⟨1, false, 8, [(.flat .nilFunc)], .other⟩ := rfl
theorem ty83 : CX.ty 83 = some ⟨1, false, 8, [(.flat .nilFunc)], .other⟩ := rfl
theorem ty84 : CX.ty 84 = some ⟨1, false, 8, [(.flat .nilFunc)], .other⟩ := rfl
theorem ty85 : CX.ty 85 = some ⟨1, false, 8, [(.flat .nilFunc)], .other⟩ := rfl
theorem ty86 : CX.ty 86 = some ⟨1, false, 8, [(.flat .nilFunc)], .other⟩ := rfl
theorem ty87 : CX.ty 87 = some ⟨1, false, 8, [(.int .u64 0)], (.int .u64)⟩ := rfl
theorem ty88 : CX.ty 88 = some ⟨1, false, 8, [(.flat .nilFunc)], .other⟩ := rfl
theorem ty89 : CX.ty 89 = some ⟨1, false, 8, [(.int .i64 0)], (.int .i64)⟩ := rfl
theorem ty91 : CX.ty 91 = some ⟨1, false, 8, [(.flat .nilFunc)], .other⟩ := rfl
theorem ty92 : CX.ty 92 = some ⟨1, false, 8, [(.flat .nilFunc)], .other⟩ := rfl
theorem ty93 : CX.ty 93 = some ⟨1, false, 8, [(.flat .nilFunc)], .other⟩ := rfl
theorem ty95 : CX.ty 95 = some ⟨1, false, 8, [(.flat .nilFunc)], .other⟩ := rfl
theorem ty96 : CX.ty 96 = some ⟨1, false, 8, [(.flat .nilFunc)], .other⟩ := rfl
theorem ty97 : CX.ty 97 = some ⟨1, false, 4, [(.int .u32 0)], (.int .u32)⟩ := rfl
theorem ty98 : CX.ty 98 = some ⟨1, false, 8, [(.flat .nilFunc)], .other⟩ := rfl
theorem ty99 : CX.ty 99 = some ⟨1, false, 8, [(.int .u64 0)], (.int .u64)⟩ := rfl
theorem ty100 : CX.ty 100 = some ⟨1, false, 8, [(.flat .nilFunc)], .other⟩ := rfl
theorem ty101 : CX.ty 101 = some ⟨1, false, 8, [(.flat .nilFunc)], .other⟩ := rfl
theorem ty102 : CX.ty 102 = some ⟨1, false, 8, [(.flat .nilFunc)], .other⟩ := rfl
theorem ty103 : CX.ty 103 = some ⟨1, false, 8, [(.flat (.pointer none))], .other⟩ := rfl
theorem ty104 : CX.ty 104 = some ⟨1, false, 8, [(.flat .nilFunc)], .other⟩ := rfl
theorem ty105 : CX.ty 105 = some ⟨1, false, 8, [(.flat (.pointer none))], .other⟩ := rfl
theorem ty106 : CX.ty 106 = some ⟨1, false, 8, [(.flat .nilFunc)], .other⟩ := rfl
theorem ty107 : CX.ty 107 = some ⟨1, false, 8, [(.flat .nilFunc)], .other⟩ := rfl
theorem ty108 : CX.ty 108 = some ⟨4, true, 40, [(.flat (.pointer none)), (.flat (.pointer none)), (.flat (.pointer none)), (.str .empty)], (.struct [(0, 17), (1, 17), (2, 17), (3, 9)])⟩ := rfl
theorem ty109 : CX.ty 109 = some ⟨4, true, 40, [(.flat (.pointer none)), (.flat (.pointer none)), (.flat (.pointer none)), (.str .empty)], (.struct [(0, 17), (1, 17), (2, 17), (3, 9)])⟩ := rfl
theorem ty110 : CX.ty 110 = some ⟨0, true, 0, [], (.array 0 16)⟩ := rfl
theorem ty111 : CX.ty 111 = some ⟨0, true, 0, [], (.struct [(0, 110)])⟩ := rfl
theorem ty112 : CX.ty 112 = some ⟨0, true, 0, [], (.struct [(0, 110)])⟩ := rfl
theorem ty113 : CX.ty 113 = some ⟨1, false, 8, [(.flat .nilFunc)], .other⟩ := rfl
theorem ty114 : CX.ty 114 = some ⟨1, false, 1, [(.int .u8 0)], (.int .u8)⟩ := rfl
theorem ty115 : CX.ty 115 = some ⟨1, false, 1, [(.int .u8 0)], (.int .u8)⟩ := rfl
theorem ty116 : CX.ty 116 = some ⟨1, false, 8, [(.flat .nilFunc)], .other⟩ := rfl
theorem ty117 : CX.ty 117 = some ⟨1, false, 8, [(.flat (.pointer none))], .other⟩ := rfl
theorem ty118 : CX.ty 118 = some ⟨1, false, 4, [(.int .i32 0)], (.int .i32)⟩ := rfl
theorem ty119 : CX.ty 119 = some ⟨1, false, 4, [(.int .i32 0)], (.int .i32)⟩ := rfl
theorem ty120 : CX.ty 120 = some ⟨11, true, 48, [(.int .u64 0), (.int .u64 0), (.int .u32 0), (.int .u8 0), (.int .u8 0), (.int .u8 0), (.int .u8 0), (.flat .nilFunc), (.flat (.pointer none)), (.int .i32 0), (.int .i32 0)], (.struct [(0, 12), (1, 12), (2, 97), (3, 114), (4, 5), (5, 5), (6, 115), (7, 116), (8, 117), (9, 118), (10, 119)])⟩ := rfl
theorem ty121 : CX.ty 121 = some ⟨11, true, 48, [(.int .u64 0), (.int .u64 0), (.int .u32 0), (.int .u8 0), (.int .u8 0), (.int .u8 0), (.int .u8 0), (.flat .nilFunc), (.flat (.pointer none)), (.int .i32 0), (.int .i32 0)], (.struct [(0, 12), (1, 12), (2, 97), (3, 114), (4, 5), (5, 5), (6, 115), (7, 116), (8, 117), (9, 118), (10, 119)])⟩ := rfl
theorem ty122 : CX.ty 122 = some ⟨1, false, 8, [(.flat (.pointer none))], .other⟩ := rfl
theorem fn3 : CX.fn 3 = some Tryd.f3 := by kernel_rfl
theorem br3 : CX.byRef 3 = false := rfl
theorem nt3 : Tryd.f3.ntmps = 15 := rfl
theorem fn4 : CX.fn 4 = some Tryd.f4 := by kernel_rfl
theorem br4 : CX.byRef 4 = false := rfl
theorem nt4 : Tryd.f4.ntmps = 32 := rfl
theorem fn5 : CX.fn 5 = some Tryd.f5 := by kernel_rfl
theorem br5 : CX.byRef 5 = false := rfl
theorem nt5 : Tryd.f5.ntmps = 41 := rfl
theorem fn6 : CX.fn 6 = some Tryd.f6 := by kernel_rfl
theorem br6 : CX.byRef 6 = false := rfl
theorem nt6 : Tryd.f6.ntmps = 49 := rfl
theorem fn7 : CX.fn 7 = some Tryd.f7 := by kernel_rfl
theorem br7 : CX.byRef 7 = false := rfl
theorem nt7 : Tryd.f7.ntmps = 95 := rfl
theorem fn8 : CX.fn 8 = some Tryd.f8 := by kernel_rfl
theorem br8 : CX.byRef 8 = false := rfl
theorem nt8 : Tryd.f8.ntmps = 70 := rfl
theorem fn9 : CX.fn 9 = some Tryd.f9 := by kernel_rfl
theorem br9 : CX.byRef 9 = false := rfl
theorem nt9 : Tryd.f9.ntmps = 78 := rfl
theorem fn10 : CX.fn 10 = some Tryd.f10 := by kernel_rfl
theorem br10 : CX.byRef 10 = false := rfl
theorem nt10 : Tryd.f10.ntmps = 60 := rfl
theorem fn11 : CX.fn 11 = some Tryd.f11 := by kernel_rfl
theorem br11 : CX.byRef 11 = false := rfl
theorem nt11 : Tryd.f11.ntmps = 27 := rfl
theorem fn12 : CX.fn 12 = some Tryd.f12 := by kernel_rfl
theorem br12 : CX.byRef 12 = false := rfl
theorem nt12 : Tryd.f12.ntmps = 79 := rfl
theorem fn13 : CX.fn 13 = some Tryd.f13 := by kernel_rfl
theorem br13 : CX.byRef 13 = false := rfl
theorem nt13 : Tryd.f13.ntmps = 40 := rfl
theorem fn14 : CX.fn 14 = some Tryd.f14 := by kernel_rfl
theorem br14 : CX.byRef 14 = false := rfl
theorem nt14 : Tryd.f14.ntmps = 58 := rfl
theorem fn15 : CX.fn 15 = some Tryd.f15 := by kernel_rfl
theorem br15 : CX.byRef 15 = false := rfl
theorem nt15 : Tryd.f15.ntmps = 10 := rfl
theorem fn16 : CX.fn 16 = some Tryd.f16 := by kernel_rfl
theorem br16 : CX.byRef 16 = false := rfl
theorem nt16 : Tryd.f16.ntmps = 27 := rfl
theorem fn17 : CX.fn 17 = some Tryd.f17 := by kernel_rfl
theorem br17 : CX.byRef 17 = false := rfl
theorem nt17 : Tryd.f17.ntmps = 25 := rfl
theorem fn18 : CX.fn 18 = some Tryd.f18 := by kernel_rfl
theorem br18 : CX.byRef 18 = false := rfl
theorem nt18 : Tryd.f18.ntmps = 26 := rfl
theorem fn19 : CX.fn 19 = some Tryd.f19 := by kernel_rfl
theorem br19 : CX.byRef 19 = false := rfl
theorem nt19 : Tryd.f19.ntmps = 25 := rfl
theorem fn20 : CX.fn 20 = some Tryd.f20 := by kernel_rfl
theorem br20 : CX.byRef 20 = false := rfl
theorem nt20 : Tryd.f20.ntmps = 23 := rfl
theorem fn21 : CX.fn 21 = some Tryd.f21 := by kernel_rfl
theorem br21 : CX.byRef 21 = false := rfl
theorem nt21 : Tryd.f21.ntmps = 60 := rfl
theorem fn22 : CX.fn 22 = some Tryd.f22 := by kernel_rfl
theorem br22 : CX.byRef 22 = false := rfl
theorem nt22 : Tryd.f22.ntmps = 90 := rfl
theorem fn23 : CX.fn 23 = some Tryd.f23 := by kernel_rfl
theorem br23 : CX.byRef 23 = false := rfl
theorem nt23 : Tryd.f23.ntmps = 10 := rfl
theorem fn24 : CX.fn 24 = some Tryd.f24 := by kernel_rfl
theorem br24 : CX.byRef 24 = false := rfl
theorem nt24 : Tryd.f24.ntmps = 23 := rfl
theorem fn25 : CX.fn 25 = some Tryd.f25 := by kernel_rfl
theorem br25 : CX.byRef 25 = false := rfl
theorem nt25 : Tryd.f25.ntmps = 17 := rfl
theorem fn26 : CX.fn 26 = some Tryd.f26 := by kernel_rfl
theorem br26 : CX.byRef 26 = false := rfl
theorem nt26 : Tryd.f26.ntmps = 25 := rfl
theorem fn27 : CX.fn 27 = some Tryd.f27 := by kernel_rfl
theorem br27 : CX.byRef 27 = false := rfl
theorem nt27 : Tryd.f27.ntmps = 28 := rfl
theorem fn28 : CX.fn 28 = some Tryd.f28 := by kernel_rfl
theorem br28 : CX.byRef 28 = false := rfl
theorem nt28 : Tryd.f28.ntmps = 32 := rfl
theorem fn29 : CX.fn 29 = some Tryd.f29 := by kernel_rfl
theorem br29 : CX.byRef 29 = false := rfl
theorem nt29 : Tryd.f29.ntmps = 27 := rfl
theorem fn30 : CX.fn 30 = some Tryd.f30 := by kernel_rfl
theorem br30 : CX.byRef 30 = false := rfl
theorem nt30 : Tryd.f30.ntmps = 26 := rfl
theorem fn31 : CX.fn 31 = some Tryd.f31 := by kernel_rfl
theorem br31 : CX.byRef 31 = true := rfl
theorem nt31 : Tryd.f31.ntmps = 6 := rfl
theorem fn32 : CX.fn 32 = some Tryd.f32 := by kernel_rfl
theorem br32 : CX.byRef 32 = false := rfl
theorem nt32 : Tryd.f32.ntmps = 23 := rfl
theorem fn33 : CX.fn 33 = some Tryd.f33 := by kernel_rfl
theorem br33 : CX.byRef 33 = false := rfl
theorem nt33 : Tryd.f33.ntmps = 38 := rfl
theorem fn34 : CX.fn 34 = some Tryd.f34 := by kernel_rfl
theorem br34 : CX.byRef 34 = false := rfl
theorem nt34 : Tryd.f34.ntmps = 14 := rfl
theorem fn35 : CX.fn 35 = some Tryd.f35 := by kernel_rfl
theorem br35 : CX.byRef 35 = false := rfl
theorem nt35 : Tryd.f35.ntmps = 14 := rfl
theorem fn36 : CX.fn 36 = some Tryd.f36 := by kernel_rfl
theorem br36 : CX.byRef 36 = false := rfl
theorem nt36 : Tryd.f36.ntmps = 26 := rfl
theorem fn37 : CX.fn 37 = some Tryd.f37 := by kernel_rfl
theorem br37 : CX.byRef 37 = false := rfl
theorem nt37 : Tryd.f37.ntmps = 7 := rfl
theorem fn38 : CX.fn 38 = some Tryd.f38 := by kernel_rfl
theorem br38 : CX.byRef 38 = false := rfl
theorem nt38 : Tryd.f38.ntmps = 18 := rfl
theorem fn39 : CX.fn 39 = some Tryd.f39 := by kernel_rfl
theorem br39 : CX.byRef 39 = false := rfl
theorem nt39 : Tryd.f39.ntmps = 19 := rfl
theorem fn40 : CX.fn 40 = some Tryd.f40 := by kernel_rfl
theorem br40 : CX.byRef 40 = false := rfl
theorem nt40 : Tryd.f40.ntmps = 8 := rfl
theorem fn41 : CX.fn 41 = some Tryd.f41 := by kernel_rfl
theorem br41 : CX.byRef 41 = false := rfl
theorem nt41 : Tryd.f41.ntmps = 9 := rfl
theorem fn42 : CX.fn 42 = some Tryd.f42 := by kernel_rfl
theorem br42 : CX.byRef 42 = false := rfl
theorem nt42 : Tryd.f42.ntmps = 8 := rfl
theorem fn43 : CX.fn 43 = some Tryd.f43 := by kernel_rfl
theorem br43 : CX.byRef 43 = false := rfl
theorem nt43 : Tryd.f43.ntmps = 18 := rfl
theorem fn44 : CX.fn 44 = some Tryd.f44 := by kernel_rfl
theorem br44 : CX.byRef 44 = false := rfl
theorem nt44 : Tryd.f44.ntmps = 51 := rfl
theorem fn45 : CX.fn 45 = some Tryd.f45 := by kernel_rfl
theorem br45 : CX.byRef 45 = false := rfl
theorem nt45 : Tryd.f45.ntmps = 9 := rfl
theorem fn46 : CX.fn 46 = some Tryd.f46 := by kernel_rfl
theorem br46 : CX.byRef 46 = false := rfl
theorem nt46 : Tryd.f46.ntmps = 9 := rfl
theorem fn47 : CX.fn 47 = some Tryd.f47 := by kernel_rfl
theorem br47 : CX.byRef 47 = false := rfl
theorem nt47 : Tryd.f47.ntmps = 19 := rfl
theorem fn48 : CX.fn 48 = some Tryd.f48 := by kernel_rfl
theorem br48 : CX.byRef 48 = false := rfl
theorem nt48 : Tryd.f48.ntmps = 28 := rfl
theorem fn49 : CX.fn 49 = some Tryd.f49 := by kernel_rfl
theorem br49 : CX.byRef 49 = true := rfl
theorem nt49 : Tryd.f49.ntmps = 61 := rfl
theorem fn50 : CX.fn 50 = some Tryd.f50 := by kernel_rfl
theorem br50 : CX.byRef 50 = false := rfl
theorem nt50 : Tryd.f50.ntmps = 9 := rfl
theorem fn51 : CX.fn 51 = some Tryd.f51 := by kernel_rfl
theorem br51 : CX.byRef 51 = true := rfl
theorem nt51 : Tryd.f51.ntmps = 4 := rfl
theorem fn52 : CX.fn 52 = some Tryd.f52 := by kernel_rfl
theorem br52 : CX.byRef 52 = false := rfl
theorem nt52 : Tryd.f52.ntmps = 19 := rfl
theorem fn53 : CX.fn 53 = some Tryd.f53 := by kernel_rfl
theorem br53 : CX.byRef 53 = false := rfl
theorem nt53 : Tryd.f53.ntmps = 19 := rfl
theorem fn54 : CX.fn 54 = some Tryd.f54 := by kernel_rfl
theorem br54 : CX.byRef 54 = false := rfl
theorem nt54 : Tryd.f54.ntmps = 169 := rfl
theorem fn55 : CX.fn 55 = some Tryd.f55 := by kernel_rfl
theorem br55 : CX.byRef 55 = false := rfl
theorem nt55 : Tryd.f55.ntmps = 4 := rfl
theorem fn56 : CX.fn 56 = some Tryd.f56 := by kernel_rfl
theorem br56 : CX.byRef 56 = false := rfl
theorem nt56 : Tryd.f56.ntmps = 65 := rfl
theorem fn57 : CX.fn 57 = some Tryd.f57 := by kernel_rfl
theorem br57 : CX.byRef 57 = false := rfl
theorem nt57 : Tryd.f57.ntmps = 5 := rfl
theorem fn58 : CX.fn 58 = some Tryd.f58 := by kernel_rfl
theorem br58 : CX.byRef 58 = true := rfl
theorem nt58 : Tryd.f58.ntmps = 11 := rfl
theorem fn59 : CX.fn 59 = some Tryd.f59 := by kernel_rfl
theorem br59 : CX.byRef 59 = true := rfl
theorem nt59 : Tryd.f59.ntmps = 16 := rfl
theorem fn60 : CX.fn 60 = some Tryd.f60 := by kernel_rfl
theorem br60 : CX.byRef 60 = false := rfl
theorem nt60 : Tryd.f60.ntmps = 59 := rfl
theorem fn61 : CX.fn 61 = some Tryd.f61 := by kernel_rfl
theorem br61 : CX.byRef 61 = false := rfl
theorem nt61 : Tryd.f61.ntmps = 17 := rfl
theorem fn62 : CX.fn 62 = some Tryd.f62 := by kernel_rfl
theorem br62 : CX.byRef 62 = false := rfl
theorem nt62 : Tryd.f62.ntmps = 17 := rfl
theorem fn63 : CX.fn 63 = some Tryd.f63 := by kernel_rfl
theorem br63 : CX.byRef 63 = false := rfl
theorem nt63 : Tryd.f63.ntmps = 61 := rfl
theorem fn64 : CX.fn 64 = some Tryd.f64 := by kernel_rfl
theorem br64 : CX.byRef 64 = false := rfl
theorem nt64 : Tryd.f64.ntmps = 13 := rfl
theorem fn65 : CX.fn 65 = some Tryd.f65 := by kernel_rfl
theorem br65 : CX.byRef 65 = true := rfl
theorem nt65 : Tryd.f65.ntmps = 134 := rfl
theorem fn66 : CX.fn 66 = some Tryd.f66 := by kernel_rfl
theorem br66 : CX.byRef 66 = false := rfl
theorem nt66 : Tryd.f66.ntmps = 8 := rfl
theorem fn67 : CX.fn 67 = some Tryd.f67 := by kernel_rfl
theorem br67 : CX.byRef 67 = true := rfl
theorem nt67 : Tryd.f67.ntmps = 49 := rfl
theorem fn68 : CX.fn 68 = some Tryd.f68 := by kernel_rfl
theorem br68 : CX.byRef 68 = true := rfl
theorem nt68 : Tryd.f68.ntmps = 56 := rfl
theorem fn69 : CX.fn 69 = some Tryd.f69 := by kernel_rfl
theorem br69 : CX.byRef 69 = true := rfl
theorem nt69 : Tryd.f69.ntmps = 65 := rfl
theorem fn70 : CX.fn 70 = some Tryd.f70 := by kernel_rfl
theorem br70 : CX.byRef 70 = true := rfl
theorem nt70 : Tryd.f70.ntmps = 57 := rfl
theorem fn71 : CX.fn 71 = some Tryd.f71 := by kernel_rfl
theorem br71 : CX.byRef 71 = true := rfl
theorem nt71 : Tryd.f71.ntmps = 32 := rfl
theorem fn72 : CX.fn 72 = some Tryd.f72 := by kernel_rfl
theorem br72 : CX.byRef 72 = true := rfl
theorem nt72 : Tryd.f72.ntmps = 133 := rfl
theorem fn73 : CX.fn 73 = some Tryd.f73 := by kernel_rfl
theorem br73 : CX.byRef 73 = false := rfl
theorem nt73 : Tryd.f73.ntmps = 17 := rfl
theorem fn74 : CX.fn 74 = some Tryd.f74 := by kernel_rfl
theorem br74 : CX.byRef 74 = true := rfl
theorem nt74 : Tryd.f74.ntmps = 84 := rfl
theorem fn75 : CX.fn 75 = some Tryd.f75 := by kernel_rfl
theorem br75 : CX.byRef 75 = true := rfl
theorem nt75 : Tryd.f75.ntmps = 168 := rfl
theorem fn76 : CX.fn 76 = some Tryd.f76 := by kernel_rfl
theorem br76 : CX.byRef 76 = false := rfl
theorem nt76 : Tryd.f76.ntmps = 19 := rfl
theorem fn77 : CX.fn 77 = some Tryd.f77 := by kernel_rfl
theorem br77 : CX.byRef 77 = false := rfl
theorem nt77 : Tryd.f77.ntmps = 25 := rfl
theorem fn78 : CX.fn 78 = some Tryd.f78 := by kernel_rfl
theorem br78 : CX.byRef 78 = true := rfl
theorem nt78 : Tryd.f78.ntmps = 76 := rfl
theorem fn79 : CX.fn 79 = some Tryd.f79 := by kernel_rfl
theorem br79 : CX.byRef 79 = false := rfl
theorem nt79 : Tryd.f79.ntmps = 7 := rfl
theorem fn80 : CX.fn 80 = some Tryd.f80 := by kernel_rfl
theorem br80 : CX.byRef 80 = true := rfl
theorem nt80 : Tryd.f80.ntmps = 33 := rfl
theorem fn81 : CX.fn 81 = some Tryd.f81 := by kernel_rfl
theorem br81 : CX.byRef 81 = true := rfl
theorem nt81 : Tryd.f81.ntmps = 15 := rfl
theorem fn82 : CX.fn 82 = some Tryd.f82 := by kernel_rfl
theorem br82 : CX.byRef 82 = true := rfl
theorem nt82 : Tryd.f82.ntmps = 36 := rfl
theorem fn83 : CX.fn 83 = some Tryd.f83 := by kernel_rfl
theorem br83 : CX.byRef 83 = false := rfl
theorem nt83 : Tryd.f83.ntmps = 6 := rfl
theorem fn84 : CX.fn 84 = some Tryd.f84 := by kernel_rfl
theorem br84 : CX.byRef 84 = true := rfl
theorem nt84 : Tryd.f84.ntmps = 28 := rfl
theorem fz0 : CX.frz "bits.go:304" = false := by kernel_rfl
theorem fz1 : CX.frz "bits.go:306" = false := by kernel_rfl
theorem fz2 : CX.frz "cmp.go:29" = false := by kernel_rfl
theorem fz3 : CX.frz "iter.go:40" = false := by kernel_rfl
theorem fz4 : CX.frz "iter.go:52" = false := by kernel_rfl
theorem fz5 : CX.frz "iter.go:60" = false := by kernel_rfl
theorem fz6 : CX.frz "iter.go:67" = false := by kernel_rfl
theorem fz7 : CX.frz "iter.go:68" = false := by kernel_rfl
theorem fz8 : CX.frz "law.go:103" = true := by kernel_rfl
theorem fz9 : CX.frz "law.go:104" = true := by kernel_rfl
theorem fz10 : CX.frz "law.go:107" = false := by kernel_rfl
theorem fz11 : CX.frz "law.go:111" = true := by kernel_rfl
theorem fz12 : CX.frz "law.go:112" = true := by kernel_rfl
theorem fz13 : CX.frz "law.go:117" = true := by kernel_rfl
theorem fz14 : CX.frz "law.go:118" = true := by kernel_rfl
theorem fz15 : CX.frz "law.go:120" = false := by kernel_rfl
theorem fz16 : CX.frz "law.go:121" = true := by kernel_rfl
theorem fz17 : CX.frz "law.go:124" = true := by kernel_rfl
theorem fz18 : CX.frz "law.go:125" = true := by kernel_rfl
theorem fz19 : CX.frz "law.go:127" = true := by kernel_rfl
theorem fz20 : CX.frz "law.go:13" = false := by kernel_rfl
theorem fz21 : CX.frz "law.go:18" = false := by kernel_rfl
theorem fz22 : CX.frz "law.go:19" = false := by kernel_rfl
theorem fz23 : CX.frz "law.go:20" = false := by kernel_rfl
theorem fz24 : CX.frz "law.go:22" = false := by kernel_rfl
theorem fz25 : CX.frz "law.go:36" = true := by kernel_rfl
theorem fz26 : CX.frz "law.go:40" = true := by kernel_rfl
theorem fz27 : CX.frz "law.go:41" = true := by kernel_rfl
theorem fz28 : CX.frz "law.go:43" = true := by kernel_rfl
theorem fz29 : CX.frz "law.go:48" = true := by kernel_rfl
theorem fz30 : CX.frz "law.go:49" = true := by kernel_rfl
theorem fz31 : CX.frz "law.go:51" = true := by kernel_rfl
theorem fz32 : CX.frz "law.go:56" = true := by kernel_rfl
theorem fz33 : CX.frz "law.go:57" = true := by kernel_rfl
theorem fz34 : CX.frz "law.go:59" = true := by kernel_rfl
theorem fz35 : CX.frz "law.go:60" = true := by kernel_rfl
theorem fz36 : CX.frz "law.go:61" = true := by kernel_rfl
theorem fz37 : CX.frz "law.go:66" = true := by kernel_rfl
theorem fz38 : CX.frz "law.go:67" = true := by kernel_rfl
theorem fz39 : CX.frz "law.go:69" = true := by kernel_rfl
theorem fz40 : CX.frz "law.go:74" = true := by kernel_rfl
theorem fz41 : CX.frz "law.go:75" = true := by kernel_rfl
theorem fz42 : CX.frz "law.go:80" = true := by kernel_rfl
theorem fz43 : CX.frz "law.go:82" = true := by kernel_rfl
theorem fz44 : CX.frz "law.go:84" = true := by kernel_rfl
theorem fz45 : CX.frz "law.go:85" = true := by kernel_rfl
theorem fz46 : CX.frz "law.go:86" = true := by kernel_rfl
theorem fz47 : CX.frz "law.go:89" = true := by kernel_rfl
theorem fz48 : CX.frz "law.go:94" = true := by kernel_rfl
theorem fz49 : CX.frz "law.go:95" = true := by kernel_rfl
theorem fz50 : CX.frz "law.go:98" = true := by kernel_rfl
theorem fz51 : CX.frz "media.go:27" = false := by kernel_rfl
theorem fz52 : CX.frz "media.go:30" = false := by kernel_rfl
theorem fz53 : CX.frz "num.go:35" = false := by kernel_rfl
theorem fz54 : CX.frz "phoneme.go:19" = false := by kernel_rfl
theorem fz55 : CX.frz "phoneme.go:21" = false := by kernel_rfl
theorem fz56 : CX.frz "phoneme.go:35" = false := by kernel_rfl
theorem fz57 : CX.frz "phoneme.go:42" = false := by kernel_rfl
theorem fz58 : CX.frz "phoneme.go:43" = false := by kernel_rfl
theorem fz59 : CX.frz "phoneme.go:53" = false := by kernel_rfl
theorem fz60 : CX.frz "phoneme.go:66" = false := by kernel_rfl
theorem fz61 : CX.frz "phoneme.go:71" = false := by kernel_rfl
theorem fz62 : CX.frz "phoneme.go:81" = false := by kernel_rfl
theorem fz63 : CX.frz "phoneme.go:91" = false := by kernel_rfl
theorem fz64 : CX.frz "ref.go:106" = false := by kernel_rfl
theorem fz65 : CX.frz "ref.go:108" = false := by kernel_rfl
theorem fz66 : CX.frz "ref.go:109" = false := by kernel_rfl
theorem fz67 : CX.frz "ref.go:119" = false := by kernel_rfl
theorem fz68 : CX.frz "ref.go:120" = false := by kernel_rfl
theorem fz69 : CX.frz "ref.go:14" = false := by kernel_rfl
theorem fz70 : CX.frz "ref.go:16" = false := by kernel_rfl
theorem fz71 : CX.frz "ref.go:18" = false := by kernel_rfl
theorem fz72 : CX.frz "ref.go:20" = false := by kernel_rfl
theorem fz73 : CX.frz "ref.go:28" = false := by kernel_rfl
theorem fz74 : CX.frz "ref.go:36" = false := by kernel_rfl
theorem fz75 : CX.frz "ref.go:43" = false := by kernel_rfl
theorem fz76 : CX.frz "ref.go:44" = false := by kernel_rfl
theorem fz77 : CX.frz "ref.go:53" = false := by kernel_rfl
theorem fz78 : CX.frz "ref.go:55" = false := by kernel_rfl
theorem fz79 : CX.frz "ref.go:59" = false := by kernel_rfl
theorem fz80 : CX.frz "ref.go:66" = false := by kernel_rfl
theorem fz81 : CX.frz "ref.go:69" = false := by kernel_rfl
theorem fz82 : CX.frz "ref.go:73" = false := by kernel_rfl
theorem fz83 : CX.frz "ref.go:80" = false := by kernel_rfl
theorem fz84 : CX.frz "ref.go:95" = false := by kernel_rfl
theorem fz85 : CX.frz "runes.go:14" = false := by kernel_rfl
theorem fz86 : CX.frz "runes.go:26" = false := by kernel_rfl
theorem fz87 : CX.frz "runes.go:30" = false := by kernel_rfl
theorem fz88 : CX.frz "runes.go:31" = false := by kernel_rfl
theorem fz89 : CX.frz "slices.go:109" = false := by kernel_rfl
theorem fz90 : CX.frz "slices.go:125" = false := by kernel_rfl
theorem fz91 : CX.frz "sort.go:18" = false := by kernel_rfl
theorem fz92 : CX.frz "sort.go:189" = false := by kernel_rfl
theorem fz93 : CX.frz "utf8.go:531" = false := by kernel_rfl
theorem fz94 : CX.frz "utf8.go:533" = false := by kernel_rfl
theorem fz95 : CX.frz "utf8.go:535" = false := by kernel_rfl
theorem fz96 : CX.frz "zsortordered.go:103" = false := by kernel_rfl
theorem fz97 : CX.frz "zsortordered.go:110" = false := by kernel_rfl
theorem fz98 : CX.frz "zsortordered.go:111" = false := by kernel_rfl
theorem fz99 : CX.frz "zsortordered.go:116" = false := by kernel_rfl
theorem fz100 : CX.frz "zsortordered.go:123" = false := by kernel_rfl
theorem fz101 : CX.frz "zsortordered.go:127" = false := by kernel_rfl
theorem fz102 : CX.frz "zsortordered.go:14" = false := by kernel_rfl
theorem fz103 : CX.frz "zsortordered.go:141" = false := by kernel_rfl
theorem fz104 : CX.frz "zsortordered.go:144" = false := by kernel_rfl
theorem fz105 : CX.frz "zsortordered.go:156" = false := by kernel_rfl
theorem fz106 : CX.frz "zsortordered.go:159" = false := by kernel_rfl
theorem fz107 : CX.frz "zsortordered.go:180" = false := by kernel_rfl
theorem fz108 : CX.frz "zsortordered.go:183" = false := by kernel_rfl
theorem fz109 : CX.frz "zsortordered.go:204" = false := by kernel_rfl
theorem fz110 : CX.frz "zsortordered.go:221" = false := by kernel_rfl
theorem fz111 : CX.frz "zsortordered.go:230" = false := by kernel_rfl
theorem fz112 : CX.frz "zsortordered.go:246" = false := by kernel_rfl
theorem fz113 : CX.frz "zsortordered.go:249" = false := by kernel_rfl
theorem fz114 : CX.frz "zsortordered.go:281" = false := by kernel_rfl
theorem fz115 : CX.frz "zsortordered.go:282" = false := by kernel_rfl
theorem fz116 : CX.frz "zsortordered.go:283" = false := by kernel_rfl
theorem fz117 : CX.frz "zsortordered.go:286" = false := by kernel_rfl
theorem fz118 : CX.frz "zsortordered.go:29" = false := by kernel_rfl
theorem fz119 : CX.frz "zsortordered.go:301" = false := by kernel_rfl
theorem fz120 : CX.frz "zsortordered.go:310" = false := by kernel_rfl
theorem fz121 : CX.frz "zsortordered.go:311" = false := by kernel_rfl
theorem fz122 : CX.frz "zsortordered.go:312" = false := by kernel_rfl
theorem fz123 : CX.frz "zsortordered.go:318" = false := by kernel_rfl
theorem fz124 : CX.frz "zsortordered.go:32" = false := by kernel_rfl
theorem fz125 : CX.frz "zsortordered.go:47" = false := by kernel_rfl
theorem fz126 : CX.frz "zsortordered.go:53" = false := by kernel_rfl
theorem fz127 : CX.frz "zsortordered.go:75" = false := by kernel_rfl
theorem fz128 : CX.frz "zsortordered.go:81" = false := by kernel_rfl
theorem fz129 : CX.frz "zsortordered.go:87" = false := by kernel_rfl
theorem fz130 : CX.frz "zsortordered.go:91" = false := by kernel_rfl
theorem fz131 : CX.frz "zsortordered.go:93" = false := by kernel_rfl
theorem eq30 : CX.eqT 30 = some [.int, .int] := rfl
end Go.Eng
