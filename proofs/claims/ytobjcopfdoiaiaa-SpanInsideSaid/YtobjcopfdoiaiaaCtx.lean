/- The tables of types and functions of this translation. -/
import Derived.Test.YtobjcopfdoiaiaaProg
import Derived.Test.YtobjcopfdoiaiaaEngU
import Derived.KernelRfl
namespace Go.Eng
open Go.Proofs
def tys : List (Option TyI) := [
none,
  some ⟨1, false, 8, [(.flat .nilFunc)], .other⟩,
  some ⟨1, false, 8, [(.int .i64 0)], (.int .i64)⟩,
  some ⟨1, false, 8, [(.int .i64 0)], (.int .i64)⟩,
  some ⟨1, false, 1, [(.bool false)], .bool⟩,
  some ⟨1, false, 1, [(.int .u8 0)], (.int .u8)⟩,
  some ⟨1, false, 1, [(.int .u8 0)], (.int .u8)⟩,
  some ⟨4, true, 24, [(.int .i64 0), (.int .i64 0), (.bool false), (.int .u8 0)], (.struct [(0, 2), (1, 3), (2, 4), (3, 6)])⟩,
  some ⟨4, true, 24, [(.int .i64 0), (.int .i64 0), (.bool false), (.int .u8 0)], (.struct [(0, 2), (1, 3), (2, 4), (3, 6)])⟩,
  some ⟨1, false, 16, [(.str .empty)], .str⟩,
  some ⟨1, false, 16, [(.str .empty)], .str⟩,
  some ⟨1, false, 16, [(.str .empty)], .str⟩,
  some ⟨1, false, 8, [(.int .u64 0)], (.int .u64)⟩,
  some ⟨2, true, 24, [(.str .empty), (.int .u64 0)], (.struct [(0, 9), (1, 12)])⟩,
  some ⟨2, true, 24, [(.str .empty), (.int .u64 0)], (.struct [(0, 9), (1, 12)])⟩,
  some ⟨1, false, 8, [(.flat (.pointer none))], .other⟩,
  some ⟨1, false, 8, [(.flat (.pointer none))], .other⟩,
  some ⟨1, false, 8, [(.flat (.pointer none))], .other⟩,
  some ⟨1, true, 8, [(.flat (.pointer none))], (.struct [(0, 17)])⟩,
  some ⟨1, true, 8, [(.flat (.pointer none))], (.struct [(0, 17)])⟩,
  some ⟨1, false, 16, [(.flat .nilIface)], .other⟩,
  some ⟨1, false, 4, [(.int .i32 0)], (.int .i32)⟩,
  some ⟨2, true, 16, [(.int .i64 0), (.int .i64 0)], (.struct [(0, 3), (1, 3)])⟩,
  some ⟨2, true, 16, [(.int .i64 0), (.int .i64 0)], (.struct [(0, 3), (1, 3)])⟩,
  some ⟨1, false, 8, [(.flat .nilFunc)], .other⟩,
  some ⟨1, false, 8, [(.flat .nilFunc)], .other⟩,
  some ⟨1, false, 8, [(.flat .nilFunc)], .other⟩,
  some ⟨1, false, 8, [(.flat .nilFunc)], .other⟩,
  some ⟨1, false, 8, [(.flat .nilFunc)], .other⟩,
  some ⟨1, false, 8, [(.flat .nilFunc)], .other⟩,
  some ⟨1, false, 24, [(.flat (.slice none 0 0))], (.slice 23)⟩,
  some ⟨1, false, 8, [(.flat .nilFunc)], .other⟩,
  some ⟨1, false, 8, [(.flat .nilFunc)], .other⟩,
  some ⟨1, false, 8, [(.flat .nilFunc)], .other⟩,
  some ⟨1, false, 8, [(.flat .nilFunc)], .other⟩,
  some ⟨1, false, 8, [(.flat .nilFunc)], .other⟩,
  some ⟨1, false, 8, [(.flat .nilFunc)], .other⟩,
  some ⟨1, false, 8, [(.flat .nilFunc)], .other⟩,
  some ⟨1, false, 8, [(.flat .nilFunc)], .other⟩,
  some ⟨1, false, 8, [(.flat .nilFunc)], .other⟩,
  some ⟨1, false, 8, [(.flat .nilFunc)], .other⟩,
  some ⟨1, false, 8, [(.flat .nilFunc)], .other⟩,
  some ⟨1, false, 8, [(.flat .nilFunc)], .other⟩,
  some ⟨1, false, 8, [(.flat .nilFunc)], .other⟩,
  some ⟨1, false, 8, [(.flat .nilFunc)], .other⟩,
  some ⟨1, false, 8, [(.flat .nilFunc)], .other⟩,
  some ⟨1, false, 8, [(.flat .nilFunc)], .other⟩,
  some ⟨1, false, 8, [(.flat .nilFunc)], .other⟩,
  some ⟨1, false, 8, [(.int .u64 0)], (.int .u64)⟩,
  some ⟨1, false, 8, [(.flat .nilFunc)], .other⟩,
  some ⟨1, false, 8, [(.int .i64 0)], (.int .i64)⟩,
  none,
  some ⟨1, false, 8, [(.flat .nilFunc)], .other⟩,
  some ⟨1, false, 8, [(.flat .nilFunc)], .other⟩,
  some ⟨1, false, 8, [(.flat .nilFunc)], .other⟩,
  none,
  some ⟨1, false, 8, [(.flat .nilFunc)], .other⟩,
  some ⟨1, false, 8, [(.flat .nilFunc)], .other⟩,
  some ⟨1, false, 4, [(.int .u32 0)], (.int .u32)⟩,
  some ⟨1, false, 8, [(.flat .nilFunc)], .other⟩,
  some ⟨1, false, 8, [(.int .u64 0)], (.int .u64)⟩,
  some ⟨1, false, 8, [(.int .u64 0)], (.int .u64)⟩,
  some ⟨1, false, 8, [(.flat .nilFunc)], .other⟩,
  some ⟨1, false, 8, [(.flat .nilFunc)], .other⟩,
  some ⟨1, false, 8, [(.flat .nilFunc)], .other⟩,
  some ⟨1, false, 8, [(.flat (.pointer none))], .other⟩,
  some ⟨1, false, 8, [(.flat .nilFunc)], .other⟩,
  some ⟨1, false, 8, [(.flat (.pointer none))], .other⟩,
  none,
  some ⟨1, false, 8, [(.flat .nilFunc)], .other⟩,
  some ⟨1, false, 8, [(.flat .nilFunc)], .other⟩,
  some ⟨4, true, 40, [(.flat (.pointer none)), (.flat (.pointer none)), (.flat (.pointer none)), (.str .empty)], (.struct [(0, 17), (1, 17), (2, 17), (3, 9)])⟩,
  some ⟨4, true, 40, [(.flat (.pointer none)), (.flat (.pointer none)), (.flat (.pointer none)), (.str .empty)], (.struct [(0, 17), (1, 17), (2, 17), (3, 9)])⟩,
  some ⟨0, true, 0, [], (.array 0 16)⟩,
  some ⟨0, true, 0, [], (.struct [(0, 73)])⟩,
  some ⟨0, true, 0, [], (.struct [(0, 73)])⟩,
  some ⟨1, false, 8, [(.flat .nilFunc)], .other⟩,
  some ⟨1, false, 1, [(.int .u8 0)], (.int .u8)⟩,
  some ⟨1, false, 1, [(.int .u8 0)], (.int .u8)⟩,
  some ⟨1, false, 8, [(.flat .nilFunc)], .other⟩,
  some ⟨1, false, 8, [(.flat (.pointer none))], .other⟩,
  some ⟨1, false, 4, [(.int .i32 0)], (.int .i32)⟩,
  some ⟨1, false, 4, [(.int .i32 0)], (.int .i32)⟩,
  some ⟨11, true, 48, [(.int .u64 0), (.int .u64 0), (.int .u32 0), (.int .u8 0), (.int .u8 0), (.int .u8 0), (.int .u8 0), (.flat .nilFunc), (.flat (.pointer none)), (.int .i32 0), (.int .i32 0)], (.struct [(0, 12), (1, 12), (2, 58), (3, 77), (4, 5), (5, 5), (6, 78), (7, 79), (8, 80), (9, 81), (10, 82)])⟩,
  some ⟨11, true, 48, [(.int .u64 0), (.int .u64 0), (.int .u32 0), (.int .u8 0), (.int .u8 0), (.int .u8 0), (.int .u8 0), (.flat .nilFunc), (.flat (.pointer none)), (.int .i32 0), (.int .i32 0)], (.struct [(0, 12), (1, 12), (2, 58), (3, 77), (4, 5), (5, 5), (6, 78), (7, 79), (8, 80), (9, 81), (10, 82)])⟩,
  some ⟨1, false, 8, [(.flat (.pointer none))], .other⟩]
def tab : Tab := { tys := tys, fns := [3, 4, 5, 6, 7, 8, 9, 10, 11, 12, 13, 14, 15, 16, 17, 18, 19, 20, 21, 22, 23, 24, 25, 26, 27, 28, 29, 30, 31, 32, 33, 34, 35, 36, 37, 38, 39, 40, 41, 42, 43, 44, 45, 46, 47, 48, 49, 50, 51, 52, 53, 54, 55, 56, 57, 58, 59, 60, 61, 62, 63, 64], refs := [36, 39, 47, 49, 50, 51, 52, 53, 54, 55, 56, 59, 61, 62, 63, 64], clones := [(37, 30, 23, 4)], eqs := [(23, [.int, .int])], seqs := [], trues := [16], frz := [[108, 97, 119, 46, 103, 111, 58, 49, 48, 48], [108, 97, 119, 46, 103, 111, 58, 49, 48, 57], [108, 97, 119, 46, 103, 111, 58, 49, 49, 52], [108, 97, 119, 46, 103, 111, 58, 49, 49, 55], [108, 97, 119, 46, 103, 111, 58, 52, 54], [108, 97, 119, 46, 103, 111, 58, 53, 48], [108, 97, 119, 46, 103, 111, 58, 53, 52], [108, 97, 119, 46, 103, 111, 58, 53, 53], [108, 97, 119, 46, 103, 111, 58, 53, 54], [108, 97, 119, 46, 103, 111, 58, 53, 56], [108, 97, 119, 46, 103, 111, 58, 54, 51], [108, 97, 119, 46, 103, 111, 58, 54, 56], [108, 97, 119, 46, 103, 111, 58, 54, 57], [108, 97, 119, 46, 103, 111, 58, 55, 49], [108, 97, 119, 46, 103, 111, 58, 55, 55], [108, 97, 119, 46, 103, 111, 58, 55, 57], [108, 97, 119, 46, 103, 111, 58, 56, 52], [108, 97, 119, 46, 103, 111, 58, 56, 53], [108, 97, 119, 46, 103, 111, 58, 56, 55], [108, 97, 119, 46, 103, 111, 58, 56, 56], [108, 97, 119, 46, 103, 111, 58, 57, 49], [108, 97, 119, 46, 103, 111, 58, 57, 54], [108, 97, 119, 46, 103, 111, 58, 57, 55], [108, 97, 119, 46, 103, 111, 58, 57, 57]] }
def tabA : Tab := { tys := tys, fns := [3, 4, 5, 6, 7, 8, 9, 10, 11, 12, 13, 14, 15, 16, 17, 18, 19, 20, 21, 22, 23, 24, 25, 26, 27, 28, 29, 30, 31, 32, 33, 34, 35, 36, 37, 38, 39, 40, 41, 42, 43, 44, 45, 46, 47, 48, 49, 50, 51, 52, 53, 54, 55, 56, 57, 58, 59, 60, 61, 62, 63, 64], refs := [36, 39, 47, 49, 50, 51, 52, 53, 54, 55, 56, 59, 61, 62, 63, 64], clones := [(37, 30, 23, 4)], eqs := [(23, [.int, .int])], seqs := [], trues := [], frz := [[108, 97, 119, 46, 103, 111, 58, 49, 51], [108, 97, 119, 46, 103, 111, 58, 49, 52], [108, 97, 119, 46, 103, 111, 58, 49, 53]] }
noncomputable def CX : Ctx := mkC tab Try.prog
/-- For the run of the examples: slices that are written out there stand as they are. -/
noncomputable def CXA : Ctx := mkC tabA Try.prog
theorem ty1 : CX.ty 1 = some ⟨1, false, 8, [(.flat .nilFunc)], .other⟩ := rfl
theorem ty2 : CX.ty 2 = some ⟨1, false, 8, [(.int .i64 0)], (.int .i64)⟩ := rfl
theorem ty3 : CX.ty 3 = some ⟨1, false, 8, [(.int .i64 0)], (.int .i64)⟩ := rfl
theorem ty4 : CX.ty 4 = some ⟨1, false, 1, [(.bool false)], .bool⟩ := rfl
theorem ty5 : CX.ty 5 = some ⟨1, false, 1, [(.int .u8 0)], (.int .u8)⟩ := rfl
theorem ty6 : CX.ty 6 = some ⟨1, false, 1, [(.int .u8 0)], (.int .u8)⟩ := rfl
theorem ty7 : CX.ty 7 = some ⟨4, true, 24, [(.int .i64 0), (.int .i64 0), (.bool false), (.int .u8 0)], (.struct [(0, 2), (1, 3), (2, 4), (3, 6)])⟩ := rfl
theorem ty8 : CX.ty 8 = some ⟨4, true, 24, [(.int .i64 0), (.int .i64 0), (.bool false), (.int .u8 0)], (.struct [(0, 2), (1, 3), (2, 4), (3, 6)])⟩ := rfl
theorem ty9 : CX.ty 9 = some ⟨1, false, 16, [(.str .empty)], .str⟩ := rfl
theorem ty10 : CX.ty 10 = some ⟨1, false, 16, [(.str .empty)], .str⟩ := rfl
theorem ty11 : CX.ty 11 = some ⟨1, false, 16, [(.str .empty)], .str⟩ := rfl
theorem ty12 : CX.ty 12 = some ⟨1, false, 8, [(.int .u64 0)], (.int .u64)⟩ := rfl
theorem ty13 : CX.ty 13 = some ⟨2, true, 24, [(.str .empty), (.int .u64 0)], (.struct [(0, 9), (1, 12)])⟩ := rfl
theorem ty14 : CX.ty 14 = some ⟨2, true, 24, [(.str .empty), (.int .u64 0)], (.struct [(0, 9), (1, 12)])⟩ := rfl
theorem ty15 : CX.ty 15 = some ⟨1, false, 8, [(.flat (.pointer none))], .other⟩ := rfl
theorem ty16 : CX.ty 16 = some ⟨1, false, 8, [(.flat (.pointer none))], .other⟩ := rfl
theorem ty17 : CX.ty 17 = some ⟨1, false, 8, [(.flat (.pointer none))], .other⟩ := rfl
theorem ty18 : CX.ty 18 = some ⟨1, true, 8, [(.flat (.pointer none))], (.struct [(0, 17)])⟩ := rfl
theorem ty19 : CX.ty 19 = some ⟨1, true, 8, [(.flat (.pointer none))], (.struct [(0, 17)])⟩ := rfl
theorem ty20 : CX.ty 20 = some ⟨1, false, 16, [(.flat .nilIface)], .other⟩ := rfl
theorem ty21 : CX.ty 21 = some ⟨1, false, 4, [(.int .i32 0)], (.int .i32)⟩ := rfl
theorem ty22 : CX.ty 22 = some ⟨2, true, 16, [(.int .i64 0), (.int .i64 0)], (.struct [(0, 3), (1, 3)])⟩ := rfl
theorem ty23 : CX.ty 23 = some ⟨2, true, 16, [(.int .i64 0), (.int .i64 0)], (.struct [(0, 3), (1, 3)])⟩ := rfl
theorem ty24 : CX.ty 24 = some ⟨1, false, 8, [(.flat .nilFunc)], .other⟩ := rfl
theorem ty25 : CX.ty 25 = some ⟨1, false, 8, [(.flat .nilFunc)], .other⟩ := rfl
theorem ty26 : CX.ty 26 = some ⟨1, false, 8, [(.flat .nilFunc)], .other⟩ := rfl
theorem ty27 : CX.ty 27 = some ⟨1, false, 8, [(.flat .nilFunc)], .other⟩ := rfl
theorem ty28 : CX.ty 28 = some ⟨1, false, 8, [(.flat .nilFunc)], .other⟩ := rfl
theorem ty29 : CX.ty 29 = some ⟨1, false, 8, [(.flat .nilFunc)], .other⟩ := rfl
theorem ty30 : CX.ty 30 = some ⟨1, false, 24, [(.flat (.slice none 0 0))], (.slice 23)⟩ := rfl
theorem ty31 : CX.ty 31 = some ⟨1, false, 8, [(.flat .nilFunc)], .other⟩ := rfl
theorem ty32 : CX.ty 32 = some ⟨1, false, 8, [(.flat .nilFunc)], .other⟩ := rfl
theorem ty33 : CX.ty 33 = some ⟨1, false, 8, [(.flat .nilFunc)], .other⟩ := rfl
theorem ty34 : CX.ty 34 = some ⟨1, false, 8, [(.flat .nilFunc)], .other⟩ := rfl
theorem ty35 : CX.ty 35 = some ⟨1, false, 8, [(.flat .nilFunc)], .other⟩ := rfl
theorem ty36 : CX.ty 36 = some ⟨1, false, 8, [(.flat .nilFunc)], .other⟩ := rfl
theorem ty37 : CX.ty 37 = some ⟨1, false, 8, [(.flat .nilFunc)], .other⟩ := rfl
theorem ty38 : CX.ty 38 = some ⟨1, false, 8, [(.flat .nilFunc)], .other⟩ := rfl
theorem ty39 : CX.ty 39 = some ⟨1, false, 8, [(.flat .nilFunc)], .other⟩ := rfl
theorem ty40 : CX.ty 40 = some ⟨1, false, 8, [(.flat .nilFunc)], .other⟩ := rfl
theorem ty41 : CX.ty 41 = some ⟨1, false, 8, [(.flat .nilFunc)], .other⟩ := rfl
theorem ty42 : CX.ty 42 = some ⟨1, false, 8, [(.flat .nilFunc)], .other⟩ := rfl
theorem ty43 : CX.ty 43 = some ⟨1, false, 8, [(.flat .nilFunc)], .other⟩ := rfl
theorem ty44 : CX.ty 44 = some ⟨1, false, 8, [(.flat .nilFunc)], .other⟩ := rfl
theorem ty45 : CX.ty 45 = some ⟨1, false, 8, [(.flat .nilFunc)], .other⟩ := rfl
theorem ty46 : CX.ty 46 = some ⟨1, false, 8, [(.flat .nilFunc)], .other⟩ := rfl
theorem ty47 : CX.ty 47 = some ⟨1, false, 8, [(.flat .nilFunc)], .other⟩ := rfl
theorem ty48 : CX.ty 48 = some ⟨1, false, 8, [(.int .u64 0)], (.int .u64)⟩ := rfl
theorem ty49 : CX.ty 49 = some ⟨1, false, 8, [(.flat .nilFunc)], .other⟩ := rfl
theorem ty50 : CX.ty 50 = some ⟨1, false, 8, [(.int .i64 0)], (.int .i64)⟩ := rfl
theorem ty52 : CX.ty 52 = some ⟨1, false, 8, [(.flat .nilFunc)], .other⟩ := rfl
theorem ty53 : CX.ty 53 = some ⟨1, false, 8, [(.flat .nilFunc)], .other⟩ := rfl
theorem ty54 : CX.ty 54 = some ⟨1, false, 8, [(.flat .nilFunc)], .other⟩ := rfl
theorem ty56 : CX.ty 56 = some ⟨1, false, 8, [(.flat .nilFunc)], .other⟩ := rfl
theorem ty57 : CX.ty 57 = some ⟨1, false, 8, [(.flat .nilFunc)], .other⟩ := rfl
theorem ty58 : CX.ty 58 = some ⟨1, false, 4, [(.int .u32 0)], (.int .u32)⟩ := rfl
theorem ty59 : CX.ty 59 = some ⟨1, false, 8, [(.flat .nilFunc)], .other⟩ := rfl
theorem ty60 : CX.ty 60 = some ⟨1, false, 8, [(.int .u64 0)], (.int .u64)⟩ := rfl
theorem ty61 : CX.ty 61 = some ⟨1, false, 8, [(.int .u64 0)], (.int .u64)⟩ := rfl
theorem ty62 : CX.ty 62 = some ⟨1, false, 8, [(.flat .nilFunc)], .other⟩ := rfl
theorem ty63 : CX.ty 63 = some ⟨1, false, 8, [(.flat .nilFunc)], .other⟩ := rfl
theorem ty64 : CX.ty 64 = some ⟨1, false, 8, [(.flat .nilFunc)], .other⟩ := rfl
theorem ty65 : CX.ty 65 = some ⟨1, false, 8, [(.flat (.pointer none))], .other⟩ := rfl
theorem ty66 : CX.ty 66 = some ⟨1, false, 8, [(.flat .nilFunc)], .other⟩ := rfl
theorem ty67 : CX.ty 67 = some ⟨1, false, 8, [(.flat (.pointer none))], .other⟩ := rfl
theorem ty69 : CX.ty 69 = some ⟨1, false, 8, [(.flat .nilFunc)], .other⟩ := rfl
theorem ty70 : CX.ty 70 = some ⟨1, false, 8, [(.flat .nilFunc)], .other⟩ := rfl
theorem ty71 : CX.ty 71 = some ⟨4, true, 40, [(.flat (.pointer none)), (.flat (.pointer none)), (.flat (.pointer none)), (.str .empty)], (.struct [(0, 17), (1, 17), (2, 17), (3, 9)])⟩ := rfl
theorem ty72 : CX.ty 72 = some ⟨4, true, 40, [(.flat (.pointer none)), (.flat (.pointer none)), (.flat (.pointer none)), (.str .empty)], (.struct [(0, 17), (1, 17), (2, 17), (3, 9)])⟩ := rfl
theorem ty73 : CX.ty 73 = some ⟨0, true, 0, [], (.array 0 16)⟩ := rfl
theorem ty74 : CX.ty 74 = some ⟨0, true, 0, [], (.struct [(0, 73)])⟩ := rfl
theorem ty75 : CX.ty 75 = some ⟨0, true, 0, [], (.struct [(0, 73)])⟩ := rfl
theorem ty76 : CX.ty 76 = some ⟨1, false, 8, [(.flat .nilFunc)], .other⟩ := rfl
theorem ty77 : CX.ty 77 = some ⟨1, false, 1, [(.int .u8 0)], (.int .u8)⟩ := rfl
theorem ty78 : CX.ty 78 = some ⟨1, false, 1, [(.int .u8 0)], (.int .u8)⟩ := rfl
theorem ty79 : CX.ty 79 = some ⟨1, false, 8, [(.flat .nilFunc)], .other⟩ := rfl
theorem ty80 : CX.ty 80 = some ⟨1, false, 8, [(.flat (.pointer none))], .other⟩ := rfl
theorem ty81 : CX.ty 81 = some ⟨1, false, 4, [(.int .i32 0)], (.int .i32)⟩ := rfl
theorem ty82 : CX.ty 82 = some ⟨1, false, 4, [(.int .i32 0)], (.int .i32)⟩ := rfl
theorem ty83 : CX.ty 83 = some ⟨11, true, 48, [(.int .u64 0), (.int .u64 0), (.int .u32 0), (.int .u8 0), (.int .u8 0), (.int .u8 0), (.int .u8 0), (.flat .nilFunc), (.flat (.pointer none)), (.int .i32 0), (.int .i32 0)], (.struct [(0, 12), (1, 12), (2, 58), (3, 77), (4, 5), (5, 5), (6, 78), (7, 79), (8, 80), (9, 81), (10, 82)])⟩ := rfl
theorem ty84 : CX.ty 84 = some ⟨11, true, 48, [(.int .u64 0), (.int .u64 0), (.int .u32 0), (.int .u8 0), (.int .u8 0), (.int .u8 0), (.int .u8 0), (.flat .nilFunc), (.flat (.pointer none)), (.int .i32 0), (.int .i32 0)], (.struct [(0, 12), (1, 12), (2, 58), (3, 77), (4, 5), (5, 5), (6, 78), (7, 79), (8, 80), (9, 81), (10, 82)])⟩ := rfl
theorem ty85 : CX.ty 85 = some ⟨1, false, 8, [(.flat (.pointer none))], .other⟩ := rfl
theorem fn3 : CX.fn 3 = some Try.f3 := by kernel_rfl
theorem br3 : CX.byRef 3 = false := rfl
theorem nt3 : Try.f3.ntmps = 22 := rfl
theorem fn4 : CX.fn 4 = some Try.f4 := by kernel_rfl
theorem br4 : CX.byRef 4 = false := rfl
theorem nt4 : Try.f4.ntmps = 11 := rfl
theorem fn5 : CX.fn 5 = some Try.f5 := by kernel_rfl
theorem br5 : CX.byRef 5 = false := rfl
theorem nt5 : Try.f5.ntmps = 65 := rfl
theorem fn6 : CX.fn 6 = some Try.f6 := by kernel_rfl
theorem br6 : CX.byRef 6 = false := rfl
theorem nt6 : Try.f6.ntmps = 17 := rfl
theorem fn7 : CX.fn 7 = some Try.f7 := by kernel_rfl
theorem br7 : CX.byRef 7 = false := rfl
theorem nt7 : Try.f7.ntmps = 33 := rfl
theorem fn8 : CX.fn 8 = some Try.f8 := by kernel_rfl
theorem br8 : CX.byRef 8 = false := rfl
theorem nt8 : Try.f8.ntmps = 28 := rfl
theorem fn9 : CX.fn 9 = some Try.f9 := by kernel_rfl
theorem br9 : CX.byRef 9 = false := rfl
theorem nt9 : Try.f9.ntmps = 80 := rfl
theorem fn10 : CX.fn 10 = some Try.f10 := by kernel_rfl
theorem br10 : CX.byRef 10 = false := rfl
theorem nt10 : Try.f10.ntmps = 63 := rfl
theorem fn11 : CX.fn 11 = some Try.f11 := by kernel_rfl
theorem br11 : CX.byRef 11 = false := rfl
theorem nt11 : Try.f11.ntmps = 57 := rfl
theorem fn12 : CX.fn 12 = some Try.f12 := by kernel_rfl
theorem br12 : CX.byRef 12 = false := rfl
theorem nt12 : Try.f12.ntmps = 18 := rfl
theorem fn13 : CX.fn 13 = some Try.f13 := by kernel_rfl
theorem br13 : CX.byRef 13 = false := rfl
theorem nt13 : Try.f13.ntmps = 18 := rfl
theorem fn14 : CX.fn 14 = some Try.f14 := by kernel_rfl
theorem br14 : CX.byRef 14 = false := rfl
theorem nt14 : Try.f14.ntmps = 97 := rfl
theorem fn15 : CX.fn 15 = some Try.f15 := by kernel_rfl
theorem br15 : CX.byRef 15 = false := rfl
theorem nt15 : Try.f15.ntmps = 24 := rfl
theorem fn16 : CX.fn 16 = some Try.f16 := by kernel_rfl
theorem br16 : CX.byRef 16 = false := rfl
theorem nt16 : Try.f16.ntmps = 69 := rfl
theorem fn17 : CX.fn 17 = some Try.f17 := by kernel_rfl
theorem br17 : CX.byRef 17 = false := rfl
theorem nt17 : Try.f17.ntmps = 11 := rfl
theorem fn18 : CX.fn 18 = some Try.f18 := by kernel_rfl
theorem br18 : CX.byRef 18 = false := rfl
theorem nt18 : Try.f18.ntmps = 11 := rfl
theorem fn19 : CX.fn 19 = some Try.f19 := by kernel_rfl
theorem br19 : CX.byRef 19 = false := rfl
theorem nt19 : Try.f19.ntmps = 26 := rfl
theorem fn20 : CX.fn 20 = some Try.f20 := by kernel_rfl
theorem br20 : CX.byRef 20 = false := rfl
theorem nt20 : Try.f20.ntmps = 53 := rfl
theorem fn21 : CX.fn 21 = some Try.f21 := by kernel_rfl
theorem br21 : CX.byRef 21 = false := rfl
theorem nt21 : Try.f21.ntmps = 6 := rfl
theorem fn22 : CX.fn 22 = some Try.f22 := by kernel_rfl
theorem br22 : CX.byRef 22 = false := rfl
theorem nt22 : Try.f22.ntmps = 24 := rfl
theorem fn23 : CX.fn 23 = some Try.f23 := by kernel_rfl
theorem br23 : CX.byRef 23 = false := rfl
theorem nt23 : Try.f23.ntmps = 13 := rfl
theorem fn24 : CX.fn 24 = some Try.f24 := by kernel_rfl
theorem br24 : CX.byRef 24 = false := rfl
theorem nt24 : Try.f24.ntmps = 71 := rfl
theorem fn25 : CX.fn 25 = some Try.f25 := by kernel_rfl
theorem br25 : CX.byRef 25 = false := rfl
theorem nt25 : Try.f25.ntmps = 65 := rfl
theorem fn26 : CX.fn 26 = some Try.f26 := by kernel_rfl
theorem br26 : CX.byRef 26 = false := rfl
theorem nt26 : Try.f26.ntmps = 33 := rfl
theorem fn27 : CX.fn 27 = some Try.f27 := by kernel_rfl
theorem br27 : CX.byRef 27 = false := rfl
theorem nt27 : Try.f27.ntmps = 27 := rfl
theorem fn28 : CX.fn 28 = some Try.f28 := by kernel_rfl
theorem br28 : CX.byRef 28 = false := rfl
theorem nt28 : Try.f28.ntmps = 13 := rfl
theorem fn29 : CX.fn 29 = some Try.f29 := by kernel_rfl
theorem br29 : CX.byRef 29 = false := rfl
theorem nt29 : Try.f29.ntmps = 15 := rfl
theorem fn30 : CX.fn 30 = some Try.f30 := by kernel_rfl
theorem br30 : CX.byRef 30 = false := rfl
theorem nt30 : Try.f30.ntmps = 22 := rfl
theorem fn31 : CX.fn 31 = some Try.f31 := by kernel_rfl
theorem br31 : CX.byRef 31 = false := rfl
theorem nt31 : Try.f31.ntmps = 28 := rfl
theorem fn32 : CX.fn 32 = some Try.f32 := by kernel_rfl
theorem br32 : CX.byRef 32 = false := rfl
theorem nt32 : Try.f32.ntmps = 55 := rfl
theorem fn33 : CX.fn 33 = some Try.f33 := by kernel_rfl
theorem br33 : CX.byRef 33 = false := rfl
theorem nt33 : Try.f33.ntmps = 44 := rfl
theorem fn34 : CX.fn 34 = some Try.f34 := by kernel_rfl
theorem br34 : CX.byRef 34 = false := rfl
theorem nt34 : Try.f34.ntmps = 20 := rfl
theorem fn35 : CX.fn 35 = some Try.f35 := by kernel_rfl
theorem br35 : CX.byRef 35 = false := rfl
theorem nt35 : Try.f35.ntmps = 73 := rfl
theorem fn36 : CX.fn 36 = some Try.f36 := by kernel_rfl
theorem br36 : CX.byRef 36 = true := rfl
theorem nt36 : Try.f36.ntmps = 42 := rfl
theorem fn37 : CX.fn 37 = some Try.f37 := by kernel_rfl
theorem br37 : CX.byRef 37 = false := rfl
theorem nt37 : Try.f37.ntmps = 8 := rfl
theorem fn38 : CX.fn 38 = some Try.f38 := by kernel_rfl
theorem br38 : CX.byRef 38 = false := rfl
theorem nt38 : Try.f38.ntmps = 6 := rfl
theorem fn39 : CX.fn 39 = some Try.f39 := by kernel_rfl
theorem br39 : CX.byRef 39 = true := rfl
theorem nt39 : Try.f39.ntmps = 14 := rfl
theorem fn40 : CX.fn 40 = some Try.f40 := by kernel_rfl
theorem br40 : CX.byRef 40 = false := rfl
theorem nt40 : Try.f40.ntmps = 10 := rfl
theorem fn41 : CX.fn 41 = some Try.f41 := by kernel_rfl
theorem br41 : CX.byRef 41 = false := rfl
theorem nt41 : Try.f41.ntmps = 69 := rfl
theorem fn42 : CX.fn 42 = some Try.f42 := by kernel_rfl
theorem br42 : CX.byRef 42 = false := rfl
theorem nt42 : Try.f42.ntmps = 57 := rfl
theorem fn43 : CX.fn 43 = some Try.f43 := by kernel_rfl
theorem br43 : CX.byRef 43 = false := rfl
theorem nt43 : Try.f43.ntmps = 9 := rfl
theorem fn44 : CX.fn 44 = some Try.f44 := by kernel_rfl
theorem br44 : CX.byRef 44 = false := rfl
theorem nt44 : Try.f44.ntmps = 16 := rfl
theorem fn45 : CX.fn 45 = some Try.f45 := by kernel_rfl
theorem br45 : CX.byRef 45 = false := rfl
theorem nt45 : Try.f45.ntmps = 6 := rfl
theorem fn46 : CX.fn 46 = some Try.f46 := by kernel_rfl
theorem br46 : CX.byRef 46 = false := rfl
theorem nt46 : Try.f46.ntmps = 19 := rfl
theorem fn47 : CX.fn 47 = some Try.f47 := by kernel_rfl
theorem br47 : CX.byRef 47 = true := rfl
theorem nt47 : Try.f47.ntmps = 148 := rfl
theorem fn48 : CX.fn 48 = some Try.f48 := by kernel_rfl
theorem br48 : CX.byRef 48 = false := rfl
theorem nt48 : Try.f48.ntmps = 8 := rfl
theorem fn49 : CX.fn 49 = some Try.f49 := by kernel_rfl
theorem br49 : CX.byRef 49 = true := rfl
theorem nt49 : Try.f49.ntmps = 53 := rfl
theorem fn50 : CX.fn 50 = some Try.f50 := by kernel_rfl
theorem br50 : CX.byRef 50 = true := rfl
theorem nt50 : Try.f50.ntmps = 60 := rfl
theorem fn51 : CX.fn 51 = some Try.f51 := by kernel_rfl
theorem br51 : CX.byRef 51 = true := rfl
theorem nt51 : Try.f51.ntmps = 67 := rfl
theorem fn52 : CX.fn 52 = some Try.f52 := by kernel_rfl
theorem br52 : CX.byRef 52 = true := rfl
theorem nt52 : Try.f52.ntmps = 63 := rfl
theorem fn53 : CX.fn 53 = some Try.f53 := by kernel_rfl
theorem br53 : CX.byRef 53 = true := rfl
theorem nt53 : Try.f53.ntmps = 34 := rfl
theorem fn54 : CX.fn 54 = some Try.f54 := by kernel_rfl
theorem br54 : CX.byRef 54 = true := rfl
theorem nt54 : Try.f54.ntmps = 141 := rfl
theorem fn55 : CX.fn 55 = some Try.f55 := by kernel_rfl
theorem br55 : CX.byRef 55 = true := rfl
theorem nt55 : Try.f55.ntmps = 90 := rfl
theorem fn56 : CX.fn 56 = some Try.f56 := by kernel_rfl
theorem br56 : CX.byRef 56 = true := rfl
theorem nt56 : Try.f56.ntmps = 178 := rfl
theorem fn57 : CX.fn 57 = some Try.f57 := by kernel_rfl
theorem br57 : CX.byRef 57 = false := rfl
theorem nt57 : Try.f57.ntmps = 19 := rfl
theorem fn58 : CX.fn 58 = some Try.f58 := by kernel_rfl
theorem br58 : CX.byRef 58 = false := rfl
theorem nt58 : Try.f58.ntmps = 25 := rfl
theorem fn59 : CX.fn 59 = some Try.f59 := by kernel_rfl
theorem br59 : CX.byRef 59 = true := rfl
theorem nt59 : Try.f59.ntmps = 82 := rfl
theorem fn60 : CX.fn 60 = some Try.f60 := by kernel_rfl
theorem br60 : CX.byRef 60 = false := rfl
theorem nt60 : Try.f60.ntmps = 7 := rfl
theorem fn61 : CX.fn 61 = some Try.f61 := by kernel_rfl
theorem br61 : CX.byRef 61 = true := rfl
theorem nt61 : Try.f61.ntmps = 33 := rfl
theorem fn62 : CX.fn 62 = some Try.f62 := by kernel_rfl
theorem br62 : CX.byRef 62 = true := rfl
theorem nt62 : Try.f62.ntmps = 18 := rfl
theorem fn63 : CX.fn 63 = some Try.f63 := by kernel_rfl
theorem br63 : CX.byRef 63 = true := rfl
theorem nt63 : Try.f63.ntmps = 41 := rfl
theorem fn64 : CX.fn 64 = some Try.f64 := by kernel_rfl
theorem br64 : CX.byRef 64 = true := rfl
theorem nt64 : Try.f64.ntmps = 32 := rfl
theorem fz0 : CX.frz "bits.go:304" = false := by kernel_rfl
theorem fz1 : CX.frz "bits.go:306" = false := by kernel_rfl
theorem fz2 : CX.frz "cmp.go:41" = false := by kernel_rfl
theorem fz3 : CX.frz "cmp.go:42" = false := by kernel_rfl
theorem fz4 : CX.frz "law.go:100" = true := by kernel_rfl
theorem fz5 : CX.frz "law.go:103" = false := by kernel_rfl
theorem fz6 : CX.frz "law.go:109" = true := by kernel_rfl
theorem fz7 : CX.frz "law.go:111" = false := by kernel_rfl
theorem fz8 : CX.frz "law.go:114" = true := by kernel_rfl
theorem fz9 : CX.frz "law.go:117" = true := by kernel_rfl
theorem fz10 : CX.frz "law.go:13" = false := by kernel_rfl
theorem fz11 : CX.frz "law.go:14" = false := by kernel_rfl
theorem fz12 : CX.frz "law.go:15" = false := by kernel_rfl
theorem fz13 : CX.frz "law.go:19" = false := by kernel_rfl
theorem fz14 : CX.frz "law.go:46" = true := by kernel_rfl
theorem fz15 : CX.frz "law.go:50" = true := by kernel_rfl
theorem fz16 : CX.frz "law.go:54" = true := by kernel_rfl
theorem fz17 : CX.frz "law.go:55" = true := by kernel_rfl
theorem fz18 : CX.frz "law.go:56" = true := by kernel_rfl
theorem fz19 : CX.frz "law.go:58" = true := by kernel_rfl
theorem fz20 : CX.frz "law.go:63" = true := by kernel_rfl
theorem fz21 : CX.frz "law.go:68" = true := by kernel_rfl
theorem fz22 : CX.frz "law.go:69" = true := by kernel_rfl
theorem fz23 : CX.frz "law.go:71" = true := by kernel_rfl
theorem fz24 : CX.frz "law.go:77" = true := by kernel_rfl
theorem fz25 : CX.frz "law.go:79" = true := by kernel_rfl
theorem fz26 : CX.frz "law.go:84" = true := by kernel_rfl
theorem fz27 : CX.frz "law.go:85" = true := by kernel_rfl
theorem fz28 : CX.frz "law.go:87" = true := by kernel_rfl
theorem fz29 : CX.frz "law.go:88" = true := by kernel_rfl
theorem fz30 : CX.frz "law.go:91" = true := by kernel_rfl
theorem fz31 : CX.frz "law.go:96" = true := by kernel_rfl
theorem fz32 : CX.frz "law.go:97" = true := by kernel_rfl
theorem fz33 : CX.frz "law.go:99" = true := by kernel_rfl
theorem fz34 : CX.frz "ref.go:101" = false := by kernel_rfl
theorem fz35 : CX.frz "ref.go:102" = false := by kernel_rfl
theorem fz36 : CX.frz "ref.go:104" = false := by kernel_rfl
theorem fz37 : CX.frz "ref.go:105" = false := by kernel_rfl
theorem fz38 : CX.frz "ref.go:113" = false := by kernel_rfl
theorem fz39 : CX.frz "ref.go:115" = false := by kernel_rfl
theorem fz40 : CX.frz "ref.go:116" = false := by kernel_rfl
theorem fz41 : CX.frz "ref.go:124" = false := by kernel_rfl
theorem fz42 : CX.frz "ref.go:129" = false := by kernel_rfl
theorem fz43 : CX.frz "ref.go:37" = false := by kernel_rfl
theorem fz44 : CX.frz "ref.go:40" = false := by kernel_rfl
theorem fz45 : CX.frz "ref.go:43" = false := by kernel_rfl
theorem fz46 : CX.frz "ref.go:56" = false := by kernel_rfl
theorem fz47 : CX.frz "ref.go:57" = false := by kernel_rfl
theorem fz48 : CX.frz "ref.go:60" = false := by kernel_rfl
theorem fz49 : CX.frz "ref.go:62" = false := by kernel_rfl
theorem fz50 : CX.frz "ref.go:67" = false := by kernel_rfl
theorem fz51 : CX.frz "ref.go:72" = false := by kernel_rfl
theorem fz52 : CX.frz "ref.go:74" = false := by kernel_rfl
theorem fz53 : CX.frz "ref.go:75" = false := by kernel_rfl
theorem fz54 : CX.frz "ref.go:83" = false := by kernel_rfl
theorem fz55 : CX.frz "ref.go:87" = false := by kernel_rfl
theorem fz56 : CX.frz "ref.go:88" = false := by kernel_rfl
theorem fz57 : CX.frz "ref.go:97" = false := by kernel_rfl
theorem fz58 : CX.frz "slices.go:109" = false := by kernel_rfl
theorem fz59 : CX.frz "slices.go:125" = false := by kernel_rfl
theorem fz60 : CX.frz "slices.go:242" = false := by kernel_rfl
theorem fz61 : CX.frz "slices.go:248" = false := by kernel_rfl
theorem fz62 : CX.frz "slices.go:362" = false := by kernel_rfl
theorem fz63 : CX.frz "sort.go:189" = false := by kernel_rfl
theorem fz64 : CX.frz "sort.go:32" = false := by kernel_rfl
theorem fz65 : CX.frz "span.go:110" = false := by kernel_rfl
theorem fz66 : CX.frz "span.go:111" = false := by kernel_rfl
theorem fz67 : CX.frz "span.go:114" = false := by kernel_rfl
theorem fz68 : CX.frz "span.go:119" = false := by kernel_rfl
theorem fz69 : CX.frz "span.go:125" = false := by kernel_rfl
theorem fz70 : CX.frz "span.go:33" = false := by kernel_rfl
theorem fz71 : CX.frz "span.go:36" = false := by kernel_rfl
theorem fz72 : CX.frz "span.go:75" = false := by kernel_rfl
theorem fz73 : CX.frz "span.go:76" = false := by kernel_rfl
theorem fz74 : CX.frz "span.go:82" = false := by kernel_rfl
theorem fz75 : CX.frz "span.go:90" = false := by kernel_rfl
theorem fz76 : CX.frz "span.go:95" = false := by kernel_rfl
theorem fz77 : CX.frz "zsortanyfunc.go:101" = false := by kernel_rfl
theorem fz78 : CX.frz "zsortanyfunc.go:108" = false := by kernel_rfl
theorem fz79 : CX.frz "zsortanyfunc.go:109" = false := by kernel_rfl
theorem fz80 : CX.frz "zsortanyfunc.go:114" = false := by kernel_rfl
theorem fz81 : CX.frz "zsortanyfunc.go:12" = false := by kernel_rfl
theorem fz82 : CX.frz "zsortanyfunc.go:121" = false := by kernel_rfl
theorem fz83 : CX.frz "zsortanyfunc.go:125" = false := by kernel_rfl
theorem fz84 : CX.frz "zsortanyfunc.go:139" = false := by kernel_rfl
theorem fz85 : CX.frz "zsortanyfunc.go:142" = false := by kernel_rfl
theorem fz86 : CX.frz "zsortanyfunc.go:154" = false := by kernel_rfl
theorem fz87 : CX.frz "zsortanyfunc.go:157" = false := by kernel_rfl
theorem fz88 : CX.frz "zsortanyfunc.go:178" = false := by kernel_rfl
theorem fz89 : CX.frz "zsortanyfunc.go:181" = false := by kernel_rfl
theorem fz90 : CX.frz "zsortanyfunc.go:202" = false := by kernel_rfl
theorem fz91 : CX.frz "zsortanyfunc.go:219" = false := by kernel_rfl
theorem fz92 : CX.frz "zsortanyfunc.go:228" = false := by kernel_rfl
theorem fz93 : CX.frz "zsortanyfunc.go:244" = false := by kernel_rfl
theorem fz94 : CX.frz "zsortanyfunc.go:247" = false := by kernel_rfl
theorem fz95 : CX.frz "zsortanyfunc.go:27" = false := by kernel_rfl
theorem fz96 : CX.frz "zsortanyfunc.go:279" = false := by kernel_rfl
theorem fz97 : CX.frz "zsortanyfunc.go:280" = false := by kernel_rfl
theorem fz98 : CX.frz "zsortanyfunc.go:281" = false := by kernel_rfl
theorem fz99 : CX.frz "zsortanyfunc.go:284" = false := by kernel_rfl
theorem fz100 : CX.frz "zsortanyfunc.go:299" = false := by kernel_rfl
theorem fz101 : CX.frz "zsortanyfunc.go:30" = false := by kernel_rfl
theorem fz102 : CX.frz "zsortanyfunc.go:308" = false := by kernel_rfl
theorem fz103 : CX.frz "zsortanyfunc.go:309" = false := by kernel_rfl
theorem fz104 : CX.frz "zsortanyfunc.go:310" = false := by kernel_rfl
theorem fz105 : CX.frz "zsortanyfunc.go:316" = false := by kernel_rfl
theorem fz106 : CX.frz "zsortanyfunc.go:45" = false := by kernel_rfl
theorem fz107 : CX.frz "zsortanyfunc.go:51" = false := by kernel_rfl
theorem fz108 : CX.frz "zsortanyfunc.go:73" = false := by kernel_rfl
theorem fz109 : CX.frz "zsortanyfunc.go:79" = false := by kernel_rfl
theorem fz110 : CX.frz "zsortanyfunc.go:85" = false := by kernel_rfl
theorem fz111 : CX.frz "zsortanyfunc.go:89" = false := by kernel_rfl
theorem fz112 : CX.frz "zsortanyfunc.go:91" = false := by kernel_rfl
theorem eq23 : CX.eqT 23 = some [.int, .int] := rfl
end Go.Eng
