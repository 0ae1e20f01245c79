/- The tables of types and functions of this translation. -/
import Derived.Test.YtoeogoeahmlgnaaProg
import Derived.Test.YtoeogoeahmlgnaaEngW
import Derived.Test.YtoeogoeahmlgnaaPt
import Derived.KernelRfl
set_option linter.all false
namespace Go.Eng
open Go.Proofs
def tys : List (Option TyI) := [
none,
  some ⟨1, false, 8, [(.flat .nilFunc)], .other⟩,
  some ⟨1, false, 8, [(.int .i64 0)], (.int .i64)⟩,
  some ⟨1, false, 8, [(.int .i64 0)], (.int .i64)⟩,
  some ⟨1, false, 1, [(.bool false)], .bool⟩,
  some ⟨1, false, 1, [(.int .u8 0)], (.int .u8)⟩,
  some ⟨1, false, 1, [(.int .u8 0)], (.int .u8)⟩,
  some ⟨4, true, 24, [(.int .i64 0), (.int .i64 0), (.bool false), (.int .u8 0)], (.struct [(0, 2), (1, 3), (2, 4), (3, 6)])⟩,
  some ⟨4, true, 24, [(.int .i64 0), (.int .i64 0), (.bool false), (.int .u8 0)], (.struct [(0, 2), (1, 3), (2, 4), (3, 6)])⟩,
  some ⟨1, false, 16, [(.str .empty)], .str⟩,
  some ⟨1, false, 16, [(.str .empty)], .str⟩,
  some ⟨1, false, 16, [(.str .empty)], .str⟩,
  some ⟨1, false, 8, [(.int .u64 0)], (.int .u64)⟩,
  some ⟨2, true, 24, [(.str .empty), (.int .u64 0)], (.struct [(0, 9), (1, 12)])⟩,
  some ⟨2, true, 24, [(.str .empty), (.int .u64 0)], (.struct [(0, 9), (1, 12)])⟩,
  some ⟨1, false, 8, [(.flat (.pointer none))], .other⟩,
  some ⟨1, false, 8, [(.flat (.pointer none))], .other⟩,
  some ⟨1, false, 8, [(.flat (.pointer none))], .other⟩,
  some ⟨1, true, 8, [(.flat (.pointer none))], (.struct [(0, 17)])⟩,
  some ⟨1, true, 8, [(.flat (.pointer none))], (.struct [(0, 17)])⟩,
  some ⟨1, false, 16, [(.flat .nilIface)], .other⟩,
  some ⟨1, false, 4, [(.int .i32 0)], (.int .i32)⟩,
  some ⟨1, false, 24, [(.flat (.slice none 0 0))], (.slice 3)⟩,
  some ⟨5, true, 64, [(.int .i64 0), (.str .empty), (.int .i64 0), (.int .i64 0), (.flat (.slice none 0 0))], (.struct [(0, 3), (1, 9), (2, 3), (3, 3), (4, 22)])⟩,
  some ⟨5, true, 64, [(.int .i64 0), (.str .empty), (.int .i64 0), (.int .i64 0), (.flat (.slice none 0 0))], (.struct [(0, 3), (1, 9), (2, 3), (3, 3), (4, 22)])⟩,
  some ⟨1, false, 24, [(.flat (.slice none 0 0))], (.slice 65)⟩,
  some ⟨1, false, 24, [(.flat (.slice none 0 0))], (.slice 49)⟩,
  some ⟨7, true, 112, [(.int .i64 0), (.str .empty), (.int .i64 0), (.int .i64 0), (.flat (.slice none 0 0)), (.flat (.slice none 0 0)), (.flat (.slice none 0 0))], (.struct [(0, 24), (5, 25), (6, 26)])⟩,
  some ⟨7, true, 112, [(.int .i64 0), (.str .empty), (.int .i64 0), (.int .i64 0), (.flat (.slice none 0 0)), (.flat (.slice none 0 0)), (.flat (.slice none 0 0))], (.struct [(0, 24), (5, 25), (6, 26)])⟩,
  some ⟨1, false, 8, [(.flat .nilFunc)], .other⟩,
  some ⟨1, false, 8, [(.flat .nilFunc)], .other⟩,
  some ⟨1, false, 24, [(.flat (.slice none 0 0))], (.slice 46)⟩,
  some ⟨7, true, 112, [(.int .i64 0), (.str .empty), (.int .i64 0), (.int .i64 0), (.flat (.slice none 0 0)), (.flat (.slice none 0 0)), (.flat (.slice none 0 0))], (.struct [(0, 24), (5, 25), (6, 31)])⟩,
  some ⟨7, true, 112, [(.int .i64 0), (.str .empty), (.int .i64 0), (.int .i64 0), (.flat (.slice none 0 0)), (.flat (.slice none 0 0)), (.flat (.slice none 0 0))], (.struct [(0, 24), (5, 25), (6, 31)])⟩,
  some ⟨1, false, 24, [(.flat (.slice none 0 0))], (.slice 59)⟩,
  none,
  some ⟨1, false, 8, [(.flat .nilFunc)], .other⟩,
  some ⟨1, false, 8, [(.flat .nilFunc)], .other⟩,
  some ⟨1, false, 8, [(.flat .nilFunc)], .other⟩,
  some ⟨1, false, 8, [(.flat .nilFunc)], .other⟩,
  some ⟨1, false, 8, [(.flat .nilFunc)], .other⟩,
  some ⟨1, false, 24, [(.flat (.slice none 0 0))], (.slice 9)⟩,
  some ⟨1, false, 8, [(.flat .nilFunc)], .other⟩,
  some ⟨2, true, 16, [(.int .i64 0), (.int .i64 0)], (.struct [(0, 3), (1, 3)])⟩,
  some ⟨2, true, 16, [(.int .i64 0), (.int .i64 0)], (.struct [(0, 3), (1, 3)])⟩,
  some ⟨7, true, 64, [(.int .i64 0), (.int .i64 0), (.int .i64 0), (.int .i64 0), (.int .i64 0), (.int .i64 0), (.str .empty)], (.struct [(0, 3), (1, 3), (2, 3), (3, 44), (5, 3), (6, 9)])⟩,
  some ⟨7, true, 64, [(.int .i64 0), (.int .i64 0), (.int .i64 0), (.int .i64 0), (.int .i64 0), (.int .i64 0), (.str .empty)], (.struct [(0, 3), (1, 3), (2, 3), (3, 44), (5, 3), (6, 9)])⟩,
  some ⟨1, false, 24, [(.flat (.slice none 0 0))], (.slice 71)⟩,
  some ⟨11, true, 144, [(.int .i64 0), (.int .i64 0), (.int .i64 0), (.int .i64 0), (.int .i64 0), (.int .i64 0), (.int .i64 0), (.str .empty), (.flat (.slice none 0 0)), (.flat (.slice none 0 0)), (.flat (.slice none 0 0))], (.struct [(0, 3), (1, 46), (8, 47), (9, 47), (10, 47)])⟩,
  some ⟨11, true, 144, [(.int .i64 0), (.int .i64 0), (.int .i64 0), (.int .i64 0), (.int .i64 0), (.int .i64 0), (.int .i64 0), (.str .empty), (.flat (.slice none 0 0)), (.flat (.slice none 0 0)), (.flat (.slice none 0 0))], (.struct [(0, 3), (1, 46), (8, 47), (9, 47), (10, 47)])⟩,
  some ⟨1, false, 8, [(.flat .nilFunc)], .other⟩,
  some ⟨1, false, 8, [(.flat .nilFunc)], .other⟩,
  some ⟨1, false, 8, [(.flat .nilFunc)], .other⟩,
  some ⟨1, false, 8, [(.flat .nilFunc)], .other⟩,
  some ⟨1, false, 8, [(.int .i64 0)], (.int .i64)⟩,
  some ⟨1, false, 8, [(.flat .nilFunc)], .other⟩,
  none,
  some ⟨1, false, 8, [(.flat .nilFunc)], .other⟩,
  some ⟨8, true, 72, [(.int .i64 0), (.int .i64 0), (.int .i64 0), (.int .i64 0), (.int .i64 0), (.int .i64 0), (.str .empty), (.int .i64 0)], (.struct [(0, 46), (7, 54)])⟩,
  some ⟨8, true, 72, [(.int .i64 0), (.int .i64 0), (.int .i64 0), (.int .i64 0), (.int .i64 0), (.int .i64 0), (.str .empty), (.int .i64 0)], (.struct [(0, 46), (7, 54)])⟩,
  some ⟨1, false, 8, [(.flat .nilFunc)], .other⟩,
  some ⟨1, false, 8, [(.flat .nilFunc)], .other⟩,
  none,
  some ⟨1, false, 8, [(.flat .nilFunc)], .other⟩,
  some ⟨4, true, 40, [(.str .empty), (.int .i64 0), (.int .i64 0), (.int .i64 0)], (.struct [(0, 9), (1, 3), (2, 3), (3, 3)])⟩,
  some ⟨4, true, 40, [(.str .empty), (.int .i64 0), (.int .i64 0), (.int .i64 0)], (.struct [(0, 9), (1, 3), (2, 3), (3, 3)])⟩,
  some ⟨1, false, 8, [(.flat .nilFunc)], .other⟩,
  some ⟨1, false, 8, [(.flat .nilFunc)], .other⟩,
  some ⟨2, true, 16, [(.int .i64 0), (.int .i64 0)], (.struct [(0, 3), (1, 3)])⟩,
  some ⟨2, true, 16, [(.int .i64 0), (.int .i64 0)], (.struct [(0, 3), (1, 3)])⟩,
  some ⟨4, true, 40, [(.int .i64 0), (.int .i64 0), (.int .i64 0), (.str .empty)], (.struct [(0, 69), (2, 3), (3, 9)])⟩,
  some ⟨4, true, 40, [(.int .i64 0), (.int .i64 0), (.int .i64 0), (.str .empty)], (.struct [(0, 69), (2, 3), (3, 9)])⟩,
  some ⟨1, false, 8, [(.flat (.pointer none))], .other⟩,
  some ⟨1, false, 8, [(.flat (.map none))], (.map 3 46)⟩,
  some ⟨8, true, 120, [(.int .i64 0), (.str .empty), (.int .i64 0), (.int .i64 0), (.flat (.slice none 0 0)), (.flat (.slice none 0 0)), (.flat (.slice none 0 0)), (.flat (.map none))], (.struct [(0, 24), (5, 25), (6, 31), (7, 73)])⟩,
  some ⟨8, true, 120, [(.int .i64 0), (.str .empty), (.int .i64 0), (.int .i64 0), (.flat (.slice none 0 0)), (.flat (.slice none 0 0)), (.flat (.slice none 0 0)), (.flat (.map none))], (.struct [(0, 24), (5, 25), (6, 31), (7, 73)])⟩,
  some ⟨1, false, 8, [(.flat .nilFunc)], .other⟩,
  some ⟨1, false, 8, [(.flat .nilFunc)], .other⟩,
  some ⟨1, false, 8, [(.flat .nilFunc)], .other⟩,
  some ⟨1, false, 8, [(.flat .nilFunc)], .other⟩,
  some ⟨1, false, 8, [(.flat .nilFunc)], .other⟩,
  some ⟨1, false, 8, [(.flat .nilFunc)], .other⟩,
  some ⟨1, false, 8, [(.flat .nilFunc)], .other⟩,
  some ⟨1, false, 8, [(.flat (.map none))], (.map 9 4)⟩,
  some ⟨1, false, 8, [(.flat .nilFunc)], .other⟩,
  some ⟨1, false, 8, [(.flat .nilFunc)], .other⟩,
  some ⟨1, false, 8, [(.flat (.map none))], (.map 3 4)⟩,
  some ⟨1, false, 8, [(.flat .nilFunc)], .other⟩,
  some ⟨1, false, 8, [(.flat .nilFunc)], .other⟩,
  some ⟨1, false, 8, [(.flat .nilFunc)], .other⟩,
  some ⟨1, false, 8, [(.flat .nilFunc)], .other⟩,
  some ⟨1, false, 8, [(.flat .nilFunc)], .other⟩,
  some ⟨1, false, 8, [(.flat .nilFunc)], .other⟩,
  some ⟨1, false, 8, [(.flat .nilFunc)], .other⟩,
  none,
  some ⟨1, false, 8, [(.flat .nilFunc)], .other⟩,
  some ⟨0, true, 0, [], (.struct [])⟩,
  some ⟨0, true, 0, [], (.struct [])⟩,
  some ⟨0, true, 0, [], (.struct [])⟩,
  some ⟨0, true, 0, [], (.struct [])⟩,
  some ⟨0, true, 0, [], (.struct [])⟩,
  some ⟨0, true, 0, [], (.struct [])⟩,
  some ⟨0, true, 0, [], (.struct [])⟩,
  some ⟨0, true, 0, [], (.struct [])⟩,
  some ⟨1, false, 24, [(.flat (.slice none 0 0))], (.slice 106)⟩,
  some ⟨1, false, 16, [(.flat .nilIface)], .other⟩,
  some ⟨1, false, 16, [(.flat .nilIface)], .other⟩,
  some ⟨1, false, 8, [(.flat .nilFunc)], .other⟩,
  some ⟨1, false, 8, [(.flat .nilFunc)], .other⟩,
  some ⟨1, false, 8, [(.flat .nilFunc)], .other⟩,
  some ⟨1, false, 8, [(.flat .nilFunc)], .other⟩,
  some ⟨1, false, 8, [(.flat .nilFunc)], .other⟩,
  some ⟨1, false, 8, [(.flat .nilFunc)], .other⟩,
  some ⟨1, false, 8, [(.flat .nilFunc)], .other⟩,
  some ⟨1, false, 8, [(.flat .nilFunc)], .other⟩,
  some ⟨1, false, 8, [(.flat .nilFunc)], .other⟩,
  some ⟨1, false, 24, [(.flat (.slice none 0 0))], (.slice 44)⟩,
  some ⟨1, false, 8, [(.flat .nilFunc)], .other⟩,
  some ⟨1, false, 8, [(.flat .nilFunc)], .other⟩,
  some ⟨1, false, 8, [(.flat .nilFunc)], .other⟩,
  none,
  some ⟨1, false, 8, [(.flat .nilFunc)], .other⟩,
  some ⟨1, false, 8, [(.flat .nilFunc)], .other⟩,
  some ⟨1, false, 8, [(.flat .nilFunc)], .other⟩,
  some ⟨1, false, 8, [(.flat .nilFunc)], .other⟩,
  none,
  some ⟨1, false, 8, [(.flat .nilFunc)], .other⟩,
  some ⟨1, false, 8, [(.flat .nilFunc)], .other⟩,
  some ⟨1, false, 8, [(.flat .nilFunc)], .other⟩,
  some ⟨1, false, 8, [(.flat .nilFunc)], .other⟩,
  some ⟨1, false, 8, [(.int .u64 0)], (.int .u64)⟩,
  some ⟨1, false, 8, [(.flat .nilFunc)], .other⟩,
  some ⟨1, false, 8, [(.flat .nilFunc)], .other⟩,
  some ⟨1, false, 8, [(.flat .nilFunc)], .other⟩,
  some ⟨1, false, 8, [(.flat .nilFunc)], .other⟩,
  some ⟨1, false, 8, [(.int .i64 0)], (.int .i64)⟩,
  none,
  some ⟨1, false, 8, [(.flat .nilFunc)], .other⟩,
  some ⟨1, false, 8, [(.flat .nilFunc)], .other⟩,
  some ⟨1, false, 8, [(.flat .nilFunc)], .other⟩,
  some ⟨1, false, 8, [(.flat .nilFunc)], .other⟩,
  none,
  some ⟨1, false, 8, [(.flat .nilFunc)], .other⟩,
  some ⟨1, false, 8, [(.flat .nilFunc)], .other⟩,
  some ⟨1, false, 4, [(.int .u32 0)], (.int .u32)⟩,
  some ⟨1, false, 8, [(.flat .nilFunc)], .other⟩,
  some ⟨1, false, 8, [(.int .u64 0)], (.int .u64)⟩,
  some ⟨1, false, 24, [(.flat (.slice none 0 0))], (.slice 5)⟩,
  some ⟨1, false, 8, [(.int .u64 0)], (.int .u64)⟩,
  some ⟨1, false, 8, [(.flat .nilFunc)], .other⟩,
  some ⟨1, false, 8, [(.flat .nilFunc)], .other⟩,
  some ⟨1, false, 8, [(.flat .nilFunc)], .other⟩,
  some ⟨1, false, 8, [(.flat (.pointer none))], .other⟩,
  some ⟨1, false, 8, [(.flat .nilFunc)], .other⟩,
  some ⟨1, false, 8, [(.flat (.pointer none))], .other⟩,
  some ⟨1, false, 8, [(.flat .nilFunc)], .other⟩,
  some ⟨1, false, 8, [(.flat .nilFunc)], .other⟩,
  some ⟨4, true, 40, [(.flat (.pointer none)), (.flat (.pointer none)), (.flat (.pointer none)), (.str .empty)], (.struct [(0, 17), (1, 17), (2, 17), (3, 9)])⟩,
  some ⟨4, true, 40, [(.flat (.pointer none)), (.flat (.pointer none)), (.flat (.pointer none)), (.str .empty)], (.struct [(0, 17), (1, 17), (2, 17), (3, 9)])⟩,
  some ⟨0, true, 0, [], (.array 0 16)⟩,
  some ⟨0, true, 0, [], (.struct [(0, 159)])⟩,
  some ⟨0, true, 0, [], (.struct [(0, 159)])⟩,
  some ⟨1, false, 8, [(.flat .nilFunc)], .other⟩,
  some ⟨1, false, 1, [(.int .u8 0)], (.int .u8)⟩,
  some ⟨1, false, 1, [(.int .u8 0)], (.int .u8)⟩,
  some ⟨1, false, 8, [(.flat .nilFunc)], .other⟩,
  some ⟨1, false, 8, [(.flat (.pointer none))], .other⟩,
  some ⟨1, false, 4, [(.int .i32 0)], (.int .i32)⟩,
  some ⟨1, false, 4, [(.int .i32 0)], (.int .i32)⟩,
  some ⟨11, true, 48, [(.int .u64 0), (.int .u64 0), (.int .u32 0), (.int .u8 0), (.int .u8 0), (.int .u8 0), (.int .u8 0), (.flat .nilFunc), (.flat (.pointer none)), (.int .i32 0), (.int .i32 0)], (.struct [(0, 12), (1, 12), (2, 144), (3, 163), (4, 5), (5, 5), (6, 164), (7, 165), (8, 166), (9, 167), (10, 168)])⟩,
  some ⟨11, true, 48, [(.int .u64 0), (.int .u64 0), (.int .u32 0), (.int .u8 0), (.int .u8 0), (.int .u8 0), (.int .u8 0), (.flat .nilFunc), (.flat (.pointer none)), (.int .i32 0), (.int .i32 0)], (.struct [(0, 12), (1, 12), (2, 144), (3, 163), (4, 5), (5, 5), (6, 164), (7, 165), (8, 166), (9, 167), (10, 168)])⟩,
  some ⟨1, false, 8, [(.flat .nilFunc)], .other⟩,
  some ⟨1, false, 8, [(.flat .nilFunc)], .other⟩,
  some ⟨1, false, 8, [(.flat .nilFunc)], .other⟩,
  some ⟨1, false, 8, [(.flat .nilFunc)], .other⟩,
  none,
  some ⟨2, true, 2, [(.int .u8 0), (.int .u8 0)], (.struct [(0, 5), (1, 5)])⟩,
  some ⟨2, true, 2, [(.int .u8 0), (.int .u8 0)], (.struct [(0, 5), (1, 5)])⟩,
  some ⟨32, true, 32, [(.int .u8 0), (.int .u8 0), (.int .u8 0), (.int .u8 0), (.int .u8 0), (.int .u8 0), (.int .u8 0), (.int .u8 0), (.int .u8 0), (.int .u8 0), (.int .u8 0), (.int .u8 0), (.int .u8 0), (.int .u8 0), (.int .u8 0), (.int .u8 0), (.int .u8 0), (.int .u8 0), (.int .u8 0), (.int .u8 0), (.int .u8 0), (.int .u8 0), (.int .u8 0), (.int .u8 0), (.int .u8 0), (.int .u8 0), (.int .u8 0), (.int .u8 0), (.int .u8 0), (.int .u8 0), (.int .u8 0), (.int .u8 0)], (.array 16 177)⟩,
  some ⟨1, false, 8, [(.flat (.pointer none))], .other⟩]
def tab : Tab := { tys := tys, fns := [4, 5, 10, 11, 14, 15, 16, 17, 18, 19, 20, 21, 22, 23, 25, 30, 31, 32, 33, 34, 39, 40, 41, 50, 51, 55, 56, 57, 68, 71, 72, 73, 76, 77, 78, 83, 84, 85, 86, 87, 88, 89, 90, 91, 92, 93, 95, 96, 97, 98, 99, 100, 101, 117, 118, 119, 120, 121, 122, 123, 124, 125, 126, 127, 128, 129, 130], refs := [32, 33, 55, 57, 72, 73, 77, 83, 84, 85, 86, 87, 88, 90, 91, 95, 97, 98, 99, 101, 117, 118, 119, 120, 127, 129, 130], clones := [], eqs := [(44, [.int, .int]), (46, [.int, .int, .int, .int, .int, .int, .str]), (59, [.int, .int, .int, .int, .int, .int, .str, .int]), (65, [.str, .int, .int, .int])], seqs := [(76, 73)], trues := [10], frz := [[108, 97, 119, 46, 103, 111, 58, 49, 48, 48], [108, 97, 119, 46, 103, 111, 58, 49, 48, 49], [108, 97, 119, 46, 103, 111, 58, 49, 48, 52], [108, 97, 119, 46, 103, 111, 58, 53, 53], [108, 97, 119, 46, 103, 111, 58, 56, 55], [108, 97, 119, 46, 103, 111, 58, 56, 56], [108, 97, 119, 46, 103, 111, 58, 57, 49], [108, 97, 119, 46, 103, 111, 58, 57, 53]], prims := [(122, primPtsR exStr)], meths := [(97, "langdoc/repair.error", 117), (98, "langdoc/repair.error", 118), (99, "langdoc/repair.error", 119), (100, "langdoc/repair.error", 120), (101, "langdoc/repair.error", 127), (102, "langdoc/repair.error", 129), (103, "langdoc/repair.error", 130)], refMs := ["langdoc/repair.error"], nests := [] }
def tabA : Tab := { tys := tys, fns := [4, 5, 10, 11, 14, 15, 16, 17, 18, 19, 20, 21, 22, 23, 25, 30, 31, 32, 33, 34, 39, 40, 41, 50, 51, 55, 56, 57, 68, 71, 72, 73, 76, 77, 78, 83, 84, 85, 86, 87, 88, 89, 90, 91, 92, 93, 95, 96, 97, 98, 99, 100, 101, 117, 118, 119, 120, 121, 122, 123, 124, 125, 126, 127, 128, 129, 130], refs := [32, 33, 55, 57, 72, 73, 77, 83, 84, 85, 86, 87, 88, 90, 91, 95, 97, 98, 99, 101, 117, 118, 119, 120, 127, 129, 130], clones := [], eqs := [(44, [.int, .int]), (46, [.int, .int, .int, .int, .int, .int, .str]), (59, [.int, .int, .int, .int, .int, .int, .str, .int]), (65, [.str, .int, .int, .int])], seqs := [(76, 73)], trues := [], frz := [], prims := [(122, primPtsR exStr)], meths := [(97, "langdoc/repair.error", 117), (98, "langdoc/repair.error", 118), (99, "langdoc/repair.error", 119), (100, "langdoc/repair.error", 120), (101, "langdoc/repair.error", 127), (102, "langdoc/repair.error", 129), (103, "langdoc/repair.error", 130)], refMs := ["langdoc/repair.error"], nests := [30] }
noncomputable def CX : Ctx := mkC tab Try.prog
/-- For the run of the examples: slices that are written out there stand as they are. -/
noncomputable def CXA : Ctx := mkC tabA Try.prog
theorem nestNo (f : FuncId) : CX.nest f = false := rfl
theorem mt117 : CX.meth 97 "langdoc/repair.error" = some 117 := by kernel_rfl
theorem mt118 : CX.meth 98 "langdoc/repair.error" = some 118 := by kernel_rfl
theorem mt119 : CX.meth 99 "langdoc/repair.error" = some 119 := by kernel_rfl
theorem mt120 : CX.meth 100 "langdoc/repair.error" = some 120 := by kernel_rfl
theorem mt127 : CX.meth 101 "langdoc/repair.error" = some 127 := by kernel_rfl
theorem mt129 : CX.meth 102 "langdoc/repair.error" = some 129 := by kernel_rfl
theorem mt130 : CX.meth 103 "langdoc/repair.error" = some 130 := by kernel_rfl
theorem rm0 : CX.refM "langdoc/repair.error" = true := by kernel_rfl
theorem ty1 : CX.ty 1 = some ⟨1, false, 8, [(.flat .nilFunc)], .other⟩ := rfl
theorem ty2 : CX.ty 2 = some ⟨1, false, 8, [(.int .i64 0)], (.int .i64)⟩ := rfl
theorem ty3 : CX.ty 3 = some ⟨1, false, 8, [(.int .i64 0)], (.int .i64)⟩ := rfl
theorem ty4 : CX.ty 4 = some ⟨1, false, 1, [(.bool false)], .bool⟩ := rfl
theorem ty5 : CX.ty 5 = some ⟨1, false, 1, [(.int .u8 0)], (.int .u8)⟩ := rfl
theorem ty6 : CX.ty 6 = some ⟨1, false, 1, [(.int .u8 0)], (.int .u8)⟩ := rfl
theorem ty7 : CX.ty 7 = some ⟨4, true, 24, [(.int .i64 0), (.int .i64 0), (.bool false), (.int .u8 0)], (.struct [(0, 2), (1, 3), (2, 4), (3, 6)])⟩ := rfl
theorem ty8 : CX.ty 8 = some ⟨4, true, 24, [(.int .i64 0), (.int .i64 0), (.bool false), (.int .u8 0)], (.struct [(0, 2), (1, 3), (2, 4), (3, 6)])⟩ := rfl
theorem ty9 : CX.ty 9 = some ⟨1, false, 16, [(.str .empty)], .str⟩ := rfl
theorem ty10 : CX.ty 10 = some ⟨1, false, 16, [(.str .empty)], .str⟩ := rfl
theorem ty11 : CX.ty 11 = some ⟨1, false, 16, [(.str .empty)], .str⟩ := rfl
theorem ty12 : CX.ty 12 = some ⟨1, false, 8, [(.int .u64 0)], (.int .u64)⟩ := rfl
theorem ty13 : CX.ty 13 = some ⟨2, true, 24, [(.str .empty), (.int .u64 0)], (.struct [(0, 9), (1, 12)])⟩ := rfl
theorem ty14 : CX.ty 14 = some ⟨2, true, 24, [(.str .empty), (.int .u64 0)], (.struct [(0, 9), (1, 12)])⟩ := rfl
theorem ty15 : CX.ty 15 = some ⟨1, false, 8, [(.flat (.pointer none))], .other⟩ := rfl
theorem ty16 : CX.ty 16 = some ⟨1, false, 8, [(.flat (.pointer none))], .other⟩ := rfl
theorem ty17 : CX.ty 17 = some ⟨1, false, 8, [(.flat (.pointer none))], .other⟩ := rfl
theorem ty18 : CX.ty 18 = some ⟨1, true, 8, [(.flat (.pointer none))], (.struct [(0, 17)])⟩ := rfl
theorem ty19 : CX.ty 19 = some ⟨1, true, 8, [(.flat (.pointer none))], (.struct [(0, 17)])⟩ := rfl
theorem ty20 : CX.ty 20 = some ⟨1, false, 16, [(.flat .nilIface)], .other⟩ := rfl
theorem ty21 : CX.ty 21 = some ⟨1, false, 4, [(.int .i32 0)], (.int .i32)⟩ := rfl
theorem ty22 : CX.ty 22 = some ⟨1, false, 24, [(.flat (.slice none 0 0))], (.slice 3)⟩ := rfl
theorem ty23 : CX.ty 23 = some ⟨5, true, 64, [(.int .i64 0), (.str .empty), (.int .i64 0), (.int .i64 0), (.flat (.slice none 0 0))], (.struct [(0, 3), (1, 9), (2, 3), (3, 3), (4, 22)])⟩ := rfl
theorem ty24 : CX.ty 24 = some ⟨5, true, 64, [(.int .i64 0), (.str .empty), (.int .i64 0), (.int .i64 0), (.flat (.slice none 0 0))], (.struct [(0, 3), (1, 9), (2, 3), (3, 3), (4, 22)])⟩ := rfl
theorem ty25 : CX.ty 25 = some ⟨1, false, 24, [(.flat (.slice none 0 0))], (.slice 65)⟩ := rfl
theorem ty26 : CX.ty 26 = some ⟨1, false, 24, [(.flat (.slice none 0 0))], (.slice 49)⟩ := rfl
theorem ty27 : CX.ty 27 = some ⟨7, true, 112, [(.int .i64 0), (.str .empty), (.int .i64 0), (.int .i64 0), (.flat (.slice none 0 0)), (.flat (.slice none 0 0)), (.flat (.slice none 0 0))], (.struct [(0, 24), (5, 25), (6, 26)])⟩ := rfl
theorem ty28 : CX.ty 28 = some ⟨7, true, 112, [(.int .i64 0), (.str .empty), (.int .i64 0), (.int .i64 0), (.flat (.slice none 0 0)), (.flat (.slice none 0 0)), (.flat (.slice none 0 0))], (.struct [(0, 24), (5, 25), (6, 26)])⟩ := rfl
theorem ty29 : CX.ty 29 = some ⟨1, false, 8, [(.flat .nilFunc)], .other⟩ := rfl
theorem ty30 : CX.ty 30 = some ⟨1, false, 8, [(.flat .nilFunc)], .other⟩ := rfl
theorem ty31 : CX.ty 31 = some ⟨1, false, 24, [(.flat (.slice none 0 0))], (.slice 46)⟩ := rfl
theorem ty32 : CX.ty 32 = some ⟨7, true, 112, [(.int .i64 0), (.str .empty), (.int .i64 0), (.int .i64 0), (.flat (.slice none 0 0)), (.flat (.slice none 0 0)), (.flat (.slice none 0 0))], (.struct [(0, 24), (5, 25), (6, 31)])⟩ := rfl
theorem ty33 : CX.ty 33 = some ⟨7, true, 112, [(.int .i64 0), (.str .empty), (.int .i64 0), (.int .i64 0), (.flat (.slice none 0 0)), (.flat (.slice none 0 0)), (.flat (.slice none 0 0))], (.struct [(0, 24), (5, 25), (6, 31)])⟩ := rfl
theorem ty34 : CX.ty 34 = some ⟨1, false, 24, [(.flat (.slice none 0 0))], (.slice 59)⟩ := rfl
theorem ty36 : CX.ty 36 = some ⟨1, false, 8, [(.flat .nilFunc)], .other⟩ := rfl
theorem ty37 : CX.ty 37 = some ⟨1, false, 8, [(.flat .nilFunc)], .other⟩ := rfl
theorem ty38 : CX.ty 38 = some ⟨1, false, 8, [(.flat .nilFunc)], .other⟩ := rfl
theorem ty39 : CX.ty 39 = some ⟨1, false, 8, [(.flat .nilFunc)], .other⟩ := rfl
theorem ty40 : CX.ty 40 = some ⟨1, false, 8, [(.flat .nilFunc)], .other⟩ := rfl
theorem ty41 : CX.ty 41 = some ⟨1, false, 24, [(.flat (.slice none 0 0))], (.slice 9)⟩ := rfl
theorem ty42 : CX.ty 42 = some ⟨1, false, 8, [(.flat .nilFunc)], .other⟩ := rfl
theorem ty43 : CX.ty 43 = some ⟨2, true, 16, [(.int .i64 0), (.int .i64 0)], (.struct [(0, 3), (1, 3)])⟩ := rfl
theorem ty44 : CX.ty 44 = some ⟨2, true, 16, [(.int .i64 0), (.int .i64 0)], (.struct [(0, 3), (1, 3)])⟩ := rfl
theorem ty45 : CX.ty 45 = some ⟨7, true, 64, [(.int .i64 0), (.int .i64 0), (.int .i64 0), (.int .i64 0), (.int .i64 0), (.int .i64 0), (.str .empty)], (.struct [(0, 3), (1, 3), (2, 3), (3, 44), (5, 3), (6, 9)])⟩ := rfl
theorem ty46 : CX.ty 46 = some ⟨7, true, 64, [(.int .i64 0), (.int .i64 0), (.int .i64 0), (.int .i64 0), (.int .i64 0), (.int .i64 0), (.str .empty)], (.struct [(0, 3), (1, 3), (2, 3), (3, 44), (5, 3), (6, 9)])⟩ := rfl
theorem ty47 : CX.ty 47 = some ⟨1, false, 24, [(.flat (.slice none 0 0))], (.slice 71)⟩ := rfl
theorem ty48 : CX.ty 48 = some ⟨11, true, 144, [(.int .i64 0), (.int .i64 0), (.int .i64 0), (.int .i64 0), (.int .i64 0), (.int .i64 0), (.int .i64 0), (.str .empty), (.flat (.slice none 0 0)), (.flat (.slice none 0 0)), (.flat (.slice none 0 0))], (.struct [(0, 3), (1, 46), (8, 47), (9, 47), (10, 47)])⟩ := rfl
theorem ty49 : CX.ty 49 = some ⟨11, true, 144, [(.int .i64 0), (.int .i64 0), (.int .i64 0), (.int .i64 0), (.int .i64 0), (.int .i64 0), (.int .i64 0), (.str .empty), (.flat (.slice none 0 0)), (.flat (.slice none 0 0)), (.flat (.slice none 0 0))], (.struct [(0, 3), (1, 46), (8, 47), (9, 47), (10, 47)])⟩ := rfl
theorem ty50 : CX.ty 50 = some ⟨1, false, 8, [(.flat .nilFunc)], .other⟩ := rfl
theorem ty51 : CX.ty 51 = some ⟨1, false, 8, [(.flat .nilFunc)], .other⟩ := rfl
theorem ty52 : CX.ty 52 = some ⟨1, false, 8, [(.flat .nilFunc)], .other⟩ := rfl
theorem ty53 : CX.ty 53 = some ⟨1, false, 8, [(.flat .nilFunc)], .other⟩ := rfl
theorem ty54 : CX.ty 54 = some ⟨1, false, 8, [(.int .i64 0)], (.int .i64)⟩ := rfl
theorem ty55 : CX.ty 55 = some ⟨1, false, 8, [(.flat .nilFunc)], .other⟩ := rfl
theorem ty57 : CX.ty 57 = some ⟨1, false, 8, [(.flat .nilFunc)], .other⟩ := rfl
theorem ty58 : CX.ty 58 = some ⟨8, true, 72, [(.int .i64 0), (.int .i64 0), (.int .i64 0), (.int .i64 0), (.int .i64 0), (.int .i64 0), (.str .empty), (.int .i64 0)], (.struct [(0, 46), (7, 54)])⟩ := rfl
theorem ty59 : CX.ty 59 = some ⟨8, true, 72, [(.int .i64 0), (.int .i64 0), (.int .i64 0), (.int .i64 0), (.int .i64 0), (.int .i64 0), (.str .empty), (.int .i64 0)], (.struct [(0, 46), (7, 54)])⟩ := rfl
theorem ty60 : CX.ty 60 = some ⟨1, false, 8, [(.flat .nilFunc)], .other⟩ := rfl
theorem ty61 : CX.ty 61 = some ⟨1, false, 8, [(.flat .nilFunc)], .other⟩ := rfl
theorem ty63 : CX.ty 63 = some ⟨1, false, 8, [(.flat .nilFunc)], .other⟩ := rfl
theorem ty64 : CX.ty 64 = some ⟨4, true, 40, [(.str .empty), (.int .i64 0), (.int .i64 0), (.int .i64 0)], (.struct [(0, 9), (1, 3), (2, 3), (3, 3)])⟩ := rfl
theorem ty65 : CX.ty 65 = some ⟨4, true, 40, [(.str .empty), (.int .i64 0), (.int .i64 0), (.int .i64 0)], (.struct [(0, 9), (1, 3), (2, 3), (3, 3)])⟩ := rfl
theorem ty66 : CX.ty 66 = some ⟨1, false, 8, [(.flat .nilFunc)], .other⟩ := rfl
theorem ty67 : CX.ty 67 = some ⟨1, false, 8, [(.flat .nilFunc)], .other⟩ := rfl
theorem ty68 : CX.ty 68 = some ⟨2, true, 16, [(.int .i64 0), (.int .i64 0)], (.struct [(0, 3), (1, 3)])⟩ := rfl
theorem ty69 : CX.ty 69 = some ⟨2, true, 16, [(.int .i64 0), (.int .i64 0)], (.struct [(0, 3), (1, 3)])⟩ := rfl
theorem ty70 : CX.ty 70 = some ⟨4, true, 40, [(.int .i64 0), (.int .i64 0), (.int .i64 0), (.str .empty)], (.struct [(0, 69), (2, 3), (3, 9)])⟩ := rfl
theorem ty71 : CX.ty 71 = some ⟨4, true, 40, [(.int .i64 0), (.int .i64 0), (.int .i64 0), (.str .empty)], (.struct [(0, 69), (2, 3), (3, 9)])⟩ := rfl
theorem ty72 : CX.ty 72 = some ⟨1, false, 8, [(.flat (.pointer none))], .other⟩ := rfl
theorem ty73 : CX.ty 73 = some ⟨1, false, 8, [(.flat (.map none))], (.map 3 46)⟩ := rfl
theorem ty74 : CX.ty 74 = some ⟨8, true, 120, [(.int .i64 0), (.str .empty), (.int .i64 0), (.int .i64 0), (.flat (.slice none 0 0)), (.flat (.slice none 0 0)), (.flat (.slice none 0 0)), (.flat (.map none))], (.struct [(0, 24), (5, 25), (6, 31), (7, 73)])⟩ := rfl
theorem ty75 : CX.ty 75 = some ⟨8, true, 120, [(.int .i64 0), (.str .empty), (.int .i64 0), (.int .i64 0), (.flat (.slice none 0 0)), (.flat (.slice none 0 0)), (.flat (.slice none 0 0)), (.flat (.map none))], (.struct [(0, 24), (5, 25), (6, 31), (7, 73)])⟩ := rfl
theorem ty76 : CX.ty 76 = some ⟨1, false, 8, [(.flat .nilFunc)], .other⟩ := rfl
theorem ty77 : CX.ty 77 = some ⟨1, false, 8, [(.flat .nilFunc)], .other⟩ := rfl
theorem ty78 : CX.ty 78 = some ⟨1, false, 8, [(.flat .nilFunc)], .other⟩ := rfl
theorem ty79 : CX.ty 79 = some ⟨1, false, 8, [(.flat .nilFunc)], .other⟩ := rfl
theorem ty80 : CX.ty 80 = some ⟨1, false, 8, [(.flat .nilFunc)], .other⟩ := rfl
theorem ty81 : CX.ty 81 = some ⟨1, false, 8, [(.flat .nilFunc)], .other⟩ := rfl
theorem ty82 : CX.ty 82 = some ⟨1, false, 8, [(.flat .nilFunc)], .other⟩ := rfl
theorem ty83 : CX.ty 83 = some ⟨1, false, 8, [(.flat (.map none))], (.map 9 4)⟩ := rfl
theorem ty84 : CX.ty 84 = some ⟨1, false, 8, [(.flat .nilFunc)], .other⟩ := rfl
theorem ty85 : CX.ty 85 = some ⟨1, false, 8, [(.flat .nilFunc)], .other⟩ := rfl
theorem ty86 : CX.ty 86 = some ⟨1, false, 8, [(.flat (.map none))], (.map 3 4)⟩ := rfl
theorem ty87 : CX.ty 87 = some ⟨1, false, 8, [(.flat .nilFunc)], .other⟩ := rfl
theorem ty88 : CX.ty 88 = some ⟨1, false, 8, [(.flat .nilFunc)], .other⟩ := rfl
theorem ty89 : CX.ty 89 = some ⟨1, false, 8, [(.flat .nilFunc)], .other⟩ := rfl
theorem ty90 : CX.ty 90 = some ⟨1, false, 8, [(.flat .nilFunc)], .other⟩ := rfl
theorem ty91 : CX.ty 91 = some ⟨1, false, 8, [(.flat .nilFunc)], .other⟩ := rfl
theorem ty92 : CX.ty 92 = some ⟨1, false, 8, [(.flat .nilFunc)], .other⟩ := rfl
theorem ty93 : CX.ty 93 = some ⟨1, false, 8, [(.flat .nilFunc)], .other⟩ := rfl
theorem ty95 : CX.ty 95 = some ⟨1, false, 8, [(.flat .nilFunc)], .other⟩ := rfl
theorem ty96 : CX.ty 96 = some ⟨0, true, 0, [], (.struct [])⟩ := rfl
theorem ty97 : CX.ty 97 = some ⟨0, true, 0, [], (.struct [])⟩ := rfl
theorem ty98 : CX.ty 98 = some ⟨0, true, 0, [], (.struct [])⟩ := rfl
theorem ty99 : CX.ty 99 = some ⟨0, true, 0, [], (.struct [])⟩ := rfl
theorem ty100 : CX.ty 100 = some ⟨0, true, 0, [], (.struct [])⟩ := rfl
theorem ty101 : CX.ty 101 = some ⟨0, true, 0, [], (.struct [])⟩ := rfl
theorem ty102 : CX.ty 102 = some ⟨0, true, 0, [], (.struct [])⟩ := rfl
theorem ty103 : CX.ty 103 = some ⟨0, true, 0, [], (.struct [])⟩ := rfl
theorem ty104 : CX.ty 104 = some ⟨1, false, 24, [(.flat (.slice none 0 0))], (.slice 106)⟩ := rfl
theorem ty105 : CX.ty 105 = some ⟨1, false, 16, [(.flat .nilIface)], .other⟩ := rfl
theorem ty106 : CX.ty 106 = some ⟨1, false, 16, [(.flat .nilIface)], .other⟩ := rfl
theorem ty107 : CX.ty 107 = some ⟨1, false, 8, [(.flat .nilFunc)], .other⟩ := rfl
theorem ty108 : CX.ty 108 = some ⟨1, false, 8, [(.flat .nilFunc)], .other⟩ := rfl
theorem ty109 : CX.ty 109 = some ⟨1, false, 8, [(.flat .nilFunc)], .other⟩ := rfl
theorem ty110 : CX.ty 110 = some ⟨1, false, 8, [(.flat .nilFunc)], .other⟩ := rfl
theorem ty111 : CX.ty 111 = some ⟨1, false, 8, [(.flat .nilFunc)], .other⟩ := rfl
theorem ty112 : CX.ty 112 = some ⟨1, false, 8, [(.flat .nilFunc)], .other⟩ := rfl
theorem ty113 : CX.ty 113 = some ⟨1, false, 8, [(.flat .nilFunc)], .other⟩ := rfl
theorem ty114 : CX.ty 114 = some ⟨1, false, 8, [(.flat .nilFunc)], .other⟩ := rfl
theorem ty115 : CX.ty 115 = some ⟨1, false, 8, [(.flat .nilFunc)], .other⟩ := rfl
theorem ty116 : CX.ty 116 = some ⟨1, false, 24, [(.flat (.slice none 0 0))], (.slice 44)⟩ := rfl
theorem ty117 : CX.ty 117 = some ⟨1, false, 8, [(.flat .nilFunc)], .other⟩ := rfl
theorem ty118 : CX.ty 118 = some ⟨1, false, 8, [(.flat .nilFunc)], .other⟩ := rfl
theorem ty119 : CX.ty 119 = some ⟨1, false, 8, [(.flat .nilFunc)], .other⟩ := rfl
theorem ty121 : CX.ty 121 = some ⟨1, false, 8, [(.flat .nilFunc)], .other⟩ := rfl
theorem ty122 : CX.ty 122 = some ⟨1, false, 8, [(.flat .nilFunc)], .other⟩ := rfl
theorem ty123 : CX.ty 123 = some ⟨1, false, 8, [(.flat .nilFunc)], .other⟩ := rfl
theorem ty124 : CX.ty 124 = some ⟨1, false, 8, [(.flat .nilFunc)], .other⟩ := rfl
theorem ty126 : CX.ty 126 = some ⟨1, false, 8, [(.flat .nilFunc)], .other⟩ := rfl
theorem ty127 : CX.ty 127 = some ⟨1, false, 8, [(.flat .nilFunc)], .other⟩ := rfl
theorem ty128 : CX.ty 128 = some ⟨1, false, 8, [(.flat .nilFunc)], .other⟩ := rfl
theorem ty129 : CX.ty 129 = some ⟨1, false, 8, [(.flat .nilFunc)], .other⟩ := rfl
theorem ty130 : CX.ty 130 = some ⟨1, false, 8, [(.int .u64 0)], (.int .u64)⟩ := rfl
theorem ty131 : CX.ty 131 = some ⟨1, false, 8, [(.flat .nilFunc)], .other⟩ := rfl
theorem ty132 : CX.ty 132 = some ⟨1, false, 8, [(.flat .nilFunc)], .other⟩ := rfl
theorem ty133 : CX.ty 133 = some ⟨1, false, 8, [(.flat .nilFunc)], .other⟩ := rfl
theorem ty134 : CX.ty 134 = some ⟨1, false, 8, [(.flat .nilFunc)], .other⟩ := rfl
theorem ty135 : CX.ty 135 = some ⟨1, false, 8, [(.int .i64 0)], (.int .i64)⟩ := rfl
theorem ty137 : CX.ty 137 = some ⟨1, false, 8, [(.flat .nilFunc)], .other⟩ := rfl
theorem ty138 : CX.ty 138 = some ⟨1, false, 8, [(.flat .nilFunc)], .other⟩ := rfl
theorem ty139 : CX.ty 139 = some ⟨1, false, 8, [(.flat .nilFunc)], .other⟩ := rfl
theorem ty140 : CX.ty 140 = some ⟨1, false, 8, [(.flat .nilFunc)], .other⟩ := rfl
theorem ty142 : CX.ty 142 = some ⟨1, false, 8, [(.flat .nilFunc)], .other⟩ := rfl
theorem ty143 : CX.ty 143 = some ⟨1, false, 8, [(.flat .nilFunc)], .other⟩ := rfl
theorem ty144 : CX.ty 144 = some ⟨1, false, 4, [(.int .u32 0)], (.int .u32)⟩ := rfl
theorem ty145 : CX.ty 145 = some ⟨1, false, 8, [(.flat .nilFunc)], .other⟩ := rfl
theorem ty146 : CX.ty 146 = some ⟨1, false, 8, [(.int .u64 0)], (.int .u64)⟩ := rfl
theorem ty147 : CX.ty 147 = some ⟨1, false, 24, [(.flat (.slice none 0 0))], (.slice 5)⟩ := rfl
theorem ty148 : CX.ty 148 = some ⟨1, false, 8, [(.int .u64 0)], (.int .u64)⟩ := rfl
theorem ty149 : CX.ty 149 = some ⟨1, false, 8, [(.flat .nilFunc)], .other⟩ := rfl
theorem ty150 : CX.ty 150 = some ⟨1, false, 8, [(.flat .nilFunc)], .other⟩ := rfl
theorem ty151 : CX.ty 151 = some ⟨1, false, 8, [(.flat .nilFunc)], .other⟩ := rfl
theorem ty152 : CX.ty 152 = some ⟨1, false, 8, [(.flat (.pointer none))], .other⟩ := rfl
theorem ty153 : CX.ty 153 = some ⟨1, false, 8, [(.flat .nilFunc)], .other⟩ := rfl
theorem ty154 : CX.ty 154 = some ⟨1, false, 8, [(.flat (.pointer none))], .other⟩ := rfl
theorem ty155 : CX.ty 155 = some ⟨1, false, 8, [(.flat .nilFunc)], .other⟩ := rfl
theorem ty156 : CX.ty 156 = some ⟨1, false, 8, [(.flat .nilFunc)], .other⟩ := rfl
theorem ty157 : CX.ty 157 = some ⟨4, true, 40, [(.flat (.pointer none)), (.flat (.pointer none)), (.flat (.pointer none)), (.str .empty)], (.struct [(0, 17), (1, 17), (2, 17), (3, 9)])⟩ := rfl
theorem ty158 : CX.ty 158 = some ⟨4, true, 40, [(.flat (.pointer none)), (.flat (.pointer none)), (.flat (.pointer none)), (.str .empty)], (.struct [(0, 17), (1, 17), (2, 17), (3, 9)])⟩ := rfl
theorem ty159 : CX.ty 159 = some ⟨0, true, 0, [], (.array 0 16)⟩ := rfl
theorem ty160 : CX.ty 160 = some ⟨0, true, 0, [], (.struct [(0, 159)])⟩ := rfl
theorem ty161 : CX.ty 161 = some ⟨0, true, 0, [], (.struct [(0, 159)])⟩ := rfl
theorem ty162 : CX.ty 162 = some ⟨1, false, 8, [(.flat .nilFunc)], .other⟩ := rfl
theorem ty163 : CX.ty 163 = some ⟨1, false, 1, [(.int .u8 0)], (.int .u8)⟩ := rfl
theorem ty164 : CX.ty 164 = some ⟨1, false, 1, [(.int .u8 0)], (.int .u8)⟩ := rfl
theorem ty165 : CX.ty 165 = some ⟨1, false, 8, [(.flat .nilFunc)], .other⟩ := rfl
theorem ty166 : CX.ty 166 = some ⟨1, false, 8, [(.flat (.pointer none))], .other⟩ := rfl
theorem ty167 : CX.ty 167 = some ⟨1, false, 4, [(.int .i32 0)], (.int .i32)⟩ := rfl
theorem ty168 : CX.ty 168 = some ⟨1, false, 4, [(.int .i32 0)], (.int .i32)⟩ := rfl
theorem ty169 : CX.ty 169 = some ⟨11, true, 48, [(.int .u64 0), (.int .u64 0), (.int .u32 0), (.int .u8 0), (.int .u8 0), (.int .u8 0), (.int .u8 0), (.flat .nilFunc), (.flat (.pointer none)), (.int .i32 0), (.int .i32 0)], (.struct [(0, 12), (1, 12), (2, 144), (3, 163), (4, 5), (5, 5), (6, 164), (7, 165), (8, 166), (9, 167), (10, 168)])⟩ := rfl
theorem ty170 : CX.ty 170 = some ⟨11, true, 48, [(.int .u64 0), (.int .u64 0), (.int .u32 0), (.int .u8 0), (.int .u8 0), (.int .u8 0), (.int .u8 0), (.flat .nilFunc), (.flat (.pointer none)), (.int .i32 0), (.int .i32 0)], (.struct [(0, 12), (1, 12), (2, 144), (3, 163), (4, 5), (5, 5), (6, 164), (7, 165), (8, 166), (9, 167), (10, 168)])⟩ := rfl
theorem ty171 : CX.ty 171 = some ⟨1, false, 8, [(.flat .nilFunc)], .other⟩ := rfl
theorem ty172 : CX.ty 172 = some ⟨1, false, 8, [(.flat .nilFunc)], .other⟩ := rfl
theorem ty173 : CX.ty 173 = some ⟨1, false, 8, [(.flat .nilFunc)], .other⟩ := rfl
theorem ty174 : CX.ty 174 = some ⟨1, false, 8, [(.flat .nilFunc)], .other⟩ := rfl
theorem ty176 : CX.ty 176 = some ⟨2, true, 2, [(.int .u8 0), (.int .u8 0)], (.struct [(0, 5), (1, 5)])⟩ := rfl
theorem ty177 : CX.ty 177 = some ⟨2, true, 2, [(.int .u8 0), (.int .u8 0)], (.struct [(0, 5), (1, 5)])⟩ := rfl
theorem ty178 : CX.ty 178 = some ⟨32, true, 32, [(.int .u8 0), (.int .u8 0), (.int .u8 0), (.int .u8 0), (.int .u8 0), (.int .u8 0), (.int .u8 0), (.int .u8 0), (.int .u8 0), (.int .u8 0), (.int .u8 0), (.int .u8 0), (.int .u8 0), (.int .u8 0), (.int .u8 0), (.int .u8 0), (.int .u8 0), (.int .u8 0), (.int .u8 0), (.int .u8 0), (.int .u8 0), (.int .u8 0), (.int .u8 0), (.int .u8 0), (.int .u8 0), (.int .u8 0), (.int .u8 0), (.int .u8 0), (.int .u8 0), (.int .u8 0), (.int .u8 0), (.int .u8 0)], (.array 16 177)⟩ := rfl
theorem ty179 : CX.ty 179 = some ⟨1, false, 8, [(.flat (.pointer none))], .other⟩ := rfl
theorem fn4 : CX.fn 4 = some Try.f4 := by kernel_rfl
theorem br4 : CX.byRef 4 = false := rfl
theorem nt4 : Try.f4.ntmps = 34 := rfl
theorem fn5 : CX.fn 5 = some Try.f5 := by kernel_rfl
theorem br5 : CX.byRef 5 = false := rfl
theorem nt5 : Try.f5.ntmps = 36 := rfl
theorem fn10 : CX.fn 10 = some Try.f10 := by kernel_rfl
theorem br10 : CX.byRef 10 = false := rfl
theorem nt10 : Try.f10.ntmps = 86 := rfl
theorem fn11 : CX.fn 11 = some Try.f11 := by kernel_rfl
theorem br11 : CX.byRef 11 = false := rfl
theorem nt11 : Try.f11.ntmps = 88 := rfl
theorem fn14 : CX.fn 14 = some Try.f14 := by kernel_rfl
theorem br14 : CX.byRef 14 = false := rfl
theorem nt14 : Try.f14.ntmps = 26 := rfl
theorem fn15 : CX.fn 15 = some Try.f15 := by kernel_rfl
theorem br15 : CX.byRef 15 = false := rfl
theorem nt15 : Try.f15.ntmps = 74 := rfl
theorem fn16 : CX.fn 16 = some Try.f16 := by kernel_rfl
theorem br16 : CX.byRef 16 = false := rfl
theorem nt16 : Try.f16.ntmps = 26 := rfl
theorem fn17 : CX.fn 17 = some Try.f17 := by kernel_rfl
theorem br17 : CX.byRef 17 = false := rfl
theorem nt17 : Try.f17.ntmps = 30 := rfl
theorem fn18 : CX.fn 18 = some Try.f18 := by kernel_rfl
theorem br18 : CX.byRef 18 = false := rfl
theorem nt18 : Try.f18.ntmps = 46 := rfl
theorem fn19 : CX.fn 19 = some Try.f19 := by kernel_rfl
theorem br19 : CX.byRef 19 = false := rfl
theorem nt19 : Try.f19.ntmps = 26 := rfl
theorem fn20 : CX.fn 20 = some Try.f20 := by kernel_rfl
theorem br20 : CX.byRef 20 = false := rfl
theorem nt20 : Try.f20.ntmps = 37 := rfl
theorem fn21 : CX.fn 21 = some Try.f21 := by kernel_rfl
theorem br21 : CX.byRef 21 = false := rfl
theorem nt21 : Try.f21.ntmps = 45 := rfl
theorem fn22 : CX.fn 22 = some Try.f22 := by kernel_rfl
theorem br22 : CX.byRef 22 = false := rfl
theorem nt22 : Try.f22.ntmps = 59 := rfl
theorem fn23 : CX.fn 23 = some Try.f23 := by kernel_rfl
theorem br23 : CX.byRef 23 = false := rfl
theorem nt23 : Try.f23.ntmps = 54 := rfl
theorem fn25 : CX.fn 25 = some Try.f25 := by kernel_rfl
theorem br25 : CX.byRef 25 = false := rfl
theorem nt25 : Try.f25.ntmps = 28 := rfl
theorem fn30 : CX.fn 30 = some Try.f30 := by kernel_rfl
theorem br30 : CX.byRef 30 = false := rfl
theorem nt30 : Try.f30.ntmps = 19 := rfl
theorem fn31 : CX.fn 31 = some Try.f31 := by kernel_rfl
theorem br31 : CX.byRef 31 = false := rfl
theorem nt31 : Try.f31.ntmps = 45 := rfl
theorem fn32 : CX.fn 32 = some Try.f32 := by kernel_rfl
theorem br32 : CX.byRef 32 = true := rfl
theorem nt32 : Try.f32.ntmps = 36 := rfl
theorem fn33 : CX.fn 33 = some Try.f33 := by kernel_rfl
theorem br33 : CX.byRef 33 = true := rfl
theorem nt33 : Try.f33.ntmps = 42 := rfl
theorem fn34 : CX.fn 34 = some Try.f34 := by kernel_rfl
theorem br34 : CX.byRef 34 = false := rfl
theorem nt34 : Try.f34.ntmps = 148 := rfl
theorem fn39 : CX.fn 39 = some Try.f39 := by kernel_rfl
theorem br39 : CX.byRef 39 = false := rfl
theorem nt39 : Try.f39.ntmps = 24 := rfl
theorem fn40 : CX.fn 40 = some Try.f40 := by kernel_rfl
theorem br40 : CX.byRef 40 = false := rfl
theorem nt40 : Try.f40.ntmps = 7 := rfl
theorem fn41 : CX.fn 41 = some Try.f41 := by kernel_rfl
theorem br41 : CX.byRef 41 = false := rfl
theorem nt41 : Try.f41.ntmps = 51 := rfl
theorem fn50 : CX.fn 50 = some Try.f50 := by kernel_rfl
theorem br50 : CX.byRef 50 = false := rfl
theorem nt50 : Try.f50.ntmps = 14 := rfl
theorem fn51 : CX.fn 51 = some Try.f51 := by kernel_rfl
theorem br51 : CX.byRef 51 = false := rfl
theorem nt51 : Try.f51.ntmps = 21 := rfl
theorem fn55 : CX.fn 55 = some Try.f55 := by kernel_rfl
theorem br55 : CX.byRef 55 = true := rfl
theorem nt55 : Try.f55.ntmps = 61 := rfl
theorem fn56 : CX.fn 56 = some Try.f56 := by kernel_rfl
theorem br56 : CX.byRef 56 = false := rfl
theorem nt56 : Try.f56.ntmps = 9 := rfl
theorem fn57 : CX.fn 57 = some Try.f57 := by kernel_rfl
theorem br57 : CX.byRef 57 = true := rfl
theorem nt57 : Try.f57.ntmps = 4 := rfl
theorem fn68 : CX.fn 68 = some Try.f68 := by kernel_rfl
theorem br68 : CX.byRef 68 = false := rfl
theorem nt68 : Try.f68.ntmps = 10 := rfl
theorem fn71 : CX.fn 71 = some Try.f71 := by kernel_rfl
theorem br71 : CX.byRef 71 = false := rfl
theorem nt71 : Try.f71.ntmps = 5 := rfl
theorem fn72 : CX.fn 72 = some Try.f72 := by kernel_rfl
theorem br72 : CX.byRef 72 = true := rfl
theorem nt72 : Try.f72.ntmps = 11 := rfl
theorem fn73 : CX.fn 73 = some Try.f73 := by kernel_rfl
theorem br73 : CX.byRef 73 = true := rfl
theorem nt73 : Try.f73.ntmps = 16 := rfl
theorem fn76 : CX.fn 76 = some Try.f76 := by kernel_rfl
theorem br76 : CX.byRef 76 = false := rfl
theorem nt76 : Try.f76.ntmps = 13 := rfl
theorem fn77 : CX.fn 77 = some Try.f77 := by kernel_rfl
theorem br77 : CX.byRef 77 = true := rfl
theorem nt77 : Try.f77.ntmps = 134 := rfl
theorem fn78 : CX.fn 78 = some Try.f78 := by kernel_rfl
theorem br78 : CX.byRef 78 = false := rfl
theorem nt78 : Try.f78.ntmps = 8 := rfl
theorem fn83 : CX.fn 83 = some Try.f83 := by kernel_rfl
theorem br83 : CX.byRef 83 = true := rfl
theorem nt83 : Try.f83.ntmps = 49 := rfl
theorem fn84 : CX.fn 84 = some Try.f84 := by kernel_rfl
theorem br84 : CX.byRef 84 = true := rfl
theorem nt84 : Try.f84.ntmps = 56 := rfl
theorem fn85 : CX.fn 85 = some Try.f85 := by kernel_rfl
theorem br85 : CX.byRef 85 = true := rfl
theorem nt85 : Try.f85.ntmps = 65 := rfl
theorem fn86 : CX.fn 86 = some Try.f86 := by kernel_rfl
theorem br86 : CX.byRef 86 = true := rfl
theorem nt86 : Try.f86.ntmps = 57 := rfl
theorem fn87 : CX.fn 87 = some Try.f87 := by kernel_rfl
theorem br87 : CX.byRef 87 = true := rfl
theorem nt87 : Try.f87.ntmps = 32 := rfl
theorem fn88 : CX.fn 88 = some Try.f88 := by kernel_rfl
theorem br88 : CX.byRef 88 = true := rfl
theorem nt88 : Try.f88.ntmps = 133 := rfl
theorem fn89 : CX.fn 89 = some Try.f89 := by kernel_rfl
theorem br89 : CX.byRef 89 = false := rfl
theorem nt89 : Try.f89.ntmps = 17 := rfl
theorem fn90 : CX.fn 90 = some Try.f90 := by kernel_rfl
theorem br90 : CX.byRef 90 = true := rfl
theorem nt90 : Try.f90.ntmps = 84 := rfl
theorem fn91 : CX.fn 91 = some Try.f91 := by kernel_rfl
theorem br91 : CX.byRef 91 = true := rfl
theorem nt91 : Try.f91.ntmps = 168 := rfl
theorem fn92 : CX.fn 92 = some Try.f92 := by kernel_rfl
theorem br92 : CX.byRef 92 = false := rfl
theorem nt92 : Try.f92.ntmps = 19 := rfl
theorem fn93 : CX.fn 93 = some Try.f93 := by kernel_rfl
theorem br93 : CX.byRef 93 = false := rfl
theorem nt93 : Try.f93.ntmps = 25 := rfl
theorem fn95 : CX.fn 95 = some Try.f95 := by kernel_rfl
theorem br95 : CX.byRef 95 = true := rfl
theorem nt95 : Try.f95.ntmps = 76 := rfl
theorem fn96 : CX.fn 96 = some Try.f96 := by kernel_rfl
theorem br96 : CX.byRef 96 = false := rfl
theorem nt96 : Try.f96.ntmps = 7 := rfl
theorem fn97 : CX.fn 97 = some Try.f97 := by kernel_rfl
theorem br97 : CX.byRef 97 = true := rfl
theorem nt97 : Try.f97.ntmps = 33 := rfl
theorem fn98 : CX.fn 98 = some Try.f98 := by kernel_rfl
theorem br98 : CX.byRef 98 = true := rfl
theorem nt98 : Try.f98.ntmps = 15 := rfl
theorem fn99 : CX.fn 99 = some Try.f99 := by kernel_rfl
theorem br99 : CX.byRef 99 = true := rfl
theorem nt99 : Try.f99.ntmps = 36 := rfl
theorem fn100 : CX.fn 100 = some Try.f100 := by kernel_rfl
theorem br100 : CX.byRef 100 = false := rfl
theorem nt100 : Try.f100.ntmps = 6 := rfl
theorem fn101 : CX.fn 101 = some Try.f101 := by kernel_rfl
theorem br101 : CX.byRef 101 = true := rfl
theorem nt101 : Try.f101.ntmps = 28 := rfl
theorem fn117 : CX.fn 117 = some Try.f117 := by kernel_rfl
theorem br117 : CX.byRef 117 = true := rfl
theorem nt117 : Try.f117.ntmps = 29 := rfl
theorem fn118 : CX.fn 118 = some Try.f118 := by kernel_rfl
theorem br118 : CX.byRef 118 = true := rfl
theorem nt118 : Try.f118.ntmps = 13 := rfl
theorem fn119 : CX.fn 119 = some Try.f119 := by kernel_rfl
theorem br119 : CX.byRef 119 = true := rfl
theorem nt119 : Try.f119.ntmps = 43 := rfl
theorem fn120 : CX.fn 120 = some Try.f120 := by kernel_rfl
theorem br120 : CX.byRef 120 = true := rfl
theorem nt120 : Try.f120.ntmps = 10 := rfl
theorem fn121 : CX.fn 121 = some Try.f121 := by kernel_rfl
theorem br121 : CX.byRef 121 = false := rfl
theorem nt121 : Try.f121.ntmps = 32 := rfl
theorem fn122 : CX.fn 122 = some Try.f122 := by kernel_rfl
theorem br122 : CX.byRef 122 = false := rfl
theorem nt122 : Try.f122.ntmps = 19 := rfl
theorem fn123 : CX.fn 123 = some Try.f123 := by kernel_rfl
theorem br123 : CX.byRef 123 = false := rfl
theorem nt123 : Try.f123.ntmps = 169 := rfl
theorem fn124 : CX.fn 124 = some Try.f124 := by kernel_rfl
theorem br124 : CX.byRef 124 = false := rfl
theorem nt124 : Try.f124.ntmps = 4 := rfl
theorem fn125 : CX.fn 125 = some Try.f125 := by kernel_rfl
theorem br125 : CX.byRef 125 = false := rfl
theorem nt125 : Try.f125.ntmps = 59 := rfl
theorem fn126 : CX.fn 126 = some Try.f126 := by kernel_rfl
theorem br126 : CX.byRef 126 = false := rfl
theorem nt126 : Try.f126.ntmps = 17 := rfl
theorem fn127 : CX.fn 127 = some Try.f127 := by kernel_rfl
theorem br127 : CX.byRef 127 = true := rfl
theorem nt127 : Try.f127.ntmps = 60 := rfl
theorem fn128 : CX.fn 128 = some Try.f128 := by kernel_rfl
theorem br128 : CX.byRef 128 = false := rfl
theorem nt128 : Try.f128.ntmps = 18 := rfl
theorem fn129 : CX.fn 129 = some Try.f129 := by kernel_rfl
theorem br129 : CX.byRef 129 = true := rfl
theorem nt129 : Try.f129.ntmps = 57 := rfl
theorem fn130 : CX.fn 130 = some Try.f130 := by kernel_rfl
theorem br130 : CX.byRef 130 = true := rfl
theorem nt130 : Try.f130.ntmps = 41 := rfl
theorem fz0 : CX.frz "bits.go:304" = false := by kernel_rfl
theorem fz1 : CX.frz "bits.go:306" = false := by kernel_rfl
theorem fz2 : CX.frz "cmp.go:29" = false := by kernel_rfl
theorem fz3 : CX.frz "iter.go:40" = false := by kernel_rfl
theorem fz4 : CX.frz "iter.go:52" = false := by kernel_rfl
theorem fz5 : CX.frz "iter.go:60" = false := by kernel_rfl
theorem fz6 : CX.frz "iter.go:67" = false := by kernel_rfl
theorem fz7 : CX.frz "iter.go:68" = false := by kernel_rfl
theorem fz8 : CX.frz "law.go:100" = true := by kernel_rfl
theorem fz9 : CX.frz "law.go:101" = true := by kernel_rfl
theorem fz10 : CX.frz "law.go:104" = true := by kernel_rfl
theorem fz11 : CX.frz "law.go:20" = false := by kernel_rfl
theorem fz12 : CX.frz "law.go:26" = false := by kernel_rfl
theorem fz13 : CX.frz "law.go:28" = false := by kernel_rfl
theorem fz14 : CX.frz "law.go:29" = false := by kernel_rfl
theorem fz15 : CX.frz "law.go:30" = false := by kernel_rfl
theorem fz16 : CX.frz "law.go:31" = false := by kernel_rfl
theorem fz17 : CX.frz "law.go:55" = true := by kernel_rfl
theorem fz18 : CX.frz "law.go:87" = true := by kernel_rfl
theorem fz19 : CX.frz "law.go:88" = true := by kernel_rfl
theorem fz20 : CX.frz "law.go:91" = true := by kernel_rfl
theorem fz21 : CX.frz "law.go:95" = true := by kernel_rfl
theorem fz22 : CX.frz "num.go:35" = false := by kernel_rfl
theorem fz23 : CX.frz "ref.go:149" = false := by kernel_rfl
theorem fz24 : CX.frz "ref.go:164" = false := by kernel_rfl
theorem fz25 : CX.frz "ref.go:175" = false := by kernel_rfl
theorem fz26 : CX.frz "ref.go:180" = false := by kernel_rfl
theorem fz27 : CX.frz "ref.go:66" = false := by kernel_rfl
theorem fz28 : CX.frz "ref.go:69" = false := by kernel_rfl
theorem fz29 : CX.frz "repair.go:106" = false := by kernel_rfl
theorem fz30 : CX.frz "repair.go:107" = false := by kernel_rfl
theorem fz31 : CX.frz "repair.go:116" = false := by kernel_rfl
theorem fz32 : CX.frz "repair.go:122" = false := by kernel_rfl
theorem fz33 : CX.frz "repair.go:128" = false := by kernel_rfl
theorem fz34 : CX.frz "repair.go:155" = false := by kernel_rfl
theorem fz35 : CX.frz "repair.go:157" = false := by kernel_rfl
theorem fz36 : CX.frz "repair.go:160" = false := by kernel_rfl
theorem fz37 : CX.frz "repair.go:167" = false := by kernel_rfl
theorem fz38 : CX.frz "repair.go:168" = false := by kernel_rfl
theorem fz39 : CX.frz "repair.go:171" = false := by kernel_rfl
theorem fz40 : CX.frz "repair.go:174" = false := by kernel_rfl
theorem fz41 : CX.frz "repair.go:182" = false := by kernel_rfl
theorem fz42 : CX.frz "repair.go:185" = false := by kernel_rfl
theorem fz43 : CX.frz "repair.go:195" = false := by kernel_rfl
theorem fz44 : CX.frz "repair.go:213" = false := by kernel_rfl
theorem fz45 : CX.frz "repair.go:216" = false := by kernel_rfl
theorem fz46 : CX.frz "repair.go:64" = false := by kernel_rfl
theorem fz47 : CX.frz "repair.go:67" = false := by kernel_rfl
theorem fz48 : CX.frz "repair.go:74" = false := by kernel_rfl
theorem fz49 : CX.frz "repair.go:81" = false := by kernel_rfl
theorem fz50 : CX.frz "replica.go:177" = false := by kernel_rfl
theorem fz51 : CX.frz "replica.go:180" = false := by kernel_rfl
theorem fz52 : CX.frz "replica.go:183" = false := by kernel_rfl
theorem fz53 : CX.frz "runes.go:14" = false := by kernel_rfl
theorem fz54 : CX.frz "runes.go:26" = false := by kernel_rfl
theorem fz55 : CX.frz "runes.go:30" = false := by kernel_rfl
theorem fz56 : CX.frz "runes.go:31" = false := by kernel_rfl
theorem fz57 : CX.frz "sort.go:18" = false := by kernel_rfl
theorem fz58 : CX.frz "sort.go:189" = false := by kernel_rfl
theorem fz59 : CX.frz "tiers.go:19" = false := by kernel_rfl
theorem fz60 : CX.frz "tiertype.go:93" = false := by kernel_rfl
theorem fz61 : CX.frz "utf8.go:531" = false := by kernel_rfl
theorem fz62 : CX.frz "utf8.go:533" = false := by kernel_rfl
theorem fz63 : CX.frz "utf8.go:535" = false := by kernel_rfl
theorem fz64 : CX.frz "zsortordered.go:103" = false := by kernel_rfl
theorem fz65 : CX.frz "zsortordered.go:110" = false := by kernel_rfl
theorem fz66 : CX.frz "zsortordered.go:111" = false := by kernel_rfl
theorem fz67 : CX.frz "zsortordered.go:116" = false := by kernel_rfl
theorem fz68 : CX.frz "zsortordered.go:123" = false := by kernel_rfl
theorem fz69 : CX.frz "zsortordered.go:127" = false := by kernel_rfl
theorem fz70 : CX.frz "zsortordered.go:14" = false := by kernel_rfl
theorem fz71 : CX.frz "zsortordered.go:141" = false := by kernel_rfl
theorem fz72 : CX.frz "zsortordered.go:144" = false := by kernel_rfl
theorem fz73 : CX.frz "zsortordered.go:156" = false := by kernel_rfl
theorem fz74 : CX.frz "zsortordered.go:159" = false := by kernel_rfl
theorem fz75 : CX.frz "zsortordered.go:180" = false := by kernel_rfl
theorem fz76 : CX.frz "zsortordered.go:183" = false := by kernel_rfl
theorem fz77 : CX.frz "zsortordered.go:204" = false := by kernel_rfl
theorem fz78 : CX.frz "zsortordered.go:221" = false := by kernel_rfl
theorem fz79 : CX.frz "zsortordered.go:230" = false := by kernel_rfl
theorem fz80 : CX.frz "zsortordered.go:246" = false := by kernel_rfl
theorem fz81 : CX.frz "zsortordered.go:249" = false := by kernel_rfl
theorem fz82 : CX.frz "zsortordered.go:281" = false := by kernel_rfl
theorem fz83 : CX.frz "zsortordered.go:282" = false := by kernel_rfl
theorem fz84 : CX.frz "zsortordered.go:283" = false := by kernel_rfl
theorem fz85 : CX.frz "zsortordered.go:286" = false := by kernel_rfl
theorem fz86 : CX.frz "zsortordered.go:29" = false := by kernel_rfl
theorem fz87 : CX.frz "zsortordered.go:301" = false := by kernel_rfl
theorem fz88 : CX.frz "zsortordered.go:310" = false := by kernel_rfl
theorem fz89 : CX.frz "zsortordered.go:311" = false := by kernel_rfl
theorem fz90 : CX.frz "zsortordered.go:312" = false := by kernel_rfl
theorem fz91 : CX.frz "zsortordered.go:318" = false := by kernel_rfl
theorem fz92 : CX.frz "zsortordered.go:32" = false := by kernel_rfl
theorem fz93 : CX.frz "zsortordered.go:47" = false := by kernel_rfl
theorem fz94 : CX.frz "zsortordered.go:53" = false := by kernel_rfl
theorem fz95 : CX.frz "zsortordered.go:75" = false := by kernel_rfl
theorem fz96 : CX.frz "zsortordered.go:81" = false := by kernel_rfl
theorem fz97 : CX.frz "zsortordered.go:87" = false := by kernel_rfl
theorem fz98 : CX.frz "zsortordered.go:91" = false := by kernel_rfl
theorem fz99 : CX.frz "zsortordered.go:93" = false := by kernel_rfl
theorem eq44 : CX.eqT 44 = some [.int, .int] := rfl
theorem eq46 : CX.eqT 46 = some [.int, .int, .int, .int, .int, .int, .str] := rfl
theorem eq59 : CX.eqT 59 = some [.int, .int, .int, .int, .int, .int, .str, .int] := rfl
theorem eq65 : CX.eqT 65 = some [.str, .int, .int, .int] := rfl
end Go.Eng
