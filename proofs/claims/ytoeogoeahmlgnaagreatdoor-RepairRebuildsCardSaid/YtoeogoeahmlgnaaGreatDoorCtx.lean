/- The tables of types and functions of this translation. -/
import Derived.Test.YtoeogoeahmlgnaaGreatDoorProg
import Derived.Test.YtoeogoeahmlgnaaGreatDoorEngW
import Derived.Test.YtoeogoeahmlgnaaGreatDoorPt
import Derived.KernelRfl
set_option linter.all false
namespace Go.Eng
open Go.Proofs
def tys : List (Option TyI) := [
none,
  some ⟨1, false, 8, [(.flat .nilFunc)], .other⟩,
  some ⟨1, false, 8, [(.int .i64 0)], (.int .i64)⟩,
  some ⟨1, false, 8, [(.int .i64 0)], (.int .i64)⟩,
  some ⟨1, false, 1, [(.bool false)], .bool⟩,
  some ⟨1, false, 1, [(.int .u8 0)], (.int .u8)⟩,
  some ⟨1, false, 1, [(.int .u8 0)], (.int .u8)⟩,
  some ⟨4, true, 24, [(.int .i64 0), (.int .i64 0), (.bool false), (.int .u8 0)], (.struct [(0, 2), (1, 3), (2, 4), (3, 6)])⟩,
  some ⟨4, true, 24, [(.int .i64 0), (.int .i64 0), (.bool false), (.int .u8 0)], (.struct [(0, 2), (1, 3), (2, 4), (3, 6)])⟩,
  some ⟨1, false, 16, [(.str .empty)], .str⟩,
  some ⟨1, false, 16, [(.str .empty)], .str⟩,
  some ⟨1, false, 16, [(.str .empty)], .str⟩,
  some ⟨1, false, 8, [(.int .u64 0)], (.int .u64)⟩,
  some ⟨2, true, 24, [(.str .empty), (.int .u64 0)], (.struct [(0, 9), (1, 12)])⟩,
  some ⟨2, true, 24, [(.str .empty), (.int .u64 0)], (.struct [(0, 9), (1, 12)])⟩,
  some ⟨1, false, 8, [(.flat (.pointer none))], .other⟩,
  some ⟨1, false, 8, [(.flat (.pointer none))], .other⟩,
  some ⟨1, false, 8, [(.flat (.pointer none))], .other⟩,
  some ⟨1, true, 8, [(.flat (.pointer none))], (.struct [(0, 17)])⟩,
  some ⟨1, true, 8, [(.flat (.pointer none))], (.struct [(0, 17)])⟩,
  some ⟨1, false, 16, [(.flat .nilIface)], .other⟩,
  some ⟨1, false, 4, [(.int .i32 0)], (.int .i32)⟩,
  some ⟨1, false, 24, [(.flat (.slice none 0 0))], (.slice 3)⟩,
  some ⟨5, true, 64, [(.int .i64 0), (.str .empty), (.int .i64 0), (.int .i64 0), (.flat (.slice none 0 0))], (.struct [(0, 3), (1, 9), (2, 3), (3, 3), (4, 22)])⟩,
  some ⟨5, true, 64, [(.int .i64 0), (.str .empty), (.int .i64 0), (.int .i64 0), (.flat (.slice none 0 0))], (.struct [(0, 3), (1, 9), (2, 3), (3, 3), (4, 22)])⟩,
  some ⟨1, false, 24, [(.flat (.slice none 0 0))], (.slice 53)⟩,
  some ⟨1, false, 24, [(.flat (.slice none 0 0))], (.slice 40)⟩,
  some ⟨7, true, 112, [(.int .i64 0), (.str .empty), (.int .i64 0), (.int .i64 0), (.flat (.slice none 0 0)), (.flat (.slice none 0 0)), (.flat (.slice none 0 0))], (.struct [(0, 24), (5, 25), (6, 26)])⟩,
  some ⟨7, true, 112, [(.int .i64 0), (.str .empty), (.int .i64 0), (.int .i64 0), (.flat (.slice none 0 0)), (.flat (.slice none 0 0)), (.flat (.slice none 0 0))], (.struct [(0, 24), (5, 25), (6, 26)])⟩,
  some ⟨1, false, 8, [(.flat .nilFunc)], .other⟩,
  some ⟨1, false, 8, [(.flat .nilFunc)], .other⟩,
  some ⟨1, false, 24, [(.flat (.slice none 0 0))], (.slice 78)⟩,
  some ⟨3, true, 56, [(.int .i64 0), (.flat (.slice none 0 0)), (.flat (.slice none 0 0))], (.struct [(0, 3), (1, 22), (2, 31)])⟩,
  some ⟨3, true, 56, [(.int .i64 0), (.flat (.slice none 0 0)), (.flat (.slice none 0 0))], (.struct [(0, 3), (1, 22), (2, 31)])⟩,
  some ⟨1, false, 8, [(.int .i64 0)], (.int .i64)⟩,
  none,
  some ⟨1, false, 8, [(.flat .nilFunc)], .other⟩,
  some ⟨2, true, 16, [(.int .i64 0), (.int .i64 0)], (.struct [(0, 3), (1, 3)])⟩,
  some ⟨2, true, 16, [(.int .i64 0), (.int .i64 0)], (.struct [(0, 3), (1, 3)])⟩,
  some ⟨7, true, 64, [(.int .i64 0), (.int .i64 0), (.int .i64 0), (.int .i64 0), (.int .i64 0), (.int .i64 0), (.str .empty)], (.struct [(0, 3), (1, 3), (2, 3), (3, 38), (5, 3), (6, 9)])⟩,
  some ⟨7, true, 64, [(.int .i64 0), (.int .i64 0), (.int .i64 0), (.int .i64 0), (.int .i64 0), (.int .i64 0), (.str .empty)], (.struct [(0, 3), (1, 3), (2, 3), (3, 38), (5, 3), (6, 9)])⟩,
  none,
  some ⟨1, false, 8, [(.flat .nilFunc)], .other⟩,
  some ⟨1, false, 24, [(.flat (.slice none 0 0))], (.slice 64)⟩,
  none,
  some ⟨1, false, 8, [(.flat .nilFunc)], .other⟩,
  some ⟨1, false, 24, [(.flat (.slice none 0 0))], (.slice 56)⟩,
  some ⟨1, false, 8, [(.flat .nilFunc)], .other⟩,
  none,
  some ⟨1, false, 8, [(.flat .nilFunc)], .other⟩,
  some ⟨1, false, 8, [(.flat .nilFunc)], .other⟩,
  some ⟨1, false, 8, [(.flat .nilFunc)], .other⟩,
  some ⟨4, true, 40, [(.str .empty), (.int .i64 0), (.int .i64 0), (.int .i64 0)], (.struct [(0, 9), (1, 3), (2, 3), (3, 3)])⟩,
  some ⟨4, true, 40, [(.str .empty), (.int .i64 0), (.int .i64 0), (.int .i64 0)], (.struct [(0, 9), (1, 3), (2, 3), (3, 3)])⟩,
  some ⟨1, false, 24, [(.flat (.slice none 0 0))], (.slice 61)⟩,
  some ⟨11, true, 144, [(.int .i64 0), (.int .i64 0), (.int .i64 0), (.int .i64 0), (.int .i64 0), (.int .i64 0), (.int .i64 0), (.str .empty), (.flat (.slice none 0 0)), (.flat (.slice none 0 0)), (.flat (.slice none 0 0))], (.struct [(0, 3), (1, 40), (8, 54), (9, 54), (10, 54)])⟩,
  some ⟨11, true, 144, [(.int .i64 0), (.int .i64 0), (.int .i64 0), (.int .i64 0), (.int .i64 0), (.int .i64 0), (.int .i64 0), (.str .empty), (.flat (.slice none 0 0)), (.flat (.slice none 0 0)), (.flat (.slice none 0 0))], (.struct [(0, 3), (1, 40), (8, 54), (9, 54), (10, 54)])⟩,
  some ⟨1, false, 8, [(.flat .nilFunc)], .other⟩,
  some ⟨2, true, 16, [(.int .i64 0), (.int .i64 0)], (.struct [(0, 3), (1, 3)])⟩,
  some ⟨2, true, 16, [(.int .i64 0), (.int .i64 0)], (.struct [(0, 3), (1, 3)])⟩,
  some ⟨4, true, 40, [(.int .i64 0), (.int .i64 0), (.int .i64 0), (.str .empty)], (.struct [(0, 59), (2, 3), (3, 9)])⟩,
  some ⟨4, true, 40, [(.int .i64 0), (.int .i64 0), (.int .i64 0), (.str .empty)], (.struct [(0, 59), (2, 3), (3, 9)])⟩,
  some ⟨1, false, 8, [(.flat .nilFunc)], .other⟩,
  some ⟨8, true, 72, [(.int .i64 0), (.int .i64 0), (.int .i64 0), (.int .i64 0), (.int .i64 0), (.int .i64 0), (.str .empty), (.int .i64 0)], (.struct [(0, 40), (7, 34)])⟩,
  some ⟨8, true, 72, [(.int .i64 0), (.int .i64 0), (.int .i64 0), (.int .i64 0), (.int .i64 0), (.int .i64 0), (.str .empty), (.int .i64 0)], (.struct [(0, 40), (7, 34)])⟩,
  some ⟨1, false, 8, [(.flat .nilFunc)], .other⟩,
  some ⟨1, false, 8, [(.flat .nilFunc)], .other⟩,
  some ⟨1, false, 8, [(.flat .nilFunc)], .other⟩,
  some ⟨1, false, 24, [(.flat (.slice none 0 0))], (.slice 9)⟩,
  some ⟨1, false, 8, [(.flat .nilFunc)], .other⟩,
  some ⟨1, false, 8, [(.flat .nilFunc)], .other⟩,
  some ⟨1, false, 8, [(.flat .nilFunc)], .other⟩,
  none,
  some ⟨1, false, 8, [(.flat .nilFunc)], .other⟩,
  some ⟨1, false, 8, [(.flat .nilFunc)], .other⟩,
  some ⟨1, false, 8, [(.flat .nilFunc)], .other⟩,
  some ⟨1, false, 24, [(.flat (.slice none 0 0))], (.slice 59)⟩,
  some ⟨15, true, 152, [(.int .i64 0), (.int .i64 0), (.int .i64 0), (.int .i64 0), (.int .i64 0), (.int .i64 0), (.int .i64 0), (.int .i64 0), (.int .i64 0), (.int .i64 0), (.str .empty), (.int .i64 0), (.int .i64 0), (.str .empty), (.flat (.slice none 0 0))], (.struct [(0, 59), (2, 3), (3, 3), (4, 40), (11, 3), (12, 3), (13, 9), (14, 76)])⟩,
  some ⟨15, true, 152, [(.int .i64 0), (.int .i64 0), (.int .i64 0), (.int .i64 0), (.int .i64 0), (.int .i64 0), (.int .i64 0), (.int .i64 0), (.int .i64 0), (.int .i64 0), (.str .empty), (.int .i64 0), (.int .i64 0), (.str .empty), (.flat (.slice none 0 0))], (.struct [(0, 59), (2, 3), (3, 3), (4, 40), (11, 3), (12, 3), (13, 9), (14, 76)])⟩,
  some ⟨1, false, 8, [(.flat (.pointer none))], .other⟩,
  some ⟨1, false, 8, [(.flat (.map none))], (.map 3 40)⟩,
  some ⟨8, true, 120, [(.int .i64 0), (.str .empty), (.int .i64 0), (.int .i64 0), (.flat (.slice none 0 0)), (.flat (.slice none 0 0)), (.flat (.slice none 0 0)), (.flat (.map none))], (.struct [(0, 24), (5, 25), (6, 26), (7, 80)])⟩,
  some ⟨8, true, 120, [(.int .i64 0), (.str .empty), (.int .i64 0), (.int .i64 0), (.flat (.slice none 0 0)), (.flat (.slice none 0 0)), (.flat (.slice none 0 0)), (.flat (.map none))], (.struct [(0, 24), (5, 25), (6, 26), (7, 80)])⟩,
  some ⟨1, false, 8, [(.flat .nilFunc)], .other⟩,
  some ⟨1, false, 8, [(.flat .nilFunc)], .other⟩,
  some ⟨1, false, 8, [(.flat .nilFunc)], .other⟩,
  some ⟨1, false, 8, [(.flat .nilFunc)], .other⟩,
  none,
  some ⟨1, false, 8, [(.flat .nilFunc)], .other⟩,
  some ⟨1, false, 8, [(.flat .nilFunc)], .other⟩,
  some ⟨1, false, 8, [(.flat .nilFunc)], .other⟩,
  some ⟨1, false, 8, [(.flat .nilFunc)], .other⟩,
  some ⟨1, false, 8, [(.flat (.map none))], (.map 9 4)⟩,
  some ⟨1, false, 8, [(.flat (.map none))], (.map 3 4)⟩,
  some ⟨1, false, 8, [(.flat .nilFunc)], .other⟩,
  some ⟨1, false, 8, [(.flat .nilFunc)], .other⟩,
  some ⟨1, false, 8, [(.flat .nilFunc)], .other⟩,
  some ⟨1, false, 8, [(.flat .nilFunc)], .other⟩,
  some ⟨1, false, 8, [(.flat .nilFunc)], .other⟩,
  none,
  some ⟨1, false, 8, [(.flat .nilFunc)], .other⟩,
  some ⟨0, true, 0, [], (.struct [])⟩,
  some ⟨0, true, 0, [], (.struct [])⟩,
  some ⟨0, true, 0, [], (.struct [])⟩,
  some ⟨0, true, 0, [], (.struct [])⟩,
  some ⟨0, true, 0, [], (.struct [])⟩,
  some ⟨0, true, 0, [], (.struct [])⟩,
  some ⟨0, true, 0, [], (.struct [])⟩,
  some ⟨0, true, 0, [], (.struct [])⟩,
  some ⟨1, false, 24, [(.flat (.slice none 0 0))], (.slice 111)⟩,
  some ⟨1, false, 16, [(.flat .nilIface)], .other⟩,
  some ⟨1, false, 16, [(.flat .nilIface)], .other⟩,
  some ⟨1, false, 8, [(.flat .nilFunc)], .other⟩,
  some ⟨1, false, 8, [(.flat .nilFunc)], .other⟩,
  none,
  some ⟨1, false, 8, [(.flat .nilFunc)], .other⟩,
  some ⟨1, false, 8, [(.flat (.map none))], (.map 59 4)⟩,
  some ⟨1, false, 8, [(.flat .nilFunc)], .other⟩,
  some ⟨1, false, 24, [(.flat (.slice none 0 0))], (.slice 54)⟩,
  some ⟨1, false, 8, [(.flat .nilFunc)], .other⟩,
  some ⟨1, false, 8, [(.flat .nilFunc)], .other⟩,
  some ⟨1, false, 8, [(.flat .nilFunc)], .other⟩,
  some ⟨1, false, 8, [(.flat .nilFunc)], .other⟩,
  some ⟨1, false, 8, [(.flat .nilFunc)], .other⟩,
  some ⟨1, false, 8, [(.flat .nilFunc)], .other⟩,
  some ⟨1, false, 8, [(.flat .nilFunc)], .other⟩,
  some ⟨1, false, 24, [(.flat (.slice none 0 0))], (.slice 38)⟩,
  some ⟨1, false, 8, [(.flat .nilFunc)], .other⟩,
  some ⟨1, false, 8, [(.flat .nilFunc)], .other⟩,
  some ⟨1, false, 8, [(.flat .nilFunc)], .other⟩,
  some ⟨1, false, 8, [(.flat .nilFunc)], .other⟩,
  some ⟨1, false, 8, [(.flat .nilFunc)], .other⟩,
  some ⟨1, false, 8, [(.flat (.map none))], (.map 3 3)⟩,
  some ⟨1, false, 8, [(.flat (.map none))], (.map 154 4)⟩,
  some ⟨4, true, 32, [(.flat (.map none)), (.flat (.map none)), (.int .i64 0), (.int .i64 0)], (.struct [(0, 132), (1, 133), (2, 59)])⟩,
  some ⟨4, true, 32, [(.flat (.map none)), (.flat (.map none)), (.int .i64 0), (.int .i64 0)], (.struct [(0, 132), (1, 133), (2, 59)])⟩,
  some ⟨1, false, 8, [(.flat .nilFunc)], .other⟩,
  some ⟨1, false, 8, [(.flat (.map none))], (.map 59 61)⟩,
  some ⟨1, false, 8, [(.flat .nilFunc)], .other⟩,
  some ⟨1, false, 8, [(.flat .nilFunc)], .other⟩,
  some ⟨1, false, 8, [(.flat .nilFunc)], .other⟩,
  some ⟨1, false, 8, [(.flat .nilFunc)], .other⟩,
  some ⟨1, false, 8, [(.flat .nilFunc)], .other⟩,
  some ⟨1, false, 8, [(.flat .nilFunc)], .other⟩,
  some ⟨1, false, 8, [(.flat .nilFunc)], .other⟩,
  none,
  some ⟨1, false, 8, [(.flat .nilFunc)], .other⟩,
  some ⟨1, false, 8, [(.flat .nilFunc)], .other⟩,
  some ⟨1, false, 8, [(.flat .nilFunc)], .other⟩,
  some ⟨1, false, 8, [(.flat .nilFunc)], .other⟩,
  some ⟨1, false, 8, [(.flat (.pointer none))], .other⟩,
  none,
  some ⟨3, true, 24, [(.int .i64 0), (.int .i64 0), (.int .i64 0)], (.array 3 3)⟩,
  some ⟨4, true, 32, [(.int .i64 0), (.int .i64 0), (.int .i64 0), (.int .i64 0)], (.struct [(0, 59), (2, 3), (3, 3)])⟩,
  some ⟨4, true, 32, [(.int .i64 0), (.int .i64 0), (.int .i64 0), (.int .i64 0)], (.struct [(0, 59), (2, 3), (3, 3)])⟩,
  some ⟨1, false, 8, [(.flat .nilFunc)], .other⟩,
  some ⟨1, false, 8, [(.flat .nilFunc)], .other⟩,
  some ⟨1, false, 8, [(.flat .nilFunc)], .other⟩,
  some ⟨1, false, 8, [(.int .u64 0)], (.int .u64)⟩,
  some ⟨1, false, 8, [(.flat .nilFunc)], .other⟩,
  some ⟨1, false, 8, [(.flat .nilFunc)], .other⟩,
  none,
  some ⟨1, false, 8, [(.flat .nilFunc)], .other⟩,
  some ⟨1, false, 8, [(.flat .nilFunc)], .other⟩,
  some ⟨1, false, 8, [(.flat .nilFunc)], .other⟩,
  some ⟨1, false, 8, [(.flat .nilFunc)], .other⟩,
  some ⟨1, false, 8, [(.flat .nilFunc)], .other⟩,
  some ⟨1, false, 8, [(.flat .nilFunc)], .other⟩,
  some ⟨1, false, 8, [(.flat .nilFunc)], .other⟩,
  some ⟨1, false, 8, [(.flat .nilFunc)], .other⟩,
  some ⟨1, false, 8, [(.int .i64 0)], (.int .i64)⟩,
  none,
  some ⟨1, false, 8, [(.flat .nilFunc)], .other⟩,
  some ⟨1, false, 8, [(.flat .nilFunc)], .other⟩,
  some ⟨1, false, 8, [(.flat .nilFunc)], .other⟩,
  some ⟨1, false, 8, [(.flat .nilFunc)], .other⟩,
  some ⟨1, false, 8, [(.flat .nilFunc)], .other⟩,
  some ⟨1, false, 4, [(.int .u32 0)], (.int .u32)⟩,
  some ⟨1, false, 8, [(.flat .nilFunc)], .other⟩,
  some ⟨1, false, 8, [(.int .u64 0)], (.int .u64)⟩,
  some ⟨1, false, 8, [(.flat .nilFunc)], .other⟩,
  some ⟨1, false, 8, [(.flat .nilFunc)], .other⟩,
  some ⟨1, false, 8, [(.flat .nilFunc)], .other⟩,
  some ⟨1, false, 8, [(.flat .nilFunc)], .other⟩,
  some ⟨1, false, 8, [(.flat .nilFunc)], .other⟩,
  some ⟨1, false, 8, [(.flat .nilFunc)], .other⟩,
  some ⟨1, false, 8, [(.flat .nilFunc)], .other⟩,
  some ⟨1, false, 24, [(.flat (.slice none 0 0))], (.slice 34)⟩,
  some ⟨1, false, 8, [(.flat .nilFunc)], .other⟩,
  some ⟨1, false, 8, [(.int .u64 0)], (.int .u64)⟩,
  some ⟨1, false, 8, [(.flat .nilFunc)], .other⟩,
  some ⟨1, false, 8, [(.flat .nilFunc)], .other⟩,
  some ⟨1, false, 8, [(.flat .nilFunc)], .other⟩,
  some ⟨1, false, 8, [(.flat (.pointer none))], .other⟩,
  some ⟨1, false, 8, [(.flat .nilFunc)], .other⟩,
  some ⟨1, false, 24, [(.flat (.slice none 0 0))], (.slice 5)⟩,
  some ⟨1, false, 8, [(.flat .nilFunc)], .other⟩,
  some ⟨1, false, 8, [(.flat .nilFunc)], .other⟩,
  some ⟨1, false, 8, [(.flat (.pointer none))], .other⟩,
  some ⟨1, false, 8, [(.flat .nilFunc)], .other⟩,
  some ⟨1, false, 8, [(.flat .nilFunc)], .other⟩,
  some ⟨1, false, 8, [(.flat .nilFunc)], .other⟩,
  some ⟨1, false, 8, [(.flat .nilFunc)], .other⟩,
  some ⟨1, false, 8, [(.flat .nilFunc)], .other⟩,
  some ⟨1, false, 8, [(.flat .nilFunc)], .other⟩,
  none,
  some ⟨2, true, 2, [(.int .u8 0), (.int .u8 0)], (.struct [(0, 5), (1, 5)])⟩,
  some ⟨2, true, 2, [(.int .u8 0), (.int .u8 0)], (.struct [(0, 5), (1, 5)])⟩,
  some ⟨32, true, 32, [(.int .u8 0), (.int .u8 0), (.int .u8 0), (.int .u8 0), (.int .u8 0), (.int .u8 0), (.int .u8 0), (.int .u8 0), (.int .u8 0), (.int .u8 0), (.int .u8 0), (.int .u8 0), (.int .u8 0), (.int .u8 0), (.int .u8 0), (.int .u8 0), (.int .u8 0), (.int .u8 0), (.int .u8 0), (.int .u8 0), (.int .u8 0), (.int .u8 0), (.int .u8 0), (.int .u8 0), (.int .u8 0), (.int .u8 0), (.int .u8 0), (.int .u8 0), (.int .u8 0), (.int .u8 0), (.int .u8 0), (.int .u8 0)], (.array 16 207)⟩,
  some ⟨1, false, 8, [(.flat .nilFunc)], .other⟩,
  some ⟨4, true, 40, [(.flat (.pointer none)), (.flat (.pointer none)), (.flat (.pointer none)), (.str .empty)], (.struct [(0, 17), (1, 17), (2, 17), (3, 9)])⟩,
  some ⟨4, true, 40, [(.flat (.pointer none)), (.flat (.pointer none)), (.flat (.pointer none)), (.str .empty)], (.struct [(0, 17), (1, 17), (2, 17), (3, 9)])⟩,
  some ⟨0, true, 0, [], (.array 0 16)⟩,
  some ⟨0, true, 0, [], (.struct [(0, 212)])⟩,
  some ⟨0, true, 0, [], (.struct [(0, 212)])⟩,
  some ⟨1, false, 8, [(.flat .nilFunc)], .other⟩,
  some ⟨1, false, 1, [(.int .u8 0)], (.int .u8)⟩,
  some ⟨1, false, 1, [(.int .u8 0)], (.int .u8)⟩,
  some ⟨1, false, 8, [(.flat .nilFunc)], .other⟩,
  some ⟨1, false, 8, [(.flat (.pointer none))], .other⟩,
  some ⟨1, false, 4, [(.int .i32 0)], (.int .i32)⟩,
  some ⟨1, false, 4, [(.int .i32 0)], (.int .i32)⟩,
  some ⟨11, true, 48, [(.int .u64 0), (.int .u64 0), (.int .u32 0), (.int .u8 0), (.int .u8 0), (.int .u8 0), (.int .u8 0), (.flat .nilFunc), (.flat (.pointer none)), (.int .i32 0), (.int .i32 0)], (.struct [(0, 12), (1, 12), (2, 177), (3, 216), (4, 5), (5, 5), (6, 217), (7, 218), (8, 219), (9, 220), (10, 221)])⟩,
  some ⟨11, true, 48, [(.int .u64 0), (.int .u64 0), (.int .u32 0), (.int .u8 0), (.int .u8 0), (.int .u8 0), (.int .u8 0), (.flat .nilFunc), (.flat (.pointer none)), (.int .i32 0), (.int .i32 0)], (.struct [(0, 12), (1, 12), (2, 177), (3, 216), (4, 5), (5, 5), (6, 217), (7, 218), (8, 219), (9, 220), (10, 221)])⟩,
  some ⟨1, false, 8, [(.flat (.pointer none))], .other⟩]
def tab : Tab := { tys := tys, fns := [3, 4, 5, 6, 7, 8, 9, 10, 11, 12, 13, 14, 15, 16, 17, 18, 19, 20, 21, 22, 23, 24, 25, 26, 27, 28, 29, 30, 31, 32, 33, 34, 35, 36, 37, 38, 39, 40, 41, 42, 43, 44, 45, 46, 47, 48, 49, 50, 51, 52, 53, 54, 55, 56, 57, 58, 59, 60, 61, 62, 63, 64, 65, 66, 67, 68, 69, 70, 71, 72, 73, 74, 75, 76, 77, 78, 79, 80, 81, 82, 83, 84, 85, 86, 87, 88, 89, 90, 91, 92, 93, 94, 95, 96, 97, 98, 99, 100, 101, 102, 103, 104, 105, 106, 107, 108, 109, 110, 111, 112, 113, 114, 115, 116, 117, 118, 119, 120, 121, 122, 123, 124, 125, 126, 127, 128, 129, 145, 146, 147, 148, 149, 150, 151], refs := [25, 26, 51, 53, 54, 59, 70, 71, 74, 82, 89, 90, 91, 92, 93, 94, 95, 96, 103, 104, 105, 106, 107, 108, 110, 111, 115, 117, 118, 119, 120, 121, 122, 124, 125, 145, 146, 147, 148, 149, 150, 151], clones := [(36, 31, 78, 4)], eqs := [(38, [.int, .int]), (40, [.int, .int, .int, .int, .int, .int, .str]), (59, [.int, .int]), (64, [.int, .int, .int, .int, .int, .int, .str, .int]), (154, [.int, .int, .int, .int])], seqs := [(81, 71)], trues := [6], frz := [[108, 97, 119, 46, 103, 111, 58, 50, 49, 48], [108, 97, 119, 46, 103, 111, 58, 50, 49, 49], [108, 97, 119, 46, 103, 111, 58, 50, 49, 51], [108, 97, 119, 46, 103, 111, 58, 50, 51, 51], [108, 97, 119, 46, 103, 111, 58, 50, 52, 48], [108, 97, 119, 46, 103, 111, 58, 50, 52, 53], [108, 97, 119, 46, 103, 111, 58, 50, 52, 54], [108, 97, 119, 46, 103, 111, 58, 50, 53, 49], [114, 101, 112, 108, 105, 99, 97, 46, 103, 111, 58, 49, 52, 49]], prims := [(123, primPts)], meths := [(102, "langdoc/repair.error", 145), (103, "langdoc/repair.error", 146), (104, "langdoc/repair.error", 147), (105, "langdoc/repair.error", 148), (106, "langdoc/repair.error", 149), (107, "langdoc/repair.error", 150), (108, "langdoc/repair.error", 151)], refMs := ["langdoc/repair.error"], nests := [], globs := [(0, [0, 1, 2])], lates := [([114, 101, 112, 108, 105, 99, 97, 46, 103, 111, 58, 50, 48, 57], [41]), ([111, 112, 115, 46, 103, 111, 58, 50, 49, 53], [22])] }
def tabA : Tab := { tys := tys, fns := [3, 4, 5, 6, 7, 8, 9, 10, 11, 12, 13, 14, 15, 16, 17, 18, 19, 20, 21, 22, 23, 24, 25, 26, 27, 28, 29, 30, 31, 32, 33, 34, 35, 36, 37, 38, 39, 40, 41, 42, 43, 44, 45, 46, 47, 48, 49, 50, 51, 52, 53, 54, 55, 56, 57, 58, 59, 60, 61, 62, 63, 64, 65, 66, 67, 68, 69, 70, 71, 72, 73, 74, 75, 76, 77, 78, 79, 80, 81, 82, 83, 84, 85, 86, 87, 88, 89, 90, 91, 92, 93, 94, 95, 96, 97, 98, 99, 100, 101, 102, 103, 104, 105, 106, 107, 108, 109, 110, 111, 112, 113, 114, 115, 116, 117, 118, 119, 120, 121, 122, 123, 124, 125, 126, 127, 128, 129, 145, 146, 147, 148, 149, 150, 151], refs := [25, 26, 51, 53, 54, 59, 70, 71, 74, 82, 89, 90, 91, 92, 93, 94, 95, 96, 103, 104, 105, 106, 107, 108, 110, 111, 115, 117, 118, 119, 120, 121, 122, 124, 125, 145, 146, 147, 148, 149, 150, 151], clones := [(36, 31, 78, 4)], eqs := [(38, [.int, .int]), (40, [.int, .int, .int, .int, .int, .int, .str]), (59, [.int, .int]), (64, [.int, .int, .int, .int, .int, .int, .str, .int]), (154, [.int, .int, .int, .int])], seqs := [(81, 71)], trues := [], frz := [], prims := [(123, primPts)], meths := [(102, "langdoc/repair.error", 145), (103, "langdoc/repair.error", 146), (104, "langdoc/repair.error", 147), (105, "langdoc/repair.error", 148), (106, "langdoc/repair.error", 149), (107, "langdoc/repair.error", 150), (108, "langdoc/repair.error", 151)], refMs := ["langdoc/repair.error"], nests := [13], globs := [(0, [0, 1, 2])], lates := [([114, 101, 112, 108, 105, 99, 97, 46, 103, 111, 58, 50, 48, 57], [41]), ([111, 112, 115, 46, 103, 111, 58, 50, 49, 53], [22])] }
noncomputable def CX : Ctx := mkC tab Tryz.prog
/-- For the run of the examples: slices that are written out there stand as they are. -/
noncomputable def CXA : Ctx := mkC tabA Tryz.prog
theorem nestNo (f : FuncId) : CX.nest f = false := rfl
theorem mt145 : CX.meth 102 "langdoc/repair.error" = some 145 := by kernel_rfl
theorem mt146 : CX.meth 103 "langdoc/repair.error" = some 146 := by kernel_rfl
theorem mt147 : CX.meth 104 "langdoc/repair.error" = some 147 := by kernel_rfl
theorem mt148 : CX.meth 105 "langdoc/repair.error" = some 148 := by kernel_rfl
theorem mt149 : CX.meth 106 "langdoc/repair.error" = some 149 := by kernel_rfl
theorem mt150 : CX.meth 107 "langdoc/repair.error" = some 150 := by kernel_rfl
theorem mt151 : CX.meth 108 "langdoc/repair.error" = some 151 := by kernel_rfl
theorem lt0 : CX.late "law.go:240" = [] := by kernel_rfl
theorem lt1 : CX.late "law.go:245" = [] := by kernel_rfl
theorem lt2 : CX.late "law.go:246" = [] := by kernel_rfl
theorem lt3 : CX.late "law.go:200" = [] := by kernel_rfl
theorem lt4 : CX.late "replica.go:209" = [41] := by kernel_rfl
theorem lt5 : CX.late "repair.go:174" = [] := by kernel_rfl
theorem lt6 : CX.late "replica.go:191" = [] := by kernel_rfl
theorem lt7 : CX.late "repair.go:122" = [] := by kernel_rfl
theorem lt8 : CX.late "repair.go:143" = [] := by kernel_rfl
theorem lt9 : CX.late "replica.go:141" = [] := by kernel_rfl
theorem lt10 : CX.late "clock.go:61" = [] := by kernel_rfl
theorem lt11 : CX.late "ops.go:215" = [22] := by kernel_rfl
theorem lt12 : CX.late "ref.go:99" = [] := by kernel_rfl
theorem lt13 : CX.late "ref.go:100" = [] := by kernel_rfl
theorem lt14 : CX.late "zsortanyfunc.go:13" = [] := by kernel_rfl
theorem lt15 : CX.late "zsortanyfunc.go:50" = [] := by kernel_rfl
theorem lt16 : CX.late "zsortanyfunc.go:251" = [] := by kernel_rfl
theorem lt17 : CX.late "zsortanyfunc.go:323" = [] := by kernel_rfl
theorem lt18 : CX.late "zsortanyfunc.go:214" = [] := by kernel_rfl
theorem lt19 : CX.late "zsortanyfunc.go:222" = [] := by kernel_rfl
theorem lt20 : CX.late "zsortanyfunc.go:231" = [] := by kernel_rfl
theorem lt21 : CX.late "zsortanyfunc.go:174" = [] := by kernel_rfl
theorem lt22 : CX.late "zsortanyfunc.go:187" = [] := by kernel_rfl
theorem lt23 : CX.late "zsortanyfunc.go:136" = [] := by kernel_rfl
theorem lt24 : CX.late "zsortanyfunc.go:146" = [] := by kernel_rfl
theorem lt25 : CX.late "zsortanyfunc.go:149" = [] := by kernel_rfl
theorem lt26 : CX.late "zsortanyfunc.go:163" = [] := by kernel_rfl
theorem lt27 : CX.late "zsortanyfunc.go:167" = [] := by kernel_rfl
theorem lt28 : CX.late "ref.go:64" = [] := by kernel_rfl
theorem lt29 : CX.late "zsortordered.go:15" = [] := by kernel_rfl
theorem lt30 : CX.late "zsortordered.go:52" = [] := by kernel_rfl
theorem lt31 : CX.late "zsortordered.go:253" = [] := by kernel_rfl
theorem lt32 : CX.late "zsortordered.go:325" = [] := by kernel_rfl
theorem lt33 : CX.late "zsortordered.go:216" = [] := by kernel_rfl
theorem lt34 : CX.late "zsortordered.go:224" = [] := by kernel_rfl
theorem lt35 : CX.late "zsortordered.go:233" = [] := by kernel_rfl
theorem lt36 : CX.late "zsortordered.go:176" = [] := by kernel_rfl
theorem lt37 : CX.late "zsortordered.go:189" = [] := by kernel_rfl
theorem lt38 : CX.late "zsortordered.go:138" = [] := by kernel_rfl
theorem lt39 : CX.late "zsortordered.go:148" = [] := by kernel_rfl
theorem lt40 : CX.late "zsortordered.go:151" = [] := by kernel_rfl
theorem lt41 : CX.late "zsortordered.go:165" = [] := by kernel_rfl
theorem lt42 : CX.late "zsortordered.go:169" = [] := by kernel_rfl
theorem lt43 : CX.late "zsortanyfunc.go:33" = [] := by kernel_rfl
theorem lt44 : CX.late "sort.go:182" = [] := by kernel_rfl
theorem lt45 : CX.late "sort.go:183" = [] := by kernel_rfl
theorem lt46 : CX.late "sort.go:184" = [] := by kernel_rfl
theorem lt47 : CX.late "zsortordered.go:35" = [] := by kernel_rfl
theorem lt48 : CX.late "repair.go:35" = [] := by kernel_rfl
theorem lt49 : CX.late "repair.go:50" = [] := by kernel_rfl
theorem lt50 : CX.late "repair.go:57" = [] := by kernel_rfl
theorem lt51 : CX.late "repair.go:72" = [] := by kernel_rfl
theorem gl0 : CX.glob 0 = some [.int .i64 0, .int .i64 1, .int .i64 2] := rfl
theorem rm0 : CX.refM "langdoc/repair.error" = true := by kernel_rfl
theorem ty1 : CX.ty 1 = some ⟨1, false, 8, [(.flat .nilFunc)], .other⟩ := rfl
theorem ty2 : CX.ty 2 = some ⟨1, false, 8, [(.int .i64 0)], (.int .i64)⟩ := rfl
theorem ty3 : CX.ty 3 = some ⟨1, false, 8, [(.int .i64 0)], (.int .i64)⟩ := rfl
theorem ty4 : CX.ty 4 = some ⟨1, false, 1, [(.bool false)], .bool⟩ := rfl
theorem ty5 : CX.ty 5 = some ⟨1, false, 1, [(.int .u8 0)], (.int .u8)⟩ := rfl
theorem ty6 : CX.ty 6 = some ⟨1, false, 1, [(.int .u8 0)], (.int .u8)⟩ := rfl
theorem ty7 : CX.ty 7 = some ⟨4, true, 24, [(.int .i64 0), (.int .i64 0), (.bool false), (.int .u8 0)], (.struct [(0, 2), (1, 3), (2, 4), (3, 6)])⟩ := rfl
theorem ty8 : CX.ty 8 = some ⟨4, true, 24, [(.int .i64 0), (.int .i64 0), (.bool false), (.int .u8 0)], (.struct [(0, 2), (1, 3), (2, 4), (3, 6)])⟩ := rfl
theorem ty9 : CX.ty 9 = some ⟨1, false, 16, [(.str .empty)], .str⟩ := rfl
theorem ty10 : CX.ty 10 = some ⟨1, false, 16, [(.str .empty)], .str⟩ := rfl
theorem ty11 : CX.ty 11 = some ⟨1, false, 16, [(.str .empty)], .str⟩ := rfl
theorem ty12 : CX.ty 12 = some ⟨1, false, 8, [(.int .u64 0)], (.int .u64)⟩ := rfl
theorem ty13 : CX.ty 13 = some ⟨2, true, 24, [(.str .empty), (.int .u64 0)], (.struct [(0, 9), (1, 12)])⟩ := rfl
theorem ty14 : CX.ty 14 = some ⟨2, true, 24, [(.str .empty), (.int .u64 0)], (.struct [(0, 9), (1, 12)])⟩ := rfl
theorem ty15 : CX.ty 15 = some ⟨1, false, 8, [(.flat (.pointer none))], .other⟩ := rfl
theorem ty16 : CX.ty 16 = some ⟨1, false, 8, [(.flat (.pointer none))], .other⟩ := rfl
theorem ty17 : CX.ty 17 = some ⟨1, false, 8, [(.flat (.pointer none))], .other⟩ := rfl
theorem ty18 : CX.ty 18 = some ⟨1, true, 8, [(.flat (.pointer none))], (.struct [(0, 17)])⟩ := rfl
theorem ty19 : CX.ty 19 = some ⟨1, true, 8, [(.flat (.pointer none))], (.struct [(0, 17)])⟩ := rfl
theorem ty20 : CX.ty 20 = some ⟨1, false, 16, [(.flat .nilIface)], .other⟩ := rfl
theorem ty21 : CX.ty 21 = some ⟨1, false, 4, [(.int .i32 0)], (.int .i32)⟩ := rfl
theorem ty22 : CX.ty 22 = some ⟨1, false, 24, [(.flat (.slice none 0 0))], (.slice 3)⟩ := rfl
theorem ty23 : CX.ty 23 = some ⟨5, true, 64, [(.int .i64 0), (.str .empty), (.int .i64 0), (.int .i64 0), (.flat (.slice none 0 0))], (.struct [(0, 3), (1, 9), (2, 3), (3, 3), (4, 22)])⟩ := rfl
theorem ty24 : CX.ty 24 = some ⟨5, true, 64, [(.int .i64 0), (.str .empty), (.int .i64 0), (.int .i64 0), (.flat (.slice none 0 0))], (.struct [(0, 3), (1, 9), (2, 3), (3, 3), (4, 22)])⟩ := rfl
theorem ty25 : CX.ty 25 = some ⟨1, false, 24, [(.flat (.slice none 0 0))], (.slice 53)⟩ := rfl
theorem ty26 : CX.ty 26 = some ⟨1, false, 24, [(.flat (.slice none 0 0))], (.slice 40)⟩ := rfl
theorem ty27 : CX.ty 27 = some ⟨7, true, 112, [(.int .i64 0), (.str .empty), (.int .i64 0), (.int .i64 0), (.flat (.slice none 0 0)), (.flat (.slice none 0 0)), (.flat (.slice none 0 0))], (.struct [(0, 24), (5, 25), (6, 26)])⟩ := rfl
theorem ty28 : CX.ty 28 = some ⟨7, true, 112, [(.int .i64 0), (.str .empty), (.int .i64 0), (.int .i64 0), (.flat (.slice none 0 0)), (.flat (.slice none 0 0)), (.flat (.slice none 0 0))], (.struct [(0, 24), (5, 25), (6, 26)])⟩ := rfl
theorem ty29 : CX.ty 29 = some ⟨1, false, 8, [(.flat .nilFunc)], .other⟩ := rfl
theorem ty30 : CX.ty 30 = some ⟨1, false, 8, [(.flat .nilFunc)], .other⟩ := rfl
theorem ty31 : CX.ty 31 = some ⟨1, false, 24, [(.flat (.slice none 0 0))], (.slice 78)⟩ := rfl
theorem ty32 : CX.ty 32 = some ⟨3, true, 56, [(.int .i64 0), (.flat (.slice none 0 0)), (.flat (.slice none 0 0))], (.struct [(0, 3), (1, 22), (2, 31)])⟩ := rfl
theorem ty33 : CX.ty 33 = some ⟨3, true, 56, [(.int .i64 0), (.flat (.slice none 0 0)), (.flat (.slice none 0 0))], (.struct [(0, 3), (1, 22), (2, 31)])⟩ := rfl
theorem ty34 : CX.ty 34 = some ⟨1, false, 8, [(.int .i64 0)], (.int .i64)⟩ := rfl
theorem ty36 : CX.ty 36 = some ⟨1, false, 8, [(.flat .nilFunc)], .other⟩ := rfl
theorem ty37 : CX.ty 37 = some ⟨2, true, 16, [(.int .i64 0), (.int .i64 0)], (.struct [(0, 3), (1, 3)])⟩ := rfl
theorem ty38 : CX.ty 38 = some ⟨2, true, 16, [(.int .i64 0), (.int .i64 0)], (.struct [(0, 3), (1, 3)])⟩ := rfl
theorem ty39 : CX.ty 39 = some ⟨7, true, 64, [(.int .i64 0), (.int .i64 0), (.int .i64 0), (.int .i64 0), (.int .i64 0), (.int .i64 0), (.str .empty)], (.struct [(0, 3), (1, 3), (2, 3), (3, 38), (5, 3), (6, 9)])⟩ := rfl
theorem ty40 : CX.ty 40 = some ⟨7, true, 64, [(.int .i64 0), (.int .i64 0), (.int .i64 0), (.int .i64 0), (.int .i64 0), (.int .i64 0), (.str .empty)], (.struct [(0, 3), (1, 3), (2, 3), (3, 38), (5, 3), (6, 9)])⟩ := rfl
theorem ty42 : CX.ty 42 = some ⟨1, false, 8, [(.flat .nilFunc)], .other⟩ := rfl
theorem ty43 : CX.ty 43 = some ⟨1, false, 24, [(.flat (.slice none 0 0))], (.slice 64)⟩ := rfl
theorem ty45 : CX.ty 45 = some ⟨1, false, 8, [(.flat .nilFunc)], .other⟩ := rfl
theorem ty46 : CX.ty 46 = some ⟨1, false, 24, [(.flat (.slice none 0 0))], (.slice 56)⟩ := rfl
theorem ty47 : CX.ty 47 = some ⟨1, false, 8, [(.flat .nilFunc)], .other⟩ := rfl
theorem ty49 : CX.ty 49 = some ⟨1, false, 8, [(.flat .nilFunc)], .other⟩ := rfl
theorem ty50 : CX.ty 50 = some ⟨1, false, 8, [(.flat .nilFunc)], .other⟩ := rfl
theorem ty51 : CX.ty 51 = some ⟨1, false, 8, [(.flat .nilFunc)], .other⟩ := rfl
theorem ty52 : CX.ty 52 = some ⟨4, true, 40, [(.str .empty), (.int .i64 0), (.int .i64 0), (.int .i64 0)], (.struct [(0, 9), (1, 3), (2, 3), (3, 3)])⟩ := rfl
theorem ty53 : CX.ty 53 = some ⟨4, true, 40, [(.str .empty), (.int .i64 0), (.int .i64 0), (.int .i64 0)], (.struct [(0, 9), (1, 3), (2, 3), (3, 3)])⟩ := rfl
theorem ty54 : CX.ty 54 = some ⟨1, false, 24, [(.flat (.slice none 0 0))], (.slice 61)⟩ := rfl
theorem ty55 : CX.ty 55 = some ⟨11, true, 144, [(.int .i64 0), (.int .i64 0), (.int .i64 0), (.int .i64 0), (.int .i64 0), (.int .i64 0), (.int .i64 0), (.str .empty), (.flat (.slice none 0 0)), (.flat (.slice none 0 0)), (.flat (.slice none 0 0))], (.struct [(0, 3), (1, 40), (8, 54), (9, 54), (10, 54)])⟩ := rfl
theorem ty56 : CX.ty 56 = some ⟨11, true, 144, [(.int .i64 0), (.int .i64 0), (.int .i64 0), (.int .i64 0), (.int .i64 0), (.int .i64 0), (.int .i64 0), (.str .empty), (.flat (.slice none 0 0)), (.flat (.slice none 0 0)), (.flat (.slice none 0 0))], (.struct [(0, 3), (1, 40), (8, 54), (9, 54), (10, 54)])⟩ := rfl
theorem ty57 : CX.ty 57 = some ⟨1, false, 8, [(.flat .nilFunc)], .other⟩ := rfl
theorem ty58 : CX.ty 58 = some ⟨2, true, 16, [(.int .i64 0), (.int .i64 0)], (.struct [(0, 3), (1, 3)])⟩ := rfl
theorem ty59 : CX.ty 59 = some ⟨2, true, 16, [(.int .i64 0), (.int .i64 0)], (.struct [(0, 3), (1, 3)])⟩ := rfl
theorem ty60 : CX.ty 60 = some ⟨4, true, 40, [(.int .i64 0), (.int .i64 0), (.int .i64 0), (.str .empty)], (.struct [(0, 59), (2, 3), (3, 9)])⟩ := rfl
theorem ty61 : CX.ty 61 = some ⟨4, true, 40, [(.int .i64 0), (.int .i64 0), (.int .i64 0), (.str .empty)], (.struct [(0, 59), (2, 3), (3, 9)])⟩ := rfl
theorem ty62 : CX.ty 62 = some ⟨1, false, 8, [(.flat .nilFunc)], .other⟩ := rfl
theorem ty63 : CX.ty 63 = some ⟨8, true, 72, [(.int .i64 0), (.int .i64 0), (.int .i64 0), (.int .i64 0), (.int .i64 0), (.int .i64 0), (.str .empty), (.int .i64 0)], (.struct [(0, 40), (7, 34)])⟩ := rfl
theorem ty64 : CX.ty 64 = some ⟨8, true, 72, [(.int .i64 0), (.int .i64 0), (.int .i64 0), (.int .i64 0), (.int .i64 0), (.int .i64 0), (.str .empty), (.int .i64 0)], (.struct [(0, 40), (7, 34)])⟩ := rfl
theorem ty65 : CX.ty 65 = some ⟨1, false, 8, [(.flat .nilFunc)], .other⟩ := rfl
theorem ty66 : CX.ty 66 = some ⟨1, false, 8, [(.flat .nilFunc)], .other⟩ := rfl
theorem ty67 : CX.ty 67 = some ⟨1, false, 8, [(.flat .nilFunc)], .other⟩ := rfl
theorem ty68 : CX.ty 68 = some ⟨1, false, 24, [(.flat (.slice none 0 0))], (.slice 9)⟩ := rfl
theorem ty69 : CX.ty 69 = some ⟨1, false, 8, [(.flat .nilFunc)], .other⟩ := rfl
theorem ty70 : CX.ty 70 = some ⟨1, false, 8, [(.flat .nilFunc)], .other⟩ := rfl
theorem ty71 : CX.ty 71 = some ⟨1, false, 8, [(.flat .nilFunc)], .other⟩ := rfl
theorem ty73 : CX.ty 73 = some ⟨1, false, 8, [(.flat .nilFunc)], .other⟩ := rfl
theorem ty74 : CX.ty 74 = some ⟨1, false, 8, [(.flat .nilFunc)], .other⟩ := rfl
theorem ty75 : CX.ty 75 = some ⟨1, false, 8, [(.flat .nilFunc)], .other⟩ := rfl
theorem ty76 : CX.ty 76 = some ⟨1, false, 24, [(.flat (.slice none 0 0))], (.slice 59)⟩ := rfl
theorem ty77 : CX.ty 77 = some ⟨15, true, 152, [(.int .i64 0), (.int .i64 0), (.int .i64 0), (.int .i64 0), (.int .i64 0), (.int .i64 0), (.int .i64 0), (.int .i64 0), (.int .i64 0), (.int .i64 0), (.str .empty), (.int .i64 0), (.int .i64 0), (.str .empty), (.flat (.slice none 0 0))], (.struct [(0, 59), (2, 3), (3, 3), (4, 40), (11, 3), (12, 3), (13, 9), (14, 76)])⟩ := rfl
theorem ty78 : CX.ty 78 = some ⟨15, true, 152, [(.int .i64 0), (.int .i64 0), (.int .i64 0), (.int .i64 0), (.int .i64 0), (.int .i64 0), (.int .i64 0), (.int .i64 0), (.int .i64 0), (.int .i64 0), (.str .empty), (.int .i64 0), (.int .i64 0), (.str .empty), (.flat (.slice none 0 0))], (.struct [(0, 59), (2, 3), (3, 3), (4, 40), (11, 3), (12, 3), (13, 9), (14, 76)])⟩ := rfl
theorem ty79 : CX.ty 79 = some ⟨1, false, 8, [(.flat (.pointer none))], .other⟩ := rfl
theorem ty80 : CX.ty 80 = some ⟨1, false, 8, [(.flat (.map none))], (.map 3 40)⟩ := rfl
theorem ty81 : CX.ty 81 = some ⟨8, true, 120, [(.int .i64 0), (.str .empty), (.int .i64 0), (.int .i64 0), (.flat (.slice none 0 0)), (.flat (.slice none 0 0)), (.flat (.slice none 0 0)), (.flat (.map none))], (.struct [(0, 24), (5, 25), (6, 26), (7, 80)])⟩ := rfl
theorem ty82 : CX.ty 82 = some ⟨8, true, 120, [(.int .i64 0), (.str .empty), (.int .i64 0), (.int .i64 0), (.flat (.slice none 0 0)), (.flat (.slice none 0 0)), (.flat (.slice none 0 0)), (.flat (.map none))], (.struct [(0, 24), (5, 25), (6, 26), (7, 80)])⟩ := rfl
theorem ty83 : CX.ty 83 = some ⟨1, false, 8, [(.flat .nilFunc)], .other⟩ := rfl
theorem ty84 : CX.ty 84 = some ⟨1, false, 8, [(.flat .nilFunc)], .other⟩ := rfl
theorem ty85 : CX.ty 85 = some ⟨1, false, 8, [(.flat .nilFunc)], .other⟩ := rfl
theorem ty86 : CX.ty 86 = some ⟨1, false, 8, [(.flat .nilFunc)], .other⟩ := rfl
theorem ty88 : CX.ty 88 = some ⟨1, false, 8, [(.flat .nilFunc)], .other⟩ := rfl
theorem ty89 : CX.ty 89 = some ⟨1, false, 8, [(.flat .nilFunc)], .other⟩ := rfl
theorem ty90 : CX.ty 90 = some ⟨1, false, 8, [(.flat .nilFunc)], .other⟩ := rfl
theorem ty91 : CX.ty 91 = some ⟨1, false, 8, [(.flat .nilFunc)], .other⟩ := rfl
theorem ty92 : CX.ty 92 = some ⟨1, false, 8, [(.flat (.map none))], (.map 9 4)⟩ := rfl
theorem ty93 : CX.ty 93 = some ⟨1, false, 8, [(.flat (.map none))], (.map 3 4)⟩ := rfl
theorem ty94 : CX.ty 94 = some ⟨1, false, 8, [(.flat .nilFunc)], .other⟩ := rfl
theorem ty95 : CX.ty 95 = some ⟨1, false, 8, [(.flat .nilFunc)], .other⟩ := rfl
theorem ty96 : CX.ty 96 = some ⟨1, false, 8, [(.flat .nilFunc)], .other⟩ := rfl
theorem ty97 : CX.ty 97 = some ⟨1, false, 8, [(.flat .nilFunc)], .other⟩ := rfl
theorem ty98 : CX.ty 98 = some ⟨1, false, 8, [(.flat .nilFunc)], .other⟩ := rfl
theorem ty100 : CX.ty 100 = some ⟨1, false, 8, [(.flat .nilFunc)], .other⟩ := rfl
theorem ty101 : CX.ty 101 = some ⟨0, true, 0, [], (.struct [])⟩ := rfl
theorem ty102 : CX.ty 102 = some ⟨0, true, 0, [], (.struct [])⟩ := rfl
theorem ty103 : CX.ty 103 = some ⟨0, true, 0, [], (.struct [])⟩ := rfl
theorem ty104 : CX.ty 104 = some ⟨0, true, 0, [], (.struct [])⟩ := rfl
theorem ty105 : CX.ty 105 = some ⟨0, true, 0, [], (.struct [])⟩ := rfl
theorem ty106 : CX.ty 106 = some ⟨0, true, 0, [], (.struct [])⟩ := rfl
theorem ty107 : CX.ty 107 = some ⟨0, true, 0, [], (.struct [])⟩ := rfl
theorem ty108 : CX.ty 108 = some ⟨0, true, 0, [], (.struct [])⟩ := rfl
theorem ty109 : CX.ty 109 = some ⟨1, false, 24, [(.flat (.slice none 0 0))], (.slice 111)⟩ := rfl
theorem ty110 : CX.ty 110 = some ⟨1, false, 16, [(.flat .nilIface)], .other⟩ := rfl
theorem ty111 : CX.ty 111 = some ⟨1, false, 16, [(.flat .nilIface)], .other⟩ := rfl
theorem ty112 : CX.ty 112 = some ⟨1, false, 8, [(.flat .nilFunc)], .other⟩ := rfl
theorem ty113 : CX.ty 113 = some ⟨1, false, 8, [(.flat .nilFunc)], .other⟩ := rfl
theorem ty115 : CX.ty 115 = some ⟨1, false, 8, [(.flat .nilFunc)], .other⟩ := rfl
theorem ty116 : CX.ty 116 = some ⟨1, false, 8, [(.flat (.map none))], (.map 59 4)⟩ := rfl
theorem ty117 : CX.ty 117 = some ⟨1, false, 8, [(.flat .nilFunc)], .other⟩ := rfl
theorem ty118 : CX.ty 118 = some ⟨1, false, 24, [(.flat (.slice none 0 0))], (.slice 54)⟩ := rfl
theorem ty119 : CX.ty 119 = some ⟨1, false, 8, [(.flat .nilFunc)], .other⟩ := rfl
theorem ty120 : CX.ty 120 = some ⟨1, false, 8, [(.flat .nilFunc)], .other⟩ := rfl
theorem ty121 : CX.ty 121 = some ⟨1, false, 8, [(.flat .nilFunc)], .other⟩ := rfl
theorem ty122 : CX.ty 122 = some ⟨1, false, 8, [(.flat .nilFunc)], .other⟩ := rfl
theorem ty123 : CX.ty 123 = some ⟨1, false, 8, [(.flat .nilFunc)], .other⟩ := rfl
theorem ty124 : CX.ty 124 = some ⟨1, false, 8, [(.flat .nilFunc)], .other⟩ := rfl
theorem ty125 : CX.ty 125 = some ⟨1, false, 8, [(.flat .nilFunc)], .other⟩ := rfl
theorem ty126 : CX.ty 126 = some ⟨1, false, 24, [(.flat (.slice none 0 0))], (.slice 38)⟩ := rfl
theorem ty127 : CX.ty 127 = some ⟨1, false, 8, [(.flat .nilFunc)], .other⟩ := rfl
theorem ty128 : CX.ty 128 = some ⟨1, false, 8, [(.flat .nilFunc)], .other⟩ := rfl
theorem ty129 : CX.ty 129 = some ⟨1, false, 8, [(.flat .nilFunc)], .other⟩ := rfl
theorem ty130 : CX.ty 130 = some ⟨1, false, 8, [(.flat .nilFunc)], .other⟩ := rfl
theorem ty131 : CX.ty 131 = some ⟨1, false, 8, [(.flat .nilFunc)], .other⟩ := rfl
theorem ty132 : CX.ty 132 = some ⟨1, false, 8, [(.flat (.map none))], (.map 3 3)⟩ := rfl
theorem ty133 : CX.ty 133 = some ⟨1, false, 8, [(.flat (.map none))], (.map 154 4)⟩ := rfl
theorem ty134 : CX.ty 134 = some ⟨4, true, 32, [(.flat (.map none)), (.flat (.map none)), (.int .i64 0), (.int .i64 0)], (.struct [(0, 132), (1, 133), (2, 59)])⟩ := rfl
theorem ty135 : CX.ty 135 = some ⟨4, true, 32, [(.flat (.map none)), (.flat (.map none)), (.int .i64 0), (.int .i64 0)], (.struct [(0, 132), (1, 133), (2, 59)])⟩ := rfl
theorem ty136 : CX.ty 136 = some ⟨1, false, 8, [(.flat .nilFunc)], .other⟩ := rfl
theorem ty137 : CX.ty 137 = some ⟨1, false, 8, [(.flat (.map none))], (.map 59 61)⟩ := rfl
theorem ty138 : CX.ty 138 = some ⟨1, false, 8, [(.flat .nilFunc)], .other⟩ := rfl
theorem ty139 : CX.ty 139 = some ⟨1, false, 8, [(.flat .nilFunc)], .other⟩ := rfl
theorem ty140 : CX.ty 140 = some ⟨1, false, 8, [(.flat .nilFunc)], .other⟩ := rfl
theorem ty141 : CX.ty 141 = some ⟨1, false, 8, [(.flat .nilFunc)], .other⟩ := rfl
theorem ty142 : CX.ty 142 = some ⟨1, false, 8, [(.flat .nilFunc)], .other⟩ := rfl
theorem ty143 : CX.ty 143 = some ⟨1, false, 8, [(.flat .nilFunc)], .other⟩ := rfl
theorem ty144 : CX.ty 144 = some ⟨1, false, 8, [(.flat .nilFunc)], .other⟩ := rfl
theorem ty146 : CX.ty 146 = some ⟨1, false, 8, [(.flat .nilFunc)], .other⟩ := rfl
theorem ty147 : CX.ty 147 = some ⟨1, false, 8, [(.flat .nilFunc)], .other⟩ := rfl
theorem ty148 : CX.ty 148 = some ⟨1, false, 8, [(.flat .nilFunc)], .other⟩ := rfl
theorem ty149 : CX.ty 149 = some ⟨1, false, 8, [(.flat .nilFunc)], .other⟩ := rfl
theorem ty150 : CX.ty 150 = some ⟨1, false, 8, [(.flat (.pointer none))], .other⟩ := rfl
theorem ty152 : CX.ty 152 = some ⟨3, true, 24, [(.int .i64 0), (.int .i64 0), (.int .i64 0)], (.array 3 3)⟩ := rfl
theorem ty153 : CX.ty 153 = some ⟨4, true, 32, [(.int .i64 0), (.int .i64 0), (.int .i64 0), (.int .i64 0)], (.struct [(0, 59), (2, 3), (3, 3)])⟩ := rfl
theorem ty154 : CX.ty 154 = some ⟨4, true, 32, [(.int .i64 0), (.int .i64 0), (.int .i64 0), (.int .i64 0)], (.struct [(0, 59), (2, 3), (3, 3)])⟩ := rfl
theorem ty155 : CX.ty 155 = some ⟨1, false, 8, [(.flat .nilFunc)], .other⟩ := rfl
theorem ty156 : CX.ty 156 = some ⟨1, false, 8, [(.flat .nilFunc)], .other⟩ := rfl
theorem ty157 : CX.ty 157 = some ⟨1, false, 8, [(.flat .nilFunc)], .other⟩ := rfl
theorem ty158 : CX.ty 158 = some ⟨1, false, 8, [(.int .u64 0)], (.int .u64)⟩ := rfl
theorem ty159 : CX.ty 159 = some ⟨1, false, 8, [(.flat .nilFunc)], .other⟩ := rfl
theorem ty160 : CX.ty 160 = some ⟨1, false, 8, [(.flat .nilFunc)], .other⟩ := rfl
theorem ty162 : CX.ty 162 = some ⟨1, false, 8, [(.flat .nilFunc)], .other⟩ := rfl
theorem ty163 : CX.ty 163 = some ⟨1, false, 8, [(.flat .nilFunc)], .other⟩ := rfl
theorem ty164 : CX.ty 164 = some ⟨1, false, 8, [(.flat .nilFunc)], .other⟩ := rfl
theorem ty165 : CX.ty 165 = some ⟨1, false, 8, [(.flat .nilFunc)], .other⟩ := rfl
theorem ty166 : CX.ty 166 = some ⟨1, false, 8, [(.flat .nilFunc)], .other⟩ := rfl
theorem ty167 : CX.ty 167 = some ⟨1, false, 8, [(.flat .nilFunc)], .other⟩ := rfl
theorem ty168 : CX.ty 168 = some ⟨1, false, 8, [(.flat .nilFunc)], .other⟩ := rfl
theorem ty169 : CX.ty 169 = some ⟨1, false, 8, [(.flat .nilFunc)], .other⟩ := rfl
theorem ty170 : CX.ty 170 = some ⟨1, false, 8, [(.int .i64 0)], (.int .i64)⟩ := rfl
theorem ty172 : CX.ty 172 = some ⟨1, false, 8, [(.flat .nilFunc)], .other⟩ := rfl
theorem ty173 : CX.ty 173 = some ⟨1, false, 8, [(.flat .nilFunc)], .other⟩ := rfl
theorem ty174 : CX.ty 174 = some ⟨1, false, 8, [(.flat .nilFunc)], .other⟩ := rfl
theorem ty175 : CX.ty 175 = some ⟨1, false, 8, [(.flat .nilFunc)], .other⟩ := rfl
theorem ty176 : CX.ty 176 = some ⟨1, false, 8, [(.flat .nilFunc)], .other⟩ := rfl
theorem ty177 : CX.ty 177 = some ⟨1, false, 4, [(.int .u32 0)], (.int .u32)⟩ := rfl
theorem ty178 : CX.ty 178 = some ⟨1, false, 8, [(.flat .nilFunc)], .other⟩ := rfl
theorem ty179 : CX.ty 179 = some ⟨1, false, 8, [(.int .u64 0)], (.int .u64)⟩ := rfl
theorem ty180 : CX.ty 180 = some ⟨1, false, 8, [(.flat .nilFunc)], .other⟩ := rfl
theorem ty181 : CX.ty 181 = some ⟨1, false, 8, [(.flat .nilFunc)], .other⟩ := rfl
theorem ty182 : CX.ty 182 = some ⟨1, false, 8, [(.flat .nilFunc)], .other⟩ := rfl
theorem ty183 : CX.ty 183 = some ⟨1, false, 8, [(.flat .nilFunc)], .other⟩ := rfl
theorem ty184 : CX.ty 184 = some ⟨1, false, 8, [(.flat .nilFunc)], .other⟩ := rfl
theorem ty185 : CX.ty 185 = some ⟨1, false, 8, [(.flat .nilFunc)], .other⟩ := rfl
theorem ty186 : CX.ty 186 = some ⟨1, false, 8, [(.flat .nilFunc)], .other⟩ := rfl
theorem ty187 : CX.ty 187 = some ⟨1, false, 24, [(.flat (.slice none 0 0))], (.slice 34)⟩ := rfl
theorem ty188 : CX.ty 188 = some ⟨1, false, 8, [(.flat .nilFunc)], .other⟩ := rfl
theorem ty189 : CX.ty 189 = some ⟨1, false, 8, [(.int .u64 0)], (.int .u64)⟩ := rfl
theorem ty190 : CX.ty 190 = some ⟨1, false, 8, [(.flat .nilFunc)], .other⟩ := rfl
theorem ty191 : CX.ty 191 = some ⟨1, false, 8, [(.flat .nilFunc)], .other⟩ := rfl
theorem ty192 : CX.ty 192 = some ⟨1, false, 8, [(.flat .nilFunc)], .other⟩ := rfl
theorem ty193 : CX.ty 193 = some ⟨1, false, 8, [(.flat (.pointer none))], .other⟩ := rfl
theorem ty194 : CX.ty 194 = some ⟨1, false, 8, [(.flat .nilFunc)], .other⟩ := rfl
theorem ty195 : CX.ty 195 = some ⟨1, false, 24, [(.flat (.slice none 0 0))], (.slice 5)⟩ := rfl
theorem ty196 : CX.ty 196 = some ⟨1, false, 8, [(.flat .nilFunc)], .other⟩ := rfl
theorem ty197 : CX.ty 197 = some ⟨1, false, 8, [(.flat .nilFunc)], .other⟩ := rfl
theorem ty198 : CX.ty 198 = some ⟨1, false, 8, [(.flat (.pointer none))], .other⟩ := rfl
theorem ty199 : CX.ty 199 = some ⟨1, false, 8, [(.flat .nilFunc)], .other⟩ := rfl
theorem ty200 : CX.ty 200 = some ⟨1, false, 8, [(.flat .nilFunc)], .other⟩ := rfl
theorem ty201 : CX.ty 201 = some ⟨1, false, 8, [(.flat .nilFunc)], .other⟩ := rfl
theorem ty202 : CX.ty 202 = some ⟨1, false, 8, [(.flat .nilFunc)], .other⟩ := rfl
theorem ty203 : CX.ty 203 = some ⟨1, false, 8, [(.flat .nilFunc)], .other⟩ := rfl
theorem ty204 : CX.ty 204 = some ⟨1, false, 8, [(.flat .nilFunc)], .other⟩ := rfl
theorem ty206 : CX.ty 206 = some ⟨2, true, 2, [(.int .u8 0), (.int .u8 0)], (.struct [(0, 5), (1, 5)])⟩ := rfl
theorem ty207 : CX.ty 207 = some ⟨2, true, 2, [(.int .u8 0), (.int .u8 0)], (.struct [(0, 5), (1, 5)])⟩ := rfl
theorem ty208 : CX.ty 208 = some ⟨32, true, 32, [(.int .u8 0), (.int .u8 0), (.int .u8 0), (.int .u8 0), (.int .u8 0), (.int .u8 0), (.int .u8 0), (.int .u8 0), (.int .u8 0), (.int .u8 0), (.int .u8 0), (.int .u8 0), (.int .u8 0), (.int .u8 0), (.int .u8 0), (.int .u8 0), (.int .u8 0), (.int .u8 0), (.int .u8 0), (.int .u8 0), (.int .u8 0), (.int .u8 0), (.int .u8 0), (.int .u8 0), (.int .u8 0), (.int .u8 0), (.int .u8 0), (.int .u8 0), (.int .u8 0), (.int .u8 0), (.int .u8 0), (.int .u8 0)], (.array 16 207)⟩ := rfl
theorem ty209 : CX.ty 209 = some ⟨1, false, 8, [(.flat .nilFunc)], .other⟩ := rfl
theorem ty210 : CX.ty 210 = some ⟨4, true, 40, [(.flat (.pointer none)), (.flat (.pointer none)), (.flat (.pointer none)), (.str .empty)], (.struct [(0, 17), (1, 17), (2, 17), (3, 9)])⟩ := rfl
theorem ty211 : CX.ty 211 = some ⟨4, true, 40, [(.flat (.pointer none)), (.flat (.pointer none)), (.flat (.pointer none)), (.str .empty)], (.struct [(0, 17), (1, 17), (2, 17), (3, 9)])⟩ := rfl
theorem ty212 : CX.ty 212 = some ⟨0, true, 0, [], (.array 0 16)⟩ := rfl
theorem ty213 : CX.ty 213 = some ⟨0, true, 0, [], (.struct [(0, 212)])⟩ := rfl
theorem ty214 : CX.ty 214 = some ⟨0, true, 0, [], (.struct [(0, 212)])⟩ := rfl
theorem ty215 : CX.ty 215 = some ⟨1, false, 8, [(.flat .nilFunc)], .other⟩ := rfl
theorem ty216 : CX.ty 216 = some ⟨1, false, 1, [(.int .u8 0)], (.int .u8)⟩ := rfl
theorem ty217 : CX.ty 217 = some ⟨1, false, 1, [(.int .u8 0)], (.int .u8)⟩ := rfl
theorem ty218 : CX.ty 218 = some ⟨1, false, 8, [(.flat .nilFunc)], .other⟩ := rfl
theorem ty219 : CX.ty 219 = some ⟨1, false, 8, [(.flat (.pointer none))], .other⟩ := rfl
theorem ty220 : CX.ty 220 = some ⟨1, false, 4, [(.int .i32 0)], (.int .i32)⟩ := rfl
theorem ty221 : CX.ty 221 = some ⟨1, false, 4, [(.int .i32 0)], (.int .i32)⟩ := rfl
theorem ty222 : CX.ty 222 = some ⟨11, true, 48, [(.int .u64 0), (.int .u64 0), (.int .u32 0), (.int .u8 0), (.int .u8 0), (.int .u8 0), (.int .u8 0), (.flat .nilFunc), (.flat (.pointer none)), (.int .i32 0), (.int .i32 0)], (.struct [(0, 12), (1, 12), (2, 177), (3, 216), (4, 5), (5, 5), (6, 217), (7, 218), (8, 219), (9, 220), (10, 221)])⟩ := rfl
theorem ty223 : CX.ty 223 = some ⟨11, true, 48, [(.int .u64 0), (.int .u64 0), (.int .u32 0), (.int .u8 0), (.int .u8 0), (.int .u8 0), (.int .u8 0), (.flat .nilFunc), (.flat (.pointer none)), (.int .i32 0), (.int .i32 0)], (.struct [(0, 12), (1, 12), (2, 177), (3, 216), (4, 5), (5, 5), (6, 217), (7, 218), (8, 219), (9, 220), (10, 221)])⟩ := rfl
theorem ty224 : CX.ty 224 = some ⟨1, false, 8, [(.flat (.pointer none))], .other⟩ := rfl
theorem fn3 : CX.fn 3 = some Tryz.f3 := by kernel_rfl
theorem br3 : CX.byRef 3 = false := rfl
theorem nt3 : Tryz.f3.ntmps = 187 := rfl
theorem fn4 : CX.fn 4 = some Tryz.f4 := by kernel_rfl
theorem br4 : CX.byRef 4 = false := rfl
theorem nt4 : Tryz.f4.ntmps = 25 := rfl
theorem fn5 : CX.fn 5 = some Tryz.f5 := by kernel_rfl
theorem br5 : CX.byRef 5 = false := rfl
theorem nt5 : Tryz.f5.ntmps = 35 := rfl
theorem fn6 : CX.fn 6 = some Tryz.f6 := by kernel_rfl
theorem br6 : CX.byRef 6 = false := rfl
theorem nt6 : Tryz.f6.ntmps = 86 := rfl
theorem fn7 : CX.fn 7 = some Tryz.f7 := by kernel_rfl
theorem br7 : CX.byRef 7 = false := rfl
theorem nt7 : Tryz.f7.ntmps = 14 := rfl
theorem fn8 : CX.fn 8 = some Tryz.f8 := by kernel_rfl
theorem br8 : CX.byRef 8 = false := rfl
theorem nt8 : Tryz.f8.ntmps = 43 := rfl
theorem fn9 : CX.fn 9 = some Tryz.f9 := by kernel_rfl
theorem br9 : CX.byRef 9 = false := rfl
theorem nt9 : Tryz.f9.ntmps = 88 := rfl
theorem fn10 : CX.fn 10 = some Tryz.f10 := by kernel_rfl
theorem br10 : CX.byRef 10 = false := rfl
theorem nt10 : Tryz.f10.ntmps = 41 := rfl
theorem fn11 : CX.fn 11 = some Tryz.f11 := by kernel_rfl
theorem br11 : CX.byRef 11 = false := rfl
theorem nt11 : Tryz.f11.ntmps = 28 := rfl
theorem fn12 : CX.fn 12 = some Tryz.f12 := by kernel_rfl
theorem br12 : CX.byRef 12 = false := rfl
theorem nt12 : Tryz.f12.ntmps = 54 := rfl
theorem fn13 : CX.fn 13 = some Tryz.f13 := by kernel_rfl
theorem br13 : CX.byRef 13 = false := rfl
theorem nt13 : Tryz.f13.ntmps = 19 := rfl
theorem fn14 : CX.fn 14 = some Tryz.f14 := by kernel_rfl
theorem br14 : CX.byRef 14 = false := rfl
theorem nt14 : Tryz.f14.ntmps = 26 := rfl
theorem fn15 : CX.fn 15 = some Tryz.f15 := by kernel_rfl
theorem br15 : CX.byRef 15 = false := rfl
theorem nt15 : Tryz.f15.ntmps = 26 := rfl
theorem fn16 : CX.fn 16 = some Tryz.f16 := by kernel_rfl
theorem br16 : CX.byRef 16 = false := rfl
theorem nt16 : Tryz.f16.ntmps = 37 := rfl
theorem fn17 : CX.fn 17 = some Tryz.f17 := by kernel_rfl
theorem br17 : CX.byRef 17 = false := rfl
theorem nt17 : Tryz.f17.ntmps = 26 := rfl
theorem fn18 : CX.fn 18 = some Tryz.f18 := by kernel_rfl
theorem br18 : CX.byRef 18 = false := rfl
theorem nt18 : Tryz.f18.ntmps = 30 := rfl
theorem fn19 : CX.fn 19 = some Tryz.f19 := by kernel_rfl
theorem br19 : CX.byRef 19 = false := rfl
theorem nt19 : Tryz.f19.ntmps = 59 := rfl
theorem fn20 : CX.fn 20 = some Tryz.f20 := by kernel_rfl
theorem br20 : CX.byRef 20 = false := rfl
theorem nt20 : Tryz.f20.ntmps = 25 := rfl
theorem fn21 : CX.fn 21 = some Tryz.f21 := by kernel_rfl
theorem br21 : CX.byRef 21 = false := rfl
theorem nt21 : Tryz.f21.ntmps = 28 := rfl
theorem fn22 : CX.fn 22 = some Tryz.f22 := by kernel_rfl
theorem br22 : CX.byRef 22 = false := rfl
theorem nt22 : Tryz.f22.ntmps = 12 := rfl
theorem fn23 : CX.fn 23 = some Tryz.f23 := by kernel_rfl
theorem br23 : CX.byRef 23 = false := rfl
theorem nt23 : Tryz.f23.ntmps = 29 := rfl
theorem fn24 : CX.fn 24 = some Tryz.f24 := by kernel_rfl
theorem br24 : CX.byRef 24 = false := rfl
theorem nt24 : Tryz.f24.ntmps = 45 := rfl
theorem fn25 : CX.fn 25 = some Tryz.f25 := by kernel_rfl
theorem br25 : CX.byRef 25 = true := rfl
theorem nt25 : Tryz.f25.ntmps = 36 := rfl
theorem fn26 : CX.fn 26 = some Tryz.f26 := by kernel_rfl
theorem br26 : CX.byRef 26 = true := rfl
theorem nt26 : Tryz.f26.ntmps = 42 := rfl
theorem fn27 : CX.fn 27 = some Tryz.f27 := by kernel_rfl
theorem br27 : CX.byRef 27 = false := rfl
theorem nt27 : Tryz.f27.ntmps = 148 := rfl
theorem fn28 : CX.fn 28 = some Tryz.f28 := by kernel_rfl
theorem br28 : CX.byRef 28 = false := rfl
theorem nt28 : Tryz.f28.ntmps = 97 := rfl
theorem fn29 : CX.fn 29 = some Tryz.f29 := by kernel_rfl
theorem br29 : CX.byRef 29 = false := rfl
theorem nt29 : Tryz.f29.ntmps = 20 := rfl
theorem fn30 : CX.fn 30 = some Tryz.f30 := by kernel_rfl
theorem br30 : CX.byRef 30 = false := rfl
theorem nt30 : Tryz.f30.ntmps = 54 := rfl
theorem fn31 : CX.fn 31 = some Tryz.f31 := by kernel_rfl
theorem br31 : CX.byRef 31 = false := rfl
theorem nt31 : Tryz.f31.ntmps = 77 := rfl
theorem fn32 : CX.fn 32 = some Tryz.f32 := by kernel_rfl
theorem br32 : CX.byRef 32 = false := rfl
theorem nt32 : Tryz.f32.ntmps = 7 := rfl
theorem fn33 : CX.fn 33 = some Tryz.f33 := by kernel_rfl
theorem br33 : CX.byRef 33 = false := rfl
theorem nt33 : Tryz.f33.ntmps = 14 := rfl
theorem fn34 : CX.fn 34 = some Tryz.f34 := by kernel_rfl
theorem br34 : CX.byRef 34 = false := rfl
theorem nt34 : Tryz.f34.ntmps = 21 := rfl
theorem fn35 : CX.fn 35 = some Tryz.f35 := by kernel_rfl
theorem br35 : CX.byRef 35 = false := rfl
theorem nt35 : Tryz.f35.ntmps = 25 := rfl
theorem fn36 : CX.fn 36 = some Tryz.f36 := by kernel_rfl
theorem br36 : CX.byRef 36 = false := rfl
theorem nt36 : Tryz.f36.ntmps = 8 := rfl
theorem fn37 : CX.fn 37 = some Tryz.f37 := by kernel_rfl
theorem br37 : CX.byRef 37 = false := rfl
theorem nt37 : Tryz.f37.ntmps = 46 := rfl
theorem fn38 : CX.fn 38 = some Tryz.f38 := by kernel_rfl
theorem br38 : CX.byRef 38 = false := rfl
theorem nt38 : Tryz.f38.ntmps = 14 := rfl
theorem fn39 : CX.fn 39 = some Tryz.f39 := by kernel_rfl
theorem br39 : CX.byRef 39 = false := rfl
theorem nt39 : Tryz.f39.ntmps = 21 := rfl
theorem fn40 : CX.fn 40 = some Tryz.f40 := by kernel_rfl
theorem br40 : CX.byRef 40 = false := rfl
theorem nt40 : Tryz.f40.ntmps = 28 := rfl
theorem fn41 : CX.fn 41 = some Tryz.f41 := by kernel_rfl
theorem br41 : CX.byRef 41 = false := rfl
theorem nt41 : Tryz.f41.ntmps = 58 := rfl
theorem fn42 : CX.fn 42 = some Tryz.f42 := by kernel_rfl
theorem br42 : CX.byRef 42 = false := rfl
theorem nt42 : Tryz.f42.ntmps = 136 := rfl
theorem fn43 : CX.fn 43 = some Tryz.f43 := by kernel_rfl
theorem br43 : CX.byRef 43 = false := rfl
theorem nt43 : Tryz.f43.ntmps = 34 := rfl
theorem fn44 : CX.fn 44 = some Tryz.f44 := by kernel_rfl
theorem br44 : CX.byRef 44 = false := rfl
theorem nt44 : Tryz.f44.ntmps = 117 := rfl
theorem fn45 : CX.fn 45 = some Tryz.f45 := by kernel_rfl
theorem br45 : CX.byRef 45 = false := rfl
theorem nt45 : Tryz.f45.ntmps = 44 := rfl
theorem fn46 : CX.fn 46 = some Tryz.f46 := by kernel_rfl
theorem br46 : CX.byRef 46 = false := rfl
theorem nt46 : Tryz.f46.ntmps = 13 := rfl
theorem fn47 : CX.fn 47 = some Tryz.f47 := by kernel_rfl
theorem br47 : CX.byRef 47 = false := rfl
theorem nt47 : Tryz.f47.ntmps = 44 := rfl
theorem fn48 : CX.fn 48 = some Tryz.f48 := by kernel_rfl
theorem br48 : CX.byRef 48 = false := rfl
theorem nt48 : Tryz.f48.ntmps = 15 := rfl
theorem fn49 : CX.fn 49 = some Tryz.f49 := by kernel_rfl
theorem br49 : CX.byRef 49 = false := rfl
theorem nt49 : Tryz.f49.ntmps = 21 := rfl
theorem fn50 : CX.fn 50 = some Tryz.f50 := by kernel_rfl
theorem br50 : CX.byRef 50 = false := rfl
theorem nt50 : Tryz.f50.ntmps = 30 := rfl
theorem fn51 : CX.fn 51 = some Tryz.f51 := by kernel_rfl
theorem br51 : CX.byRef 51 = true := rfl
theorem nt51 : Tryz.f51.ntmps = 61 := rfl
theorem fn52 : CX.fn 52 = some Tryz.f52 := by kernel_rfl
theorem br52 : CX.byRef 52 = false := rfl
theorem nt52 : Tryz.f52.ntmps = 9 := rfl
theorem fn53 : CX.fn 53 = some Tryz.f53 := by kernel_rfl
theorem br53 : CX.byRef 53 = true := rfl
theorem nt53 : Tryz.f53.ntmps = 4 := rfl
theorem fn54 : CX.fn 54 = some Tryz.f54 := by kernel_rfl
theorem br54 : CX.byRef 54 = true := rfl
theorem nt54 : Tryz.f54.ntmps = 129 := rfl
theorem fn55 : CX.fn 55 = some Tryz.f55 := by kernel_rfl
theorem br55 : CX.byRef 55 = false := rfl
theorem nt55 : Tryz.f55.ntmps = 26 := rfl
theorem fn56 : CX.fn 56 = some Tryz.f56 := by kernel_rfl
theorem br56 : CX.byRef 56 = false := rfl
theorem nt56 : Tryz.f56.ntmps = 10 := rfl
theorem fn57 : CX.fn 57 = some Tryz.f57 := by kernel_rfl
theorem br57 : CX.byRef 57 = false := rfl
theorem nt57 : Tryz.f57.ntmps = 17 := rfl
theorem fn58 : CX.fn 58 = some Tryz.f58 := by kernel_rfl
theorem br58 : CX.byRef 58 = false := rfl
theorem nt58 : Tryz.f58.ntmps = 46 := rfl
theorem fn59 : CX.fn 59 = some Tryz.f59 := by kernel_rfl
theorem br59 : CX.byRef 59 = true := rfl
theorem nt59 : Tryz.f59.ntmps = 14 := rfl
theorem fn60 : CX.fn 60 = some Tryz.f60 := by kernel_rfl
theorem br60 : CX.byRef 60 = false := rfl
theorem nt60 : Tryz.f60.ntmps = 10 := rfl
theorem fn61 : CX.fn 61 = some Tryz.f61 := by kernel_rfl
theorem br61 : CX.byRef 61 = false := rfl
theorem nt61 : Tryz.f61.ntmps = 23 := rfl
theorem fn62 : CX.fn 62 = some Tryz.f62 := by kernel_rfl
theorem br62 : CX.byRef 62 = false := rfl
theorem nt62 : Tryz.f62.ntmps = 59 := rfl
theorem fn63 : CX.fn 63 = some Tryz.f63 := by kernel_rfl
theorem br63 : CX.byRef 63 = false := rfl
theorem nt63 : Tryz.f63.ntmps = 13 := rfl
theorem fn64 : CX.fn 64 = some Tryz.f64 := by kernel_rfl
theorem br64 : CX.byRef 64 = false := rfl
theorem nt64 : Tryz.f64.ntmps = 11 := rfl
theorem fn65 : CX.fn 65 = some Tryz.f65 := by kernel_rfl
theorem br65 : CX.byRef 65 = false := rfl
theorem nt65 : Tryz.f65.ntmps = 11 := rfl
theorem fn66 : CX.fn 66 = some Tryz.f66 := by kernel_rfl
theorem br66 : CX.byRef 66 = false := rfl
theorem nt66 : Tryz.f66.ntmps = 28 := rfl
theorem fn67 : CX.fn 67 = some Tryz.f67 := by kernel_rfl
theorem br67 : CX.byRef 67 = false := rfl
theorem nt67 : Tryz.f67.ntmps = 18 := rfl
theorem fn68 : CX.fn 68 = some Tryz.f68 := by kernel_rfl
theorem br68 : CX.byRef 68 = false := rfl
theorem nt68 : Tryz.f68.ntmps = 27 := rfl
theorem fn69 : CX.fn 69 = some Tryz.f69 := by kernel_rfl
theorem br69 : CX.byRef 69 = false := rfl
theorem nt69 : Tryz.f69.ntmps = 5 := rfl
theorem fn70 : CX.fn 70 = some Tryz.f70 := by kernel_rfl
theorem br70 : CX.byRef 70 = true := rfl
theorem nt70 : Tryz.f70.ntmps = 11 := rfl
theorem fn71 : CX.fn 71 = some Tryz.f71 := by kernel_rfl
theorem br71 : CX.byRef 71 = true := rfl
theorem nt71 : Tryz.f71.ntmps = 16 := rfl
theorem fn72 : CX.fn 72 = some Tryz.f72 := by kernel_rfl
theorem br72 : CX.byRef 72 = false := rfl
theorem nt72 : Tryz.f72.ntmps = 67 := rfl
theorem fn73 : CX.fn 73 = some Tryz.f73 := by kernel_rfl
theorem br73 : CX.byRef 73 = false := rfl
theorem nt73 : Tryz.f73.ntmps = 24 := rfl
theorem fn74 : CX.fn 74 = some Tryz.f74 := by kernel_rfl
theorem br74 : CX.byRef 74 = true := rfl
theorem nt74 : Tryz.f74.ntmps = 148 := rfl
theorem fn75 : CX.fn 75 = some Tryz.f75 := by kernel_rfl
theorem br75 : CX.byRef 75 = false := rfl
theorem nt75 : Tryz.f75.ntmps = 8 := rfl
theorem fn76 : CX.fn 76 = some Tryz.f76 := by kernel_rfl
theorem br76 : CX.byRef 76 = false := rfl
theorem nt76 : Tryz.f76.ntmps = 18 := rfl
theorem fn77 : CX.fn 77 = some Tryz.f77 := by kernel_rfl
theorem br77 : CX.byRef 77 = false := rfl
theorem nt77 : Tryz.f77.ntmps = 20 := rfl
theorem fn78 : CX.fn 78 = some Tryz.f78 := by kernel_rfl
theorem br78 : CX.byRef 78 = false := rfl
theorem nt78 : Tryz.f78.ntmps = 65 := rfl
theorem fn79 : CX.fn 79 = some Tryz.f79 := by kernel_rfl
theorem br79 : CX.byRef 79 = false := rfl
theorem nt79 : Tryz.f79.ntmps = 24 := rfl
theorem fn80 : CX.fn 80 = some Tryz.f80 := by kernel_rfl
theorem br80 : CX.byRef 80 = false := rfl
theorem nt80 : Tryz.f80.ntmps = 57 := rfl
theorem fn81 : CX.fn 81 = some Tryz.f81 := by kernel_rfl
theorem br81 : CX.byRef 81 = false := rfl
theorem nt81 : Tryz.f81.ntmps = 13 := rfl
theorem fn82 : CX.fn 82 = some Tryz.f82 := by kernel_rfl
theorem br82 : CX.byRef 82 = true := rfl
theorem nt82 : Tryz.f82.ntmps = 134 := rfl
theorem fn83 : CX.fn 83 = some Tryz.f83 := by kernel_rfl
theorem br83 : CX.byRef 83 = false := rfl
theorem nt83 : Tryz.f83.ntmps = 5 := rfl
theorem fn84 : CX.fn 84 = some Tryz.f84 := by kernel_rfl
theorem br84 : CX.byRef 84 = false := rfl
theorem nt84 : Tryz.f84.ntmps = 15 := rfl
theorem fn85 : CX.fn 85 = some Tryz.f85 := by kernel_rfl
theorem br85 : CX.byRef 85 = false := rfl
theorem nt85 : Tryz.f85.ntmps = 56 := rfl
theorem fn86 : CX.fn 86 = some Tryz.f86 := by kernel_rfl
theorem br86 : CX.byRef 86 = false := rfl
theorem nt86 : Tryz.f86.ntmps = 27 := rfl
theorem fn87 : CX.fn 87 = some Tryz.f87 := by kernel_rfl
theorem br87 : CX.byRef 87 = false := rfl
theorem nt87 : Tryz.f87.ntmps = 30 := rfl
theorem fn88 : CX.fn 88 = some Tryz.f88 := by kernel_rfl
theorem br88 : CX.byRef 88 = false := rfl
theorem nt88 : Tryz.f88.ntmps = 45 := rfl
theorem fn89 : CX.fn 89 = some Tryz.f89 := by kernel_rfl
theorem br89 : CX.byRef 89 = true := rfl
theorem nt89 : Tryz.f89.ntmps = 53 := rfl
theorem fn90 : CX.fn 90 = some Tryz.f90 := by kernel_rfl
theorem br90 : CX.byRef 90 = true := rfl
theorem nt90 : Tryz.f90.ntmps = 60 := rfl
theorem fn91 : CX.fn 91 = some Tryz.f91 := by kernel_rfl
theorem br91 : CX.byRef 91 = true := rfl
theorem nt91 : Tryz.f91.ntmps = 67 := rfl
theorem fn92 : CX.fn 92 = some Tryz.f92 := by kernel_rfl
theorem br92 : CX.byRef 92 = true := rfl
theorem nt92 : Tryz.f92.ntmps = 63 := rfl
theorem fn93 : CX.fn 93 = some Tryz.f93 := by kernel_rfl
theorem br93 : CX.byRef 93 = true := rfl
theorem nt93 : Tryz.f93.ntmps = 34 := rfl
theorem fn94 : CX.fn 94 = some Tryz.f94 := by kernel_rfl
theorem br94 : CX.byRef 94 = true := rfl
theorem nt94 : Tryz.f94.ntmps = 141 := rfl
theorem fn95 : CX.fn 95 = some Tryz.f95 := by kernel_rfl
theorem br95 : CX.byRef 95 = true := rfl
theorem nt95 : Tryz.f95.ntmps = 90 := rfl
theorem fn96 : CX.fn 96 = some Tryz.f96 := by kernel_rfl
theorem br96 : CX.byRef 96 = true := rfl
theorem nt96 : Tryz.f96.ntmps = 178 := rfl
theorem fn97 : CX.fn 97 = some Tryz.f97 := by kernel_rfl
theorem br97 : CX.byRef 97 = false := rfl
theorem nt97 : Tryz.f97.ntmps = 19 := rfl
theorem fn98 : CX.fn 98 = some Tryz.f98 := by kernel_rfl
theorem br98 : CX.byRef 98 = false := rfl
theorem nt98 : Tryz.f98.ntmps = 25 := rfl
theorem fn99 : CX.fn 99 = some Tryz.f99 := by kernel_rfl
theorem br99 : CX.byRef 99 = false := rfl
theorem nt99 : Tryz.f99.ntmps = 6 := rfl
theorem fn100 : CX.fn 100 = some Tryz.f100 := by kernel_rfl
theorem br100 : CX.byRef 100 = false := rfl
theorem nt100 : Tryz.f100.ntmps = 17 := rfl
theorem fn101 : CX.fn 101 = some Tryz.f101 := by kernel_rfl
theorem br101 : CX.byRef 101 = false := rfl
theorem nt101 : Tryz.f101.ntmps = 61 := rfl
theorem fn102 : CX.fn 102 = some Tryz.f102 := by kernel_rfl
theorem br102 : CX.byRef 102 = false := rfl
theorem nt102 : Tryz.f102.ntmps = 69 := rfl
theorem fn103 : CX.fn 103 = some Tryz.f103 := by kernel_rfl
theorem br103 : CX.byRef 103 = true := rfl
theorem nt103 : Tryz.f103.ntmps = 49 := rfl
theorem fn104 : CX.fn 104 = some Tryz.f104 := by kernel_rfl
theorem br104 : CX.byRef 104 = true := rfl
theorem nt104 : Tryz.f104.ntmps = 56 := rfl
theorem fn105 : CX.fn 105 = some Tryz.f105 := by kernel_rfl
theorem br105 : CX.byRef 105 = true := rfl
theorem nt105 : Tryz.f105.ntmps = 65 := rfl
theorem fn106 : CX.fn 106 = some Tryz.f106 := by kernel_rfl
theorem br106 : CX.byRef 106 = true := rfl
theorem nt106 : Tryz.f106.ntmps = 57 := rfl
theorem fn107 : CX.fn 107 = some Tryz.f107 := by kernel_rfl
theorem br107 : CX.byRef 107 = true := rfl
theorem nt107 : Tryz.f107.ntmps = 32 := rfl
theorem fn108 : CX.fn 108 = some Tryz.f108 := by kernel_rfl
theorem br108 : CX.byRef 108 = true := rfl
theorem nt108 : Tryz.f108.ntmps = 133 := rfl
theorem fn109 : CX.fn 109 = some Tryz.f109 := by kernel_rfl
theorem br109 : CX.byRef 109 = false := rfl
theorem nt109 : Tryz.f109.ntmps = 17 := rfl
theorem fn110 : CX.fn 110 = some Tryz.f110 := by kernel_rfl
theorem br110 : CX.byRef 110 = true := rfl
theorem nt110 : Tryz.f110.ntmps = 84 := rfl
theorem fn111 : CX.fn 111 = some Tryz.f111 := by kernel_rfl
theorem br111 : CX.byRef 111 = true := rfl
theorem nt111 : Tryz.f111.ntmps = 168 := rfl
theorem fn112 : CX.fn 112 = some Tryz.f112 := by kernel_rfl
theorem br112 : CX.byRef 112 = false := rfl
theorem nt112 : Tryz.f112.ntmps = 18 := rfl
theorem fn113 : CX.fn 113 = some Tryz.f113 := by kernel_rfl
theorem br113 : CX.byRef 113 = false := rfl
theorem nt113 : Tryz.f113.ntmps = 32 := rfl
theorem fn114 : CX.fn 114 = some Tryz.f114 := by kernel_rfl
theorem br114 : CX.byRef 114 = false := rfl
theorem nt114 : Tryz.f114.ntmps = 15 := rfl
theorem fn115 : CX.fn 115 = some Tryz.f115 := by kernel_rfl
theorem br115 : CX.byRef 115 = true := rfl
theorem nt115 : Tryz.f115.ntmps = 82 := rfl
theorem fn116 : CX.fn 116 = some Tryz.f116 := by kernel_rfl
theorem br116 : CX.byRef 116 = false := rfl
theorem nt116 : Tryz.f116.ntmps = 7 := rfl
theorem fn117 : CX.fn 117 = some Tryz.f117 := by kernel_rfl
theorem br117 : CX.byRef 117 = true := rfl
theorem nt117 : Tryz.f117.ntmps = 33 := rfl
theorem fn118 : CX.fn 118 = some Tryz.f118 := by kernel_rfl
theorem br118 : CX.byRef 118 = true := rfl
theorem nt118 : Tryz.f118.ntmps = 18 := rfl
theorem fn119 : CX.fn 119 = some Tryz.f119 := by kernel_rfl
theorem br119 : CX.byRef 119 = true := rfl
theorem nt119 : Tryz.f119.ntmps = 41 := rfl
theorem fn120 : CX.fn 120 = some Tryz.f120 := by kernel_rfl
theorem br120 : CX.byRef 120 = true := rfl
theorem nt120 : Tryz.f120.ntmps = 76 := rfl
theorem fn121 : CX.fn 121 = some Tryz.f121 := by kernel_rfl
theorem br121 : CX.byRef 121 = true := rfl
theorem nt121 : Tryz.f121.ntmps = 15 := rfl
theorem fn122 : CX.fn 122 = some Tryz.f122 := by kernel_rfl
theorem br122 : CX.byRef 122 = true := rfl
theorem nt122 : Tryz.f122.ntmps = 36 := rfl
theorem fn123 : CX.fn 123 = some Tryz.f123 := by kernel_rfl
theorem br123 : CX.byRef 123 = false := rfl
theorem nt123 : Tryz.f123.ntmps = 19 := rfl
theorem fn124 : CX.fn 124 = some Tryz.f124 := by kernel_rfl
theorem br124 : CX.byRef 124 = true := rfl
theorem nt124 : Tryz.f124.ntmps = 32 := rfl
theorem fn125 : CX.fn 125 = some Tryz.f125 := by kernel_rfl
theorem br125 : CX.byRef 125 = true := rfl
theorem nt125 : Tryz.f125.ntmps = 28 := rfl
theorem fn126 : CX.fn 126 = some Tryz.f126 := by kernel_rfl
theorem br126 : CX.byRef 126 = false := rfl
theorem nt126 : Tryz.f126.ntmps = 169 := rfl
theorem fn127 : CX.fn 127 = some Tryz.f127 := by kernel_rfl
theorem br127 : CX.byRef 127 = false := rfl
theorem nt127 : Tryz.f127.ntmps = 4 := rfl
theorem fn128 : CX.fn 128 = some Tryz.f128 := by kernel_rfl
theorem br128 : CX.byRef 128 = false := rfl
theorem nt128 : Tryz.f128.ntmps = 59 := rfl
theorem fn129 : CX.fn 129 = some Tryz.f129 := by kernel_rfl
theorem br129 : CX.byRef 129 = false := rfl
theorem nt129 : Tryz.f129.ntmps = 17 := rfl
theorem fn145 : CX.fn 145 = some Tryz.f145 := by kernel_rfl
theorem br145 : CX.byRef 145 = true := rfl
theorem nt145 : Tryz.f145.ntmps = 29 := rfl
theorem fn146 : CX.fn 146 = some Tryz.f146 := by kernel_rfl
theorem br146 : CX.byRef 146 = true := rfl
theorem nt146 : Tryz.f146.ntmps = 13 := rfl
theorem fn147 : CX.fn 147 = some Tryz.f147 := by kernel_rfl
theorem br147 : CX.byRef 147 = true := rfl
theorem nt147 : Tryz.f147.ntmps = 43 := rfl
theorem fn148 : CX.fn 148 = some Tryz.f148 := by kernel_rfl
theorem br148 : CX.byRef 148 = true := rfl
theorem nt148 : Tryz.f148.ntmps = 10 := rfl
theorem fn149 : CX.fn 149 = some Tryz.f149 := by kernel_rfl
theorem br149 : CX.byRef 149 = true := rfl
theorem nt149 : Tryz.f149.ntmps = 60 := rfl
theorem fn150 : CX.fn 150 = some Tryz.f150 := by kernel_rfl
theorem br150 : CX.byRef 150 = true := rfl
theorem nt150 : Tryz.f150.ntmps = 57 := rfl
theorem fn151 : CX.fn 151 = some Tryz.f151 := by kernel_rfl
theorem br151 : CX.byRef 151 = true := rfl
theorem nt151 : Tryz.f151.ntmps = 41 := rfl
theorem fz0 : CX.frz "bits.go:304" = false := by kernel_rfl
theorem fz1 : CX.frz "bits.go:306" = false := by kernel_rfl
theorem fz2 : CX.frz "clock.go:17" = false := by kernel_rfl
theorem fz3 : CX.frz "clock.go:22" = false := by kernel_rfl
theorem fz4 : CX.frz "clock.go:31" = false := by kernel_rfl
theorem fz5 : CX.frz "clock.go:52" = false := by kernel_rfl
theorem fz6 : CX.frz "clock.go:59" = false := by kernel_rfl
theorem fz7 : CX.frz "clock.go:60" = false := by kernel_rfl
theorem fz8 : CX.frz "clock.go:80" = false := by kernel_rfl
theorem fz9 : CX.frz "clock.go:83" = false := by kernel_rfl
theorem fz10 : CX.frz "cmp.go:29" = false := by kernel_rfl
theorem fz11 : CX.frz "cmp.go:41" = false := by kernel_rfl
theorem fz12 : CX.frz "cmp.go:42" = false := by kernel_rfl
theorem fz13 : CX.frz "iter.go:40" = false := by kernel_rfl
theorem fz14 : CX.frz "iter.go:52" = false := by kernel_rfl
theorem fz15 : CX.frz "iter.go:60" = false := by kernel_rfl
theorem fz16 : CX.frz "iter.go:67" = false := by kernel_rfl
theorem fz17 : CX.frz "iter.go:68" = false := by kernel_rfl
theorem fz18 : CX.frz "law.go:20" = false := by kernel_rfl
theorem fz19 : CX.frz "law.go:210" = true := by kernel_rfl
theorem fz20 : CX.frz "law.go:211" = true := by kernel_rfl
theorem fz21 : CX.frz "law.go:213" = true := by kernel_rfl
theorem fz22 : CX.frz "law.go:214" = false := by kernel_rfl
theorem fz23 : CX.frz "law.go:215" = false := by kernel_rfl
theorem fz24 : CX.frz "law.go:225" = false := by kernel_rfl
theorem fz25 : CX.frz "law.go:233" = true := by kernel_rfl
theorem fz26 : CX.frz "law.go:234" = false := by kernel_rfl
theorem fz27 : CX.frz "law.go:240" = true := by kernel_rfl
theorem fz28 : CX.frz "law.go:245" = true := by kernel_rfl
theorem fz29 : CX.frz "law.go:246" = true := by kernel_rfl
theorem fz30 : CX.frz "law.go:251" = true := by kernel_rfl
theorem fz31 : CX.frz "law.go:26" = false := by kernel_rfl
theorem fz32 : CX.frz "law.go:28" = false := by kernel_rfl
theorem fz33 : CX.frz "law.go:29" = false := by kernel_rfl
theorem fz34 : CX.frz "law.go:30" = false := by kernel_rfl
theorem fz35 : CX.frz "law.go:31" = false := by kernel_rfl
theorem fz36 : CX.frz "num.go:35" = false := by kernel_rfl
theorem fz37 : CX.frz "ops.go:105" = false := by kernel_rfl
theorem fz38 : CX.frz "ops.go:107" = false := by kernel_rfl
theorem fz39 : CX.frz "ops.go:113" = false := by kernel_rfl
theorem fz40 : CX.frz "ops.go:18" = false := by kernel_rfl
theorem fz41 : CX.frz "ops.go:206" = false := by kernel_rfl
theorem fz42 : CX.frz "ops.go:210" = false := by kernel_rfl
theorem fz43 : CX.frz "ops.go:22" = false := by kernel_rfl
theorem fz44 : CX.frz "ops.go:25" = false := by kernel_rfl
theorem fz45 : CX.frz "ops.go:30" = false := by kernel_rfl
theorem fz46 : CX.frz "ops.go:31" = false := by kernel_rfl
theorem fz47 : CX.frz "ops.go:44" = false := by kernel_rfl
theorem fz48 : CX.frz "ops.go:66" = false := by kernel_rfl
theorem fz49 : CX.frz "ops.go:69" = false := by kernel_rfl
theorem fz50 : CX.frz "ops.go:96" = false := by kernel_rfl
theorem fz51 : CX.frz "ops.go:99" = false := by kernel_rfl
theorem fz52 : CX.frz "ref.go:101" = false := by kernel_rfl
theorem fz53 : CX.frz "ref.go:102" = false := by kernel_rfl
theorem fz54 : CX.frz "ref.go:104" = false := by kernel_rfl
theorem fz55 : CX.frz "ref.go:105" = false := by kernel_rfl
theorem fz56 : CX.frz "ref.go:113" = false := by kernel_rfl
theorem fz57 : CX.frz "ref.go:115" = false := by kernel_rfl
theorem fz58 : CX.frz "ref.go:116" = false := by kernel_rfl
theorem fz59 : CX.frz "ref.go:124" = false := by kernel_rfl
theorem fz60 : CX.frz "ref.go:128" = false := by kernel_rfl
theorem fz61 : CX.frz "ref.go:129" = false := by kernel_rfl
theorem fz62 : CX.frz "ref.go:132" = false := by kernel_rfl
theorem fz63 : CX.frz "ref.go:133" = false := by kernel_rfl
theorem fz64 : CX.frz "ref.go:136" = false := by kernel_rfl
theorem fz65 : CX.frz "ref.go:14" = false := by kernel_rfl
theorem fz66 : CX.frz "ref.go:148" = false := by kernel_rfl
theorem fz67 : CX.frz "ref.go:158" = false := by kernel_rfl
theorem fz68 : CX.frz "ref.go:16" = false := by kernel_rfl
theorem fz69 : CX.frz "ref.go:163" = false := by kernel_rfl
theorem fz70 : CX.frz "ref.go:18" = false := by kernel_rfl
theorem fz71 : CX.frz "ref.go:20" = false := by kernel_rfl
theorem fz72 : CX.frz "ref.go:264" = false := by kernel_rfl
theorem fz73 : CX.frz "ref.go:36" = false := by kernel_rfl
theorem fz74 : CX.frz "ref.go:40" = false := by kernel_rfl
theorem fz75 : CX.frz "ref.go:43" = false := by kernel_rfl
theorem fz76 : CX.frz "ref.go:44" = false := by kernel_rfl
theorem fz77 : CX.frz "ref.go:46" = false := by kernel_rfl
theorem fz78 : CX.frz "ref.go:55" = false := by kernel_rfl
theorem fz79 : CX.frz "ref.go:56" = false := by kernel_rfl
theorem fz80 : CX.frz "ref.go:57" = false := by kernel_rfl
theorem fz81 : CX.frz "ref.go:59" = false := by kernel_rfl
theorem fz82 : CX.frz "ref.go:60" = false := by kernel_rfl
theorem fz83 : CX.frz "ref.go:62" = false := by kernel_rfl
theorem fz84 : CX.frz "ref.go:66" = false := by kernel_rfl
theorem fz85 : CX.frz "ref.go:67" = false := by kernel_rfl
theorem fz86 : CX.frz "ref.go:69" = false := by kernel_rfl
theorem fz87 : CX.frz "ref.go:70" = false := by kernel_rfl
theorem fz88 : CX.frz "ref.go:72" = false := by kernel_rfl
theorem fz89 : CX.frz "ref.go:74" = false := by kernel_rfl
theorem fz90 : CX.frz "ref.go:75" = false := by kernel_rfl
theorem fz91 : CX.frz "ref.go:78" = false := by kernel_rfl
theorem fz92 : CX.frz "ref.go:84" = false := by kernel_rfl
theorem fz93 : CX.frz "ref.go:86" = false := by kernel_rfl
theorem fz94 : CX.frz "ref.go:88" = false := by kernel_rfl
theorem fz95 : CX.frz "ref.go:97" = false := by kernel_rfl
theorem fz96 : CX.frz "repair.go:106" = false := by kernel_rfl
theorem fz97 : CX.frz "repair.go:107" = false := by kernel_rfl
theorem fz98 : CX.frz "repair.go:116" = false := by kernel_rfl
theorem fz99 : CX.frz "repair.go:122" = false := by kernel_rfl
theorem fz100 : CX.frz "repair.go:128" = false := by kernel_rfl
theorem fz101 : CX.frz "repair.go:155" = false := by kernel_rfl
theorem fz102 : CX.frz "repair.go:157" = false := by kernel_rfl
theorem fz103 : CX.frz "repair.go:160" = false := by kernel_rfl
theorem fz104 : CX.frz "repair.go:167" = false := by kernel_rfl
theorem fz105 : CX.frz "repair.go:168" = false := by kernel_rfl
theorem fz106 : CX.frz "repair.go:171" = false := by kernel_rfl
theorem fz107 : CX.frz "repair.go:174" = false := by kernel_rfl
theorem fz108 : CX.frz "repair.go:182" = false := by kernel_rfl
theorem fz109 : CX.frz "repair.go:185" = false := by kernel_rfl
theorem fz110 : CX.frz "repair.go:195" = false := by kernel_rfl
theorem fz111 : CX.frz "repair.go:213" = false := by kernel_rfl
theorem fz112 : CX.frz "repair.go:216" = false := by kernel_rfl
theorem fz113 : CX.frz "repair.go:64" = false := by kernel_rfl
theorem fz114 : CX.frz "repair.go:67" = false := by kernel_rfl
theorem fz115 : CX.frz "repair.go:74" = false := by kernel_rfl
theorem fz116 : CX.frz "repair.go:81" = false := by kernel_rfl
theorem fz117 : CX.frz "replica.go:102" = false := by kernel_rfl
theorem fz118 : CX.frz "replica.go:106" = false := by kernel_rfl
theorem fz119 : CX.frz "replica.go:108" = false := by kernel_rfl
theorem fz120 : CX.frz "replica.go:109" = false := by kernel_rfl
theorem fz121 : CX.frz "replica.go:129" = false := by kernel_rfl
theorem fz122 : CX.frz "replica.go:141" = true := by kernel_rfl
theorem fz123 : CX.frz "replica.go:142" = false := by kernel_rfl
theorem fz124 : CX.frz "replica.go:159" = false := by kernel_rfl
theorem fz125 : CX.frz "replica.go:160" = false := by kernel_rfl
theorem fz126 : CX.frz "replica.go:177" = false := by kernel_rfl
theorem fz127 : CX.frz "replica.go:180" = false := by kernel_rfl
theorem fz128 : CX.frz "replica.go:183" = false := by kernel_rfl
theorem fz129 : CX.frz "replica.go:191" = false := by kernel_rfl
theorem fz130 : CX.frz "replica.go:192" = false := by kernel_rfl
theorem fz131 : CX.frz "replica.go:20" = false := by kernel_rfl
theorem fz132 : CX.frz "replica.go:200" = false := by kernel_rfl
theorem fz133 : CX.frz "replica.go:204" = false := by kernel_rfl
theorem fz134 : CX.frz "replica.go:205" = false := by kernel_rfl
theorem fz135 : CX.frz "replica.go:38" = false := by kernel_rfl
theorem fz136 : CX.frz "replica.go:41" = false := by kernel_rfl
theorem fz137 : CX.frz "replica.go:63" = false := by kernel_rfl
theorem fz138 : CX.frz "replica.go:79" = false := by kernel_rfl
theorem fz139 : CX.frz "replica.go:81" = false := by kernel_rfl
theorem fz140 : CX.frz "replica.go:84" = false := by kernel_rfl
theorem fz141 : CX.frz "replica.go:86" = false := by kernel_rfl
theorem fz142 : CX.frz "replica.go:96" = false := by kernel_rfl
theorem fz143 : CX.frz "runes.go:14" = false := by kernel_rfl
theorem fz144 : CX.frz "runes.go:26" = false := by kernel_rfl
theorem fz145 : CX.frz "runes.go:30" = false := by kernel_rfl
theorem fz146 : CX.frz "runes.go:31" = false := by kernel_rfl
theorem fz147 : CX.frz "slices.go:362" = false := by kernel_rfl
theorem fz148 : CX.frz "sort.go:18" = false := by kernel_rfl
theorem fz149 : CX.frz "sort.go:189" = false := by kernel_rfl
theorem fz150 : CX.frz "sort.go:32" = false := by kernel_rfl
theorem fz151 : CX.frz "tiers.go:19" = false := by kernel_rfl
theorem fz152 : CX.frz "tiertype.go:93" = false := by kernel_rfl
theorem fz153 : CX.frz "utf8.go:531" = false := by kernel_rfl
theorem fz154 : CX.frz "utf8.go:533" = false := by kernel_rfl
theorem fz155 : CX.frz "utf8.go:535" = false := by kernel_rfl
theorem fz156 : CX.frz "zsortanyfunc.go:101" = false := by kernel_rfl
theorem fz157 : CX.frz "zsortanyfunc.go:108" = false := by kernel_rfl
theorem fz158 : CX.frz "zsortanyfunc.go:109" = false := by kernel_rfl
theorem fz159 : CX.frz "zsortanyfunc.go:114" = false := by kernel_rfl
theorem fz160 : CX.frz "zsortanyfunc.go:12" = false := by kernel_rfl
theorem fz161 : CX.frz "zsortanyfunc.go:121" = false := by kernel_rfl
theorem fz162 : CX.frz "zsortanyfunc.go:125" = false := by kernel_rfl
theorem fz163 : CX.frz "zsortanyfunc.go:139" = false := by kernel_rfl
theorem fz164 : CX.frz "zsortanyfunc.go:142" = false := by kernel_rfl
theorem fz165 : CX.frz "zsortanyfunc.go:154" = false := by kernel_rfl
theorem fz166 : CX.frz "zsortanyfunc.go:157" = false := by kernel_rfl
theorem fz167 : CX.frz "zsortanyfunc.go:178" = false := by kernel_rfl
theorem fz168 : CX.frz "zsortanyfunc.go:181" = false := by kernel_rfl
theorem fz169 : CX.frz "zsortanyfunc.go:202" = false := by kernel_rfl
theorem fz170 : CX.frz "zsortanyfunc.go:219" = false := by kernel_rfl
theorem fz171 : CX.frz "zsortanyfunc.go:228" = false := by kernel_rfl
theorem fz172 : CX.frz "zsortanyfunc.go:244" = false := by kernel_rfl
theorem fz173 : CX.frz "zsortanyfunc.go:247" = false := by kernel_rfl
theorem fz174 : CX.frz "zsortanyfunc.go:27" = false := by kernel_rfl
theorem fz175 : CX.frz "zsortanyfunc.go:279" = false := by kernel_rfl
theorem fz176 : CX.frz "zsortanyfunc.go:280" = false := by kernel_rfl
theorem fz177 : CX.frz "zsortanyfunc.go:281" = false := by kernel_rfl
theorem fz178 : CX.frz "zsortanyfunc.go:284" = false := by kernel_rfl
theorem fz179 : CX.frz "zsortanyfunc.go:299" = false := by kernel_rfl
theorem fz180 : CX.frz "zsortanyfunc.go:30" = false := by kernel_rfl
theorem fz181 : CX.frz "zsortanyfunc.go:308" = false := by kernel_rfl
theorem fz182 : CX.frz "zsortanyfunc.go:309" = false := by kernel_rfl
theorem fz183 : CX.frz "zsortanyfunc.go:310" = false := by kernel_rfl
theorem fz184 : CX.frz "zsortanyfunc.go:316" = false := by kernel_rfl
theorem fz185 : CX.frz "zsortanyfunc.go:45" = false := by kernel_rfl
theorem fz186 : CX.frz "zsortanyfunc.go:51" = false := by kernel_rfl
theorem fz187 : CX.frz "zsortanyfunc.go:73" = false := by kernel_rfl
theorem fz188 : CX.frz "zsortanyfunc.go:79" = false := by kernel_rfl
theorem fz189 : CX.frz "zsortanyfunc.go:85" = false := by kernel_rfl
theorem fz190 : CX.frz "zsortanyfunc.go:89" = false := by kernel_rfl
theorem fz191 : CX.frz "zsortanyfunc.go:91" = false := by kernel_rfl
theorem fz192 : CX.frz "zsortordered.go:103" = false := by kernel_rfl
theorem fz193 : CX.frz "zsortordered.go:110" = false := by kernel_rfl
theorem fz194 : CX.frz "zsortordered.go:111" = false := by kernel_rfl
theorem fz195 : CX.frz "zsortordered.go:116" = false := by kernel_rfl
theorem fz196 : CX.frz "zsortordered.go:123" = false := by kernel_rfl
theorem fz197 : CX.frz "zsortordered.go:127" = false := by kernel_rfl
theorem fz198 : CX.frz "zsortordered.go:14" = false := by kernel_rfl
theorem fz199 : CX.frz "zsortordered.go:141" = false := by kernel_rfl
theorem fz200 : CX.frz "zsortordered.go:144" = false := by kernel_rfl
theorem fz201 : CX.frz "zsortordered.go:156" = false := by kernel_rfl
theorem fz202 : CX.frz "zsortordered.go:159" = false := by kernel_rfl
theorem fz203 : CX.frz "zsortordered.go:180" = false := by kernel_rfl
theorem fz204 : CX.frz "zsortordered.go:183" = false := by kernel_rfl
theorem fz205 : CX.frz "zsortordered.go:204" = false := by kernel_rfl
theorem fz206 : CX.frz "zsortordered.go:221" = false := by kernel_rfl
theorem fz207 : CX.frz "zsortordered.go:230" = false := by kernel_rfl
theorem fz208 : CX.frz "zsortordered.go:246" = false := by kernel_rfl
theorem fz209 : CX.frz "zsortordered.go:249" = false := by kernel_rfl
theorem fz210 : CX.frz "zsortordered.go:281" = false := by kernel_rfl
theorem fz211 : CX.frz "zsortordered.go:282" = false := by kernel_rfl
theorem fz212 : CX.frz "zsortordered.go:283" = false := by kernel_rfl
theorem fz213 : CX.frz "zsortordered.go:286" = false := by kernel_rfl
theorem fz214 : CX.frz "zsortordered.go:29" = false := by kernel_rfl
theorem fz215 : CX.frz "zsortordered.go:301" = false := by kernel_rfl
theorem fz216 : CX.frz "zsortordered.go:310" = false := by kernel_rfl
theorem fz217 : CX.frz "zsortordered.go:311" = false := by kernel_rfl
theorem fz218 : CX.frz "zsortordered.go:312" = false := by kernel_rfl
theorem fz219 : CX.frz "zsortordered.go:318" = false := by kernel_rfl
theorem fz220 : CX.frz "zsortordered.go:32" = false := by kernel_rfl
theorem fz221 : CX.frz "zsortordered.go:47" = false := by kernel_rfl
theorem fz222 : CX.frz "zsortordered.go:53" = false := by kernel_rfl
theorem fz223 : CX.frz "zsortordered.go:75" = false := by kernel_rfl
theorem fz224 : CX.frz "zsortordered.go:81" = false := by kernel_rfl
theorem fz225 : CX.frz "zsortordered.go:87" = false := by kernel_rfl
theorem fz226 : CX.frz "zsortordered.go:91" = false := by kernel_rfl
theorem fz227 : CX.frz "zsortordered.go:93" = false := by kernel_rfl
theorem eq38 : CX.eqT 38 = some [.int, .int] := rfl
theorem eq40 : CX.eqT 40 = some [.int, .int, .int, .int, .int, .int, .str] := rfl
theorem eq59 : CX.eqT 59 = some [.int, .int] := rfl
theorem eq64 : CX.eqT 64 = some [.int, .int, .int, .int, .int, .int, .str, .int] := rfl
theorem eq154 : CX.eqT 154 = some [.int, .int, .int, .int] := rfl
end Go.Eng
