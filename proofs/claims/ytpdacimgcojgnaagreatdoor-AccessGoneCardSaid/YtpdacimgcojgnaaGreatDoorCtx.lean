/- The tables of types and functions of this translation. -/
import Derived.Test.YtpdacimgcojgnaaGreatDoorProg
import Derived.Test.YtpdacimgcojgnaaGreatDoorEngW
import Derived.Test.YtpdacimgcojgnaaGreatDoorPt
import Derived.Test.YtpdacimgcojgnaaGreatDoorAt
import Derived.KernelRfl
set_option linter.all false
namespace Go.Eng
open Go.Proofs
def tys:List (Option TyI):=[
none,
 some ⟨1,false,8,[(.flat .nilFunc)],.other⟩,
 some ⟨1,false,8,[(.int .i64 0)],(.int .i64)⟩,
 some ⟨1,false,8,[(.int .i64 0)],(.int .i64)⟩,
 some ⟨1,false,1,[(.bool false)],.bool⟩,
 some ⟨1,false,1,[(.int .u8 0)],(.int .u8)⟩,
 some ⟨1,false,1,[(.int .u8 0)],(.int .u8)⟩,
 some ⟨4,true,24,[(.int .i64 0),(.int .i64 0),(.bool false),(.int .u8 0)],(.struct [(0,2),(1,3),(2,4),(3,6)])⟩,
 some ⟨4,true,24,[(.int .i64 0),(.int .i64 0),(.bool false),(.int .u8 0)],(.struct [(0,2),(1,3),(2,4),(3,6)])⟩,
 some ⟨1,false,16,[(.str .empty)],.str⟩,
 some ⟨1,false,16,[(.str .empty)],.str⟩,
 some ⟨1,false,16,[(.str .empty)],.str⟩,
 some ⟨1,false,8,[(.int .u64 0)],(.int .u64)⟩,
 some ⟨2,true,24,[(.str .empty),(.int .u64 0)],(.struct [(0,9),(1,12)])⟩,
 some ⟨2,true,24,[(.str .empty),(.int .u64 0)],(.struct [(0,9),(1,12)])⟩,
 some ⟨1,false,8,[(.flat (.pointer none))],.other⟩,
 some ⟨1,false,8,[(.flat (.pointer none))],.other⟩,
 some ⟨1,false,8,[(.flat (.pointer none))],.other⟩,
 some ⟨1,true,8,[(.flat (.pointer none))],(.struct [(0,17)])⟩,
 some ⟨1,true,8,[(.flat (.pointer none))],(.struct [(0,17)])⟩,
 some ⟨1,false,16,[(.flat .nilIface)],.other⟩,
 some ⟨1,false,4,[(.int .i32 0)],(.int .i32)⟩,
 some ⟨1,false,24,[(.flat (.slice none 0 0))],(.slice 31)⟩,
 some ⟨1,false,24,[(.flat (.slice none 0 0))],(.slice 66)⟩,
 some ⟨1,false,24,[(.flat (.slice none 0 0))],(.slice 68)⟩,
 some ⟨1,false,24,[(.flat (.slice none 0 0))],(.slice 53)⟩,
 some ⟨1,false,24,[(.flat (.slice none 0 0))],(.slice 58)⟩,
 some ⟨4,true,96,[(.flat (.slice none 0 0)),(.flat (.slice none 0 0)),(.flat (.slice none 0 0)),(.flat (.slice none 0 0))],(.struct [(0,23),(1,24),(2,25),(3,26)])⟩,
 some ⟨4,true,96,[(.flat (.slice none 0 0)),(.flat (.slice none 0 0)),(.flat (.slice none 0 0)),(.flat (.slice none 0 0))],(.struct [(0,23),(1,24),(2,25),(3,26)])⟩,
 some ⟨1,false,24,[(.flat (.slice none 0 0))],(.slice 3)⟩,
 some ⟨5,true,64,[(.int .i64 0),(.str .empty),(.int .i64 0),(.int .i64 0),(.flat (.slice none 0 0))],(.struct [(0,3),(1,9),(2,3),(3,3),(4,29)])⟩,
 some ⟨5,true,64,[(.int .i64 0),(.str .empty),(.int .i64 0),(.int .i64 0),(.flat (.slice none 0 0))],(.struct [(0,3),(1,9),(2,3),(3,3),(4,29)])⟩,
 some ⟨1,false,8,[(.flat .nilFunc)],.other⟩,
 some ⟨1,false,8,[(.flat .nilFunc)],.other⟩,
 some ⟨1,false,8,[(.int .i64 0)],(.int .i64)⟩,
 some ⟨1,false,8,[(.flat .nilFunc)],.other⟩,
 some ⟨1,false,8,[(.flat .nilFunc)],.other⟩,
 some ⟨2,true,16,[(.int .i64 0),(.int .i64 0)],(.struct [(0,3),(1,3)])⟩,
 some ⟨2,true,16,[(.int .i64 0),(.int .i64 0)],(.struct [(0,3),(1,3)])⟩,
 some ⟨11,true,176,[(.flat (.slice none 0 0)),(.flat (.slice none 0 0)),(.flat (.slice none 0 0)),(.flat (.slice none 0 0)),(.int .i64 0),(.str .empty),(.int .i64 0),(.int .i64 0),(.flat (.slice none 0 0)),(.int .i64 0),(.int .i64 0)],(.struct [(0,28),(4,31),(9,38)])⟩,
 some ⟨11,true,176,[(.flat (.slice none 0 0)),(.flat (.slice none 0 0)),(.flat (.slice none 0 0)),(.flat (.slice none 0 0)),(.int .i64 0),(.str .empty),(.int .i64 0),(.int .i64 0),(.flat (.slice none 0 0)),(.int .i64 0),(.int .i64 0)],(.struct [(0,28),(4,31),(9,38)])⟩,
 some ⟨1,false,8,[(.flat .nilFunc)],.other⟩,
 some ⟨1,false,8,[(.flat .nilFunc)],.other⟩,
 some ⟨1,false,8,[(.flat .nilFunc)],.other⟩,
 some ⟨1,false,24,[(.flat (.slice none 0 0))],(.slice 47)⟩,
 some ⟨1,false,8,[(.flat .nilFunc)],.other⟩,
 some ⟨2,true,16,[(.int .i64 0),(.int .i64 0)],(.struct [(0,3),(1,3)])⟩,
 some ⟨2,true,16,[(.int .i64 0),(.int .i64 0)],(.struct [(0,3),(1,3)])⟩,
 some ⟨1,false,8,[(.flat .nilFunc)],.other⟩,
 some ⟨1,false,8,[(.flat .nilFunc)],.other⟩,
 some ⟨1,false,8,[(.flat .nilFunc)],.other⟩,
 some ⟨1,false,8,[(.flat .nilFunc)],.other⟩,
 some ⟨4,true,32,[(.int .i64 0),(.int .i64 0),(.int .i64 0),(.int .i64 0)],(.struct [(0,3),(1,3),(2,3),(3,3)])⟩,
 some ⟨4,true,32,[(.int .i64 0),(.int .i64 0),(.int .i64 0),(.int .i64 0)],(.struct [(0,3),(1,3),(2,3),(3,3)])⟩,
 some ⟨1,false,8,[(.flat .nilFunc)],.other⟩,
 some ⟨3,true,40,[(.int .i64 0),(.flat (.slice none 0 0)),(.int .i64 0)],(.struct [(0,3),(1,29),(2,3)])⟩,
 some ⟨3,true,40,[(.int .i64 0),(.flat (.slice none 0 0)),(.int .i64 0)],(.struct [(0,3),(1,29),(2,3)])⟩,
 some ⟨6,true,64,[(.int .i64 0),(.int .i64 0),(.int .i64 0),(.int .i64 0),(.flat (.slice none 0 0)),(.int .i64 0)],(.struct [(0,3),(1,47),(3,56)])⟩,
 some ⟨6,true,64,[(.int .i64 0),(.int .i64 0),(.int .i64 0),(.int .i64 0),(.flat (.slice none 0 0)),(.int .i64 0)],(.struct [(0,3),(1,47),(3,56)])⟩,
 some ⟨1,false,8,[(.flat .nilFunc)],.other⟩,
 some ⟨1,false,8,[(.flat .nilFunc)],.other⟩,
 some ⟨1,false,8,[(.flat .nilFunc)],.other⟩,
 some ⟨1,false,8,[(.flat .nilFunc)],.other⟩,
 none,
 some ⟨1,false,8,[(.flat .nilFunc)],.other⟩,
 some ⟨3,true,32,[(.int .i64 0),(.str .empty),(.bool false)],(.struct [(0,3),(1,9),(2,4)])⟩,
 some ⟨3,true,32,[(.int .i64 0),(.str .empty),(.bool false)],(.struct [(0,3),(1,9),(2,4)])⟩,
 some ⟨4,true,72,[(.int .i64 0),(.str .empty),(.flat (.slice none 0 0)),(.flat (.slice none 0 0))],(.struct [(0,3),(1,9),(2,29),(3,29)])⟩,
 some ⟨4,true,72,[(.int .i64 0),(.str .empty),(.flat (.slice none 0 0)),(.flat (.slice none 0 0))],(.struct [(0,3),(1,9),(2,29),(3,29)])⟩,
 some ⟨1,false,8,[(.flat .nilFunc)],.other⟩,
 some ⟨1,false,8,[(.flat .nilFunc)],.other⟩,
 some ⟨1,false,8,[(.flat .nilFunc)],.other⟩,
 some ⟨1,false,8,[(.flat .nilFunc)],.other⟩,
 some ⟨1,false,8,[(.flat .nilFunc)],.other⟩,
 some ⟨4,true,96,[(.flat (.slice none 0 0)),(.flat (.slice none 0 0)),(.flat (.slice none 0 0)),(.flat (.slice none 0 0))],(.struct [(0,28)])⟩,
 some ⟨4,true,96,[(.flat (.slice none 0 0)),(.flat (.slice none 0 0)),(.flat (.slice none 0 0)),(.flat (.slice none 0 0))],(.struct [(0,28)])⟩,
 some ⟨11,true,176,[(.flat (.slice none 0 0)),(.flat (.slice none 0 0)),(.flat (.slice none 0 0)),(.flat (.slice none 0 0)),(.int .i64 0),(.str .empty),(.int .i64 0),(.int .i64 0),(.flat (.slice none 0 0)),(.int .i64 0),(.int .i64 0)],(.struct [(0,75),(4,31),(9,38)])⟩,
 some ⟨11,true,176,[(.flat (.slice none 0 0)),(.flat (.slice none 0 0)),(.flat (.slice none 0 0)),(.flat (.slice none 0 0)),(.int .i64 0),(.str .empty),(.int .i64 0),(.int .i64 0),(.flat (.slice none 0 0)),(.int .i64 0),(.int .i64 0)],(.struct [(0,75),(4,31),(9,38)])⟩,
 some ⟨1,false,8,[(.flat .nilFunc)],.other⟩,
 none,
 some ⟨1,false,8,[(.flat .nilFunc)],.other⟩,
 some ⟨1,false,8,[(.flat .nilFunc)],.other⟩,
 some ⟨1,false,8,[(.flat .nilFunc)],.other⟩,
 some ⟨1,false,8,[(.flat .nilFunc)],.other⟩,
 some ⟨1,false,8,[(.flat .nilFunc)],.other⟩,
 some ⟨1,false,8,[(.flat .nilFunc)],.other⟩,
 some ⟨1,false,8,[(.flat .nilFunc)],.other⟩,
 some ⟨1,false,8,[(.flat .nilFunc)],.other⟩,
 some ⟨1,false,8,[(.flat .nilFunc)],.other⟩,
 some ⟨1,false,8,[(.flat .nilFunc)],.other⟩,
 some ⟨1,false,8,[(.flat .nilFunc)],.other⟩,
 some ⟨1,false,8,[(.flat .nilFunc)],.other⟩,
 some ⟨1,false,8,[(.flat .nilFunc)],.other⟩,
 some ⟨1,false,8,[(.flat .nilFunc)],.other⟩,
 some ⟨1,false,8,[(.flat .nilFunc)],.other⟩,
 none,
 some ⟨1,false,8,[(.flat .nilFunc)],.other⟩,
 some ⟨1,false,8,[(.flat .nilFunc)],.other⟩,
 some ⟨1,false,8,[(.flat .nilFunc)],.other⟩,
 some ⟨1,false,8,[(.flat .nilFunc)],.other⟩,
 some ⟨1,false,8,[(.flat .nilFunc)],.other⟩,
 some ⟨1,false,8,[(.flat .nilFunc)],.other⟩,
 some ⟨1,false,8,[(.flat .nilFunc)],.other⟩,
 some ⟨1,false,8,[(.flat .nilFunc)],.other⟩,
 some ⟨1,false,8,[(.flat .nilFunc)],.other⟩,
 some ⟨1,false,8,[(.flat .nilFunc)],.other⟩,
 some ⟨1,false,8,[(.flat .nilFunc)],.other⟩,
 some ⟨1,false,8,[(.flat .nilFunc)],.other⟩,
 some ⟨1,false,8,[(.flat .nilFunc)],.other⟩,
 some ⟨1,false,8,[(.flat .nilFunc)],.other⟩,
 some ⟨1,false,8,[(.flat .nilFunc)],.other⟩,
 some ⟨1,false,8,[(.flat .nilFunc)],.other⟩,
 some ⟨1,false,24,[(.flat (.slice none 0 0))],(.slice 5)⟩,
 some ⟨1,false,8,[(.flat .nilFunc)],.other⟩,
 none,
 some ⟨1,false,8,[(.flat .nilFunc)],.other⟩,
 some ⟨1,false,8,[(.flat .nilFunc)],.other⟩,
 some ⟨1,false,8,[(.flat .nilFunc)],.other⟩,
 some ⟨1,false,8,[(.flat .nilFunc)],.other⟩,
 some ⟨1,false,8,[(.flat .nilFunc)],.other⟩,
 some ⟨1,false,8,[(.flat .nilFunc)],.other⟩,
 some ⟨1,false,8,[(.flat .nilFunc)],.other⟩,
 some ⟨1,false,8,[(.flat .nilFunc)],.other⟩,
 some ⟨1,false,8,[(.flat .nilFunc)],.other⟩,
 some ⟨1,false,8,[(.flat .nilFunc)],.other⟩,
 some ⟨1,false,8,[(.flat .nilFunc)],.other⟩,
 some ⟨1,false,8,[(.flat .nilFunc)],.other⟩,
 some ⟨1,false,8,[(.flat .nilFunc)],.other⟩,
 some ⟨1,false,8,[(.flat .nilFunc)],.other⟩,
 some ⟨1,false,8,[(.flat .nilFunc)],.other⟩,
 some ⟨1,false,8,[(.flat .nilFunc)],.other⟩,
 some ⟨1,false,8,[(.flat .nilFunc)],.other⟩,
 some ⟨1,false,8,[(.flat .nilFunc)],.other⟩,
 some ⟨1,false,8,[(.flat .nilFunc)],.other⟩,
 some ⟨1,false,8,[(.flat .nilFunc)],.other⟩,
 some ⟨1,false,8,[(.flat .nilFunc)],.other⟩,
 some ⟨1,false,8,[(.flat .nilFunc)],.other⟩,
 some ⟨1,false,8,[(.flat .nilFunc)],.other⟩,
 some ⟨1,false,8,[(.flat .nilFunc)],.other⟩,
 none,
 some ⟨1,false,8,[(.flat .nilFunc)],.other⟩,
 some ⟨1,false,8,[(.flat .nilFunc)],.other⟩,
 some ⟨1,false,8,[(.flat .nilFunc)],.other⟩,
 some ⟨1,false,8,[(.flat .nilFunc)],.other⟩,
 some ⟨1,false,8,[(.flat .nilFunc)],.other⟩,
 some ⟨1,false,8,[(.flat .nilFunc)],.other⟩,
 some ⟨1,false,8,[(.flat .nilFunc)],.other⟩,
 some ⟨1,false,8,[(.int .u64 0)],(.int .u64)⟩,
 some ⟨1,false,8,[(.flat .nilFunc)],.other⟩,
 some ⟨1,false,8,[(.flat .nilFunc)],.other⟩,
 some ⟨1,false,8,[(.flat .nilFunc)],.other⟩,
 none,
 some ⟨2,true,2,[(.int .u8 0),(.int .u8 0)],(.struct [(0,5),(1,5)])⟩,
 some ⟨2,true,2,[(.int .u8 0),(.int .u8 0)],(.struct [(0,5),(1,5)])⟩,
 some ⟨32,true,32,[(.int .u8 0),(.int .u8 0),(.int .u8 0),(.int .u8 0),(.int .u8 0),(.int .u8 0),(.int .u8 0),(.int .u8 0),(.int .u8 0),(.int .u8 0),(.int .u8 0),(.int .u8 0),(.int .u8 0),(.int .u8 0),(.int .u8 0),(.int .u8 0),(.int .u8 0),(.int .u8 0),(.int .u8 0),(.int .u8 0),(.int .u8 0),(.int .u8 0),(.int .u8 0),(.int .u8 0),(.int .u8 0),(.int .u8 0),(.int .u8 0),(.int .u8 0),(.int .u8 0),(.int .u8 0),(.int .u8 0),(.int .u8 0)],(.array 16 153)⟩,
 some ⟨1,false,8,[(.flat .nilFunc)],.other⟩,
 some ⟨1,false,8,[(.flat .nilFunc)],.other⟩,
 some ⟨1,false,8,[(.flat .nilFunc)],.other⟩,
 some ⟨1,false,8,[(.flat .nilFunc)],.other⟩,
 some ⟨1,false,8,[(.int .i64 0)],(.int .i64)⟩,
 none,
 some ⟨1,false,8,[(.flat .nilFunc)],.other⟩,
 some ⟨1,false,8,[(.flat .nilFunc)],.other⟩,
 some ⟨1,false,8,[(.flat .nilFunc)],.other⟩,
 none,
 some ⟨1,false,8,[(.flat .nilFunc)],.other⟩,
 some ⟨1,false,8,[(.flat .nilFunc)],.other⟩,
 some ⟨1,false,4,[(.int .u32 0)],(.int .u32)⟩,
 some ⟨1,false,8,[(.flat .nilFunc)],.other⟩,
 some ⟨1,false,8,[(.int .u64 0)],(.int .u64)⟩,
 some ⟨1,false,8,[(.flat .nilFunc)],.other⟩,
 some ⟨1,false,8,[(.flat .nilFunc)],.other⟩,
 some ⟨1,false,8,[(.flat .nilFunc)],.other⟩,
 some ⟨1,false,8,[(.flat .nilFunc)],.other⟩,
 some ⟨1,false,8,[(.flat .nilFunc)],.other⟩,
 some ⟨1,false,8,[(.int .u64 0)],(.int .u64)⟩,
 some ⟨1,false,8,[(.flat .nilFunc)],.other⟩,
 some ⟨1,false,8,[(.flat .nilFunc)],.other⟩,
 some ⟨1,false,8,[(.flat .nilFunc)],.other⟩,
 some ⟨1,false,8,[(.flat (.pointer none))],.other⟩,
 some ⟨1,false,8,[(.flat .nilFunc)],.other⟩,
 some ⟨1,false,8,[(.flat .nilFunc)],.other⟩,
 some ⟨1,false,8,[(.flat .nilFunc)],.other⟩,
 some ⟨1,false,8,[(.flat (.pointer none))],.other⟩,
 some ⟨1,false,8,[(.flat .nilFunc)],.other⟩,
 some ⟨1,false,8,[(.flat .nilFunc)],.other⟩,
 some ⟨1,false,8,[(.flat .nilFunc)],.other⟩,
 some ⟨4,true,40,[(.flat (.pointer none)),(.flat (.pointer none)),(.flat (.pointer none)),(.str .empty)],(.struct [(0,17),(1,17),(2,17),(3,9)])⟩,
 some ⟨4,true,40,[(.flat (.pointer none)),(.flat (.pointer none)),(.flat (.pointer none)),(.str .empty)],(.struct [(0,17),(1,17),(2,17),(3,9)])⟩,
 some ⟨0,true,0,[],(.array 0 16)⟩,
 some ⟨0,true,0,[],(.struct [(0,189)])⟩,
 some ⟨0,true,0,[],(.struct [(0,189)])⟩,
 some ⟨1,false,8,[(.flat .nilFunc)],.other⟩,
 some ⟨1,false,1,[(.int .u8 0)],(.int .u8)⟩,
 some ⟨1,false,1,[(.int .u8 0)],(.int .u8)⟩,
 some ⟨1,false,8,[(.flat .nilFunc)],.other⟩,
 some ⟨1,false,8,[(.flat (.pointer none))],.other⟩,
 some ⟨1,false,4,[(.int .i32 0)],(.int .i32)⟩,
 some ⟨1,false,4,[(.int .i32 0)],(.int .i32)⟩,
 some ⟨11,true,48,[(.int .u64 0),(.int .u64 0),(.int .u32 0),(.int .u8 0),(.int .u8 0),(.int .u8 0),(.int .u8 0),(.flat .nilFunc),(.flat (.pointer none)),(.int .i32 0),(.int .i32 0)],(.struct [(0,12),(1,12),(2,167),(3,193),(4,5),(5,5),(6,194),(7,195),(8,196),(9,197),(10,198)])⟩,
 some ⟨11,true,48,[(.int .u64 0),(.int .u64 0),(.int .u32 0),(.int .u8 0),(.int .u8 0),(.int .u8 0),(.int .u8 0),(.flat .nilFunc),(.flat (.pointer none)),(.int .i32 0),(.int .i32 0)],(.struct [(0,12),(1,12),(2,167),(3,193),(4,5),(5,5),(6,194),(7,195),(8,196),(9,197),(10,198)])⟩,
 some ⟨1,false,8,[(.flat (.pointer none))],.other⟩]
def tab:Tab:={ tys:=tys,fns:=[3,4,5,6,7,8,9,10,11,12,13,14,15,16,17,18,19,20,21,22,23,24,25,26,27,28,29,30,31,32,33,34,35,36,37,38,39,40,41,42,43,44,45,46,47,48,49,50,51,52,53,54,55,56,57,58,59,60,61,62,63,64,65,66,67,68,69,70,71,72,73,74,75,76,77,78,79,80,81,82,83,84,85,86,87,88,89,90,91,92,93,94,95,96,97,98,99,100,101,102,103,104,105,106,107,108,109,110,111,112,113,114,115,116,117,118,119,120,121,122,123,124,125,126,127,128,129,130,131,132,133,134,135,136,137,138,139,140,141,142,143,144,145,146,147,148,149,150,151,152,153,154,155,156,157,158,159,160,161,162,163,164,165,166,167,168],refs:=[85,87,98,112,115,119,120,129,133,140,141,142,143,144,145,146,147,150,151,152,153,154,155,157,158,159,161,162,163,164,165,166,167,168],clones:=[(113,44,47,4)],eqs:=[(47,[.int,.int])],seqs:=[(132,120)],trues:=[13],frz:=[[108,97,119,46,103,111,58,49,48,52],[108,97,119,46,103,111,58,49,48,54],[108,97,119,46,103,111,58,49,48,56],[108,97,119,46,103,111,58,49,48,57],[108,97,119,46,103,111,58,49,49,52],[108,97,119,46,103,111,58,49,49,53],[108,97,119,46,103,111,58,49,50,48],[108,97,119,46,103,111,58,49,50,49],[108,97,119,46,103,111,58,49,50,54],[108,97,119,46,103,111,58,49,50,55],[108,97,119,46,103,111,58,49,50,57],[108,97,119,46,103,111,58,49,51,52],[108,97,119,46,103,111,58,49,51,53],[108,97,119,46,103,111,58,49,51,55],[108,97,119,46,103,111,58,49,52,48],[108,97,119,46,103,111,58,49,52,53],[108,97,119,46,103,111,58,49,53,48],[108,97,119,46,103,111,58,49,53,49],[108,97,119,46,103,111,58,49,53,51],[108,97,119,46,103,111,58,49,53,53],[108,97,119,46,103,111,58,49,53,57],[108,97,119,46,103,111,58,49,54,50],[108,97,119,46,103,111,58,51,53],[108,97,119,46,103,111,58,51,56],[108,97,119,46,103,111,58,52,50],[108,97,119,46,103,111,58,52,56],[108,97,119,46,103,111,58,53,49],[108,97,119,46,103,111,58,53,50],[108,97,119,46,103,111,58,53,52],[108,97,119,46,103,111,58,53,57],[108,97,119,46,103,111,58,54,48],[108,97,119,46,103,111,58,54,50],[108,97,119,46,103,111,58,54,55],[108,97,119,46,103,111,58,54,56],[108,97,119,46,103,111,58,55,48],[108,97,119,46,103,111,58,55,53],[108,97,119,46,103,111,58,55,54],[108,97,119,46,103,111,58,55,56],[108,97,119,46,103,111,58,56,51],[108,97,119,46,103,111,58,56,52],[108,97,119,46,103,111,58,56,54],[108,97,119,46,103,111,58,57,49],[108,97,119,46,103,111,58,57,50]],prims:=[(91,primPts),(75,primAt)],meths:=[(77, "langdoc/access.base", 42),(77, "langdoc/access.spans", 45),(75, "langdoc/access.member", 76),(75, "langdoc/access.may", 77)],refMs:=[],nests:=[] }
def tabA:Tab:={ tys:=tys,fns:=[3,4,5,6,7,8,9,10,11,12,13,14,15,16,17,18,19,20,21,22,23,24,25,26,27,28,29,30,31,32,33,34,35,36,37,38,39,40,41,42,43,44,45,46,47,48,49,50,51,52,53,54,55,56,57,58,59,60,61,62,63,64,65,66,67,68,69,70,71,72,73,74,75,76,77,78,79,80,81,82,83,84,85,86,87,88,89,90,91,92,93,94,95,96,97,98,99,100,101,102,103,104,105,106,107,108,109,110,111,112,113,114,115,116,117,118,119,120,121,122,123,124,125,126,127,128,129,130,131,132,133,134,135,136,137,138,139,140,141,142,143,144,145,146,147,148,149,150,151,152,153,154,155,156,157,158,159,160,161,162,163,164,165,166,167,168],refs:=[85,87,98,112,115,119,120,129,133,140,141,142,143,144,145,146,147,150,151,152,153,154,155,157,158,159,161,162,163,164,165,166,167,168],clones:=[(113,44,47,4)],eqs:=[(47,[.int,.int])],seqs:=[(132,120)],trues:=[],frz:=[[108,97,119,46,103,111,58,50,51],[108,97,119,46,103,111,58,49,53],[108,97,119,46,103,111,58,49,54]],prims:=[(91,primPts),(75,primAt)],meths:=[(77, "langdoc/access.base", 42),(77, "langdoc/access.spans", 45),(75, "langdoc/access.member", 76),(75, "langdoc/access.may", 77)],refMs:=[],nests:=[] }
noncomputable def CX:Ctx:=mkC tab Tryz.prog
noncomputable def CXA:Ctx:=mkC tabA Tryz.prog
theorem zbK (f:FuncId):CX.nest f=false:=rfl
theorem ty1:CX.ty 1=some ⟨1,false,8,[(.flat .nilFunc)],.other⟩:=rfl
theorem ty3:CX.ty 3=some ⟨1,false,8,[(.int .i64 0)],(.int .i64)⟩:=rfl
theorem ty4:CX.ty 4=some ⟨1,false,1,[(.bool false)],.bool⟩:=rfl
theorem ty5:CX.ty 5=some ⟨1,false,1,[(.int .u8 0)],(.int .u8)⟩:=rfl
theorem ty9:CX.ty 9=some ⟨1,false,16,[(.str .empty)],.str⟩:=rfl
theorem ty22:CX.ty 22=some ⟨1,false,24,[(.flat (.slice none 0 0))],(.slice 31)⟩:=rfl
theorem ty23:CX.ty 23=some ⟨1,false,24,[(.flat (.slice none 0 0))],(.slice 66)⟩:=rfl
theorem ty24:CX.ty 24=some ⟨1,false,24,[(.flat (.slice none 0 0))],(.slice 68)⟩:=rfl
theorem ty25:CX.ty 25=some ⟨1,false,24,[(.flat (.slice none 0 0))],(.slice 53)⟩:=rfl
theorem ty26:CX.ty 26=some ⟨1,false,24,[(.flat (.slice none 0 0))],(.slice 58)⟩:=rfl
theorem ty28:CX.ty 28=some ⟨4,true,96,[(.flat (.slice none 0 0)),(.flat (.slice none 0 0)),(.flat (.slice none 0 0)),(.flat (.slice none 0 0))],(.struct [(0,23),(1,24),(2,25),(3,26)])⟩:=rfl
theorem ty29:CX.ty 29=some ⟨1,false,24,[(.flat (.slice none 0 0))],(.slice 3)⟩:=rfl
theorem ty31:CX.ty 31=some ⟨5,true,64,[(.int .i64 0),(.str .empty),(.int .i64 0),(.int .i64 0),(.flat (.slice none 0 0))],(.struct [(0,3),(1,9),(2,3),(3,3),(4,29)])⟩:=rfl
theorem ty34:CX.ty 34=some ⟨1,false,8,[(.int .i64 0)],(.int .i64)⟩:=rfl
theorem ty38:CX.ty 38=some ⟨2,true,16,[(.int .i64 0),(.int .i64 0)],(.struct [(0,3),(1,3)])⟩:=rfl
theorem ty40:CX.ty 40=some ⟨11,true,176,[(.flat (.slice none 0 0)),(.flat (.slice none 0 0)),(.flat (.slice none 0 0)),(.flat (.slice none 0 0)),(.int .i64 0),(.str .empty),(.int .i64 0),(.int .i64 0),(.flat (.slice none 0 0)),(.int .i64 0),(.int .i64 0)],(.struct [(0,28),(4,31),(9,38)])⟩:=rfl
theorem ty44:CX.ty 44=some ⟨1,false,24,[(.flat (.slice none 0 0))],(.slice 47)⟩:=rfl
theorem ty47:CX.ty 47=some ⟨2,true,16,[(.int .i64 0),(.int .i64 0)],(.struct [(0,3),(1,3)])⟩:=rfl
theorem ty53:CX.ty 53=some ⟨4,true,32,[(.int .i64 0),(.int .i64 0),(.int .i64 0),(.int .i64 0)],(.struct [(0,3),(1,3),(2,3),(3,3)])⟩:=rfl
theorem ty56:CX.ty 56=some ⟨3,true,40,[(.int .i64 0),(.flat (.slice none 0 0)),(.int .i64 0)],(.struct [(0,3),(1,29),(2,3)])⟩:=rfl
theorem ty58:CX.ty 58=some ⟨6,true,64,[(.int .i64 0),(.int .i64 0),(.int .i64 0),(.int .i64 0),(.flat (.slice none 0 0)),(.int .i64 0)],(.struct [(0,3),(1,47),(3,56)])⟩:=rfl
theorem ty66:CX.ty 66=some ⟨3,true,32,[(.int .i64 0),(.str .empty),(.bool false)],(.struct [(0,3),(1,9),(2,4)])⟩:=rfl
theorem ty68:CX.ty 68=some ⟨4,true,72,[(.int .i64 0),(.str .empty),(.flat (.slice none 0 0)),(.flat (.slice none 0 0))],(.struct [(0,3),(1,9),(2,29),(3,29)])⟩:=rfl
theorem ty75:CX.ty 75=some ⟨4,true,96,[(.flat (.slice none 0 0)),(.flat (.slice none 0 0)),(.flat (.slice none 0 0)),(.flat (.slice none 0 0))],(.struct [(0,28)])⟩:=rfl
theorem ty77:CX.ty 77=some ⟨11,true,176,[(.flat (.slice none 0 0)),(.flat (.slice none 0 0)),(.flat (.slice none 0 0)),(.flat (.slice none 0 0)),(.int .i64 0),(.str .empty),(.int .i64 0),(.int .i64 0),(.flat (.slice none 0 0)),(.int .i64 0),(.int .i64 0)],(.struct [(0,75),(4,31),(9,38)])⟩:=rfl
theorem ty85:CX.ty 85=some ⟨1,false,8,[(.flat .nilFunc)],.other⟩:=rfl
theorem ty93:CX.ty 93=some ⟨1,false,8,[(.flat .nilFunc)],.other⟩:=rfl
theorem ty107:CX.ty 107=some ⟨1,false,8,[(.flat .nilFunc)],.other⟩:=rfl
theorem ty108:CX.ty 108=some ⟨1,false,8,[(.flat .nilFunc)],.other⟩:=rfl
theorem ty112:CX.ty 112=some ⟨1,false,24,[(.flat (.slice none 0 0))],(.slice 5)⟩:=rfl
theorem ty113:CX.ty 113=some ⟨1,false,8,[(.flat .nilFunc)],.other⟩:=rfl
theorem ty119:CX.ty 119=some ⟨1,false,8,[(.flat .nilFunc)],.other⟩:=rfl
theorem ty120:CX.ty 120=some ⟨1,false,8,[(.flat .nilFunc)],.other⟩:=rfl
theorem ty122:CX.ty 122=some ⟨1,false,8,[(.flat .nilFunc)],.other⟩:=rfl
theorem ty132:CX.ty 132=some ⟨1,false,8,[(.flat .nilFunc)],.other⟩:=rfl
theorem zbF:CX.ty 147=some ⟨1,false,8,[(.int .u64 0)],(.int .u64)⟩:=rfl
theorem ty159:CX.ty 159=some ⟨1,false,8,[(.int .i64 0)],(.int .i64)⟩:=rfl
theorem ty167:CX.ty 167=some ⟨1,false,4,[(.int .u32 0)],(.int .u32)⟩:=rfl
theorem zbM:CX.ty 169=some ⟨1,false,8,[(.int .u64 0)],(.int .u64)⟩:=rfl
theorem zbR:CX.ty 175=some ⟨1,false,8,[(.int .u64 0)],(.int .u64)⟩:=rfl
theorem ty179:CX.ty 179=some ⟨1,false,8,[(.flat (.pointer none))],.other⟩:=rfl
theorem ty183:CX.ty 183=some ⟨1,false,8,[(.flat (.pointer none))],.other⟩:=rfl
theorem fn8:CX.fn 8=some Tryz.f8:=by kernel_rfl
theorem nt8:Tryz.f8.ntmps=122:=rfl
theorem fn9:CX.fn 9=some Tryz.f9:=by kernel_rfl
theorem nt9:Tryz.f9.ntmps=95:=rfl
theorem br13:CX.byRef 13=false:=rfl
theorem fn14:CX.fn 14=some Tryz.f14:=by kernel_rfl
theorem br14:CX.byRef 14=false:=rfl
theorem nt14:Tryz.f14.ntmps=94:=rfl
theorem br15:CX.byRef 15=false:=rfl
theorem fn16:CX.fn 16=some Tryz.f16:=by kernel_rfl
theorem br16:CX.byRef 16=false:=rfl
theorem nt16:Tryz.f16.ntmps=58:=rfl
theorem fn17:CX.fn 17=some Tryz.f17:=by kernel_rfl
theorem br17:CX.byRef 17=false:=rfl
theorem nt17:Tryz.f17.ntmps=34:=rfl
theorem fn18:CX.fn 18=some Tryz.f18:=by kernel_rfl
theorem br18:CX.byRef 18=false:=rfl
theorem nt18:Tryz.f18.ntmps=13:=rfl
theorem br19:CX.byRef 19=false:=rfl
theorem fn20:CX.fn 20=some Tryz.f20:=by kernel_rfl
theorem br20:CX.byRef 20=false:=rfl
theorem nt20:Tryz.f20.ntmps=26:=rfl
theorem fn21:CX.fn 21=some Tryz.f21:=by kernel_rfl
theorem br21:CX.byRef 21=false:=rfl
theorem nt21:Tryz.f21.ntmps=13:=rfl
theorem br22:CX.byRef 22=false:=rfl
theorem fn23:CX.fn 23=some Tryz.f23:=by kernel_rfl
theorem br23:CX.byRef 23=false:=rfl
theorem nt23:Tryz.f23.ntmps=36:=rfl
theorem br24:CX.byRef 24=false:=rfl
theorem fn28:CX.fn 28=some Tryz.f28:=by kernel_rfl
theorem br28:CX.byRef 28=false:=rfl
theorem nt28:Tryz.f28.ntmps=52:=rfl
theorem fn29:CX.fn 29=some Tryz.f29:=by kernel_rfl
theorem br29:CX.byRef 29=false:=rfl
theorem nt29:Tryz.f29.ntmps=10:=rfl
theorem br30:CX.byRef 30=false:=rfl
theorem br32:CX.byRef 32=false:=rfl
theorem br33:CX.byRef 33=false:=rfl
theorem br34:CX.byRef 34=false:=rfl
theorem br35:CX.byRef 35=false:=rfl
theorem br36:CX.byRef 36=false:=rfl
theorem fn37:CX.fn 37=some Tryz.f37:=by kernel_rfl
theorem br37:CX.byRef 37=false:=rfl
theorem nt37:Tryz.f37.ntmps=43:=rfl
theorem fn38:CX.fn 38=some Tryz.f38:=by kernel_rfl
theorem br38:CX.byRef 38=false:=rfl
theorem nt38:Tryz.f38.ntmps=58:=rfl
theorem fn39:CX.fn 39=some Tryz.f39:=by kernel_rfl
theorem br39:CX.byRef 39=false:=rfl
theorem nt39:Tryz.f39.ntmps=72:=rfl
theorem fn40:CX.fn 40=some Tryz.f40:=by kernel_rfl
theorem br40:CX.byRef 40=false:=rfl
theorem nt40:Tryz.f40.ntmps=23:=rfl
theorem fn41:CX.fn 41=some Tryz.f41:=by kernel_rfl
theorem br41:CX.byRef 41=false:=rfl
theorem nt41:Tryz.f41.ntmps=71:=rfl
theorem fn42:CX.fn 42=some Tryz.f42:=by kernel_rfl
theorem br42:CX.byRef 42=false:=rfl
theorem nt42:Tryz.f42.ntmps=40:=rfl
theorem fn43:CX.fn 43=some Tryz.f43:=by kernel_rfl
theorem br43:CX.byRef 43=false:=rfl
theorem nt43:Tryz.f43.ntmps=25:=rfl
theorem br44:CX.byRef 44=false:=rfl
theorem fn45:CX.fn 45=some Tryz.f45:=by kernel_rfl
theorem br45:CX.byRef 45=false:=rfl
theorem nt45:Tryz.f45.ntmps=52:=rfl
theorem br46:CX.byRef 46=false:=rfl
theorem fn47:CX.fn 47=some Tryz.f47:=by kernel_rfl
theorem br47:CX.byRef 47=false:=rfl
theorem nt47:Tryz.f47.ntmps=27:=rfl
theorem fn48:CX.fn 48=some Tryz.f48:=by kernel_rfl
theorem br48:CX.byRef 48=false:=rfl
theorem nt48:Tryz.f48.ntmps=18:=rfl
theorem br49:CX.byRef 49=false:=rfl
theorem fn50:CX.fn 50=some Tryz.f50:=by kernel_rfl
theorem br50:CX.byRef 50=false:=rfl
theorem nt50:Tryz.f50.ntmps=18:=rfl
theorem fn52:CX.fn 52=some Tryz.f52:=by kernel_rfl
theorem br52:CX.byRef 52=false:=rfl
theorem nt52:Tryz.f52.ntmps=7:=rfl
theorem fn54:CX.fn 54=some Tryz.f54:=by kernel_rfl
theorem br54:CX.byRef 54=false:=rfl
theorem nt54:Tryz.f54.ntmps=51:=rfl
theorem fn55:CX.fn 55=some Tryz.f55:=by kernel_rfl
theorem br55:CX.byRef 55=false:=rfl
theorem nt55:Tryz.f55.ntmps=9:=rfl
theorem fn56:CX.fn 56=some Tryz.f56:=by kernel_rfl
theorem br56:CX.byRef 56=false:=rfl
theorem nt56:Tryz.f56.ntmps=71:=rfl
theorem br57:CX.byRef 57=false:=rfl
theorem br58:CX.byRef 58=false:=rfl
theorem br59:CX.byRef 59=false:=rfl
theorem br60:CX.byRef 60=false:=rfl
theorem br61:CX.byRef 61=false:=rfl
theorem br62:CX.byRef 62=false:=rfl
theorem fn63:CX.fn 63=some Tryz.f63:=by kernel_rfl
theorem br63:CX.byRef 63=false:=rfl
theorem nt63:Tryz.f63.ntmps=17:=rfl
theorem fn64:CX.fn 64=some Tryz.f64:=by kernel_rfl
theorem br64:CX.byRef 64=false:=rfl
theorem nt64:Tryz.f64.ntmps=8:=rfl
theorem fn65:CX.fn 65=some Tryz.f65:=by kernel_rfl
theorem br65:CX.byRef 65=false:=rfl
theorem nt65:Tryz.f65.ntmps=13:=rfl
theorem fn66:CX.fn 66=some Tryz.f66:=by kernel_rfl
theorem br66:CX.byRef 66=false:=rfl
theorem nt66:Tryz.f66.ntmps=17:=rfl
theorem br67:CX.byRef 67=false:=rfl
theorem fn68:CX.fn 68=some Tryz.f68:=by kernel_rfl
theorem br68:CX.byRef 68=false:=rfl
theorem nt68:Tryz.f68.ntmps=38:=rfl
theorem fn69:CX.fn 69=some Tryz.f69:=by kernel_rfl
theorem br69:CX.byRef 69=false:=rfl
theorem nt69:Tryz.f69.ntmps=63:=rfl
theorem fn70:CX.fn 70=some Tryz.f70:=by kernel_rfl
theorem br70:CX.byRef 70=false:=rfl
theorem nt70:Tryz.f70.ntmps=20:=rfl
theorem fn71:CX.fn 71=some Tryz.f71:=by kernel_rfl
theorem br71:CX.byRef 71=false:=rfl
theorem nt71:Tryz.f71.ntmps=18:=rfl
theorem fn72:CX.fn 72=some Tryz.f72:=by kernel_rfl
theorem br72:CX.byRef 72=false:=rfl
theorem nt72:Tryz.f72.ntmps=50:=rfl
theorem fn73:CX.fn 73=some Tryz.f73:=by kernel_rfl
theorem br73:CX.byRef 73=false:=rfl
theorem nt73:Tryz.f73.ntmps=65:=rfl
theorem fn74:CX.fn 74=some Tryz.f74:=by kernel_rfl
theorem br74:CX.byRef 74=false:=rfl
theorem nt74:Tryz.f74.ntmps=59:=rfl
theorem br75:CX.byRef 75=false:=rfl
theorem fn76:CX.fn 76=some Tryz.f76:=by kernel_rfl
theorem br76:CX.byRef 76=false:=rfl
theorem nt76:Tryz.f76.ntmps=20:=rfl
theorem fn77:CX.fn 77=some Tryz.f77:=by kernel_rfl
theorem br77:CX.byRef 77=false:=rfl
theorem nt77:Tryz.f77.ntmps=16:=rfl
theorem fn78:CX.fn 78=some Tryz.f78:=by kernel_rfl
theorem br78:CX.byRef 78=false:=rfl
theorem nt78:Tryz.f78.ntmps=33:=rfl
theorem br79:CX.byRef 79=false:=rfl
theorem fn80:CX.fn 80=some Tryz.f80:=by kernel_rfl
theorem br80:CX.byRef 80=false:=rfl
theorem nt80:Tryz.f80.ntmps=24:=rfl
theorem fn81:CX.fn 81=some Tryz.f81:=by kernel_rfl
theorem br81:CX.byRef 81=false:=rfl
theorem nt81:Tryz.f81.ntmps=57:=rfl
theorem br82:CX.byRef 82=false:=rfl
theorem fn83:CX.fn 83=some Tryz.f83:=by kernel_rfl
theorem br83:CX.byRef 83=false:=rfl
theorem nt83:Tryz.f83.ntmps=53:=rfl
theorem br84:CX.byRef 84=false:=rfl
theorem fn85:CX.fn 85=some Tryz.f85:=by kernel_rfl
theorem br85:CX.byRef 85=true:=rfl
theorem nt85:Tryz.f85.ntmps=61:=rfl
theorem fn86:CX.fn 86=some Tryz.f86:=by kernel_rfl
theorem br86:CX.byRef 86=false:=rfl
theorem nt86:Tryz.f86.ntmps=9:=rfl
theorem fn87:CX.fn 87=some Tryz.f87:=by kernel_rfl
theorem br87:CX.byRef 87=true:=rfl
theorem nt87:Tryz.f87.ntmps=4:=rfl
theorem fn88:CX.fn 88=some Tryz.f88:=by kernel_rfl
theorem br88:CX.byRef 88=false:=rfl
theorem nt88:Tryz.f88.ntmps=19:=rfl
theorem br89:CX.byRef 89=false:=rfl
theorem br90:CX.byRef 90=false:=rfl
theorem br91:CX.byRef 91=false:=rfl
theorem br92:CX.byRef 92=false:=rfl
theorem br93:CX.byRef 93=false:=rfl
theorem br94:CX.byRef 94=false:=rfl
theorem fn95:CX.fn 95=some Tryz.f95:=by kernel_rfl
theorem br95:CX.byRef 95=false:=rfl
theorem nt95:Tryz.f95.ntmps=19:=rfl
theorem fn96:CX.fn 96=some Tryz.f96:=by kernel_rfl
theorem br96:CX.byRef 96=false:=rfl
theorem nt96:Tryz.f96.ntmps=8:=rfl
theorem fn97:CX.fn 97=some Tryz.f97:=by kernel_rfl
theorem br97:CX.byRef 97=false:=rfl
theorem nt97:Tryz.f97.ntmps=9:=rfl
theorem fn98:CX.fn 98=some Tryz.f98:=by kernel_rfl
theorem br98:CX.byRef 98=true:=rfl
theorem nt98:Tryz.f98.ntmps=45:=rfl
theorem fn99:CX.fn 99=some Tryz.f99:=by kernel_rfl
theorem br99:CX.byRef 99=false:=rfl
theorem nt99:Tryz.f99.ntmps=19:=rfl
theorem fn100:CX.fn 100=some Tryz.f100:=by kernel_rfl
theorem br100:CX.byRef 100=false:=rfl
theorem nt100:Tryz.f100.ntmps=8:=rfl
theorem br101:CX.byRef 101=false:=rfl
theorem fn102:CX.fn 102=some Tryz.f102:=by kernel_rfl
theorem br102:CX.byRef 102=false:=rfl
theorem nt102:Tryz.f102.ntmps=28:=rfl
theorem fn103:CX.fn 103=some Tryz.f103:=by kernel_rfl
theorem br103:CX.byRef 103=false:=rfl
theorem nt103:Tryz.f103.ntmps=20:=rfl
theorem fn104:CX.fn 104=some Tryz.f104:=by kernel_rfl
theorem br104:CX.byRef 104=false:=rfl
theorem nt104:Tryz.f104.ntmps=18:=rfl
theorem fn105:CX.fn 105=some Tryz.f105:=by kernel_rfl
theorem br105:CX.byRef 105=false:=rfl
theorem nt105:Tryz.f105.ntmps=22:=rfl
theorem fn107:CX.fn 107=some Tryz.f107:=by kernel_rfl
theorem br107:CX.byRef 107=false:=rfl
theorem nt107:Tryz.f107.ntmps=51:=rfl
theorem fn108:CX.fn 108=some Tryz.f108:=by kernel_rfl
theorem br108:CX.byRef 108=false:=rfl
theorem nt108:Tryz.f108.ntmps=71:=rfl
theorem br109:CX.byRef 109=false:=rfl
theorem fn110:CX.fn 110=some Tryz.f110:=by kernel_rfl
theorem br110:CX.byRef 110=false:=rfl
theorem nt110:Tryz.f110.ntmps=69:=rfl
theorem fn111:CX.fn 111=some Tryz.f111:=by kernel_rfl
theorem br111:CX.byRef 111=false:=rfl
theorem nt111:Tryz.f111.ntmps=19:=rfl
theorem fn112:CX.fn 112=some Tryz.f112:=by kernel_rfl
theorem br112:CX.byRef 112=true:=rfl
theorem nt112:Tryz.f112.ntmps=42:=rfl
theorem br113:CX.byRef 113=false:=rfl
theorem fn114:CX.fn 114=some Tryz.f114:=by kernel_rfl
theorem br114:CX.byRef 114=false:=rfl
theorem nt114:Tryz.f114.ntmps=6:=rfl
theorem fn115:CX.fn 115=some Tryz.f115:=by kernel_rfl
theorem br115:CX.byRef 115=true:=rfl
theorem nt115:Tryz.f115.ntmps=14:=rfl
theorem fn116:CX.fn 116=some Tryz.f116:=by kernel_rfl
theorem br116:CX.byRef 116=false:=rfl
theorem nt116:Tryz.f116.ntmps=10:=rfl
theorem fn117:CX.fn 117=some Tryz.f117:=by kernel_rfl
theorem br117:CX.byRef 117=false:=rfl
theorem nt117:Tryz.f117.ntmps=20:=rfl
theorem fn118:CX.fn 118=some Tryz.f118:=by kernel_rfl
theorem br118:CX.byRef 118=false:=rfl
theorem nt118:Tryz.f118.ntmps=5:=rfl
theorem fn119:CX.fn 119=some Tryz.f119:=by kernel_rfl
theorem br119:CX.byRef 119=true:=rfl
theorem nt119:Tryz.f119.ntmps=11:=rfl
theorem br120:CX.byRef 120=true:=rfl
theorem br121:CX.byRef 121=false:=rfl
theorem fn124:CX.fn 124=some Tryz.f124:=by kernel_rfl
theorem br124:CX.byRef 124=false:=rfl
theorem nt124:Tryz.f124.ntmps=19:=rfl
theorem fn125:CX.fn 125=some Tryz.f125:=by kernel_rfl
theorem br125:CX.byRef 125=false:=rfl
theorem nt125:Tryz.f125.ntmps=65:=rfl
theorem fn128:CX.fn 128=some Tryz.f128:=by kernel_rfl
theorem br128:CX.byRef 128=false:=rfl
theorem nt128:Tryz.f128.ntmps=12:=rfl
theorem fn129:CX.fn 129=some Tryz.f129:=by kernel_rfl
theorem br129:CX.byRef 129=true:=rfl
theorem nt129:Tryz.f129.ntmps=148:=rfl
theorem fn130:CX.fn 130=some Tryz.f130:=by kernel_rfl
theorem br130:CX.byRef 130=false:=rfl
theorem nt130:Tryz.f130.ntmps=8:=rfl
theorem fn131:CX.fn 131=some Tryz.f131:=by kernel_rfl
theorem br131:CX.byRef 131=false:=rfl
theorem nt131:Tryz.f131.ntmps=6:=rfl
theorem br132:CX.byRef 132=false:=rfl
theorem fn133:CX.fn 133=some Tryz.f133:=by kernel_rfl
theorem br133:CX.byRef 133=true:=rfl
theorem nt133:Tryz.f133.ntmps=134:=rfl
theorem fn136:CX.fn 136=some Tryz.f136:=by kernel_rfl
theorem br136:CX.byRef 136=false:=rfl
theorem nt136:Tryz.f136.ntmps=17:=rfl
theorem fn137:CX.fn 137=some Tryz.f137:=by kernel_rfl
theorem br137:CX.byRef 137=false:=rfl
theorem nt137:Tryz.f137.ntmps=61:=rfl
theorem fn139:CX.fn 139=some Tryz.f139:=by kernel_rfl
theorem br139:CX.byRef 139=false:=rfl
theorem nt139:Tryz.f139.ntmps=34:=rfl
theorem fn140:CX.fn 140=some Tryz.f140:=by kernel_rfl
theorem br140:CX.byRef 140=true:=rfl
theorem nt140:Tryz.f140.ntmps=53:=rfl
theorem fn141:CX.fn 141=some Tryz.f141:=by kernel_rfl
theorem br141:CX.byRef 141=true:=rfl
theorem nt141:Tryz.f141.ntmps=60:=rfl
theorem fn142:CX.fn 142=some Tryz.f142:=by kernel_rfl
theorem br142:CX.byRef 142=true:=rfl
theorem nt142:Tryz.f142.ntmps=67:=rfl
theorem fn143:CX.fn 143=some Tryz.f143:=by kernel_rfl
theorem br143:CX.byRef 143=true:=rfl
theorem nt143:Tryz.f143.ntmps=63:=rfl
theorem fn144:CX.fn 144=some Tryz.f144:=by kernel_rfl
theorem br144:CX.byRef 144=true:=rfl
theorem nt144:Tryz.f144.ntmps=34:=rfl
theorem fn145:CX.fn 145=some Tryz.f145:=by kernel_rfl
theorem br145:CX.byRef 145=true:=rfl
theorem nt145:Tryz.f145.ntmps=141:=rfl
theorem fn146:CX.fn 146=some Tryz.f146:=by kernel_rfl
theorem br146:CX.byRef 146=true:=rfl
theorem nt146:Tryz.f146.ntmps=90:=rfl
theorem fn147:CX.fn 147=some Tryz.f147:=by kernel_rfl
theorem br147:CX.byRef 147=true:=rfl
theorem nt147:Tryz.f147.ntmps=178:=rfl
theorem br148:CX.byRef 148=false:=rfl
theorem fn149:CX.fn 149=some Tryz.f149:=by kernel_rfl
theorem br149:CX.byRef 149=false:=rfl
theorem nt149:Tryz.f149.ntmps=25:=rfl
theorem fn150:CX.fn 150=some Tryz.f150:=by kernel_rfl
theorem br150:CX.byRef 150=true:=rfl
theorem nt150:Tryz.f150.ntmps=49:=rfl
theorem fn151:CX.fn 151=some Tryz.f151:=by kernel_rfl
theorem br151:CX.byRef 151=true:=rfl
theorem nt151:Tryz.f151.ntmps=56:=rfl
theorem fn152:CX.fn 152=some Tryz.f152:=by kernel_rfl
theorem br152:CX.byRef 152=true:=rfl
theorem nt152:Tryz.f152.ntmps=65:=rfl
theorem fn153:CX.fn 153=some Tryz.f153:=by kernel_rfl
theorem br153:CX.byRef 153=true:=rfl
theorem nt153:Tryz.f153.ntmps=57:=rfl
theorem fn154:CX.fn 154=some Tryz.f154:=by kernel_rfl
theorem br154:CX.byRef 154=true:=rfl
theorem nt154:Tryz.f154.ntmps=32:=rfl
theorem fn155:CX.fn 155=some Tryz.f155:=by kernel_rfl
theorem br155:CX.byRef 155=true:=rfl
theorem nt155:Tryz.f155.ntmps=133:=rfl
theorem fn156:CX.fn 156=some Tryz.f156:=by kernel_rfl
theorem br156:CX.byRef 156=false:=rfl
theorem nt156:Tryz.f156.ntmps=17:=rfl
theorem fn157:CX.fn 157=some Tryz.f157:=by kernel_rfl
theorem br157:CX.byRef 157=true:=rfl
theorem nt157:Tryz.f157.ntmps=84:=rfl
theorem fn158:CX.fn 158=some Tryz.f158:=by kernel_rfl
theorem br158:CX.byRef 158=true:=rfl
theorem nt158:Tryz.f158.ntmps=168:=rfl
theorem fn159:CX.fn 159=some Tryz.f159:=by kernel_rfl
theorem br159:CX.byRef 159=true:=rfl
theorem nt159:Tryz.f159.ntmps=82:=rfl
theorem fn160:CX.fn 160=some Tryz.f160:=by kernel_rfl
theorem zcs:CX.byRef 160=false:=rfl
theorem nt160:Tryz.f160.ntmps=7:=rfl
theorem fn161:CX.fn 161=some Tryz.f161:=by kernel_rfl
theorem zcr:CX.byRef 161=true:=rfl
theorem nt161:Tryz.f161.ntmps=33:=rfl
theorem fn162:CX.fn 162=some Tryz.f162:=by kernel_rfl
theorem br162:CX.byRef 162=true:=rfl
theorem nt162:Tryz.f162.ntmps=18:=rfl
theorem fn163:CX.fn 163=some Tryz.f163:=by kernel_rfl
theorem br163:CX.byRef 163=true:=rfl
theorem nt163:Tryz.f163.ntmps=41:=rfl
theorem fn164:CX.fn 164=some Tryz.f164:=by kernel_rfl
theorem br164:CX.byRef 164=true:=rfl
theorem nt164:Tryz.f164.ntmps=76:=rfl
theorem fn165:CX.fn 165=some Tryz.f165:=by kernel_rfl
theorem br165:CX.byRef 165=true:=rfl
theorem nt165:Tryz.f165.ntmps=15:=rfl
theorem fn166:CX.fn 166=some Tryz.f166:=by kernel_rfl
theorem br166:CX.byRef 166=true:=rfl
theorem nt166:Tryz.f166.ntmps=36:=rfl
theorem fn167:CX.fn 167=some Tryz.f167:=by kernel_rfl
theorem br167:CX.byRef 167=true:=rfl
theorem nt167:Tryz.f167.ntmps=32:=rfl
theorem fn168:CX.fn 168=some Tryz.f168:=by kernel_rfl
theorem br168:CX.byRef 168=true:=rfl
theorem nt168:Tryz.f168.ntmps=28:=rfl
theorem fz0:CX.frz "access.go:104" = false:=by kernel_rfl
theorem fz1:CX.frz "access.go:113" = false:=by kernel_rfl
theorem fz2:CX.frz "access.go:118" = false:=by kernel_rfl
theorem fz3:CX.frz "access.go:124" = false:=by kernel_rfl
theorem fz4:CX.frz "access.go:127" = false:=by kernel_rfl
theorem fz5:CX.frz "access.go:130" = false:=by kernel_rfl
theorem fz10:CX.frz "access.go:19" = false:=by kernel_rfl
theorem fz11:CX.frz "access.go:25" = false:=by kernel_rfl
theorem fz12:CX.frz "access.go:38" = false:=by kernel_rfl
theorem fz13:CX.frz "access.go:42" = false:=by kernel_rfl
theorem fz14:CX.frz "access.go:51" = false:=by kernel_rfl
theorem fz15:CX.frz "access.go:54" = false:=by kernel_rfl
theorem fz16:CX.frz "access.go:57" = false:=by kernel_rfl
theorem fz17:CX.frz "access.go:63" = false:=by kernel_rfl
theorem fz18:CX.frz "access.go:65" = false:=by kernel_rfl
theorem fz19:CX.frz "access.go:74" = false:=by kernel_rfl
theorem fz20:CX.frz "access.go:83" = false:=by kernel_rfl
theorem fz21:CX.frz "access.go:88" = false:=by kernel_rfl
theorem fz22:CX.frz "access.go:91" = false:=by kernel_rfl
theorem fz23:CX.frz "access.go:94" = false:=by kernel_rfl
theorem fz24:CX.frz "access.go:97" = false:=by kernel_rfl
theorem fz25:CX.frz "bits.go:304" = false:=by kernel_rfl
theorem fz26:CX.frz "bits.go:306" = false:=by kernel_rfl
theorem fz27:CX.frz "cmp.go:29" = false:=by kernel_rfl
theorem fz28:CX.frz "cmp.go:41" = false:=by kernel_rfl
theorem fz29:CX.frz "cmp.go:42" = false:=by kernel_rfl
theorem fz30:CX.frz "consent.go:20" = false:=by kernel_rfl
theorem fz34:CX.frz "group.go:100" = false:=by kernel_rfl
theorem fz35:CX.frz "group.go:101" = false:=by kernel_rfl
theorem fz36:CX.frz "group.go:104" = false:=by kernel_rfl
theorem fz37:CX.frz "group.go:108" = false:=by kernel_rfl
theorem fz38:CX.frz "group.go:24" = false:=by kernel_rfl
theorem fz39:CX.frz "group.go:39" = false:=by kernel_rfl
theorem fz40:CX.frz "group.go:41" = false:=by kernel_rfl
theorem fz41:CX.frz "group.go:45" = false:=by kernel_rfl
theorem fz42:CX.frz "group.go:49" = false:=by kernel_rfl
theorem fz43:CX.frz "group.go:61" = false:=by kernel_rfl
theorem fz44:CX.frz "group.go:67" = false:=by kernel_rfl
theorem fz45:CX.frz "group.go:73" = false:=by kernel_rfl
theorem fz46:CX.frz "group.go:85" = false:=by kernel_rfl
theorem fz47:CX.frz "group.go:87" = false:=by kernel_rfl
theorem fz48:CX.frz "group.go:88" = false:=by kernel_rfl
theorem fz49:CX.frz "group.go:89" = false:=by kernel_rfl
theorem fz50:CX.frz "group.go:93" = false:=by kernel_rfl
theorem fz51:CX.frz "group.go:94" = false:=by kernel_rfl
theorem fz55:CX.frz "iter.go:60" = false:=by kernel_rfl
theorem fz56:CX.frz "iter.go:67" = false:=by kernel_rfl
theorem fz57:CX.frz "iter.go:68" = false:=by kernel_rfl
theorem fz58:CX.frz "law.go:103" = false:=by kernel_rfl
theorem fz59:CX.frz "law.go:104" = true:=by kernel_rfl
theorem fz60:CX.frz "law.go:106" = true:=by kernel_rfl
theorem fz61:CX.frz "law.go:108" = true:=by kernel_rfl
theorem fz62:CX.frz "law.go:109" = true:=by kernel_rfl
theorem fz63:CX.frz "law.go:114" = true:=by kernel_rfl
theorem fz64:CX.frz "law.go:115" = true:=by kernel_rfl
theorem fz65:CX.frz "law.go:119" = false:=by kernel_rfl
theorem fz66:CX.frz "law.go:120" = true:=by kernel_rfl
theorem fz67:CX.frz "law.go:121" = true:=by kernel_rfl
theorem fz68:CX.frz "law.go:126" = true:=by kernel_rfl
theorem fz69:CX.frz "law.go:127" = true:=by kernel_rfl
theorem fz70:CX.frz "law.go:129" = true:=by kernel_rfl
theorem fz77:CX.frz "law.go:150" = true:=by kernel_rfl
theorem fz78:CX.frz "law.go:151" = true:=by kernel_rfl
theorem fz79:CX.frz "law.go:153" = true:=by kernel_rfl
theorem fz80:CX.frz "law.go:155" = true:=by kernel_rfl
theorem fz81:CX.frz "law.go:159" = true:=by kernel_rfl
theorem fz83:CX.frz "law.go:162" = true:=by kernel_rfl
theorem fz86:CX.frz "law.go:35" = true:=by kernel_rfl
theorem fz87:CX.frz "law.go:38" = true:=by kernel_rfl
theorem fz88:CX.frz "law.go:42" = true:=by kernel_rfl
theorem fz89:CX.frz "law.go:48" = true:=by kernel_rfl
theorem fz90:CX.frz "law.go:51" = true:=by kernel_rfl
theorem fz91:CX.frz "law.go:52" = true:=by kernel_rfl
theorem fz92:CX.frz "law.go:54" = true:=by kernel_rfl
theorem fz93:CX.frz "law.go:59" = true:=by kernel_rfl
theorem fz94:CX.frz "law.go:60" = true:=by kernel_rfl
theorem fz95:CX.frz "law.go:62" = true:=by kernel_rfl
theorem fz96:CX.frz "law.go:67" = true:=by kernel_rfl
theorem fz97:CX.frz "law.go:68" = true:=by kernel_rfl
theorem fz98:CX.frz "law.go:70" = true:=by kernel_rfl
theorem fz99:CX.frz "law.go:75" = true:=by kernel_rfl
theorem fz100:CX.frz "law.go:76" = true:=by kernel_rfl
theorem fz101:CX.frz "law.go:78" = true:=by kernel_rfl
theorem fz105:CX.frz "law.go:91" = true:=by kernel_rfl
theorem fz106:CX.frz "law.go:92" = true:=by kernel_rfl
theorem fz107:CX.frz "media.go:101" = false:=by kernel_rfl
theorem fz108:CX.frz "media.go:109" = false:=by kernel_rfl
theorem fz109:CX.frz "media.go:27" = false:=by kernel_rfl
theorem fz110:CX.frz "media.go:30" = false:=by kernel_rfl
theorem fz111:CX.frz "media.go:44" = false:=by kernel_rfl
theorem fz112:CX.frz "media.go:48" = false:=by kernel_rfl
theorem fz113:CX.frz "media.go:57" = false:=by kernel_rfl
theorem fz114:CX.frz "media.go:67" = false:=by kernel_rfl
theorem fz115:CX.frz "media.go:69" = false:=by kernel_rfl
theorem fz116:CX.frz "media.go:82" = false:=by kernel_rfl
theorem fz117:CX.frz "media.go:95" = false:=by kernel_rfl
theorem fz118:CX.frz "num.go:35" = false:=by kernel_rfl
theorem fz119:CX.frz "num.go:38" = false:=by kernel_rfl
theorem fz120:CX.frz "protocol.go:38" = false:=by kernel_rfl
theorem fz121:CX.frz "protocol.go:55" = false:=by kernel_rfl
theorem fz122:CX.frz "protocol.go:63" = false:=by kernel_rfl
theorem fz123:CX.frz "ref.go:100" = false:=by kernel_rfl
theorem fz124:CX.frz "ref.go:101" = false:=by kernel_rfl
theorem fz125:CX.frz "ref.go:102" = false:=by kernel_rfl
theorem fz126:CX.frz "ref.go:104" = false:=by kernel_rfl
theorem fz127:CX.frz "ref.go:105" = false:=by kernel_rfl
theorem fz128:CX.frz "ref.go:107" = false:=by kernel_rfl
theorem fz129:CX.frz "ref.go:113" = false:=by kernel_rfl
theorem fz130:CX.frz "ref.go:115" = false:=by kernel_rfl
theorem fz131:CX.frz "ref.go:116" = false:=by kernel_rfl
theorem fz132:CX.frz "ref.go:12" = false:=by kernel_rfl
theorem fz134:CX.frz "ref.go:124" = false:=by kernel_rfl
theorem fz135:CX.frz "ref.go:14" = false:=by kernel_rfl
theorem fz136:CX.frz "ref.go:16" = false:=by kernel_rfl
theorem fz137:CX.frz "ref.go:18" = false:=by kernel_rfl
theorem fz138:CX.frz "ref.go:19" = false:=by kernel_rfl
theorem fz139:CX.frz "ref.go:20" = false:=by kernel_rfl
theorem fz140:CX.frz "ref.go:23" = false:=by kernel_rfl
theorem fz141:CX.frz "ref.go:27" = false:=by kernel_rfl
theorem fz142:CX.frz "ref.go:28" = false:=by kernel_rfl
theorem fz143:CX.frz "ref.go:29" = false:=by kernel_rfl
theorem fz144:CX.frz "ref.go:32" = false:=by kernel_rfl
theorem fz145:CX.frz "ref.go:34" = false:=by kernel_rfl
theorem fz146:CX.frz "ref.go:36" = false:=by kernel_rfl
theorem fz147:CX.frz "ref.go:40" = false:=by kernel_rfl
theorem fz148:CX.frz "ref.go:41" = false:=by kernel_rfl
theorem fz149:CX.frz "ref.go:44" = false:=by kernel_rfl
theorem fz150:CX.frz "ref.go:47" = false:=by kernel_rfl
theorem fz151:CX.frz "ref.go:52" = false:=by kernel_rfl
theorem fz152:CX.frz "ref.go:53" = false:=by kernel_rfl
theorem fz153:CX.frz "ref.go:55" = false:=by kernel_rfl
theorem fz154:CX.frz "ref.go:56" = false:=by kernel_rfl
theorem fz155:CX.frz "ref.go:57" = false:=by kernel_rfl
theorem fz156:CX.frz "ref.go:59" = false:=by kernel_rfl
theorem fz157:CX.frz "ref.go:60" = false:=by kernel_rfl
theorem fz158:CX.frz "ref.go:62" = false:=by kernel_rfl
theorem fz159:CX.frz "ref.go:64" = false:=by kernel_rfl
theorem fz160:CX.frz "ref.go:66" = false:=by kernel_rfl
theorem fz161:CX.frz "ref.go:67" = false:=by kernel_rfl
theorem fz162:CX.frz "ref.go:69" = false:=by kernel_rfl
theorem fz163:CX.frz "ref.go:72" = false:=by kernel_rfl
theorem fz164:CX.frz "ref.go:74" = false:=by kernel_rfl
theorem fz165:CX.frz "ref.go:75" = false:=by kernel_rfl
theorem fz166:CX.frz "ref.go:76" = false:=by kernel_rfl
theorem fz167:CX.frz "ref.go:77" = false:=by kernel_rfl
theorem fz168:CX.frz "ref.go:80" = false:=by kernel_rfl
theorem fz169:CX.frz "ref.go:82" = false:=by kernel_rfl
theorem fz170:CX.frz "ref.go:83" = false:=by kernel_rfl
theorem fz171:CX.frz "ref.go:84" = false:=by kernel_rfl
theorem fz172:CX.frz "ref.go:85" = false:=by kernel_rfl
theorem fz173:CX.frz "ref.go:90" = false:=by kernel_rfl
theorem fz174:CX.frz "ref.go:93" = false:=by kernel_rfl
theorem fz175:CX.frz "ref.go:96" = false:=by kernel_rfl
theorem fz176:CX.frz "ref.go:97" = false:=by kernel_rfl
theorem fz177:CX.frz "ref.go:99" = false:=by kernel_rfl
theorem fz182:CX.frz "slices.go:109" = false:=by kernel_rfl
theorem fz183:CX.frz "slices.go:118" = false:=by kernel_rfl
theorem fz184:CX.frz "slices.go:125" = false:=by kernel_rfl
theorem fz185:CX.frz "slices.go:242" = false:=by kernel_rfl
theorem fz186:CX.frz "slices.go:248" = false:=by kernel_rfl
theorem fz188:CX.frz "sort.go:18" = false:=by kernel_rfl
theorem fz189:CX.frz "sort.go:189" = false:=by kernel_rfl
theorem fz190:CX.frz "sort.go:32" = false:=by kernel_rfl
theorem fz191:CX.frz "span.go:110" = false:=by kernel_rfl
theorem fz192:CX.frz "span.go:111" = false:=by kernel_rfl
theorem fz193:CX.frz "span.go:114" = false:=by kernel_rfl
theorem fz194:CX.frz "span.go:119" = false:=by kernel_rfl
theorem fz195:CX.frz "span.go:75" = false:=by kernel_rfl
theorem fz196:CX.frz "span.go:76" = false:=by kernel_rfl
theorem fz197:CX.frz "span.go:82" = false:=by kernel_rfl
theorem fz198:CX.frz "span.go:90" = false:=by kernel_rfl
theorem fz199:CX.frz "span.go:95" = false:=by kernel_rfl
theorem fz203:CX.frz "zsortanyfunc.go:101" = false:=by kernel_rfl
theorem fz204:CX.frz "zsortanyfunc.go:108" = false:=by kernel_rfl
theorem fz205:CX.frz "zsortanyfunc.go:109" = false:=by kernel_rfl
theorem fz206:CX.frz "zsortanyfunc.go:114" = false:=by kernel_rfl
theorem fz207:CX.frz "zsortanyfunc.go:12" = false:=by kernel_rfl
theorem fz208:CX.frz "zsortanyfunc.go:121" = false:=by kernel_rfl
theorem fz209:CX.frz "zsortanyfunc.go:125" = false:=by kernel_rfl
theorem fz210:CX.frz "zsortanyfunc.go:139" = false:=by kernel_rfl
theorem fz211:CX.frz "zsortanyfunc.go:142" = false:=by kernel_rfl
theorem fz212:CX.frz "zsortanyfunc.go:154" = false:=by kernel_rfl
theorem fz213:CX.frz "zsortanyfunc.go:157" = false:=by kernel_rfl
theorem fz214:CX.frz "zsortanyfunc.go:178" = false:=by kernel_rfl
theorem fz215:CX.frz "zsortanyfunc.go:181" = false:=by kernel_rfl
theorem fz216:CX.frz "zsortanyfunc.go:202" = false:=by kernel_rfl
theorem fz217:CX.frz "zsortanyfunc.go:219" = false:=by kernel_rfl
theorem fz218:CX.frz "zsortanyfunc.go:228" = false:=by kernel_rfl
theorem fz219:CX.frz "zsortanyfunc.go:244" = false:=by kernel_rfl
theorem fz220:CX.frz "zsortanyfunc.go:247" = false:=by kernel_rfl
theorem fz221:CX.frz "zsortanyfunc.go:27" = false:=by kernel_rfl
theorem fz222:CX.frz "zsortanyfunc.go:279" = false:=by kernel_rfl
theorem fz223:CX.frz "zsortanyfunc.go:280" = false:=by kernel_rfl
theorem fz224:CX.frz "zsortanyfunc.go:281" = false:=by kernel_rfl
theorem fz225:CX.frz "zsortanyfunc.go:284" = false:=by kernel_rfl
theorem fz226:CX.frz "zsortanyfunc.go:299" = false:=by kernel_rfl
theorem fz227:CX.frz "zsortanyfunc.go:30" = false:=by kernel_rfl
theorem fz228:CX.frz "zsortanyfunc.go:308" = false:=by kernel_rfl
theorem fz229:CX.frz "zsortanyfunc.go:309" = false:=by kernel_rfl
theorem fz230:CX.frz "zsortanyfunc.go:310" = false:=by kernel_rfl
theorem fz231:CX.frz "zsortanyfunc.go:316" = false:=by kernel_rfl
theorem fz232:CX.frz "zsortanyfunc.go:45" = false:=by kernel_rfl
theorem fz233:CX.frz "zsortanyfunc.go:51" = false:=by kernel_rfl
theorem fz234:CX.frz "zsortanyfunc.go:73" = false:=by kernel_rfl
theorem fz235:CX.frz "zsortanyfunc.go:79" = false:=by kernel_rfl
theorem fz236:CX.frz "zsortanyfunc.go:85" = false:=by kernel_rfl
theorem fz237:CX.frz "zsortanyfunc.go:89" = false:=by kernel_rfl
theorem fz238:CX.frz "zsortanyfunc.go:91" = false:=by kernel_rfl
theorem fz239:CX.frz "zsortordered.go:103" = false:=by kernel_rfl
theorem fz240:CX.frz "zsortordered.go:110" = false:=by kernel_rfl
theorem fz241:CX.frz "zsortordered.go:111" = false:=by kernel_rfl
theorem fz242:CX.frz "zsortordered.go:116" = false:=by kernel_rfl
theorem fz243:CX.frz "zsortordered.go:123" = false:=by kernel_rfl
theorem fz244:CX.frz "zsortordered.go:127" = false:=by kernel_rfl
theorem fz245:CX.frz "zsortordered.go:14" = false:=by kernel_rfl
theorem fz246:CX.frz "zsortordered.go:141" = false:=by kernel_rfl
theorem fz247:CX.frz "zsortordered.go:144" = false:=by kernel_rfl
theorem fz248:CX.frz "zsortordered.go:156" = false:=by kernel_rfl
theorem fz249:CX.frz "zsortordered.go:159" = false:=by kernel_rfl
theorem fz250:CX.frz "zsortordered.go:180" = false:=by kernel_rfl
theorem fz251:CX.frz "zsortordered.go:183" = false:=by kernel_rfl
theorem fz252:CX.frz "zsortordered.go:204" = false:=by kernel_rfl
theorem fz253:CX.frz "zsortordered.go:221" = false:=by kernel_rfl
theorem fz254:CX.frz "zsortordered.go:230" = false:=by kernel_rfl
theorem fz255:CX.frz "zsortordered.go:246" = false:=by kernel_rfl
theorem fz256:CX.frz "zsortordered.go:249" = false:=by kernel_rfl
theorem fz257:CX.frz "zsortordered.go:281" = false:=by kernel_rfl
theorem fz258:CX.frz "zsortordered.go:282" = false:=by kernel_rfl
theorem fz259:CX.frz "zsortordered.go:283" = false:=by kernel_rfl
theorem fz260:CX.frz "zsortordered.go:286" = false:=by kernel_rfl
theorem fz261:CX.frz "zsortordered.go:29" = false:=by kernel_rfl
theorem fz262:CX.frz "zsortordered.go:301" = false:=by kernel_rfl
theorem fz263:CX.frz "zsortordered.go:310" = false:=by kernel_rfl
theorem fz264:CX.frz "zsortordered.go:311" = false:=by kernel_rfl
theorem fz265:CX.frz "zsortordered.go:312" = false:=by kernel_rfl
theorem fz266:CX.frz "zsortordered.go:318" = false:=by kernel_rfl
theorem fz267:CX.frz "zsortordered.go:32" = false:=by kernel_rfl
theorem fz268:CX.frz "zsortordered.go:47" = false:=by kernel_rfl
theorem fz269:CX.frz "zsortordered.go:53" = false:=by kernel_rfl
theorem fz270:CX.frz "zsortordered.go:75" = false:=by kernel_rfl
theorem fz271:CX.frz "zsortordered.go:81" = false:=by kernel_rfl
theorem fz272:CX.frz "zsortordered.go:87" = false:=by kernel_rfl
theorem fz273:CX.frz "zsortordered.go:91" = false:=by kernel_rfl
theorem fz274:CX.frz "zsortordered.go:93" = false:=by kernel_rfl
theorem eq47:CX.eqT 47=some [.int,.int]:=rfl
end Go.Eng
