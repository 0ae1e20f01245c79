/- The tables of types and functions of this translation. -/
import Derived.Test.YtkahfcmeeloikaaGreatDoorZ1
import Derived.Test.YtkahfcmeeloikaaGreatDoorProg
set_option linter.all false
set_option maxHeartbeats 1000000
namespace Go.Eng
open Go.Proofs
@[reducible] def jd(e:TypeId):Option mN:=some ⟨1,false,24,[(.flat (.slice none 0 0))],(.slice e)⟩
@[reducible] def co:Option mN:=some ⟨1,false,8,[(.flat .nilFunc)],.other⟩
@[reducible] def tyI(k:IntKind):Option mN:=some ⟨1,false,8,[(.int k 0)],(.int k)⟩
@[reducible] def tyM(k e:TypeId):Option mN:=some ⟨1,false,8,[(.flat (.map none))],(.map k e)⟩
@[reducible] def tyP:Option mN:=some ⟨1,false,8,[(.flat (.pointer none))],.other⟩
def tys:List (Option mN):=[
 none,co,tyI .i64,tyI .i64,some ⟨1,false,1,[(.bool false)],.bool⟩,some ⟨1,false,1,[(.int .u8 0)],(.int .u8)⟩,some ⟨1,false,1,[(.int .u8 0)],(.int .u8)⟩,some ⟨4,true,24,[(.int .i64 0),(.int .i64 0),(.bool false),(.int .u8 0)],(.struct [(0,2),(1,3),(2,4),(3,6)])⟩,some ⟨4,true,24,[(.int .i64 0),(.int .i64 0),(.bool false),(.int .u8 0)],(.struct [(0,2),(1,3),(2,4),(3,6)])⟩,some ⟨1,false,16,[(.str .empty)],.str⟩,some ⟨1,false,16,[(.str .empty)],.str⟩,some ⟨1,false,16,[(.str .empty)],.str⟩,tyI .u64,some ⟨2,true,24,[(.str .empty),(.int .u64 0)],(.struct [(0,9),(1,12)])⟩,some ⟨2,true,24,[(.str .empty),(.int .u64 0)],(.struct [(0,9),(1,12)])⟩,tyP,tyP,tyP,some ⟨1,true,8,[(.flat (.pointer none))],(.struct [(0,17)])⟩,some ⟨1,true,8,[(.flat (.pointer none))],(.struct [(0,17)])⟩,some ⟨1,false,16,[(.flat .nilIface)],.other⟩,some ⟨1,false,4,[(.int .i32 0)],(.int .i32)⟩,jd 170,some ⟨1,true,24,[(.flat (.slice none 0 0))],(.struct [(0,22)])⟩,some ⟨1,true,24,[(.flat (.slice none 0 0))],(.struct [(0,22)])⟩,jd 172,jd 91,some ⟨3,true,64,[(.str .empty),(.flat (.slice none 0 0)),(.flat (.slice none 0 0))],(.struct [(0,9),(1,25),(2,26)])⟩,some ⟨3,true,64,[(.str .empty),(.flat (.slice none 0 0)),(.flat (.slice none 0 0))],(.struct [(0,9),(1,25),(2,26)])⟩,jd 120,jd 176,jd 3,some ⟨3,true,56,[(.int .i64 0),(.flat (.slice none 0 0)),(.flat (.slice none 0 0))],(.struct [(0,3),(1,30),(2,31)])⟩,some ⟨3,true,56,[(.int .i64 0),(.flat (.slice none 0 0)),(.flat (.slice none 0 0))],(.struct [(0,3),(1,30),(2,31)])⟩,jd 66,some ⟨9,true,192,[(.flat (.slice none 0 0)),(.str .empty),(.flat (.slice none 0 0)),(.flat (.slice none 0 0)),(.flat (.slice none 0 0)),(.int .i64 0),(.flat (.slice none 0 0)),(.flat (.slice none 0 0)),(.flat (.slice none 0 0))],(.struct [(0,24),(1,28),(4,29),(5,33),(8,34)])⟩,some ⟨9,true,192,[(.flat (.slice none 0 0)),(.str .empty),(.flat (.slice none 0 0)),(.flat (.slice none 0 0)),(.flat (.slice none 0 0)),(.int .i64 0),(.flat (.slice none 0 0)),(.flat (.slice none 0 0)),(.flat (.slice none 0 0))],(.struct [(0,24),(1,28),(4,29),(5,33),(8,34)])⟩,jd 74,jd 111,jd 114,jd 125,jd 218,jd 127,jd 55,some ⟨4,true,96,[(.flat (.slice none 0 0)),(.flat (.slice none 0 0)),(.flat (.slice none 0 0)),(.flat (.slice none 0 0))],(.struct [(0,40),(1,41),(2,42),(3,43)])⟩,some ⟨4,true,96,[(.flat (.slice none 0 0)),(.flat (.slice none 0 0)),(.flat (.slice none 0 0)),(.flat (.slice none 0 0))],(.struct [(0,40),(1,41),(2,42),(3,43)])⟩,some ⟨16,true,360,[(.flat (.slice none 0 0)),(.str .empty),(.flat (.slice none 0 0)),(.flat (.slice none 0 0)),(.flat (.slice none 0 0)),(.int .i64 0),(.flat (.slice none 0 0)),(.flat (.slice none 0 0)),(.flat (.slice none 0 0)),(.flat (.slice none 0 0)),(.flat (.slice none 0 0)),(.flat (.slice none 0 0)),(.flat (.slice none 0 0)),(.flat (.slice none 0 0)),(.flat (.slice none 0 0)),(.flat (.slice none 0 0))],(.struct [(0,36),(9,37),(10,38),(11,39),(12,45)])⟩,some ⟨16,true,360,[(.flat (.slice none 0 0)),(.str .empty),(.flat (.slice none 0 0)),(.flat (.slice none 0 0)),(.flat (.slice none 0 0)),(.int .i64 0),(.flat (.slice none 0 0)),(.flat (.slice none 0 0)),(.flat (.slice none 0 0)),(.flat (.slice none 0 0)),(.flat (.slice none 0 0)),(.flat (.slice none 0 0)),(.flat (.slice none 0 0)),(.flat (.slice none 0 0)),(.flat (.slice none 0 0)),(.flat (.slice none 0 0))],(.struct [(0,36),(9,37),(10,38),(11,39),(12,45)])⟩,some ⟨2,true,16,[(.int .i64 0),(.int .i64 0)],(.struct [(0,3),(1,3)])⟩,some ⟨2,true,16,[(.int .i64 0),(.int .i64 0)],(.struct [(0,3),(1,3)])⟩,some ⟨2,true,16,[(.int .i64 0),(.int .i64 0)],(.struct [(0,3),(1,3)])⟩,some ⟨2,true,16,[(.int .i64 0),(.int .i64 0)],(.struct [(0,3),(1,3)])⟩,some ⟨3,true,40,[(.int .i64 0),(.flat (.slice none 0 0)),(.int .i64 0)],(.struct [(0,3),(1,31),(2,3)])⟩,some ⟨3,true,40,[(.int .i64 0),(.flat (.slice none 0 0)),(.int .i64 0)],(.struct [(0,3),(1,31),(2,3)])⟩,some ⟨6,true,64,[(.int .i64 0),(.int .i64 0),(.int .i64 0),(.int .i64 0),(.flat (.slice none 0 0)),(.int .i64 0)],(.struct [(0,3),(1,51),(3,53)])⟩,some ⟨6,true,64,[(.int .i64 0),(.int .i64 0),(.int .i64 0),(.int .i64 0),(.flat (.slice none 0 0)),(.int .i64 0)],(.struct [(0,3),(1,51),(3,53)])⟩,co,co,tyI .i64,co,co,jd 31,jd 178,jd 153,jd 90,some ⟨8,true,144,[(.int .i64 0),(.flat (.slice none 0 0)),(.int .i64 0),(.flat (.slice none 0 0)),(.int .i64 0),(.flat (.slice none 0 0)),(.flat (.slice none 0 0)),(.flat (.slice none 0 0))],(.struct [(0,3),(1,31),(2,3),(3,61),(4,3),(5,62),(6,63),(7,64)])⟩,some ⟨8,true,144,[(.int .i64 0),(.flat (.slice none 0 0)),(.int .i64 0),(.flat (.slice none 0 0)),(.int .i64 0),(.flat (.slice none 0 0)),(.flat (.slice none 0 0)),(.flat (.slice none 0 0))],(.struct [(0,3),(1,31),(2,3),(3,61),(4,3),(5,62),(6,63),(7,64)])⟩,none,co,some ⟨5,true,64,[(.int .i64 0),(.str .empty),(.int .i64 0),(.int .i64 0),(.flat (.slice none 0 0))],(.struct [(0,3),(1,9),(2,3),(3,3),(4,31)])⟩,some ⟨5,true,64,[(.int .i64 0),(.str .empty),(.int .i64 0),(.int .i64 0),(.flat (.slice none 0 0))],(.struct [(0,3),(1,9),(2,3),(3,3),(4,31)])⟩,jd 180,jd 78,some ⟨7,true,112,[(.int .i64 0),(.str .empty),(.int .i64 0),(.int .i64 0),(.flat (.slice none 0 0)),(.flat (.slice none 0 0)),(.flat (.slice none 0 0))],(.struct [(0,70),(5,71),(6,72)])⟩,some ⟨7,true,112,[(.int .i64 0),(.str .empty),(.int .i64 0),(.int .i64 0),(.flat (.slice none 0 0)),(.flat (.slice none 0 0)),(.flat (.slice none 0 0))],(.struct [(0,70),(5,71),(6,72)])⟩,none,co,some ⟨7,true,64,[(.int .i64 0),(.int .i64 0),(.int .i64 0),(.int .i64 0),(.int .i64 0),(.int .i64 0),(.str .empty)],(.struct [(0,3),(1,3),(2,3),(3,51),(5,3),(6,9)])⟩,some ⟨7,true,64,[(.int .i64 0),(.int .i64 0),(.int .i64 0),(.int .i64 0),(.int .i64 0),(.int .i64 0),(.str .empty)],(.struct [(0,3),(1,3),(2,3),(3,51),(5,3),(6,9)])⟩,none,co,co,co,co,co,jd 70,co,co,co,some ⟨2,true,16,[(.int .i64 0),(.int .i64 0)],(.struct [(0,3),(1,3)])⟩,some ⟨2,true,16,[(.int .i64 0),(.int .i64 0)],(.struct [(0,3),(1,3)])⟩,jd 9,co,co,co,co,co,co,co,tyM 3 4,co,co,jd 51,co,co,co,co,jd 164,some ⟨1,true,24,[(.flat (.slice none 0 0))],(.struct [(0,107)])⟩,some ⟨1,true,24,[(.flat (.slice none 0 0))],(.struct [(0,107)])⟩,some ⟨4,true,48,[(.int .i64 0),(.int .i64 0),(.bool false),(.flat (.slice none 0 0))],(.struct [(0,90),(2,4),(3,109)])⟩,some ⟨4,true,48,[(.int .i64 0),(.int .i64 0),(.bool false),(.flat (.slice none 0 0))],(.struct [(0,90),(2,4),(3,109)])⟩,co,some ⟨5,true,88,[(.int .i64 0),(.str .empty),(.str .empty),(.flat (.slice none 0 0)),(.flat (.slice none 0 0))],(.struct [(0,3),(1,9),(2,9),(3,31),(4,64)])⟩,some ⟨5,true,88,[(.int .i64 0),(.str .empty),(.str .empty),(.flat (.slice none 0 0)),(.flat (.slice none 0 0))],(.struct [(0,3),(1,9),(2,9),(3,31),(4,64)])⟩,co,co,co,jd 174,some ⟨6,true,104,[(.flat (.slice none 0 0)),(.flat (.slice none 0 0)),(.flat (.slice none 0 0)),(.flat (.slice none 0 0)),(.bool false),(.bool false)],(.struct [(0,31),(1,31),(2,118),(3,118),(4,4),(5,4)])⟩,some ⟨6,true,104,[(.flat (.slice none 0 0)),(.flat (.slice none 0 0)),(.flat (.slice none 0 0)),(.flat (.slice none 0 0)),(.bool false),(.bool false)],(.struct [(0,31),(1,31),(2,118),(3,118),(4,4),(5,4)])⟩,co,none,co,some ⟨3,true,32,[(.int .i64 0),(.str .empty),(.bool false)],(.struct [(0,3),(1,9),(2,4)])⟩,some ⟨3,true,32,[(.int .i64 0),(.str .empty),(.bool false)],(.struct [(0,3),(1,9),(2,4)])⟩,some ⟨4,true,32,[(.int .i64 0),(.int .i64 0),(.int .i64 0),(.int .i64 0)],(.struct [(0,3),(1,3),(2,3),(3,3)])⟩,some ⟨4,true,32,[(.int .i64 0),(.int .i64 0),(.int .i64 0),(.int .i64 0)],(.struct [(0,3),(1,3),(2,3),(3,3)])⟩,tyM 90 3,none,co,co,co,co,co,co,co,co,co,co,co,co,co,co,co,co,co,co,co,co,co,co,some ⟨2,true,16,[(.int .i64 0),(.int .i64 0)],(.struct [(0,3),(1,3)])⟩,some ⟨2,true,16,[(.int .i64 0),(.int .i64 0)],(.struct [(0,3),(1,3)])⟩,co,co,none,co,none,co,co,co,co,some ⟨3,true,24,[(.int .i64 0),(.int .i64 0),(.int .i64 0)],(.struct [(0,3),(1,3),(2,3)])⟩,some ⟨3,true,24,[(.int .i64 0),(.int .i64 0),(.int .i64 0)],(.struct [(0,3),(1,3),(2,3)])⟩,co,co,co,co,some ⟨2,true,24,[(.str .empty),(.int .i64 0)],(.struct [(0,9),(1,3)])⟩,some ⟨2,true,24,[(.str .empty),(.int .i64 0)],(.struct [(0,9),(1,3)])⟩,some ⟨2,true,40,[(.str .empty),(.flat (.slice none 0 0))],(.struct [(0,9),(1,31)])⟩,some ⟨2,true,40,[(.str .empty),(.flat (.slice none 0 0))],(.struct [(0,9),(1,31)])⟩,some ⟨2,true,16,[(.int .i64 0),(.int .i64 0)],(.struct [(0,3),(1,3)])⟩,some ⟨2,true,16,[(.int .i64 0),(.int .i64 0)],(.struct [(0,3),(1,3)])⟩,some ⟨3,true,24,[(.int .i64 0),(.int .i64 0),(.int .i64 0)],(.struct [(0,3),(1,3),(2,3)])⟩,some ⟨3,true,24,[(.int .i64 0),(.int .i64 0),(.int .i64 0)],(.struct [(0,3),(1,3),(2,3)])⟩,some ⟨2,true,32,[(.str .empty),(.str .empty)],(.struct [(0,9),(1,9)])⟩,some ⟨2,true,32,[(.str .empty),(.str .empty)],(.struct [(0,9),(1,9)])⟩,some ⟨4,true,40,[(.str .empty),(.int .i64 0),(.int .i64 0),(.int .i64 0)],(.struct [(0,9),(1,3),(2,3),(3,3)])⟩,some ⟨4,true,40,[(.str .empty),(.int .i64 0),(.int .i64 0),(.int .i64 0)],(.struct [(0,9),(1,3),(2,3),(3,3)])⟩,co,co,none,co,co,none,co,co,co,co,jd 5,co,co,co,co,co,co,co,co,co,co,co,co,co,co,co,co,co,co,co,co,co,co,co,co,co,some ⟨4,true,72,[(.int .i64 0),(.str .empty),(.flat (.slice none 0 0)),(.flat (.slice none 0 0))],(.struct [(0,3),(1,9),(2,31),(3,31)])⟩,some ⟨4,true,72,[(.int .i64 0),(.str .empty),(.flat (.slice none 0 0)),(.flat (.slice none 0 0))],(.struct [(0,3),(1,9),(2,31),(3,31)])⟩,co,co,co,co,co,co,co,none,some ⟨4,true,96,[(.flat (.slice none 0 0)),(.flat (.slice none 0 0)),(.flat (.slice none 0 0)),(.flat (.slice none 0 0))],(.struct [(0,45)])⟩,some ⟨11,true,176,[(.flat (.slice none 0 0)),(.flat (.slice none 0 0)),(.flat (.slice none 0 0)),(.flat (.slice none 0 0)),(.int .i64 0),(.str .empty),(.int .i64 0),(.int .i64 0),(.flat (.slice none 0 0)),(.int .i64 0),(.int .i64 0)],(.struct [(0,227),(4,70),(9,49)])⟩,some ⟨11,true,176,[(.flat (.slice none 0 0)),(.flat (.slice none 0 0)),(.flat (.slice none 0 0)),(.flat (.slice none 0 0)),(.int .i64 0),(.str .empty),(.int .i64 0),(.int .i64 0),(.flat (.slice none 0 0)),(.int .i64 0),(.int .i64 0)],(.struct [(0,227),(4,70),(9,49)])⟩,none,none,none,some ⟨3,true,24,[(.int .i64 0),(.int .i64 0),(.int .i64 0)],(.struct [(0,3),(1,3),(2,3)])⟩,none,co,none,co,none,co,co,none,co,co,none,co,co,jd 250,co,none,some ⟨2,true,16,[(.int .i64 0),(.int .i64 0)],(.array 2 3)⟩,co,tyP,some ⟨2,true,32,[(.flat (.pointer none)),(.flat (.slice none 0 0))],(.struct [(0,252),(1,191)])⟩,some ⟨2,true,32,[(.flat (.pointer none)),(.flat (.slice none 0 0))],(.struct [(0,252),(1,191)])⟩,co,none,none,none,none,none,none,none,none,none,none,none,co,co,co,jd 4,co,none,none,none,none,none,some ⟨1,false,16,[(.flat .nilIface)],.other⟩,none,none,none,none,co,tyM 3 31,none,none,none,none,none,none,none,none,tyP,co,co,none,none,none,none,none,co,co,none,some ⟨0,true,0,[],(.struct [])⟩,none,none,none,some ⟨10,true,216,[(.flat (.slice none 0 0)),(.str .empty),(.flat (.slice none 0 0)),(.flat (.slice none 0 0)),(.flat (.slice none 0 0)),(.int .i64 0),(.flat (.slice none 0 0)),(.flat (.slice none 0 0)),(.flat (.slice none 0 0)),(.flat (.slice none 0 0))],(.struct [(0,36),(9,31)])⟩,none,none,co,co,none,none,co,co,co,co,some ⟨24,true,24,[(.int .u8 0),(.int .u8 0),(.int .u8 0),(.int .u8 0),(.int .u8 0),(.int .u8 0),(.int .u8 0),(.int .u8 0),(.int .u8 0),(.int .u8 0),(.int .u8 0),(.int .u8 0),(.int .u8 0),(.int .u8 0),(.int .u8 0),(.int .u8 0),(.int .u8 0),(.int .u8 0),(.int .u8 0),(.int .u8 0),(.int .u8 0),(.int .u8 0),(.int .u8 0),(.int .u8 0)],(.array 24 5)⟩,tyI .u64,none,none,none,none,none,none,none,none,none,none,none,none,none,none,none,none,none,none,none,none,none,none,co,co,co,tyI .u64,co,some ⟨20,true,160,[(.int .u64 0),(.int .u64 0),(.int .u64 0),(.int .u64 0),(.int .u64 0),(.int .u64 0),(.int .u64 0),(.int .u64 0),(.int .u64 0),(.int .u64 0),(.int .u64 0),(.int .u64 0),(.int .u64 0),(.int .u64 0),(.int .u64 0),(.int .u64 0),(.int .u64 0),(.int .u64 0),(.int .u64 0),(.int .u64 0)],(.array 20 319)⟩,some ⟨1,false,4,[(.int .u32 0)],(.int .u32)⟩,none,co,co,co,co,none,co,co,none,none,co,none,co,co,co,none,co,none,none,none,none,none,none,none,none,none,none,none,none,none,none,none,none,none,none,none,none,none,none,none,none,none,none,none,none,none,none,none,none,none,none,none,none,none,none,none,none,none,none,co,none,none,none,none,none,none,none,none,none,none,none,none,none,none,none,none,none,none,none,co,tyP,none,tyM 9 4,none,some ⟨14,true,240,[(.flat (.slice none 0 0)),(.str .empty),(.flat (.slice none 0 0)),(.flat (.slice none 0 0)),(.flat (.slice none 0 0)),(.int .i64 0),(.flat (.slice none 0 0)),(.flat (.slice none 0 0)),(.flat (.slice none 0 0)),(.flat (.slice none 0 0)),(.bool false),(.int .u32 0),(.flat (.map none)),(.flat .nilFunc)],(.struct [(0,36),(9,31),(10,4),(11,348),(12,431),(13,428)])⟩,none,none,none,none,none,none,none,none,none,none,none,none,none,none,none,co,none,some ⟨2,true,48,[(.flat (.slice none 0 0)),(.flat (.slice none 0 0))],(.struct [(0,24),(1,118)])⟩]
def jR:Tab:={ tys:=tys,fns:=[3,4,6,7,8,9,10,11,12,13,14,15,19,20,21,22,23,24,25,26,27,28,29,30,31,32,33,38,43,44,45,46,47,48,49,50,51,52,53,54,55,56,57,58,59,60,61,62,63,64,65,66,67,68,69,70,71,72,73,74,81,84,85,86,87,88,89,90,91,92,93,94,95,96,97,98,99,100,101,102,103,104,105,106,107,108,109,110,111,112,113,114,115,116,117,118,119,120,121,122,123,124,125,126,127,128,129,130,131,132,133,134,135,136,137,148,150,152,153,154,155,156,157,158,159,160,161,162,163,164,165,166,167,168,169,170,171,172,173,174,175,176,177,178,179,180,181,182,183,194,196,197,198,199,200,201,202,203,205,206,207,208,209,210,211,212,213,214,215,217,219,220,221,236,237,238,239,240,242,243,244,245,246,248,267,268,269,270,292,293,294,314,315,316,340,341,342,343,344,345,346,347,348,349,350,351,352,353,355,356,359,361,362,363],refs:=[24,67,129,171,173,208,209,211,215,218,244,245,247,248,270,294,314,343,344,346,348,349,350,352],clones:=[(216,102,51,4)],eqs:=[(51,[.int,.int]),(90,[.int,.int]),(153,[.int,.int]),(164,[.int,.int,.int]),(174,[.int,.int]),(176,[.int,.int,.int])],seqs:=[(271,248)],trues:=[5],frz:=[[112,114,111,118,101,110,97,110,99,101,46,103,111,58,54,49],[119,105,116,104,100,114,97,119,46,103,111,58,49,57,48]],prims:=[(227,kf),(204,uE),(354,gD),(247,fX 1 IT fun r=>r.isEmpty),(218,fX 2 sfP (Fw 219))],meths:=[(229, "langdoc/access.spans", 122),(229, "langdoc/access.base", 168),(227, "langdoc/access.may", 169),(227, "langdoc/access.member", 205),(303, "langdoc/provenance.uses", 340),(307, "langdoc/provenance.uses", 341),(451, "langdoc/rewrite.in", 362)],refMs:=[],nests:=[25],globs:=[],lates:=[([116,111,112,49,49,46,103,111,58,50,49],[3,27]),([103,108,111,115,115,46,103,111,58,54,55],[17])],owns:=[],decos:=[(25,[(16,7)]),(24,[(19,12)]),(7,[(34,14)]),(3,[(5,7)])] }
noncomputable def CX:dV:=Dl jR Tryz.prog
def Fh(f:FuncId):CX.nest f=decide (f=25):=by
 show [25].contains f=_;by_cases h:f=25
 .subst h;rfl
 .simp[h]
def mt340:CX.meth 303 "langdoc/provenance.uses" = some 340:=by kernel_rfl
def mt341:CX.meth 307 "langdoc/provenance.uses" = some 341:=by kernel_rfl
def ty1:CX.ty 1=co:=rfl
def ty2:CX.ty 2=tyI .i64:=rfl
def ty3:CX.ty 3=tyI .i64:=rfl
def ty4:CX.ty 4=some ⟨1,false,1,[(.bool false)],.bool⟩:=rfl
def ty5:CX.ty 5=some ⟨1,false,1,[(.int .u8 0)],(.int .u8)⟩:=rfl
def ty6:CX.ty 6=some ⟨1,false,1,[(.int .u8 0)],(.int .u8)⟩:=rfl
def ty7:CX.ty 7=some ⟨4,true,24,[(.int .i64 0),(.int .i64 0),(.bool false),(.int .u8 0)],(.struct [(0,2),(1,3),(2,4),(3,6)])⟩:=rfl
def ty9:CX.ty 9=some ⟨1,false,16,[(.str .empty)],.str⟩:=rfl
def ty22:CX.ty 22=jd 170:=rfl
def ty24:CX.ty 24=some ⟨1,true,24,[(.flat (.slice none 0 0))],(.struct [(0,22)])⟩:=rfl
def ty25:CX.ty 25=jd 172:=rfl
def ty26:CX.ty 26=jd 91:=rfl
def ty28:CX.ty 28=some ⟨3,true,64,[(.str .empty),(.flat (.slice none 0 0)),(.flat (.slice none 0 0))],(.struct [(0,9),(1,25),(2,26)])⟩:=rfl
def ty29:CX.ty 29=jd 120:=rfl
def ty30:CX.ty 30=jd 176:=rfl
def ty31:CX.ty 31=jd 3:=rfl
def ty33:CX.ty 33=some ⟨3,true,56,[(.int .i64 0),(.flat (.slice none 0 0)),(.flat (.slice none 0 0))],(.struct [(0,3),(1,30),(2,31)])⟩:=rfl
def ty34:CX.ty 34=jd 66:=rfl
def ty36:CX.ty 36=some ⟨9,true,192,[(.flat (.slice none 0 0)),(.str .empty),(.flat (.slice none 0 0)),(.flat (.slice none 0 0)),(.flat (.slice none 0 0)),(.int .i64 0),(.flat (.slice none 0 0)),(.flat (.slice none 0 0)),(.flat (.slice none 0 0))],(.struct [(0,24),(1,28),(4,29),(5,33),(8,34)])⟩:=rfl
def ty37:CX.ty 37=jd 74:=rfl
def ty38:CX.ty 38=jd 111:=rfl
def ty39:CX.ty 39=jd 114:=rfl
def ty40:CX.ty 40=jd 125:=rfl
def ty41:CX.ty 41=jd 218:=rfl
def ty42:CX.ty 42=jd 127:=rfl
def ty43:CX.ty 43=jd 55:=rfl
def ty45:CX.ty 45=some ⟨4,true,96,[(.flat (.slice none 0 0)),(.flat (.slice none 0 0)),(.flat (.slice none 0 0)),(.flat (.slice none 0 0))],(.struct [(0,40),(1,41),(2,42),(3,43)])⟩:=rfl
def ty47:CX.ty 47=some ⟨16,true,360,[(.flat (.slice none 0 0)),(.str .empty),(.flat (.slice none 0 0)),(.flat (.slice none 0 0)),(.flat (.slice none 0 0)),(.int .i64 0),(.flat (.slice none 0 0)),(.flat (.slice none 0 0)),(.flat (.slice none 0 0)),(.flat (.slice none 0 0)),(.flat (.slice none 0 0)),(.flat (.slice none 0 0)),(.flat (.slice none 0 0)),(.flat (.slice none 0 0)),(.flat (.slice none 0 0)),(.flat (.slice none 0 0))],(.struct [(0,36),(9,37),(10,38),(11,39),(12,45)])⟩:=rfl
def ty49:CX.ty 49=some ⟨2,true,16,[(.int .i64 0),(.int .i64 0)],(.struct [(0,3),(1,3)])⟩:=rfl
def ty51:CX.ty 51=some ⟨2,true,16,[(.int .i64 0),(.int .i64 0)],(.struct [(0,3),(1,3)])⟩:=rfl
def ty53:CX.ty 53=some ⟨3,true,40,[(.int .i64 0),(.flat (.slice none 0 0)),(.int .i64 0)],(.struct [(0,3),(1,31),(2,3)])⟩:=rfl
def ty55:CX.ty 55=some ⟨6,true,64,[(.int .i64 0),(.int .i64 0),(.int .i64 0),(.int .i64 0),(.flat (.slice none 0 0)),(.int .i64 0)],(.struct [(0,3),(1,51),(3,53)])⟩:=rfl
def ty58:CX.ty 58=tyI .i64:=rfl
def ty61:CX.ty 61=jd 31:=rfl
def ty62:CX.ty 62=jd 178:=rfl
def ty63:CX.ty 63=jd 153:=rfl
def ty64:CX.ty 64=jd 90:=rfl
def ty66:CX.ty 66=some ⟨8,true,144,[(.int .i64 0),(.flat (.slice none 0 0)),(.int .i64 0),(.flat (.slice none 0 0)),(.int .i64 0),(.flat (.slice none 0 0)),(.flat (.slice none 0 0)),(.flat (.slice none 0 0))],(.struct [(0,3),(1,31),(2,3),(3,61),(4,3),(5,62),(6,63),(7,64)])⟩:=rfl
def ty70:CX.ty 70=some ⟨5,true,64,[(.int .i64 0),(.str .empty),(.int .i64 0),(.int .i64 0),(.flat (.slice none 0 0))],(.struct [(0,3),(1,9),(2,3),(3,3),(4,31)])⟩:=rfl
def ty71:CX.ty 71=jd 180:=rfl
def ty72:CX.ty 72=jd 78:=rfl
def ty74:CX.ty 74=some ⟨7,true,112,[(.int .i64 0),(.str .empty),(.int .i64 0),(.int .i64 0),(.flat (.slice none 0 0)),(.flat (.slice none 0 0)),(.flat (.slice none 0 0))],(.struct [(0,70),(5,71),(6,72)])⟩:=rfl
def ty78:CX.ty 78=some ⟨7,true,64,[(.int .i64 0),(.int .i64 0),(.int .i64 0),(.int .i64 0),(.int .i64 0),(.int .i64 0),(.str .empty)],(.struct [(0,3),(1,3),(2,3),(3,51),(5,3),(6,9)])⟩:=rfl
def ty85:CX.ty 85=jd 70:=rfl
def ty90:CX.ty 90=some ⟨2,true,16,[(.int .i64 0),(.int .i64 0)],(.struct [(0,3),(1,3)])⟩:=rfl
def ty91:CX.ty 91=jd 9:=rfl
def ty99:CX.ty 99=tyM 3 4:=rfl
def ty102:CX.ty 102=jd 51:=rfl
def ty107:CX.ty 107=jd 164:=rfl
def ty109:CX.ty 109=some ⟨1,true,24,[(.flat (.slice none 0 0))],(.struct [(0,107)])⟩:=rfl
def ty111:CX.ty 111=some ⟨4,true,48,[(.int .i64 0),(.int .i64 0),(.bool false),(.flat (.slice none 0 0))],(.struct [(0,90),(2,4),(3,109)])⟩:=rfl
def ty114:CX.ty 114=some ⟨5,true,88,[(.int .i64 0),(.str .empty),(.str .empty),(.flat (.slice none 0 0)),(.flat (.slice none 0 0))],(.struct [(0,3),(1,9),(2,9),(3,31),(4,64)])⟩:=rfl
def ty118:CX.ty 118=jd 174:=rfl
def ty120:CX.ty 120=some ⟨6,true,104,[(.flat (.slice none 0 0)),(.flat (.slice none 0 0)),(.flat (.slice none 0 0)),(.flat (.slice none 0 0)),(.bool false),(.bool false)],(.struct [(0,31),(1,31),(2,118),(3,118),(4,4),(5,4)])⟩:=rfl
def ty125:CX.ty 125=some ⟨3,true,32,[(.int .i64 0),(.str .empty),(.bool false)],(.struct [(0,3),(1,9),(2,4)])⟩:=rfl
def ty127:CX.ty 127=some ⟨4,true,32,[(.int .i64 0),(.int .i64 0),(.int .i64 0),(.int .i64 0)],(.struct [(0,3),(1,3),(2,3),(3,3)])⟩:=rfl
def ty143:CX.ty 143=co:=rfl
def ty153:CX.ty 153=some ⟨2,true,16,[(.int .i64 0),(.int .i64 0)],(.struct [(0,3),(1,3)])⟩:=rfl
def ty164:CX.ty 164=some ⟨3,true,24,[(.int .i64 0),(.int .i64 0),(.int .i64 0)],(.struct [(0,3),(1,3),(2,3)])⟩:=rfl
def ty170:CX.ty 170=some ⟨2,true,24,[(.str .empty),(.int .i64 0)],(.struct [(0,9),(1,3)])⟩:=rfl
def ty172:CX.ty 172=some ⟨2,true,40,[(.str .empty),(.flat (.slice none 0 0))],(.struct [(0,9),(1,31)])⟩:=rfl
def ty173:CX.ty 173=some ⟨2,true,16,[(.int .i64 0),(.int .i64 0)],(.struct [(0,3),(1,3)])⟩:=rfl
def ty174:CX.ty 174=some ⟨2,true,16,[(.int .i64 0),(.int .i64 0)],(.struct [(0,3),(1,3)])⟩:=rfl
def ty176:CX.ty 176=some ⟨3,true,24,[(.int .i64 0),(.int .i64 0),(.int .i64 0)],(.struct [(0,3),(1,3),(2,3)])⟩:=rfl
def ty178:CX.ty 178=some ⟨2,true,32,[(.str .empty),(.str .empty)],(.struct [(0,9),(1,9)])⟩:=rfl
def ty180:CX.ty 180=some ⟨4,true,40,[(.str .empty),(.int .i64 0),(.int .i64 0),(.int .i64 0)],(.struct [(0,9),(1,3),(2,3),(3,3)])⟩:=rfl
def ty191:CX.ty 191=jd 5:=rfl
def ty202:CX.ty 202=co:=rfl
def ty218:CX.ty 218=some ⟨4,true,72,[(.int .i64 0),(.str .empty),(.flat (.slice none 0 0)),(.flat (.slice none 0 0))],(.struct [(0,3),(1,9),(2,31),(3,31)])⟩:=rfl
def ty222:CX.ty 222=co:=rfl
def ty227:CX.ty 227=some ⟨4,true,96,[(.flat (.slice none 0 0)),(.flat (.slice none 0 0)),(.flat (.slice none 0 0)),(.flat (.slice none 0 0))],(.struct [(0,45)])⟩:=rfl
def ty229:CX.ty 229=some ⟨11,true,176,[(.flat (.slice none 0 0)),(.flat (.slice none 0 0)),(.flat (.slice none 0 0)),(.flat (.slice none 0 0)),(.int .i64 0),(.str .empty),(.int .i64 0),(.int .i64 0),(.flat (.slice none 0 0)),(.int .i64 0),(.int .i64 0)],(.struct [(0,227),(4,70),(9,49)])⟩:=rfl
def ty233:CX.ty 233=some ⟨3,true,24,[(.int .i64 0),(.int .i64 0),(.int .i64 0)],(.struct [(0,3),(1,3),(2,3)])⟩:=rfl
def ty235:CX.ty 235=co:=rfl
def ty248:CX.ty 248=co:=rfl
def ty268:CX.ty 268=co:=rfl
def ty270:CX.ty 270=jd 4:=rfl
def ty277:CX.ty 277=some ⟨1,false,16,[(.flat .nilIface)],.other⟩:=rfl
def ty282:CX.ty 282=co:=rfl
def ty283:CX.ty 283=tyM 3 31:=rfl
def ty301:CX.ty 301=co:=rfl
def ty303:CX.ty 303=some ⟨0,true,0,[],(.struct [])⟩:=rfl
def ty307:CX.ty 307=some ⟨10,true,216,[(.flat (.slice none 0 0)),(.str .empty),(.flat (.slice none 0 0)),(.flat (.slice none 0 0)),(.flat (.slice none 0 0)),(.int .i64 0),(.flat (.slice none 0 0)),(.flat (.slice none 0 0)),(.flat (.slice none 0 0)),(.flat (.slice none 0 0))],(.struct [(0,36),(9,31)])⟩:=rfl
def ty310:CX.ty 310=co:=rfl
def ty311:CX.ty 311=co:=rfl
def ty314:CX.ty 314=co:=rfl
def ty316:CX.ty 316=co:=rfl
def ty317:CX.ty 317=co:=rfl
def ty344:CX.ty 344=co:=rfl
def ty345:CX.ty 345=tyI .u64:=rfl
def ty348:CX.ty 348=some ⟨1,false,4,[(.int .u32 0)],(.int .u32)⟩:=rfl
def ty365:CX.ty 365=co:=rfl
def ty408:CX.ty 408=co:=rfl
def ty428:CX.ty 428=co:=rfl
def ty429:CX.ty 429=tyP:=rfl
def ty431:CX.ty 431=tyM 9 4:=rfl
def ty433:CX.ty 433=some ⟨14,true,240,[(.flat (.slice none 0 0)),(.str .empty),(.flat (.slice none 0 0)),(.flat (.slice none 0 0)),(.flat (.slice none 0 0)),(.int .i64 0),(.flat (.slice none 0 0)),(.flat (.slice none 0 0)),(.flat (.slice none 0 0)),(.flat (.slice none 0 0)),(.bool false),(.int .u32 0),(.flat (.map none)),(.flat .nilFunc)],(.struct [(0,36),(9,31),(10,4),(11,348),(12,431),(13,428)])⟩:=rfl
def ty449:CX.ty 449=co:=rfl
def ty451:CX.ty 451=some ⟨2,true,48,[(.flat (.slice none 0 0)),(.flat (.slice none 0 0))],(.struct [(0,24),(1,118)])⟩:=rfl
def fxm{n k:Nat}{f:Func}(a:CX.prim n=none:=by rfl)(b:CX.fn n=some f:=by kernel_rfl)(c:f.ntmps=k:=by rfl):Fx CX n f k:=⟨a,b,c⟩
def fx3:Fx CX 3 Tryz.f3 171:=fxm
def br3:CX.byRef 3=false:=rfl
def fx4:Fx CX 4 Tryz.f4 54:=fxm
def br4:CX.byRef 4=false:=rfl
def fx6:Fx CX 6 Tryz.f6 75:=fxm
def br6:CX.byRef 6=false:=rfl
def fx7:Fx CX 7 Tryz.f7 154:=fxm
def br7:CX.byRef 7=false:=rfl
def fx8:Fx CX 8 Tryz.f8 25:=fxm
def br8:CX.byRef 8=false:=rfl
def fx9:Fx CX 9 Tryz.f9 26:=fxm
def br9:CX.byRef 9=false:=rfl
def fx10:Fx CX 10 Tryz.f10 28:=fxm
def br10:CX.byRef 10=false:=rfl
def fx11:Fx CX 11 Tryz.f11 43:=fxm
def br11:CX.byRef 11=false:=rfl
def fx12:Fx CX 12 Tryz.f12 66:=fxm
def br12:CX.byRef 12=false:=rfl
def fx13:Fx CX 13 Tryz.f13 36:=fxm
def br13:CX.byRef 13=false:=rfl
def fx14:Fx CX 14 Tryz.f14 20:=fxm
def br14:CX.byRef 14=false:=rfl
def fx15:Fx CX 15 Tryz.f15 25:=fxm
def br15:CX.byRef 15=false:=rfl
def fx19:Fx CX 19 Tryz.f19 46:=fxm
def br19:CX.byRef 19=false:=rfl
def fx20:Fx CX 20 Tryz.f20 54:=fxm
def br20:CX.byRef 20=false:=rfl
def fx21:Fx CX 21 Tryz.f21 74:=fxm
def br21:CX.byRef 21=false:=rfl
def fx22:Fx CX 22 Tryz.f22 48:=fxm
def br22:CX.byRef 22=false:=rfl
def fx23:Fx CX 23 Tryz.f23 58:=fxm
def br23:CX.byRef 23=false:=rfl
def fx24:Fx CX 24 Tryz.f24 86:=fxm
def br24:CX.byRef 24=true:=rfl
def fx25:Fx CX 25 Tryz.f25 55:=fxm
def br25:CX.byRef 25=false:=rfl
def fx26:Fx CX 26 Tryz.f26 13:=fxm
def br26:CX.byRef 26=false:=rfl
def fx27:Fx CX 27 Tryz.f27 52:=fxm
def br27:CX.byRef 27=false:=rfl
def fx28:Fx CX 28 Tryz.f28 44:=fxm
def br28:CX.byRef 28=false:=rfl
def fx29:Fx CX 29 Tryz.f29 48:=fxm
def br29:CX.byRef 29=false:=rfl
def fx30:Fx CX 30 Tryz.f30 20:=fxm
def br30:CX.byRef 30=false:=rfl
def fx31:Fx CX 31 Tryz.f31 30:=fxm
def br31:CX.byRef 31=false:=rfl
def fx32:Fx CX 32 Tryz.f32 58:=fxm
def br32:CX.byRef 32=false:=rfl
def fx33:Fx CX 33 Tryz.f33 50:=fxm
def br33:CX.byRef 33=false:=rfl
def fx38:Fx CX 38 Tryz.f38 22:=fxm
def br38:CX.byRef 38=false:=rfl
def fx43:Fx CX 43 Tryz.f43 58:=fxm
def br43:CX.byRef 43=false:=rfl
def fx44:Fx CX 44 Tryz.f44 79:=fxm
def br44:CX.byRef 44=false:=rfl
def fx45:Fx CX 45 Tryz.f45 27:=fxm
def br45:CX.byRef 45=false:=rfl
def fx46:Fx CX 46 Tryz.f46 98:=fxm
def br46:CX.byRef 46=false:=rfl
def fx47:Fx CX 47 Tryz.f47 87:=fxm
def br47:CX.byRef 47=false:=rfl
def fx48:Fx CX 48 Tryz.f48 91:=fxm
def br48:CX.byRef 48=false:=rfl
def fx49:Fx CX 49 Tryz.f49 44:=fxm
def br49:CX.byRef 49=false:=rfl
def fx50:Fx CX 50 Tryz.f50 20:=fxm
def br50:CX.byRef 50=false:=rfl
def fx51:Fx CX 51 Tryz.f51 54:=fxm
def br51:CX.byRef 51=false:=rfl
def fx52:Fx CX 52 Tryz.f52 77:=fxm
def br52:CX.byRef 52=false:=rfl
def fx53:Fx CX 53 Tryz.f53 9:=fxm
def br53:CX.byRef 53=false:=rfl
def fx54:Fx CX 54 Tryz.f54 38:=fxm
def br54:CX.byRef 54=false:=rfl
def fx55:Fx CX 55 Tryz.f55 55:=fxm
def br55:CX.byRef 55=false:=rfl
def fx56:Fx CX 56 Tryz.f56 43:=fxm
def br56:CX.byRef 56=false:=rfl
def fx57:Fx CX 57 Tryz.f57 58:=fxm
def br57:CX.byRef 57=false:=rfl
def fx58:Fx CX 58 Tryz.f58 72:=fxm
def br58:CX.byRef 58=false:=rfl
def fx59:Fx CX 59 Tryz.f59 23:=fxm
def br59:CX.byRef 59=false:=rfl
def fx60:Fx CX 60 Tryz.f60 52:=fxm
def br60:CX.byRef 60=false:=rfl
def fx61:Fx CX 61 Tryz.f61 32:=fxm
def br61:CX.byRef 61=false:=rfl
def fx62:Fx CX 62 Tryz.f62 13:=fxm
def br62:CX.byRef 62=false:=rfl
def fx63:Fx CX 63 Tryz.f63 48:=fxm
def br63:CX.byRef 63=false:=rfl
def fx64:Fx CX 64 Tryz.f64 24:=fxm
def br64:CX.byRef 64=false:=rfl
def fx65:Fx CX 65 Tryz.f65 26:=fxm
def br65:CX.byRef 65=false:=rfl
def fx66:Fx CX 66 Tryz.f66 67:=fxm
def br66:CX.byRef 66=false:=rfl
def fx67:Fx CX 67 Tryz.f67 29:=fxm
def br67:CX.byRef 67=true:=rfl
def fx68:Fx CX 68 Tryz.f68 21:=fxm
def br68:CX.byRef 68=false:=rfl
def fx69:Fx CX 69 Tryz.f69 26:=fxm
def br69:CX.byRef 69=false:=rfl
def fx70:Fx CX 70 Tryz.f70 22:=fxm
def br70:CX.byRef 70=false:=rfl
def fx71:Fx CX 71 Tryz.f71 34:=fxm
def br71:CX.byRef 71=false:=rfl
def fx72:Fx CX 72 Tryz.f72 51:=fxm
def br72:CX.byRef 72=false:=rfl
def fx73:Fx CX 73 Tryz.f73 54:=fxm
def br73:CX.byRef 73=false:=rfl
def fx74:Fx CX 74 Tryz.f74 27:=fxm
def br74:CX.byRef 74=false:=rfl
def fx81:Fx CX 81 Tryz.f81 18:=fxm
def br81:CX.byRef 81=false:=rfl
def fx84:Fx CX 84 Tryz.f84 38:=fxm
def br84:CX.byRef 84=false:=rfl
def fx85:Fx CX 85 Tryz.f85 59:=fxm
def br85:CX.byRef 85=false:=rfl
def fx86:Fx CX 86 Tryz.f86 67:=fxm
def br86:CX.byRef 86=false:=rfl
def fx87:Fx CX 87 Tryz.f87 16:=fxm
def br87:CX.byRef 87=false:=rfl
def fx88:Fx CX 88 Tryz.f88 18:=fxm
def br88:CX.byRef 88=false:=rfl
def fx89:Fx CX 89 Tryz.f89 70:=fxm
def br89:CX.byRef 89=false:=rfl
def fx90:Fx CX 90 Tryz.f90 13:=fxm
def br90:CX.byRef 90=false:=rfl
def fx91:Fx CX 91 Tryz.f91 27:=fxm
def br91:CX.byRef 91=false:=rfl
def fx92:Fx CX 92 Tryz.f92 14:=fxm
def br92:CX.byRef 92=false:=rfl
def fx93:Fx CX 93 Tryz.f93 16:=fxm
def br93:CX.byRef 93=false:=rfl
def fx94:Fx CX 94 Tryz.f94 20:=fxm
def br94:CX.byRef 94=false:=rfl
def fx95:Fx CX 95 Tryz.f95 20:=fxm
def br95:CX.byRef 95=false:=rfl
def fx96:Fx CX 96 Tryz.f96 18:=fxm
def br96:CX.byRef 96=false:=rfl
def fx97:Fx CX 97 Tryz.f97 110:=fxm
def br97:CX.byRef 97=false:=rfl
def fx98:Fx CX 98 Tryz.f98 20:=fxm
def br98:CX.byRef 98=false:=rfl
def fx99:Fx CX 99 Tryz.f99 42:=fxm
def br99:CX.byRef 99=false:=rfl
def fx100:Fx CX 100 Tryz.f100 136:=fxm
def br100:CX.byRef 100=false:=rfl
def fx101:Fx CX 101 Tryz.f101 34:=fxm
def br101:CX.byRef 101=false:=rfl
def fx102:Fx CX 102 Tryz.f102 117:=fxm
def br102:CX.byRef 102=false:=rfl
def fx103:Fx CX 103 Tryz.f103 44:=fxm
def br103:CX.byRef 103=false:=rfl
def fx104:Fx CX 104 Tryz.f104 13:=fxm
def br104:CX.byRef 104=false:=rfl
def fx105:Fx CX 105 Tryz.f105 44:=fxm
def br105:CX.byRef 105=false:=rfl
def fx106:Fx CX 106 Tryz.f106 15:=fxm
def br106:CX.byRef 106=false:=rfl
def fx107:Fx CX 107 Tryz.f107 21:=fxm
def br107:CX.byRef 107=false:=rfl
def fx108:Fx CX 108 Tryz.f108 30:=fxm
def br108:CX.byRef 108=false:=rfl
def fx109:Fx CX 109 Tryz.f109 49:=fxm
def br109:CX.byRef 109=false:=rfl
def fx110:Fx CX 110 Tryz.f110 20:=fxm
def br110:CX.byRef 110=false:=rfl
def fx111:Fx CX 111 Tryz.f111 37:=fxm
def br111:CX.byRef 111=false:=rfl
def fx112:Fx CX 112 Tryz.f112 71:=fxm
def br112:CX.byRef 112=false:=rfl
def fx113:Fx CX 113 Tryz.f113 63:=fxm
def br113:CX.byRef 113=false:=rfl
def fx114:Fx CX 114 Tryz.f114 20:=fxm
def br114:CX.byRef 114=false:=rfl
def fx115:Fx CX 115 Tryz.f115 18:=fxm
def br115:CX.byRef 115=false:=rfl
def fx116:Fx CX 116 Tryz.f116 50:=fxm
def br116:CX.byRef 116=false:=rfl
def fx117:Fx CX 117 Tryz.f117 65:=fxm
def br117:CX.byRef 117=false:=rfl
def fx118:Fx CX 118 Tryz.f118 18:=fxm
def br118:CX.byRef 118=false:=rfl
def fx119:Fx CX 119 Tryz.f119 71:=fxm
def br119:CX.byRef 119=false:=rfl
def fx120:Fx CX 120 Tryz.f120 28:=fxm
def br120:CX.byRef 120=false:=rfl
def fx121:Fx CX 121 Tryz.f121 26:=fxm
def br121:CX.byRef 121=false:=rfl
def fx122:Fx CX 122 Tryz.f122 52:=fxm
def br122:CX.byRef 122=false:=rfl
def fx123:Fx CX 123 Tryz.f123 61:=fxm
def br123:CX.byRef 123=false:=rfl
def fx124:Fx CX 124 Tryz.f124 19:=fxm
def br124:CX.byRef 124=false:=rfl
def fx125:Fx CX 125 Tryz.f125 24:=fxm
def br125:CX.byRef 125=false:=rfl
def fx126:Fx CX 126 Tryz.f126 13:=fxm
def br126:CX.byRef 126=false:=rfl
def fx127:Fx CX 127 Tryz.f127 46:=fxm
def br127:CX.byRef 127=false:=rfl
def fx128:Fx CX 128 Tryz.f128 8:=fxm
def br128:CX.byRef 128=false:=rfl
def fx129:Fx CX 129 Tryz.f129 51:=fxm
def br129:CX.byRef 129=true:=rfl
def fx130:Fx CX 130 Tryz.f130 35:=fxm
def br130:CX.byRef 130=false:=rfl
def fx131:Fx CX 131 Tryz.f131 13:=fxm
def br131:CX.byRef 131=false:=rfl
def fx132:Fx CX 132 Tryz.f132 21:=fxm
def br132:CX.byRef 132=false:=rfl
def fx133:Fx CX 133 Tryz.f133 25:=fxm
def br133:CX.byRef 133=false:=rfl
def fx134:Fx CX 134 Tryz.f134 56:=fxm
def br134:CX.byRef 134=false:=rfl
def fx135:Fx CX 135 Tryz.f135 12:=fxm
def br135:CX.byRef 135=false:=rfl
def fx136:Fx CX 136 Tryz.f136 24:=fxm
def br136:CX.byRef 136=false:=rfl
def fx137:Fx CX 137 Tryz.f137 57:=fxm
def br137:CX.byRef 137=false:=rfl
def fx148:Fx CX 148 Tryz.f148 14:=fxm
def br148:CX.byRef 148=false:=rfl
def fx150:Fx CX 150 Tryz.f150 20:=fxm
def br150:CX.byRef 150=false:=rfl
def fx152:Fx CX 152 Tryz.f152 28:=fxm
def br152:CX.byRef 152=false:=rfl
def fx153:Fx CX 153 Tryz.f153 14:=fxm
def br153:CX.byRef 153=false:=rfl
def fx154:Fx CX 154 Tryz.f154 18:=fxm
def br154:CX.byRef 154=false:=rfl
def fx155:Fx CX 155 Tryz.f155 73:=fxm
def br155:CX.byRef 155=false:=rfl
def fx156:Fx CX 156 Tryz.f156 52:=fxm
def br156:CX.byRef 156=false:=rfl
def fx157:Fx CX 157 Tryz.f157 76:=fxm
def br157:CX.byRef 157=false:=rfl
def fx158:Fx CX 158 Tryz.f158 13:=fxm
def br158:CX.byRef 158=false:=rfl
def fx159:Fx CX 159 Tryz.f159 11:=fxm
def br159:CX.byRef 159=false:=rfl
def fx160:Fx CX 160 Tryz.f160 11:=fxm
def br160:CX.byRef 160=false:=rfl
def fx161:Fx CX 161 Tryz.f161 30:=fxm
def br161:CX.byRef 161=false:=rfl
def fx162:Fx CX 162 Tryz.f162 11:=fxm
def br162:CX.byRef 162=false:=rfl
def fx163:Fx CX 163 Tryz.f163 24:=fxm
def br163:CX.byRef 163=false:=rfl
def fx164:Fx CX 164 Tryz.f164 22:=fxm
def br164:CX.byRef 164=false:=rfl
def fx165:Fx CX 165 Tryz.f165 19:=fxm
def br165:CX.byRef 165=false:=rfl
def fx166:Fx CX 166 Tryz.f166 17:=fxm
def br166:CX.byRef 166=false:=rfl
def fx167:Fx CX 167 Tryz.f167 60:=fxm
def br167:CX.byRef 167=false:=rfl
def fx168:Fx CX 168 Tryz.f168 40:=fxm
def br168:CX.byRef 168=false:=rfl
def fx169:Fx CX 169 Tryz.f169 16:=fxm
def br169:CX.byRef 169=false:=rfl
def fx170:Fx CX 170 Tryz.f170 33:=fxm
def br170:CX.byRef 170=false:=rfl
def fx171:Fx CX 171 Tryz.f171 9:=fxm
def br171:CX.byRef 171=true:=rfl
def fx172:Fx CX 172 Tryz.f172 24:=fxm
def br172:CX.byRef 172=false:=rfl
def fx173:Fx CX 173 Tryz.f173 23:=fxm
def br173:CX.byRef 173=true:=rfl
def fx174:Fx CX 174 Tryz.f174 7:=fxm
def br174:CX.byRef 174=false:=rfl
def fx175:Fx CX 175 Tryz.f175 9:=fxm
def br175:CX.byRef 175=false:=rfl
def fx176:Fx CX 176 Tryz.f176 21:=fxm
def br176:CX.byRef 176=false:=rfl
def fx177:Fx CX 177 Tryz.f177 18:=fxm
def br177:CX.byRef 177=false:=rfl
def fx178:Fx CX 178 Tryz.f178 9:=fxm
def br178:CX.byRef 178=false:=rfl
def fx179:Fx CX 179 Tryz.f179 53:=fxm
def br179:CX.byRef 179=false:=rfl
def fx180:Fx CX 180 Tryz.f180 16:=fxm
def br180:CX.byRef 180=false:=rfl
def fx181:Fx CX 181 Tryz.f181 36:=fxm
def br181:CX.byRef 181=false:=rfl
def fx182:Fx CX 182 Tryz.f182 40:=fxm
def br182:CX.byRef 182=false:=rfl
def fx183:Fx CX 183 Tryz.f183 69:=fxm
def br183:CX.byRef 183=false:=rfl
def fx194:Fx CX 194 Tryz.f194 6:=fxm
def br194:CX.byRef 194=false:=rfl
def fx196:Fx CX 196 Tryz.f196 65:=fxm
def br196:CX.byRef 196=false:=rfl
def fx197:Fx CX 197 Tryz.f197 51:=fxm
def br197:CX.byRef 197=false:=rfl
def fx198:Fx CX 198 Tryz.f198 25:=fxm
def br198:CX.byRef 198=false:=rfl
def fx199:Fx CX 199 Tryz.f199 26:=fxm
def br199:CX.byRef 199=false:=rfl
def fx200:Fx CX 200 Tryz.f200 20:=fxm
def br200:CX.byRef 200=false:=rfl
def fx201:Fx CX 201 Tryz.f201 19:=fxm
def br201:CX.byRef 201=false:=rfl
def fx202:Fx CX 202 Tryz.f202 8:=fxm
def br202:CX.byRef 202=false:=rfl
def fx203:Fx CX 203 Tryz.f203 44:=fxm
def br203:CX.byRef 203=false:=rfl
def fx205:Fx CX 205 Tryz.f205 20:=fxm
def br205:CX.byRef 205=false:=rfl
def fx206:Fx CX 206 Tryz.f206 51:=fxm
def br206:CX.byRef 206=false:=rfl
def fx207:Fx CX 207 Tryz.f207 71:=fxm
def br207:CX.byRef 207=false:=rfl
def fx208:Fx CX 208 Tryz.f208 63:=fxm
def br208:CX.byRef 208=true:=rfl
def fx209:Fx CX 209 Tryz.f209 61:=fxm
def br209:CX.byRef 209=true:=rfl
def fx210:Fx CX 210 Tryz.f210 9:=fxm
def br210:CX.byRef 210=false:=rfl
def fx211:Fx CX 211 Tryz.f211 4:=fxm
def br211:CX.byRef 211=true:=rfl
def fx212:Fx CX 212 Tryz.f212 19:=fxm
def br212:CX.byRef 212=false:=rfl
def fx213:Fx CX 213 Tryz.f213 10:=fxm
def br213:CX.byRef 213=false:=rfl
def fx214:Fx CX 214 Tryz.f214 19:=fxm
def br214:CX.byRef 214=false:=rfl
def fx215:Fx CX 215 Tryz.f215 42:=fxm
def br215:CX.byRef 215=true:=rfl
def fx217:Fx CX 217 Tryz.f217 6:=fxm
def br217:CX.byRef 217=false:=rfl
def br219:CX.byRef 219=false:=rfl
def fx220:Fx CX 220 Tryz.f220 38:=fxm
def br220:CX.byRef 220=false:=rfl
def fx221:Fx CX 221 Tryz.f221 21:=fxm
def br221:CX.byRef 221=false:=rfl
def fx236:Fx CX 236 Tryz.f236 17:=fxm
def br236:CX.byRef 236=false:=rfl
def fx237:Fx CX 237 Tryz.f237 61:=fxm
def br237:CX.byRef 237=false:=rfl
def fx238:Fx CX 238 Tryz.f238 22:=fxm
def br238:CX.byRef 238=false:=rfl
def fx239:Fx CX 239 Tryz.f239 19:=fxm
def br239:CX.byRef 239=false:=rfl
def fx240:Fx CX 240 Tryz.f240 68:=fxm
def br240:CX.byRef 240=false:=rfl
def fx242:Fx CX 242 Tryz.f242 17:=fxm
def br242:CX.byRef 242=false:=rfl
def fx243:Fx CX 243 Tryz.f243 12:=fxm
def br243:CX.byRef 243=false:=rfl
def fx244:Fx CX 244 Tryz.f244 53:=fxm
def br244:CX.byRef 244=true:=rfl
def br245:CX.byRef 245=true:=rfl
def fx246:Fx CX 246 Tryz.f246 5:=fxm
def br246:CX.byRef 246=false:=rfl
def br248:CX.byRef 248=true:=rfl
def fx267:Fx CX 267 Tryz.f267 19:=fxm
def br267:CX.byRef 267=false:=rfl
def fx268:Fx CX 268 Tryz.f268 8:=fxm
def br268:CX.byRef 268=false:=rfl
def fx269:Fx CX 269 Tryz.f269 34:=fxm
def br269:CX.byRef 269=false:=rfl
def br270:CX.byRef 270=true:=rfl
def fx292:Fx CX 292 Tryz.f292 13:=fxm
def br292:CX.byRef 292=false:=rfl
def fx293:Fx CX 293 Tryz.f293 17:=fxm
def br293:CX.byRef 293=false:=rfl
def br294:CX.byRef 294=true:=rfl
def fx314:Fx CX 314 Tryz.f314 45:=fxm
def br314:CX.byRef 314=true:=rfl
def fx315:Fx CX 315 Tryz.f315 19:=fxm
def br315:CX.byRef 315=false:=rfl
def fx316:Fx CX 316 Tryz.f316 8:=fxm
def br316:CX.byRef 316=false:=rfl
def fx340:Fx CX 340 Tryz.f340 5:=fxm
def br340:CX.byRef 340=false:=rfl
def fx341:Fx CX 341 Tryz.f341 11:=fxm
def br341:CX.byRef 341=false:=rfl
def fx342:Fx CX 342 Tryz.f342 13:=fxm
def br342:CX.byRef 342=false:=rfl
def fx343:Fx CX 343 Tryz.f343 46:=fxm
def br343:CX.byRef 343=true:=rfl
def fx344:Fx CX 344 Tryz.f344 22:=fxm
def br344:CX.byRef 344=true:=rfl
def fx345:Fx CX 345 Tryz.f345 15:=fxm
def br345:CX.byRef 345=false:=rfl
def fx346:Fx CX 346 Tryz.f346 79:=fxm
def br346:CX.byRef 346=true:=rfl
def fx347:Fx CX 347 Tryz.f347 17:=fxm
def br347:CX.byRef 347=false:=rfl
def fx348:Fx CX 348 Tryz.f348 53:=fxm
def br348:CX.byRef 348=true:=rfl
def fx349:Fx CX 349 Tryz.f349 40:=fxm
def br349:CX.byRef 349=true:=rfl
def fx350:Fx CX 350 Tryz.f350 78:=fxm
def br350:CX.byRef 350=true:=rfl
def fx351:Fx CX 351 Tryz.f351 23:=fxm
def br351:CX.byRef 351=false:=rfl
def fx352:Fx CX 352 Tryz.f352 21:=fxm
def br352:CX.byRef 352=true:=rfl
def fx353:Fx CX 353 Tryz.f353 26:=fxm
def br353:CX.byRef 353=false:=rfl
def fx355:Fx CX 355 Tryz.f355 9:=fxm
def br355:CX.byRef 355=false:=rfl
def fx356:Fx CX 356 Tryz.f356 38:=fxm
def br356:CX.byRef 356=false:=rfl
def fx359:Fx CX 359 Tryz.f359 79:=fxm
def br359:CX.byRef 359=false:=rfl
def fx361:Fx CX 361 Tryz.f361 23:=fxm
def br361:CX.byRef 361=false:=rfl
def fx362:Fx CX 362 Tryz.f362 16:=fxm
def br362:CX.byRef 362=false:=rfl
def fx363:Fx CX 363 Tryz.f363 27:=fxm
def br363:CX.byRef 363=false:=rfl
def frzN(p:String):CX.frz p=if p = "provenance.go:61" then true else if p = "withdraw.go:190" then true else false:=frz_of ["provenance.go:61", "withdraw.go:190"] (by kernel_rfl) p
def br247:CX.byRef 247=true:=rfl
def br218:CX.byRef 218=true:=rfl
def lateN(p:String):CX.late p=if p = "top11.go:21" then [3,27] else if p = "gloss.go:67" then [17] else []:=late_of [("top11.go:21", [3,27]),("gloss.go:67", [17])] (by kernel_rfl) p
def eq51:CX.eqT 51=some [.int,.int]:=rfl
def eq90:CX.eqT 90=some [.int,.int]:=rfl
def eq153:CX.eqT 153=some [.int,.int]:=rfl
def eq164:CX.eqT 164=some [.int,.int,.int]:=rfl
def eq174:CX.eqT 174=some [.int,.int]:=rfl
def eq176:CX.eqT 176=some [.int,.int,.int]:=rfl
attribute [go_sem] Fh frzN lateN String.reduceEq ty1 ty2 ty3 ty4 ty5 ty6 ty7 ty9 ty22 ty24 ty25 ty26 ty28 ty29 ty30 ty31 ty33 ty34 ty36 ty37 ty38 ty39 ty40 ty41 ty42 ty43 ty45 ty47 ty49 ty51 ty53 ty55 ty58 ty61 ty62 ty63 ty64 ty66 ty70 ty71 ty72 ty74 ty78 ty85 ty90 ty91 ty99 ty102 ty107 ty109 ty111 ty114 ty118 ty120 ty125 ty127 ty143 ty153 ty164 ty170 ty172 ty173 ty174 ty176 ty178 ty180 ty191 ty202 ty218 ty222 ty227 ty229 ty233 ty235 ty248 ty268 ty270 ty277 ty282 ty283 ty301 ty303 ty307 ty310 ty311 ty314 ty316 ty317 ty344 ty345 ty348 ty365 ty408 ty428 ty429 ty431 ty433 ty449 ty451 br3 br4 br6 br7 br8 br9 br10 br11 br12 br13 br14 br15 br19 br20 br21 br22 br23 br24 br25 br26 br27 br28 br29 br30 br31 br32 br33 br38 br43 br44 br45 br46 br47 br48 br49 br50 br51 br52 br53 br54 br55 br56 br57 br58 br59 br60 br61 br62 br63 br64 br65 br66 br67 br68 br69 br70 br71 br72 br73 br74 br81 br84 br85 br86 br87 br88 br89 br90 br91 br92 br93 br94 br95 br96 br97 br98 br99 br100 br101 br102 br103 br104 br105 br106 br107 br108 br109 br110 br111 br112 br113 br114 br115 br116 br117 br118 br119 br120 br121 br122 br123 br124 br125 br126 br127 br128 br129 br130 br131 br132 br133 br134 br135 br136 br137 br148 br150 br152 br153 br154 br155 br156 br157 br158 br159 br160 br161 br162 br163 br164 br165 br166 br167 br168 br169 br170 br171 br172 br173 br174 br175 br176 br177 br178 br179 br180 br181 br182 br183 br194 br196 br197 br198 br199 br200 br201 br202 br203 br205 br206 br207 br208 br209 br210 br211 br212 br213 br214 br215 br217 br219 br220 br221 br236 br237 br238 br239 br240 br242 br243 br244 br245 br246 br248 br267 br268 br269 br270 br292 br293 br294 br314 br315 br316 br340 br341 br342 br343 br344 br345 br346 br347 br348 br349 br350 br351 br352 br353 br355 br356 br359 br361 br362 br363 br247 br218 eq51 eq90 eq153 eq164 eq174 eq176 mt340 mt341
def awake:aB CX 5 [] (· = .bool true):=aB.prim rfl rfl rfl
end Go.Eng
