/- A small context for the calls that the example's primitives make. -/
import Derived.Test.YtkahfcmeeloikaaGreatDoorZ7
import Derived.Test.YtkahfcmeeloikaaGreatDoorCtx
set_option linter.all false
set_option maxHeartbeats 1000000
namespace Go.Eng
open Go.Proofs
section
set_option maxRecDepth 100000
def tabE:Tab:={ tys:=tys,fns:=[145,143,187,189,191],refs:=[],clones:=[],eqs:=[],prims:=[(227,kf),(228,w8)] }
noncomputable def CXE:dV:=Dl tabE Tryz.prog
def zFS[aw]:eC Tryz.prog CXE:=BR (by kernel_rfl) (ts:=[0,1,2,3,4,5,6,7,8,9,10,11,12,13,14,15,16,17,18,19,20,21,22,23,24,25,26,27,28,29,30,31,32,33,34,35,36,37,38,39,40,41,42,43,44,45,46,47,48,49,50,51,52,53,54,55,56,57,58,59,60,61,62,63,64,65,66,0,68,69,70,71,72,73,74,0,76,77,78,0,80,81,82,83,84,85,86,87,88,89,90,91,92,93,94,95,96,97,98,99,100,101,102,103,104,105,106,107,108,109,110,111,112,113,114,115,116,117,118,119,120,121,0,123,124,125,126,127,128,0,130,131,132,133,134,135,136,137,138,139,140,141,142,143,144,145,146,147,148,149,150,151,152,153,154,155,0,157,0,159,160,161,162,163,164,165,166,167,168,169,170,171,172,173,174,175,176,177,178,179,180,181,182,0,184,185,0,187,188,189,190,191,192,193,194,195,196,197,198,199,200,201,202,203,204,205,206,207,208,209,210,211,212,213,214,215,216,217,218,219,220,221,222,223,224,225,0,227,228,229,0,0,0,233,0,235,0,237,0,239,240,0,242,243,0,245,246,247,248,0,250,251,252,253,254,255,0,0,0,0,0,0,0,0,0,0,0,267,268,269,270,271,0,0,0,0,0,277,0,0,0,0,282,283,0,0,0,0,0,0,0,0,292,293,294,0,0,0,0,0,300,301,0,303,0,0,0,307,0,0,310,311,0,0,314,315,316,317,318,319,0,0,0,0,0,0,0,0,0,0,0,0,0,0,0,0,0,0,0,0,0,0,342,343,344,345,346,347,348,0,350,351,352,353,0,355,356,0,0,359,0,361,362,363,0,365,0,0,0,0,0,0,0,0,0,0,0,0,0,0,0,0,0,0,0,0,0,0,0,0,0,0,0,0,0,0,0,0,0,0,0,0,0,0,0,0,0,0,408,0,0,0,0,0,0,0,0,0,0,0,0,0,0,0,0,0,0,0,428,429,0,431,0,433,0,0,0,0,0,0,0,0,0,0,0,0,0,0,0,449,0,451]) (by kernel_rfl) (yH (by kernel_rfl)) (by kernel_rfl) (by kernel_rfl) (by intro p hp;cases hp)
def FJ[aw](hT:lN):mP Tryz.prog CXE:=xa (by kernel_rfl) (by intro c hc;simp[tabE]at hc) (by intro c hc;simp[tabE]at hc) (by intro c hc;simp[tabE]at hc) (by
 intro c hc;simp only[tabE,U2,VA,or_false]at hc;rcases hc with rfl|rfl
 .exact xW hT
 .exact DX hT)
end
end Go.Eng
namespace Go.Eng
open Go.RowKit Go.Proofs
def zw[aw]{P:Program}{X:dV}(hX:eC P X)(hF:mP P X){W:World}(hk:∀g o,aw.blk g=some o->W.heap[g]? = some o){f:FuncId}{al:List AV}{vs:Array Value}(OD:ae W al (sw W) (sw W) aT vs.toList){n:Nat}{r:AV}{S:ab}(h:dj X n f al []=some (r,S)) :
  Calls P f vs W fun e w'=> ∃u T' B' I',e = .returned u/\Below W.heap.size W w'/\cB W.heap.size T' B' I' (dN S) w'/\ap w' r T' B' I' u:=by
 have:=iM hX hF n f al [] _ S h W.heap.size (sw W) (sw W) aT W vs.toList (mu (fun _ h=>h) hk) OD;exact this.mono fun e w' ⟨u,T',B',I',k1,k2,k3,k4⟩=>⟨u,T',B',I',k1,k2.below,k3,k4⟩
def tg(n:Int):Option (AV×ab)->Bool
 | some (.int .i64 m,_)=>decide (m=n)
 | _=>false
theorem of_int{n:Int}:∀{x:Option (AV×ab)},tg n x=true->∃S,x=some (.int .i64 n,S)
 | some (.int .i64 m,S),h=>⟨S,by simp[tg]at h;rw[h]⟩
def isStr(s:ByteArray):Option (AV×ab)->Bool
 | some (.str m,_)=>decide (m=s)
 | _=>false
theorem of_str{s:ByteArray}:∀{x:Option (AV×ab)},isStr s x=true->∃S,x=some (.str s,S)
 | some (.str m,S),h=>⟨S,by simp[isStr]at h;rw[h]⟩
def pad_call[aw](hT:lN){W:World}(hk:∀g o,aw.blk g=some o->W.heap[g]? = some o) :
  Calls Tryz.prog 189 #[.string bE,.int .i64 4] W fun e w'=>e = .returned (.string bE)/\Below W.heap.size W w':=by
 obtain⟨S,h⟩:=of_str (x:=dj CXE 60 189 [.str bE,.int .i64 4] []) (s:=bE) (by kernel_rfl);refine(zw zFS (FJ hT) hk (vs := #[.string bE,.int .i64 4]) ?_ h).mono ?_
 .simp only[ae,ap];exact⟨_,_,rfl,rfl,_,_,rfl,rfl,rfl⟩
 .rintro e w' ⟨u,T',B',I',rfl,h1,_,h2⟩;simp only[ap]at h2;subst h2;exact⟨rfl,h1⟩
end Go.Eng
