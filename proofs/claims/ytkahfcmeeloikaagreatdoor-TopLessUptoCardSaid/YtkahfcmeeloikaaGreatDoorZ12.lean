/- Conversions between numbers, and from bytes to a string. -/
import Derived.Test.YtkahfcmeeloikaaGreatDoorCtx
import Derived.Test.YtkahfcmeeloikaaGreatDoorEngX
set_option linter.all false
set_option maxHeartbeats 1000000
namespace Go.Eng
open Go.RowKit
section
variable {K:List AV->ab->Prop}{P:Prop}{S:ab}{X:dV}{after:Array Edge}{d:Bool}{dst:Option Tmp}{fr:List AV}{g:Option (Nat×Bool)}{i j:mN}{k:IntKind}{n:Int}{pos:String}{x:Operand}
def cvtK(v:AV)(k:IntKind)(dst:Option Tmp)(K:List AV->ab->Prop)(fr:List AV)(S:ab)(P:Prop):Prop :=
 match v with
 | .int _ n=>K (cj fr dst (.int k (k.wrap n))) S
 | _=>P
def zf{k':IntKind}:cvtK (.int k' n) k dst K fr S P=K (cj fr dst (.int k (k.wrap n))) S:=rfl
def Gh{ty:TypeId}{s t:TypeId}(hs:X.ty s=some j)(ht:X.ty t=some i)(hk:i.desc = .int k) :
  em X d ⟨dst,.convert s t x,ty,pos,after,g⟩ dst K fr S=cvtK (ak fr x) k dst K fr S (cZ X d ⟨dst,.convert s t x,ty,pos,after,g⟩ (fun v S'=>K (cj fr dst v) S') fr S):=by
 obtain⟨a,b,c,e,f⟩:=i;simp only at hk;subst hk;unfold cvtK;split
 .rename_i k' n hv;unfold em cZ;simp only[eJ,zh,hs,ht,hv]
 .unfold em;rfl
def bsK(y:AV)(dst:Option Tmp)(K:List AV->ab->Prop)(fr:List AV)(S:ab)(P:Prop):Prop :=
 match y with
 | .sl b e off len sz=>match rowsOf S 1 (.sl b e off len sz) with
  | some (rows,_)=>match eM rows with
   | some l=>K (cj fr dst (.str ⟨l.toArray⟩)) S
   | none=>False
  | none=>False
 | .tsl st sz rows=>match rowsOf S 1 (.tsl st sz rows) with
  | some (rows,_)=>match eM rows with
   | some l=>K (cj fr dst (.str ⟨l.toArray⟩)) S
   | none=>False
  | none=>False
 | _=>P
theorem zB{b e off len sz:Nat}:bsK (.sl b e off len sz) dst K fr S P=match rowsOf S 1 (.sl b e off len sz) with
  | some (rows,_)=>match eM rows with
   | some l=>K (cj fr dst (.str ⟨l.toArray⟩)) S
   | none=>False
  | none=>False:=rfl
theorem xp{ty:TypeId}{s t el:TypeId}{e:mN}
  (hs:X.ty s=some j) (ht:X.ty t=some i) (he:X.ty el=some e) (hj:j.desc = .slice el) (hi:i.desc = .str) (hd:e.desc = .int .u8) :
  em X d ⟨dst,.convert s t x,ty,pos,after,g⟩ dst K fr S=bsK (ak fr x) dst K fr S (cZ X d ⟨dst,.convert s t x,ty,pos,after,g⟩ (fun v S'=>K (cj fr dst v) S') fr S):=by
 obtain⟨a1,b1,c1,e1,f1⟩:=i;obtain⟨a2,b2,c2,e2,f2⟩:=j;obtain⟨a3,b3,c3,e3,f3⟩:=e;simp only at hj hi hd;subst hj hi hd
 have go:∀y,ak fr x=y->zh X s t y=none->(∀st,y≠.str st)->em X d ⟨dst,.convert s t x,ty,pos,after,g⟩ dst K fr S=match rowsOf S 1 y with
   | some (rows,_)=>match eM rows with
    | some l=>K (cj fr dst (.str ⟨l.toArray⟩)) S
    | none=>False
   | none=>False:=by
  intro y hy hc hn;subst hy;have hp:eJ X fr ⟨dst,.convert s t x,ty,pos,after,g⟩=none:=by simp only[eJ,hc]
  rw[jV (match rowsOf S 1 (ak fr x) with|some (rows,_)=>(eM rows).map fun l=>(.str ⟨l.toArray⟩,[])|none=>none) hp (by
   simp only[ff,hs,ht,he];cases rowsOf S 1 (ak fr x)<;>rfl) rfl rfl rfl]
  cases rowsOf S 1 (ak fr x) with
  | none=>simp only[fb]
  | some rp=>
   obtain⟨rows,pr⟩:=rp;simp only;cases eM rows with
   | none=>simp only[Xg,fb]
   | some l=>simp only[Vf,kG,UM]
 unfold bsK;split
 .rename_i y1 b e off len sz hy;rw[go _ hy (by simp[zh,hs,ht]) (by simp)]
 .rename_i y1 st sz rows hy;rw[go _ hy (by simp[zh,hs,ht]) (by simp)]
 .unfold em;rfl
def lM:eM []=some []:=rfl
def km{rest:List (List AV)}:eM ([.int .u8 n]::rest)=(eM rest).map (UInt8.ofNat n.toNat :: ·):=rfl
def wI{n:Nat}(h:n<9223372036854775808):IntKind.wrap .i64 (n:Int)=n:=wrap_small (by omega) (by omega)
def wB{n:Nat}(h:n<256):IntKind.wrap .u8 (n:Int)=n:=by
 simp[IntKind.wrap,IntKind.min,IntKind.max,IntKind.signed,IntKind.bits];omega
end
end Go.Eng
namespace Go.Eng
open Go.Proofs
section
attribute [local irreducible] bB cX cZ aB bS dE
def ap102{d dst ty pos after g K fr S s x u}:em CX d ⟨dst,.call ⟨.builtin .append,⟨[s,x]⟩,⟨[102,u]⟩⟩,ty,pos,after,g⟩ dst K fr S=eF S (CX.ty 51) (decide (102=u)) d (ak fr s) (ak fr x) dst K fr:=du ty102 rfl
def ap107{d dst ty pos after g K fr S s x u}:em CX d ⟨dst,.call ⟨.builtin .append,⟨[s,x]⟩,⟨[107,u]⟩⟩,ty,pos,after,g⟩ dst K fr S=eF S (CX.ty 164) (decide (107=u)) d (ak fr s) (ak fr x) dst K fr:=du ty107 rfl
def ap191{d dst ty pos after g K fr S s x u}:em CX d ⟨dst,.call ⟨.builtin .append,⟨[s,x]⟩,⟨[191,u]⟩⟩,ty,pos,after,g⟩ dst K fr S=eF S (CX.ty 5) (decide (191=u)) d (ak fr s) (ak fr x) dst K fr:=du ty191 rfl
def ap31{d dst ty pos after g K fr S s x u}:em CX d ⟨dst,.call ⟨.builtin .append,⟨[s,x]⟩,⟨[31,u]⟩⟩,ty,pos,after,g⟩ dst K fr S=eF S (CX.ty 3) (decide (31=u)) d (ak fr s) (ak fr x) dst K fr:=du ty31 rfl
def ap34{d dst ty pos after g K fr S s x u}:em CX d ⟨dst,.call ⟨.builtin .append,⟨[s,x]⟩,⟨[34,u]⟩⟩,ty,pos,after,g⟩ dst K fr S=eF S (CX.ty 66) (decide (34=u)) d (ak fr s) (ak fr x) dst K fr:=du ty34 rfl
def ap37{d dst ty pos after g K fr S s x u}:em CX d ⟨dst,.call ⟨.builtin .append,⟨[s,x]⟩,⟨[37,u]⟩⟩,ty,pos,after,g⟩ dst K fr S=eF S (CX.ty 74) (decide (37=u)) d (ak fr s) (ak fr x) dst K fr:=du ty37 rfl
def ap38{d dst ty pos after g K fr S s x u}:em CX d ⟨dst,.call ⟨.builtin .append,⟨[s,x]⟩,⟨[38,u]⟩⟩,ty,pos,after,g⟩ dst K fr S=eF S (CX.ty 111) (decide (38=u)) d (ak fr s) (ak fr x) dst K fr:=du ty38 rfl
def ap39{d dst ty pos after g K fr S s x u}:em CX d ⟨dst,.call ⟨.builtin .append,⟨[s,x]⟩,⟨[39,u]⟩⟩,ty,pos,after,g⟩ dst K fr S=eF S (CX.ty 114) (decide (39=u)) d (ak fr s) (ak fr x) dst K fr:=du ty39 rfl
def ap43{d dst ty pos after g K fr S s x u}:em CX d ⟨dst,.call ⟨.builtin .append,⟨[s,x]⟩,⟨[43,u]⟩⟩,ty,pos,after,g⟩ dst K fr S=eF S (CX.ty 55) (decide (43=u)) d (ak fr s) (ak fr x) dst K fr:=du ty43 rfl
def ap61{d dst ty pos after g K fr S s x u}:em CX d ⟨dst,.call ⟨.builtin .append,⟨[s,x]⟩,⟨[61,u]⟩⟩,ty,pos,after,g⟩ dst K fr S=eF S (CX.ty 31) (decide (61=u)) d (ak fr s) (ak fr x) dst K fr:=du ty61 rfl
def ap63{d dst ty pos after g K fr S s x u}:em CX d ⟨dst,.call ⟨.builtin .append,⟨[s,x]⟩,⟨[63,u]⟩⟩,ty,pos,after,g⟩ dst K fr S=eF S (CX.ty 153) (decide (63=u)) d (ak fr s) (ak fr x) dst K fr:=du ty63 rfl
def ap64{d dst ty pos after g K fr S s x u}:em CX d ⟨dst,.call ⟨.builtin .append,⟨[s,x]⟩,⟨[64,u]⟩⟩,ty,pos,after,g⟩ dst K fr S=eF S (CX.ty 90) (decide (64=u)) d (ak fr s) (ak fr x) dst K fr:=du ty64 rfl
def ap72{d dst ty pos after g K fr S s x u}:em CX d ⟨dst,.call ⟨.builtin .append,⟨[s,x]⟩,⟨[72,u]⟩⟩,ty,pos,after,g⟩ dst K fr S=eF S (CX.ty 78) (decide (72=u)) d (ak fr s) (ak fr x) dst K fr:=du ty72 rfl
def ap85{d dst ty pos after g K fr S s x u}:em CX d ⟨dst,.call ⟨.builtin .append,⟨[s,x]⟩,⟨[85,u]⟩⟩,ty,pos,after,g⟩ dst K fr S=eF S (CX.ty 70) (decide (85=u)) d (ak fr s) (ak fr x) dst K fr:=du ty85 rfl
def ap91{d dst ty pos after g K fr S s x u}:em CX d ⟨dst,.call ⟨.builtin .append,⟨[s,x]⟩,⟨[91,u]⟩⟩,ty,pos,after,g⟩ dst K fr S=eF S (CX.ty 9) (decide (91=u)) d (ak fr s) (ak fr x) dst K fr:=du ty91 rfl
def an102{d dst pos after g K fr S}:em CX d ⟨dst,.assign (.const (.slice none 0 0)),102,pos,after,g⟩ dst K fr S=cM (CX.ty 102) (CX.ty 51) d dst K fr S:=by rw[ty102];exact dA ty102 rfl
def an31{d dst pos after g K fr S}:em CX d ⟨dst,.assign (.const (.slice none 0 0)),31,pos,after,g⟩ dst K fr S=cM (CX.ty 31) (CX.ty 3) d dst K fr S:=by rw[ty31];exact dA ty31 rfl
def an34{d dst pos after g K fr S}:em CX d ⟨dst,.assign (.const (.slice none 0 0)),34,pos,after,g⟩ dst K fr S=cM (CX.ty 34) (CX.ty 66) d dst K fr S:=by rw[ty34];exact dA ty34 rfl
def an61{d dst pos after g K fr S}:em CX d ⟨dst,.assign (.const (.slice none 0 0)),61,pos,after,g⟩ dst K fr S=cM (CX.ty 61) (CX.ty 31) d dst K fr S:=by rw[ty61];exact dA ty61 rfl
def an63{d dst pos after g K fr S}:em CX d ⟨dst,.assign (.const (.slice none 0 0)),63,pos,after,g⟩ dst K fr S=cM (CX.ty 63) (CX.ty 153) d dst K fr S:=by rw[ty63];exact dA ty63 rfl
def an64{d dst pos after g K fr S}:em CX d ⟨dst,.assign (.const (.slice none 0 0)),64,pos,after,g⟩ dst K fr S=cM (CX.ty 64) (CX.ty 90) d dst K fr S:=by rw[ty64];exact dA ty64 rfl
def an72{d dst pos after g K fr S}:em CX d ⟨dst,.assign (.const (.slice none 0 0)),72,pos,after,g⟩ dst K fr S=cM (CX.ty 72) (CX.ty 78) d dst K fr S:=by rw[ty72];exact dA ty72 rfl
def an85{d dst pos after g K fr S}:em CX d ⟨dst,.assign (.const (.slice none 0 0)),85,pos,after,g⟩ dst K fr S=cM (CX.ty 85) (CX.ty 70) d dst K fr S:=by rw[ty85];exact dA ty85 rfl
def an91{d dst pos after g K fr S}:em CX d ⟨dst,.assign (.const (.slice none 0 0)),91,pos,after,g⟩ dst K fr S=cM (CX.ty 91) (CX.ty 9) d dst K fr S:=by rw[ty91];exact dA ty91 rfl
def bs102{d dst ty pos after g K fr S len l}(hz:CX.frz pos=false):em CX d ⟨dst,.buildSlice 102 len ⟨l⟩,ty,pos,after,g⟩ dst K fr S=fb (d9 (CX.ty 102) (CX.ty 51) d S.length len (l.map fun p=>(p.1,ak fr p.2))) dst K fr S:=by rw[ty102];exact bM ty102 rfl hz
def bs107{d dst ty pos after g K fr S len l}(hz:CX.frz pos=false):em CX d ⟨dst,.buildSlice 107 len ⟨l⟩,ty,pos,after,g⟩ dst K fr S=fb (d9 (CX.ty 107) (CX.ty 164) d S.length len (l.map fun p=>(p.1,ak fr p.2))) dst K fr S:=by rw[ty107];exact bM ty107 rfl hz
def bs191{d dst ty pos after g K fr S len l}(hz:CX.frz pos=false):em CX d ⟨dst,.buildSlice 191 len ⟨l⟩,ty,pos,after,g⟩ dst K fr S=fb (d9 (CX.ty 191) (CX.ty 5) d S.length len (l.map fun p=>(p.1,ak fr p.2))) dst K fr S:=by rw[ty191];exact bM ty191 rfl hz
def bs31{d dst ty pos after g K fr S len l}(hz:CX.frz pos=false):em CX d ⟨dst,.buildSlice 31 len ⟨l⟩,ty,pos,after,g⟩ dst K fr S=fb (d9 (CX.ty 31) (CX.ty 3) d S.length len (l.map fun p=>(p.1,ak fr p.2))) dst K fr S:=by rw[ty31];exact bM ty31 rfl hz
def bs34{d dst ty pos after g K fr S len l}(hz:CX.frz pos=false):em CX d ⟨dst,.buildSlice 34 len ⟨l⟩,ty,pos,after,g⟩ dst K fr S=fb (d9 (CX.ty 34) (CX.ty 66) d S.length len (l.map fun p=>(p.1,ak fr p.2))) dst K fr S:=by rw[ty34];exact bM ty34 rfl hz
def bs37{d dst ty pos after g K fr S len l}(hz:CX.frz pos=false):em CX d ⟨dst,.buildSlice 37 len ⟨l⟩,ty,pos,after,g⟩ dst K fr S=fb (d9 (CX.ty 37) (CX.ty 74) d S.length len (l.map fun p=>(p.1,ak fr p.2))) dst K fr S:=by rw[ty37];exact bM ty37 rfl hz
def bs38{d dst ty pos after g K fr S len l}(hz:CX.frz pos=false):em CX d ⟨dst,.buildSlice 38 len ⟨l⟩,ty,pos,after,g⟩ dst K fr S=fb (d9 (CX.ty 38) (CX.ty 111) d S.length len (l.map fun p=>(p.1,ak fr p.2))) dst K fr S:=by rw[ty38];exact bM ty38 rfl hz
def bs39{d dst ty pos after g K fr S len l}(hz:CX.frz pos=false):em CX d ⟨dst,.buildSlice 39 len ⟨l⟩,ty,pos,after,g⟩ dst K fr S=fb (d9 (CX.ty 39) (CX.ty 114) d S.length len (l.map fun p=>(p.1,ak fr p.2))) dst K fr S:=by rw[ty39];exact bM ty39 rfl hz
def bs43{d dst ty pos after g K fr S len l}(hz:CX.frz pos=false):em CX d ⟨dst,.buildSlice 43 len ⟨l⟩,ty,pos,after,g⟩ dst K fr S=fb (d9 (CX.ty 43) (CX.ty 55) d S.length len (l.map fun p=>(p.1,ak fr p.2))) dst K fr S:=by rw[ty43];exact bM ty43 rfl hz
def bs61{d dst ty pos after g K fr S len l}(hz:CX.frz pos=false):em CX d ⟨dst,.buildSlice 61 len ⟨l⟩,ty,pos,after,g⟩ dst K fr S=fb (d9 (CX.ty 61) (CX.ty 31) d S.length len (l.map fun p=>(p.1,ak fr p.2))) dst K fr S:=by rw[ty61];exact bM ty61 rfl hz
def bs63{d dst ty pos after g K fr S len l}(hz:CX.frz pos=false):em CX d ⟨dst,.buildSlice 63 len ⟨l⟩,ty,pos,after,g⟩ dst K fr S=fb (d9 (CX.ty 63) (CX.ty 153) d S.length len (l.map fun p=>(p.1,ak fr p.2))) dst K fr S:=by rw[ty63];exact bM ty63 rfl hz
def bs64{d dst ty pos after g K fr S len l}(hz:CX.frz pos=false):em CX d ⟨dst,.buildSlice 64 len ⟨l⟩,ty,pos,after,g⟩ dst K fr S=fb (d9 (CX.ty 64) (CX.ty 90) d S.length len (l.map fun p=>(p.1,ak fr p.2))) dst K fr S:=by rw[ty64];exact bM ty64 rfl hz
def bs72{d dst ty pos after g K fr S len l}(hz:CX.frz pos=false):em CX d ⟨dst,.buildSlice 72 len ⟨l⟩,ty,pos,after,g⟩ dst K fr S=fb (d9 (CX.ty 72) (CX.ty 78) d S.length len (l.map fun p=>(p.1,ak fr p.2))) dst K fr S:=by rw[ty72];exact bM ty72 rfl hz
def bs85{d dst ty pos after g K fr S len l}(hz:CX.frz pos=false):em CX d ⟨dst,.buildSlice 85 len ⟨l⟩,ty,pos,after,g⟩ dst K fr S=fb (d9 (CX.ty 85) (CX.ty 70) d S.length len (l.map fun p=>(p.1,ak fr p.2))) dst K fr S:=by rw[ty85];exact bM ty85 rfl hz
def bs91{d dst ty pos after g K fr S len l}(hz:CX.frz pos=false):em CX d ⟨dst,.buildSlice 91 len ⟨l⟩,ty,pos,after,g⟩ dst K fr S=fb (d9 (CX.ty 91) (CX.ty 9) d S.length len (l.map fun p=>(p.1,ak fr p.2))) dst K fr S:=by rw[ty91];exact bM ty91 rfl hz
def cv3_5{d dst ty pos after g K fr S x}:em CX d ⟨dst,.convert 3 5 x,ty,pos,after,g⟩ dst K fr S=cvtK (ak fr x) .u8 dst K fr S (cZ CX d ⟨dst,.convert 3 5 x,ty,pos,after,g⟩ (fun v S'=>K (cj fr dst v) S') fr S):=Gh ty3 ty5 rfl
def cv5_3{d dst ty pos after g K fr S x}:em CX d ⟨dst,.convert 5 3 x,ty,pos,after,g⟩ dst K fr S=cvtK (ak fr x) .i64 dst K fr S (cZ CX d ⟨dst,.convert 5 3 x,ty,pos,after,g⟩ (fun v S'=>K (cj fr dst v) S') fr S):=Gh ty5 ty3 rfl
attribute [go_sem] ap102 ap107 ap191 ap31 ap34 ap37 ap38 ap39 ap43 ap61 ap63 ap64 ap72 ap85 ap91 an102 an31 an34 an61 an63 an64 an72 an85 an91 bs102 bs107 bs191 bs31 bs34 bs37 bs38 bs39 bs43 bs61 bs63 bs64 bs72 bs85 bs91 cv3_5 cv5_3
end
end Go.Eng
