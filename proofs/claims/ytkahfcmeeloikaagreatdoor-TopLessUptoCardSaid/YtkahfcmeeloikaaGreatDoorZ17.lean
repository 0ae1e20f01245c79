/- Links: the reference's check ends. -/
import Derived.Test.YtkahfcmeeloikaaGreatDoorZ16
set_option linter.all false
set_option maxHeartbeats 4000000
namespace Go.Eng
open Go.Proofs
section
attribute [local irreducible] bB cX cZ aB bS dE
attribute [local go_sem] bi and_self
theorem check26E{v:AV}{l:List En}(hv:bq 8 (l.map aG) v)(hok:∀e∈l,e.ok)(hf:∀e∈l,e.few)(hl:l.length<=100):∃x,aB CX 48 [v] (· = .int .i64 x):=by
 refine aB.int0 ?_;have sv:=hv.snap;have qi:=fun n=>invE n;have JJ:ac (l.length<=100):=⟨hl⟩;have qf:ac (∀m,∃i,mF l.length i/\aB CX 94 [v,.int .i64 m] (· = .int .i64 i)):=⟨fun m=>G8 m hv (by omega)⟩;have qr:ac (∀n k,∃o:List Int,o.length<=100/\aB CX 97 [v,.int .i64 n,.int .i64 k] (· = .osl 1 (az o))):=⟨fun n k=>reachE n k hv hok hf hl⟩;have qh:ac (∀(e:En) (x:Lk),e∈l->∃b,aB CX 95 [.agg (aG e),.agg (gV x)] (· = .bool b)):=⟨fun e x he=>has26E x (hok e he) (Vu (hf e he).l (by decide))⟩;have qiH:ac (∀n,∃i,aB CX 93 [.int .i64 n] (· = .int .i64 i)):=⟨qi⟩;clear qi hl;refine aL fx48 ?_;refine b8 (lk hv) ?_;refine aF [2,4,5,6,8,9,10,11,12,13,14,15,16,17,18,19,20,21,22,23,24,25,26,27,28,29,30,31,32,33,34,35,36,37,38,39,40,41,42,43,44,45,46,47,48,49,50,51,52,53,54,55,56] 3 l (fun _ _=>True) ?_ ?_ ?_ ?_
 .trivial
 .exact aQ
 .intro g G _;refine b8 (lk hv) ?_;refine aF [2,57,58,59,60,61,62,63,64,65,66,67,68,69,70,71,72,73,74,75,76,77,78,79,80,81,82,83,84,85,86,87,88,89,90] 7 l (fun _ _=>True) ?_ ?_ ?_ ?_
  .trivial
  .exact aQ
  .intro g2 G2 _;exact fm (lk hv)
  .intro g2 G2 pre x post h1 _;have IZ:pre.length<l.length:=by rw[h1];simp
   have lt1:(pre.length:Int)<(l.length:Int):=by omega
   have w1:=am (n:=pre.length) (by have:=JJ.out;omega);have i1:=ay hv (X:=CX) ty34 ty66 rfl (n:=pre.length) (row:=aG x) (k := .i64) (by rw[h1];simp);obtain⟨o1,Mn,q1⟩:=qr.out x.id 2;obtain⟨o2,Nr,q2⟩:=qr.out x.id 4;have q1:=q1.rw;have q2:=q2.rw;obtain⟨b1,q3⟩:=in26E (v := .tsl false 1 (az o1)) x.id (.rows false) (by omega);obtain⟨b2,q4⟩:=in26E (v := .tsl false 1 (az o2)) x.id (.rows false) (by omega);have q3:=q3.rw;have q4:=q4.rw;have IW:ac (l=pre++x::post):=⟨h1⟩;simp only[aG]at i1;clear h1 IZ Mn Nr;cases b1
   .simp only[aj,aq,ah,an,UC,UD];repeat' (first|refine dn ?_|refine ad rfl ?_|(refine dI fun A B a b=>?_;simp only[go_sem, *,au hv];(repeat' first|apply a.1|apply b.1|refine aV (fun h=>?_) fun h=>?_)<;>clear a b A B))
    all_goals exact vP
   .refine b8 (lk hv) ?_;all_goals exact vP
 .intro g G pre x post h1 _;have IZ:pre.length<l.length:=by rw[h1];simp
  have lt1:(pre.length:Int)<(l.length:Int):=by omega
  have w1:=am (n:=pre.length) (by have:=JJ.out;omega);have i1:=ay hv (X:=CX) ty34 ty66 rfl (n:=pre.length) (row:=aG x) (k := .i64) (by rw[h1];simp);have Jg:x∈l:=by rw[h1];simp
  have JQ:=(hok x Jg).l;have PX:=(hf x Jg).l;have IW:ac (l=pre++x::post):=⟨h1⟩;simp only[aG]at i1;clear h1 IZ Jg;refine pz (lk hv) (lk JQ) ?_;refine aF [2,5,6,14,15,16,17,18,19,20,21,22,23,24,25,26,27,28,29,30,31,32,33,34,35,36,37,38,39,40,41,42,43,44,45,46,47,48,49,50,51,52,53,54,55,56] 4 x.ll (fun _ _=>True) ?_ ?_ ?_ ?_
  .trivial
  .exact aQ
  .intro g2 G2 _;refine pz (lk hv) (lk JQ) ?_;exact vP
  .intro g2 G2 pr u po h2 _;have Ml:pr.length<x.ll.length:=by rw[h2];simp
   have lt2:(pr.length:Int)<(x.ll.length:Int):=by omega
   have w2:=am (n:=pr.length) (by omega);have i2:=ay JQ (X:=CX) ty63 ty153 rfl (n:=pr.length) (row:=gV u) (k := .i64) (by rw[h2];simp);simp only[gV]at i2;obtain⟨a,q1⟩:=qiH.out u.1;obtain⟨t,ht,q2⟩:=qf.out u.2;have q1:=q1.rw;have q2:=q2.rw;have I7:ac (x.ll=pr++u::po):=⟨h2⟩;clear h2 Ml;by_cases k1:a<0
   .clear ht;exact IS (lk hv) (lk JQ)
   by_cases k2:t<0
   .clear ht;exact IS (lk hv) (lk JQ)
   obtain⟨j,rfl⟩:∃j:Nat,t=(j:Int):=⟨t.toNat,by omega⟩;have Mb:j<l.length:=by unfold mF at ht;omega
   obtain⟨y,hy⟩:∃y,l[j]? = some y:=⟨_,UL Mb⟩;have MN:=Vs hy;have i3:=ay hv (X:=CX) ty34 ty66 rfl (n:=j) (row:=aG y) (k := .i64) (by simp[hy]);obtain⟨c1,c2,c3,c4,c5⟩:=(hok y MN).cells;have s1:=(hok y MN).f.snap;have s2:=(hok y MN).a.snap;have s3:=(hok y MN).s.snap;have s4:=(hok y MN).l.snap;have s5:=(hok y MN).r.snap;obtain⟨b,q3⟩:=qh.out y (a,x.id) MN;have q3:=q3.rw;simp only[aG,gV]at i3 q3;clear ht Mb hy MN;simp only[aj,aq,ah,an,UC,UD];repeat' (first|refine dn ?_|refine ad rfl ?_|(refine dI fun A B a b=>?_;simp only[go_sem, *,au hv,au JQ,k1,k2];(repeat' first|apply a.1|apply b.1|refine aV (fun h=>?_) fun h=>?_)<;>clear a b A B))
   all_goals
    first
    |(refine aA I7.out ?_ ?_ ?_;(· exact trivial);(· exact aQ);(· exact dk))
    |(simp only[go_sem];exact⟨_,rfl⟩)
end
section
attribute [local irreducible] bB cX cZ aB bS dE
attribute [local go_sem] bi and_self
abbrev Sp:=Int×Int×Int
def wx(x:Sp):List AV:=[.int .i64 x.1,.int .i64 x.2.1,.int .i64 x.2.2]
structure wH (n:Int) (ps:List Sp) (fs:List Int):Prop where
 st:∀x∈ps,0<=x.1/\x.1<24/\0<=x.2.2/\x.2.2<24
 fi:∀q∈fs,0<=q/\q<24
def stB(n q:Int):Bool:=decide (0<=q) && decide (q<n)
def stateE{pv fv:AV}(n q:Int)(hp:pv.cell=true)(hf:fv.cell=true):aB CX 90 [.agg [.int .i64 n,pv,fv],.int .i64 q] (· = .bool (stB n q)):=by
 unfold stB;by_cases k1:0<=q<;>by_cases k2:q<n
 all_goals
  refine aL fx90 ?_;refine wk ?_;simp only[go_sem];simp[k1,k2]
theorem netE{pv fv:AV}{ps:List Sp}{fs:List Int}(n:Int)(hp:bq 3 (ps.map wx) pv)(hf:bq 1 (az fs) fv)(IZ:ps.length<9223372036854775807)(JU:fs.length<9223372036854775807) :
  ∃x,(x=0->wH n ps fs)/\aB CX 46 [.agg [.int .i64 n,pv,fv]] (· = .int .i64 x):=by
 refine aB.int ?_;have c1:=hp.cell;have c2:=hf.cell;have s1:=hp.snap;have s2:=hf.snap;have qs:∀q Q,_:=fun q=>(stateE n q c1 c2).rw;by_cases k1:n<1
 .refine aL fx46 ?_;exact wf
 by_cases k2:24<n
 .refine aL fx46 ?_;exact wf
 by_cases k3:(200:Int)<(ps.length:Int)
 .refine aL fx46 ?_;exact fm (lk hp)
 have JJ:ac (ps.length<=200/\fs.length<9223372036854775807/\n<=24):=⟨by omega⟩;refine aL fx46 ?_;refine b8 (lk hp) ?_;refine aF [2,4,5,20,21,22,23,24,25,26,27,28,29,30,31,32,33,34,35,36,37,38,39,40,41,42,43,44,45,46,47,48,49,50,51,52,53,54,55,56,57,58,59,60,61,62,63] 3 ps (fun pre _=> ∀x∈pre,0<=x.1/\x.1<24/\0<=x.2.2/\x.2.2<24) ?_ ?_ ?_ ?_
 .intro x h;cases h
 .exact aQ
 .intro g G hP;have Jz:ac (∀x∈ps,0<=x.1/\x.1<24/\0<=x.2.2/\x.2.2<24):=⟨hP⟩;clear hP;refine pz (lk hp) (lk hf) ?_;refine iC [2,64,65,66,67,68,69,70,71,72,73,74,75,76,77,78,79,80,81,82] (fun k:Nat=>[(6,.int .i64 (k:Int))]) (fun k=>1<=k/\k<=fs.length+1) (fun k=>fs.length+1-k) 1 ⟨UJ _,by omega⟩ ?_ ?_
  .exact aQ
  intro k g2 H hk;replace hk:1<=k/\k<=fs.length+1:=hk;by_cases k4:k<fs.length
  case neg=>
   have k4':¬(k:Int)<(fs.length:Int):=by omega
   clear hk k4;refine pz (lk hp) (lk hf) ?_;refine aF [2,83,84,85,86,87,88,89,90,91,92,93,94,95,96,97] 7 fs (fun pre _=> ∀x∈pre,0<=x/\x<24) ?_ ?_ ?_ ?_
   .intro x h;cases h
   .exact aQ
   .intro g3 G3 hQ;have ML:ac (wH n ps fs):=⟨Jz.out,hQ⟩;clear hQ;exact fm (lk hf)
   .intro g3 G3 pre x post h1 hQ;have IZ:pre.length<fs.length:=by rw[h1];simp
    have lt1:(pre.length:Int)<(fs.length:Int):=by omega
    have w1:=am (n:=pre.length) (by have:=JJ.out.2.1;omega);have i1:=ay hf (X:=CX) ty31 ty3 rfl (n:=pre.length) (row:=[.int .i64 x]) (k := .i64) (by rw[h1];simp[az]);have q1:=qs x;have IW:ac (fs=pre++x::post):=⟨h1⟩
    have ML:ac (stB n x=true->∀y∈pre++[x],0<=y/\y<24):=⟨fun h y hy=>by
     rcases UU.1 hy with h'|h'
     .exact hQ y h'
     .simp at h';subst h';have:=JJ.out.2.2;simp[stB]at h;omega⟩
    generalize stB n x=b at*;clear h1 IZ hQ qs;cases b with
    | true=>
     refine b8 (lk hf) ?_;refine aA IW.out (ML.out rfl) ?_ ?_
     .exact aQ
     .exact dk
    | false=>
     exact fm (lk hf)
  obtain⟨j,rfl⟩:∃j,k=j+1:=⟨k-1,by omega⟩;have k4':((j+1:Nat):Int)<(fs.length:Int):=by omega
  have w1:=am (n:=j+1) (by have:=JJ.out.2.1;omega);have w2:IntKind.wrap .i64 (((j+1:Nat):Int)-1)=(j:Int):=by rw[wrap_small (by omega) (by have:=JJ.out.2.1;omega)];omega
  obtain⟨a,ha⟩:∃a,fs[j+1]? = some a:=⟨_,UL k4⟩;obtain⟨b,hb⟩:∃b,fs[j]? = some b:=⟨_,UL (by omega)⟩;have i1:=ay hf (X:=CX) ty31 ty3 rfl (n:=j+1) (row:=[.int .i64 a]) (k := .i64) (by simp[az,ha]);have i2:=ay hf (X:=CX) ty31 ty3 rfl (n:=j) (row:=[.int .i64 b]) (k := .i64) (by simp[az,hb]);have hm:ac (fs.length+1-(j+1+1)<fs.length+1-(j+1)/\1<=j+1+1/\j+1+1<=fs.length+1):=⟨by omega⟩;clear hk k4 ha hb qs;generalize ((j+1:Nat):Int)=J at*;by_cases k5:a<=b
  .exact fm (lk hf)
  .refine b8 (lk hf) ?_;refine gG (j+1+1) hm.out.1 hm.out.2 ?_ ?_
   .exact aQ
   .exact dk
 .intro g G pre x post h1 hP;have IZ:pre.length<ps.length:=by rw[h1];simp
  have lt1:(pre.length:Int)<(ps.length:Int):=by omega
  have w1:=am (n:=pre.length) (by omega);have i1:=ay hp (X:=CX) ty30 ty176 rfl (n:=pre.length) (row:=wx x) (k := .i64) (by rw[h1];simp);have q1:=qs x.1;have q2:=qs x.2.2;have IW:ac (ps=pre++x::post):=⟨h1⟩
  have Jz:ac (stB n x.1=true->stB n x.2.2=true->∀y∈pre++[x],0<=y.1/\y.1<24/\0<=y.2.2/\y.2.2<24):=⟨fun h h' y hy=>by
   rcases UU.1 hy with k|k
   .exact hP y k
   .simp at k;subst k;have:=JJ.out.2.2;simp[stB]at h h';omega⟩
  generalize stB n x.1=b1 at*;generalize stB n x.2.2=b2 at*;simp only[wx]at i1;clear h1 IZ hP qs;cases b1 with
  | false=>
   exact fm (lk hp)
  | true=>
  cases b2 with
  | false=>
   exact fm (lk hp)
  | true=>
  have Jz:=Jz.out rfl rfl;have Jz:ac (∀y∈pre++[x],0<=y.1/\y.1<24/\0<=y.2.2/\y.2.2<24):=⟨Jz⟩;by_cases k4:x.2.1<1
  .exact fm (lk hp)
  by_cases k5:20<x.2.1
  .exact fm (lk hp)
  refine b8 (lk hp) ?_;refine iC [2,52,53,54,55,56,57,58,59,60,61,62,63] (fun k:Nat=>[(5,.int .i64 (k:Int))]) (fun k=>k<=pre.length) (fun k=>pre.length-k) 0 (U9 _) ?_ ?_
  .exact aQ
  intro k g2 H hk;replace hk:k<=pre.length:=hk;by_cases JY:k<pre.length
  .have lt2:(k:Int)<(pre.length:Int):=by omega
   have w2:=am (n:=k) (by have:=JJ.out.1;omega);obtain⟨z,hz⟩:∃z,pre[k]? = some z:=⟨_,UL JY⟩;have i2:=ay hp (X:=CX) ty30 ty176 rfl (n:=k) (row:=wx z) (k := .i64) (by rw[IW.out,Vv,UN (by simpa using JY),Vc,hz];rfl);simp only[wx]at i2;have hm:ac (pre.length-(k+1)<pre.length-k/\k+1<=pre.length):=⟨by omega⟩;clear hk JY hz;simp only[aj,aq,ah,an,UC,UD];repeat' (first|refine dn ?_|refine ad rfl ?_|(refine dI fun A B a b=>?_;simp only[go_sem, *,au hp];(repeat' first|apply a.1|apply b.1|refine aV (fun h=>?_) fun h=>?_)<;>clear a b A B))
   all_goals
    first
    |(refine gG (k+1) hm.out.1 hm.out.2 ?_ ?_;(· exact aQ);(· exact dk))
    |(simp only[go_sem];exact⟨_,rfl,fun h=>by cases h⟩)
  .have MD:¬(k:Int)<(pre.length:Int):=by omega
   clear hk JY;refine b8 (lk hp) ?_;refine aA IW.out Jz.out ?_ ?_
   .exact aQ
   .exact dk
end
section
attribute [local irreducible] bB cX cZ aB bS dE
abbrev Cs:=Int×Int
def wy(x:Cs):List AV:=[.int .i64 x.1,.int .i64 x.2]
structure Rw where
 fv:AV
 fl:List Int
 tv:AV
 tl:List Int
 lv:AV
 ll:List Cs
 rv:AV
 rl:List Cs
 be:Bool
 en:Bool
def ge(r:Rw):List AV:=[r.fv,r.tv,r.lv,r.rv,.bool r.be,.bool r.en]
attribute [local go_sem] ge
structure Rw.ok (r:Rw):Prop where
 f:bq 1 (az r.fl) r.fv
 ft:r.fv.stab=true
 t:bq 1 (az r.tl) r.tv
 tt:r.tv.stab=true
 l:bq 2 (r.ll.map wy) r.lv
 lt:r.lv.stab=true
 q:bq 2 (r.rl.map wy) r.rv
 qt:r.rv.stab=true
structure Rw.few (r:Rw):Prop where
 f:r.fl.length<=1048576
 t:r.tl.length<=1048576
 l:r.ll.length<=1048576
 q:r.rl.length<=1048576
def Rw.ok.cells{r:Rw}(h:r.ok):r.fv.cell=true/\r.tv.cell=true/\r.lv.cell=true/\r.rv.cell=true:=⟨h.f.cell,h.t.cell,h.l.cell,h.q.cell⟩
theorem check22E{v:AV}{ss:List Sg}{r:Rw}(hv:bq 2 (ss.map encS) v)(h:r.ok)(hf:r.few):∃x,(x=0->r.tl.length=r.fl.length/\r.ll.length<=2/\r.rl.length<=2)/\aB CX 89 [.agg [v],.agg (ge r)] (· = .int .i64 x):=by
 refine aB.int ?_;obtain⟨c1,c2,c3,c4⟩:=h.cells;have c0:=hv.cell;have s0:=hv.snap;have s1:=h.f.snap;have h1:=h.f;have h2:=h.t;have h3:=h.l;have h4:=h.q;have qi:∀n Q,_:=fun n=>(isR v ss n hv).rw;have q1:=(By r.fv r.fl h.f (by have:=hf.f;omega)).rw;have Nw:ac r.few:=⟨hf⟩;clear h hf;by_cases k1:(r.fl.length:Int)=0
 .refine aL fx89 ?_;exact IS (lk h1) (lk h2)
 by_cases k2:(r.tl.length:Int)=(r.fl.length:Int)
 case neg=>
  refine aL fx89 ?_;exact IS (lk h1) (lk h2)
 have JK:ac (r.tl.length=r.fl.length):=⟨by omega⟩;have JU:ac (r.fl.length<=1048576):=⟨Nw.out.f⟩;refine aL fx89 ?_;refine pz (lk h1) (lk h2) ?_;refine aF [4,5,23,24,25,26,27,28,29,30,31,32,33,34,35,36,37,38,39,40,41,42,43,44,45,46,47,48,49,50,51] 22 r.fl (fun _ _=>True) ?_ ?_ ?_ ?_
 .trivial
 .exact aQ
 .intro g G _;by_cases k3:(((bU r.fl).length:Nat):Int)=(r.fl.length:Int)
  case neg=>
   exact fm (lk h1)
  by_cases k4:(2:Int)<(r.ll.length:Int)
  .exact IS (lk h1) (lk h3)
  by_cases k5:(2:Int)<(r.rl.length:Int)
  .exact wf3 (lk h1) (lk h3) (lk h4)
  have hh:ac (r.tl.length=r.fl.length/\r.ll.length<=2/\r.rl.length<=2):=⟨JK.out,by omega,by omega⟩;exact wf3 (lk h1) (lk h3) (lk h4)
 .intro g G pre x post e1 _;have IZ:pre.length<r.fl.length:=by rw[e1];simp
  have lt1:(pre.length:Int)<(r.fl.length:Int):=by omega
  have w1:=am (n:=pre.length) (by have:=JU.out;omega);obtain⟨y,hy⟩:∃y,r.tl[pre.length]? = some y:=⟨_,UL (by have:=JK.out;omega)⟩;have i1:=ay h1 (X:=CX) ty31 ty3 rfl (n:=pre.length) (row:=[.int .i64 x]) (k := .i64) (by rw[e1];simp[az]);have i2:=ay h2 (X:=CX) ty31 ty3 rfl (n:=pre.length) (row:=[.int .i64 y]) (k := .i64) (by simp[az,hy]);have qa:=qi x;have qb:=qi y;have IW:ac (r.fl=pre++x::post):=⟨e1⟩;generalize tf ss x=b1 at*;generalize tf ss y=b2 at*;clear e1 IZ hy qi q1;cases b1<;>cases b2
  all_goals
   simp only[aj,aq,ah,an,UC,UD];repeat' (first|refine dn ?_|refine ad rfl ?_|(refine dI fun A B a b=>?_;simp only[go_sem, *,au h1];(repeat' first|apply a.1|apply b.1|refine aV (fun h=>?_) fun h=>?_)<;>clear a b A B))
   all_goals
    first
    |(refine aA IW.out ?_ ?_ ?_;(· exact trivial);(· exact aQ);(· exact dk))
    |(simp only[go_sem];exact⟨_,rfl,fun h=>by cases h⟩)
end
section
attribute [local irreducible] bB cX cZ aB bS dE
attribute [local go_sem] bi and_self
structure Un where
 gr:ByteArray
 sv:AV
 sl:List Int
def nQ(u:Un):List AV:=[.str u.gr,u.sv]
structure Un.ok (u:Un):Prop where
 s:bq 1 (az u.sl) u.sv
 st:u.sv.stab=true
structure Un.few (u:Un):Prop where
 g:u.gr.size<=1048576
 s:u.sl.length<=1048576
def strs(l:List ByteArray):List (List AV):=l.map fun s=>[.str s]
def oz(l:List ByteArray):(strs l).length=l.length:=by simp[strs]
attribute [local go_sem] oz
def CI(a b:List ByteArray):strs (a++b)=strs a++strs b:=by simp[strs]
def Dw(s:ByteArray)(hs:s.size<=1048576):∃b,aB CX 87 [.str s] (· = .bool b):=by
 refine aB.boo0 ?_;have q:=(yz s hs).rw;refine aL fx87 ?_;refine wk ?_;refine aJ [2,4,5,6,7,8,9,10,11,12,13] (fun k:Nat=>[(3,.int .i64 (k:Int))]) (fun _ G=>G) (fun k=>k<=s.size) (fun k=>s.size-k) 0 (U9 _) ?_ ⟨_,rfl⟩ ?_
 .exact aQ
 intro k g G hk;replace hk:k<=s.size:=hk;by_cases Ja:k<s.size
 .have lt1:(k:Int)<(s.size:Int):=by omega
  have w1:=am (n:=k) (by omega);have K3:ac (s.size-(k+1)<s.size-k/\k+1<=s.size):=⟨by omega⟩;obtain⟨c,hc⟩:∃c,s[k]? = some c:=⟨s[k],by simp[Ja]⟩;have i1:=kv (X:=CX) ty9 hc (k := .i64);clear hk Ja hc;simp only[aj,aq,ah,an,UC,UD];repeat' (first|refine dn ?_|refine ad rfl ?_|(refine dI fun A B a b=>?_;simp only[go_sem, *,mo];(repeat' first|apply a.1|apply b.1|refine aV (fun h=>?_) fun h=>?_)<;>clear a b A B))
  all_goals first|(refine ax (k+1) K3.out.1 K3.out.2 ?_ ?_;(· exact aQ);(· exact⟨_,rfl⟩))|(simp only[go_sem];exact⟨_,rfl⟩)
 .have:¬(k:Int)<(s.size:Int):=by omega
  clear hk Ja;refine wk ?_;all_goals (simp only[go_sem];exact⟨_,rfl⟩)
def has17E{v:AV}{l:List ByteArray}(s:ByteArray)(hv:bq 1 (strs l) v)(hl:l.length<9223372036854775807):∃b,aB CX 88 [v,.str s] (· = .bool b):=by
 refine aB.boo0 ?_;refine aL fx88 ?_;refine b8 (lk hv) ?_;refine aF [4,6,7,8,9,10,11,12,13,14,15,16,17] 5 l (fun _ _=>True) ?_ ?_ ?_ ?_
 .trivial
 .exact aQ
 .intro g G _;exact fm (lk hv)
 .intro g G pre x post h1 _;have IZ:pre.length<l.length:=by rw[h1];simp
  have lt1:(pre.length:Int)<(l.length:Int):=by omega
  have w1:=am (n:=pre.length) (by omega);have i1:=ay hv (X:=CX) ty91 ty9 rfl (n:=pre.length) (row:=[.str x]) (k := .i64) (by rw[h1];simp[strs]);have IW:ac (l=pre++x::post):=⟨h1⟩;clear h1 IZ;simp only[aj,aq,ah,an,UC,UD];repeat' (first|refine dn ?_|refine ad rfl ?_|(refine dI fun A B a b=>?_;simp only[go_sem, *,au hv,oz,ik];(repeat' first|apply a.1|apply b.1|refine aV (fun h=>?_) fun h=>?_)<;>clear a b A B))
  all_goals exact vP
theorem unit17E{w v lv:AV}{nm:ByteArray}{ss:List Sg}{us pre post:List Un}{u:Un}(hw:bq 2 (ss.map encS) w)(hv:bq 2 (us.map nQ) v)(LF:lv.cell=true)(he:us=pre++u::post)(hok:∀u∈us,u.ok)(hf:∀u∈us,u.few)(hl:us.length<=1048576) :
  ∃x,aB CX 86 [.agg [w],.agg [.str nm,v,lv],.int .i64 pre.length] (· = .int .i64 x):=by
 refine aB.int0 ?_;have c0:=hw.cell;have c1:=hv.cell;have hu:=hok u (by rw[he];simp);have Sl:=hf u (by rw[he];simp);have JM:=hu.s;have husc:=JM.cell;have i0:=ay hv (X:=CX) ty25 ty172 rfl (n:=pre.length) (row:=nQ u) (k := .i64) (by rw[he];simp);obtain⟨b,q1⟩:=Dw u.gr Sl.g;have q1:=q1.rw;have hH:ac (us=pre++u::post/\us.length<=1048576/\u.sl.length<=1048576):=⟨he,hl,Sl.s⟩;simp only[nQ]at i0;clear he hl hu Sl;cases b with
 | false=>
  refine aL fx86 ?_;exact wf
 | true=>
 refine aL fx86 ?_;refine wk ?_;refine iC [6,19,20,21,22,23,24,25,26,27,28,29,30,31,32] (fun k:Nat=>[(8,.int .i64 (k:Int))]) (fun k=>k<=pre.length) (fun k=>pre.length-k) 0 (U9 _) ?_ ?_
 .exact aQ
 intro k g2 H hk;replace hk:k<=pre.length:=hk;by_cases JY:k<pre.length
 .have lt2:(k:Int)<(pre.length:Int):=by omega
  have hpu:pre.length<us.length:=by rw[hH.out.1];simp
  have w2:=am (n:=k) (by have:=hH.out.2.1;omega);obtain⟨z,hz⟩:∃z,pre[k]? = some z:=⟨_,UL JY⟩;have i2:=ay hv (X:=CX) ty25 ty172 rfl (n:=k) (row:=nQ z) (k := .i64) (by rw[hH.out.1,Vv,UN (by simpa using JY),Vc,hz];rfl);simp only[nQ]at i2;have hm:ac (pre.length-(k+1)<pre.length-k/\k+1<=pre.length):=⟨by omega⟩;clear hk JY hz hpu;simp only[aj,aq,ah,an,UC,UD];repeat' (first|refine dn ?_|refine ad rfl ?_|(refine dI fun A B a b=>?_;simp only[go_sem, *,ik];(repeat' first|apply a.1|apply b.1|refine aV (fun h=>?_) fun h=>?_)<;>clear a b A B))
  all_goals
   first
   |(refine gG (k+1) hm.out.1 hm.out.2 ?_ ?_;(· exact aQ);(· exact dk))
   |(simp only[go_sem];exact⟨_,rfl⟩)
 .have MD:¬(k:Int)<(pre.length:Int):=by omega
  clear hk JY;by_cases k1:(u.sl.length:Int)<1
  .exact fm (lk JM)
  by_cases k2:(3:Int)<(u.sl.length:Int)
  .exact fm (lk JM)
  refine b8 (lk JM) ?_;refine aF [6,43,44,45,46,47,48,49,50,51,52,53,54,55,56,57,58,59,60,61,62,63,64,65,66] 9 u.sl (fun _ _=>True) ?_ ?_ ?_ ?_
  .trivial
  .exact aQ
  .intro g3 G3 _;exact fm (lk JM)
  .intro g3 G3 pr x po e1 _;have IZ:pr.length<u.sl.length:=by rw[e1];simp
   have lt1:(pr.length:Int)<(u.sl.length:Int):=by omega
   have w1:=am (n:=pr.length) (by have:=hH.out.2.2;omega);have i1:=ay JM (X:=CX) ty31 ty3 rfl (n:=pr.length) (row:=[.int .i64 x]) (k := .i64) (by rw[e1];simp[az]);have IW:ac (u.sl=pr++x::po):=⟨e1⟩;clear e1 IZ;simp only[aj,aq,ah,an,UC,UD];repeat' (first|refine dn ?_|refine ad rfl ?_|(refine dI fun A B a b=>?_;simp only[go_sem, *,au JM,au hw];(repeat' first|apply a.1|apply b.1|refine aV (fun h=>?_) fun h=>?_)<;>clear a b A B))
   all_goals exact vP
end
section
attribute [local irreducible] bB cX cZ aB bS dE
attribute [local go_sem] U1 Vj List.replicate UC Vp Nat.reduceMul Vg eF d9 bP bt ci bN cM ba aY aS aM aX and_self Nat.reduceMul Nat.mul_one oz
def zk{s:ByteArray}:(AV.str s).cells = [.str s]:=rfl
attribute [local go_sem] zk
def own_strs{S:ab}{b:Nat}{l:List ByteArray}(h:S[b]? = some (.arr (strs l) 1 0 true)):snap S (.sl b l.length 0 l.length 1)=some (.tsl false 1 (strs l)):=by
 simp only[snap,rowsOf,h];rw[if_pos ⟨trivial,trivial,U9 _,by omega,by rw[oz];exact UJ _⟩];simp only[Wu,if_true,WN];rw[Vm (by rw[oz];exact UJ _)]
theorem ortho17E{w v lv:AV}{nm:ByteArray}{ss:List Sg}{us:List Un}{ls:List (AV×List ByteArray)}(hw:bq 2 (ss.map encS) w)(hv:bq 2 (us.map nQ) v)(LF:bq 1 (ls.map fun x=>[x.1]) lv)(hok:∀u∈us,u.ok)(hf:∀u∈us,u.few)(hl:us.length<=1048576)
  (JX:nm.size<=1048576) (Jd:ls.length<=1048576) (PA:∀x∈ls,bq 1 (strs x.2) x.1/\x.2.length<=1048576/\∀s∈x.2,s.size<=1048576) :
  ∃x,aB CX 44 [.agg [w],.agg [.str nm,v,lv]] (· = .int .i64 x):=by
 refine aB.int0 ?_;have c0:=hw.cell;have c1:=hv.cell;have c2:=LF.cell;have s0:=hw.snap;have s1:=hv.snap;have s2:=LF.snap;have qn:=(GM nm (by omega)).rw;have hH:ac ((∀u∈us,u.ok)/\(∀u∈us,u.few)/\us.length<=1048576/\ls.length<=1048576/\∀x∈ls,bq 1 (strs x.2) x.1/\x.2.length<=1048576/\∀s∈x.2,s.size<=1048576):=⟨hok,hf,hl,Jd,PA⟩;generalize sT nm.data.toList=b at*;clear hok hf hl Jd PA;cases b with
 | false=>
  refine aL fx44 ?_;exact wf
 | true=>
 by_cases k1:(100:Int)<(us.length:Int)
 .refine aL fx44 ?_;exact fm (lk hv)
 refine aL fx44 ?_;refine b8 (lk hv) ?_;refine aF [4,6,19,20,21,22,23,24,25,26,27,28,29,30,31,32] 5 us (fun _ _=>True) ?_ ?_ ?_ ?_
 .trivial
 .exact aQ
 .intro g G _;by_cases k2:(100:Int)<(ls.length:Int)
  .exact IS (lk hv) (lk LF)
  refine pz (lk hv) (lk LF) ?_;have Oe:ac (ls.length<=100):=⟨by omega⟩;refine aJ [4,9,10,37,38,39,40,41,42,43,44,45,46,47,48,49,50,51,52,53,54,55,56,57,58,59,60,61,62,63,64,65,66,67,68,69,70,71,72,73,74,75,76,77,78] (fun a:Nat×List ByteArray=>[(7,.sl (G.length+1+1) a.2.length 0 a.2.length 1),(8,.int .i64 (a.1:Int))]) (fun a H=> .arr [[w]] 1 0 w.stab :: .arr [[.str nm,v,lv]] 3 0 (v.stab && lv.stab)::(G ++ .arr (strs a.2) 1 0 true::H)) (fun a=>a.1<=ls.length/\a.2.length<=a.1*1048576) (fun a=>ls.length-a.1) (0,[]) ⟨U9 _,by simp⟩ ?_ ⟨[],rfl⟩ ?_
  .exact aQ
  rintro⟨i,se⟩ g1 G1 ⟨hi,LK⟩;replace hi:i<=ls.length:=hi;replace LK:se.length<=i*1048576:=LK;by_cases k3:i<ls.length
  case neg=>
   have k3':¬(i:Int)<(ls.length:Int):=by omega
   clear hi LK k3;exact fm (lk LF)
  have k3':(i:Int)<(ls.length:Int):=by omega
  have wi:=am (n:=i) (by have:=Oe.out;omega);obtain⟨z,hz⟩:∃z,ls[i]? = some z:=⟨_,UL k3⟩;have i1:=ay LF (X:=CX) ty26 ty91 rfl (n:=i) (row:=[z.1]) (k := .i64) (by simp[hz]);have Sb:=hH.out.2.2.2.2 z (Vs hz);have Ot:=Sb.1;have Rn:ac (z.2.length<=1048576/\∀s∈z.2,s.size<=1048576):=⟨Sb.2⟩;have Od:ac (ls.length-(i+1)<ls.length-i/\i+1<=ls.length/\i<=100):=⟨by have:=Oe.out;omega⟩;have Sw:ac (se.length<=i*1048576):=⟨LK⟩;clear hi hz Sb LK;by_cases k4:(z.2.length:Int)=0
  .exact IS (lk LF) (lk Ot)
  refine pz (lk LF) (lk Ot) ?_;refine aJ [4,10,51,52,53,54,55,56,57,58,59,60,61,62,63,64,65,66,67,68,69,70,71,72,73,74,75,76,77,78] (fun a:Nat×List ByteArray=>[(7,.sl (G.length+1+1) a.2.length 0 a.2.length 1),(9,.int .i64 (a.1:Int))]) (fun a H=> .arr [[w]] 1 0 w.stab :: .arr [[.str nm,v,lv]] 3 0 (v.stab && lv.stab)::(G ++ .arr (strs a.2) 1 0 true::H)) (fun a=>a.1<=z.2.length/\a.2.length<=i*1048576+a.1) (fun a=>z.2.length-a.1) (0,se) ⟨U9 _,by simpa using Sw.out⟩ ?_ ⟨_,rfl⟩ ?_
  .exact aQ
  rintro⟨k,se⟩ g2 G2 ⟨hk,LK⟩;replace hk:k<=z.2.length:=hk;replace LK:se.length<=i*1048576+k:=LK;by_cases k5:k<z.2.length
  case neg=>
   have k5':¬(k:Int)<(z.2.length:Int):=by omega
   have hP:ac (i+1<=ls.length/\se.length<=(i+1)*1048576):=⟨Od.out.2.1,by have:=Rn.out.1;omega⟩;clear hk LK k5;refine pz (lk LF) (lk Ot) ?_;refine ax (i+1,se) Od.out.1 hP.out ?_ ⟨_,rfl⟩
   .exact aQ
  have k5':(k:Int)<(z.2.length:Int):=by omega
  have wk:=am (n:=k) (by have:=Rn.out.1;omega);obtain⟨s,hs⟩:∃s,z.2[k]? = some s:=⟨_,UL k5⟩;have i2:=ay Ot (X:=CX) ty91 ty9 rfl (n:=k) (row:=[.str s]) (k := .i64) (by simp[strs,hs]);obtain⟨b1,q1⟩:=Dw s (Rn.out.2 s (Vs hs));have q1:=q1.rw;have Sv:se.length<=200000000:=by have:=Od.out.2.2;have:=Rn.out.1;omega
  obtain⟨b2,q2⟩:=has17E (v := .tsl false 1 (strs se)) (l:=se) s (.rows false) (by omega);have q2:=q2.rw;have own:∀A B X,snap (A::B::(G ++ .arr (strs se) 1 0 true::X)) (.sl (G.length+1+1) se.length 0 se.length 1)=some (.tsl false 1 (strs se)):=fun A B X=>own_strs (by simp);have a1:(se.length+1)*16<=140737488355328:=by omega
  have a2:se.length+1<=140737488355328:=by omega
  have hP:ac (z.2.length-(k+1)<z.2.length-k/\k+1<=z.2.length/\(se++[s]).length<=i*1048576+(k+1)):=⟨by omega,by omega,by simp;omega⟩;clear hk LK hs Sv k5;cases b1 with
  | false=>
   exact IS (lk LF) (lk Ot)
  | true=>
  cases b2 with
  | true=>
   exact IS (lk LF) (lk Ot)
  | false=>
   refine pz (lk LF) (lk Ot) ?_;refine ax (k+1,se++[s]) hP.out.1 hP.out.2 ?_ ?_
   .exact aQ
   .simp only[CI];exact⟨_,rfl⟩
 .intro g G pre x post h1 _;have IZ:pre.length<us.length:=by rw[h1];simp
  have lt1:(pre.length:Int)<(us.length:Int):=by omega
  have w1:=am (n:=pre.length) (by omega);obtain⟨e,q1⟩:=unit17E (nm:=nm) hw hv c2 h1 hH.out.1 hH.out.2.1 hH.out.2.2.1;have q1:=q1.rw;have IW:ac (us=pre++x::post):=⟨h1⟩;clear h1 IZ;simp only[aj,aq,ah,an,UC,UD];repeat' (first|refine dn ?_|refine ad rfl ?_|(refine dI fun A B a b=>?_;simp only[go_sem, *,au hv,zk];(repeat' first|apply a.1|apply b.1|refine aV (fun h=>?_) fun h=>?_)<;>clear a b A B))
  all_goals exact vP
end
section
attribute [local irreducible] bB cX cZ aB bS dE
structure Lg where
 sgv:AV
 sg:List Sg
 onm:ByteArray
 uv:AV
 us:List Un
 lv:AV
 ls:List (AV×List ByteArray)
 rv:AV
 rs:List Rw
 nst:Int
 pv:AV
 ps:List Sp
 fv:AV
 fs:List Int
 xv:AV
 xs:List En
def fU(g:Lg):List AV:=[g.sgv,.str g.onm,g.uv,g.lv,g.rv,.int .i64 g.nst,g.pv,g.fv,g.xv]
attribute [local go_sem] fU
structure Lg.ok (g:Lg):Prop where
 sg:bq 2 (g.sg.map encS) g.sgv
 u:bq 2 (g.us.map nQ) g.uv
 uo:∀u∈g.us,u.ok
 l:bq 1 (g.ls.map fun x=>[x.1]) g.lv
 lo:∀x∈g.ls,bq 1 (strs x.2) x.1
 r:bq 6 (g.rs.map ge) g.rv
 ro:∀r∈g.rs,r.ok
 p:bq 3 (g.ps.map wx) g.pv
 f:bq 1 (az g.fs) g.fv
 x:bq 8 (g.xs.map aG) g.xv
 xo:∀e∈g.xs,e.ok
structure Lg.few (g:Lg):Prop where
 sn:∀x∈g.sg,x.name.size<=1048576
 o:g.onm.size<=1048576
 u:g.us.length<=1048576
 uo:∀u∈g.us,u.few
 l:g.ls.length<=1048576
 lo:∀x∈g.ls,x.2.length<=1048576/\∀s∈x.2,s.size<=1048576
 r:g.rs.length<=1048576
 ro:∀r∈g.rs,r.few
 p:g.ps.length<=1048576
 f:g.fs.length<=1048576
 x:g.xs.length<=1048576
 xo:∀e∈g.xs,e.few
structure qj (g:Lg):Prop where
 sg:g.sg.length<=60
 ru:∀r∈g.rs,r.tl.length=r.fl.length/\r.ll.length<=2/\r.rl.length<=2
 net:wH g.nst g.ps g.fs
 lex:LexOK g.sg.length g.xs
def Lg.ok.cells{g:Lg}(h:g.ok):g.sgv.cell=true/\g.uv.cell=true/\g.lv.cell=true/\g.rv.cell=true/\g.pv.cell=true/\g.fv.cell=true/\g.xv.cell=true:=⟨h.sg.cell,h.u.cell,h.l.cell,h.r.cell,h.p.cell,h.f.cell,h.x.cell⟩
def Lg.ok.snaps{g:Lg}(h:g.ok):(∀S,snap S g.sgv=some g.sgv)/\(∀S,snap S g.uv=some g.uv)/\(∀S,snap S g.lv=some g.lv)/\(∀S,snap S g.rv=some g.rv)/\(∀S,snap S g.pv=some g.pv)/\(∀S,snap S g.fv=some g.fv)/\(∀S,snap S g.xv=some g.xv):=⟨h.sg.snap,h.u.snap,h.l.snap,h.r.snap,h.p.snap,h.f.snap,h.x.snap⟩
def rules29E{g:Lg}(h:g.ok)(hf:g.few):∃x,(x=0->∀r∈g.rs,r.tl.length=r.fl.length/\r.ll.length<=2/\r.rl.length<=2)/\aB CX 45 [.agg (fU g)] (· = .int .i64 x):=by
 refine aB.int ?_;obtain⟨c1,c2,c3,c4,c5,c6,c7⟩:=h.cells;have s1:=h.sg.snap;have hr:=h.r;have hsg:=h.sg;have J5:=hf.r;have q:ac (∀r∈g.rs,r.ok/\∃x,(x=0->r.tl.length=r.fl.length/\r.ll.length<=2/\r.rl.length<=2)/\aB CX 89 [.agg [g.sgv],.agg (ge r)] (· = .int .i64 x)):=⟨fun r hr=>⟨h.ro r hr,check22E h.sg (h.ro r hr) (hf.ro r hr)⟩⟩;clear h hf;by_cases k1:(12:Int)<(g.rs.length:Int)
 .refine aL fx45 ?_;exact fm (lk hr)
 refine aL fx45 ?_;refine b8 (lk hr) ?_;refine aF [2,4,9,10,11,12,13,14,15,16,17,18,19,20,21,22,23,24,25,26] 3 g.rs (fun pre _=> ∀r∈pre,r.tl.length=r.fl.length/\r.ll.length<=2/\r.rl.length<=2) ?_ ?_ ?_ ?_
 .intro r h;cases h
 .exact aQ
 .intro g2 G hP;have Jz:ac (∀r∈g.rs,r.tl.length=r.fl.length/\r.ll.length<=2/\r.rl.length<=2):=⟨hP⟩;clear hP;exact fm (lk hr)
 .intro g2 G pre x post h1 hP;have IZ:pre.length<g.rs.length:=by rw[h1];simp
  have lt1:(pre.length:Int)<(g.rs.length:Int):=by omega
  have w1:=am (n:=pre.length) (by omega);have i1:=ay hr (X:=CX) ty29 ty120 rfl (n:=pre.length) (row:=ge x) (k := .i64) (by rw[h1];simp);obtain⟨hx,e,he,q1⟩:=q.out x (by rw[h1];simp);obtain⟨d1,d2,d3,d4⟩:=hx.cells;have t1:=hx.f.snap;have t2:=hx.t.snap;have t3:=hx.l.snap;have t4:=hx.q.snap;have q1:=q1.rw;have IW:ac (g.rs=pre++x::post):=⟨h1⟩
  have Jz:ac (e=0->∀r∈pre++[x],r.tl.length=r.fl.length/\r.ll.length<=2/\r.rl.length<=2):=⟨fun h r hr=>by
   rcases UU.1 hr with k|k
   .exact hP r k
   .simp at k;subst k;exact he h⟩
  simp only[ge]at i1 q1;clear h1 IZ hx he hP;by_cases k2:e=0
  .subst k2;have Jz:=Jz.out rfl;have Jz:ac (∀r∈pre++[x],r.tl.length=r.fl.length/\r.ll.length<=2/\r.rl.length<=2):=⟨Jz⟩;refine b8 (lk hr) ?_;refine aA IW.out Jz.out ?_ ?_
   .exact aQ
   .exact dk
  .refine b8 (lk hr) ?_;simp only[go_sem];exact⟨_,rfl,fun h=>absurd h k2⟩
def GT{g:Lg}(h:g.ok)(hf:g.few):∃x,(x=0->qj g)/\aB CX 19 [.agg (fU g)] (· = .int .i64 x):=by
 refine aB.int ?_;obtain⟨c1,c2,c3,c4,c5,c6,c7⟩:=h.cells;obtain⟨s1,s2,s3,s4,s5,s6,s7⟩:=h.snaps;have q1:=(checkSR g.sgv g.sg h.sg hf.sn).rw;obtain⟨e2,q2⟩:=ortho17E (nm:=g.onm) h.sg h.u h.l h.uo hf.uo hf.u hf.o hf.l (fun x hx=>⟨h.lo x hx,hf.lo x hx⟩);obtain⟨e3,f3,q3⟩:=rules29E h hf;obtain⟨e4,f4,q4⟩:=netE g.nst h.p h.f (Vu hf.p (by decide)) (Vu hf.f (by decide));obtain⟨e5,f5,q5⟩:=lexE h.sg h.x h.xo hf.xo (Vu hf.x (by decide));obtain⟨e7,q7⟩:=check27E h.x hf.x;have f1:ac (D9 g.sg=0->g.sg.length<=60):=⟨fun h=>by unfold D9 at h;split at h;assumption;cases h⟩;have f6:ac (g.xs.length<=100->∃x,aB CX 48 [g.xv] (· = .int .i64 x)):=⟨check26E h.x h.xo hf.xo⟩;have q2:=q2.rw;have q3:=q3.rw;have q4:=q4.rw;have q5:=q5.rw;have q7:=q7.rw;generalize D9 g.sg=e1 at*;simp only[fU]at q3;have f3:ac _:=⟨f3⟩;have f4:ac _:=⟨f4⟩;have f5:ac _:=⟨f5⟩;clear h hf;by_cases k1:e1=0
 case neg=>
  refine aL fx19 ?_;refine wk ?_;simp only[go_sem];exact⟨_,rfl,fun h=>absurd h k1⟩
 have g1:=f1.out k1;subst k1;by_cases k2:e2=0
 case neg=>
  clear g1;refine aL fx19 ?_;refine wk ?_;simp only[go_sem];exact⟨_,rfl,fun h=>absurd h k2⟩
 subst k2;by_cases k3:e3=0
 case neg=>
  clear g1;refine aL fx19 ?_;refine wk ?_;simp only[go_sem];exact⟨_,rfl,fun h=>absurd h k3⟩
 have g3:=f3.out k3;subst k3;by_cases k4:e4=0
 case neg=>
  clear g1 g3;refine aL fx19 ?_;refine wk ?_;simp only[go_sem];exact⟨_,rfl,fun h=>absurd h k4⟩
 have g4:=f4.out k4;subst k4;by_cases k5:e5=0
 case neg=>
  clear g1 g3 g4;refine aL fx19 ?_;refine wk ?_;simp only[go_sem];exact⟨_,rfl,fun h=>absurd h k5⟩
 have g5:=f5.out k5;subst k5;obtain⟨e6,q6⟩:=f6.out g5.few;have q6:=q6.rw;have hR:ac (qj g):=⟨⟨g1,g3,g4,g5⟩⟩;clear g1 g3 g4 g5 f6;refine aL fx19 ?_;simp only[UB,UE,UF,UH,Nat.reduceAdd,Nat.reduceSub,List.replicate];repeat' (first|refine dn ?_|refine ad rfl ?_|(refine dI fun A B a b=>?_;simp only[go_sem, *];(repeat' first|apply a.1|apply b.1|refine aV (fun h=>?_) fun h=>?_)<;>clear a b A B))
 all_goals (simp only[go_sem];exact⟨_,rfl,fun _=>hR.out⟩)
end
section
attribute [local irreducible] bB cX cZ aB bS dE
attribute [local go_sem] bi and_self
abbrev Pt3:=Int×Int×Int
def kY(x:Pt3):List AV:=[.int .i64 x.1,.int .i64 x.2.1,.int .i64 x.2.2]
structure De where
 rc:Int
 no:Int
 ye:Bool
 pv:AV
 pl:List Pt3
def dS(d:De):List AV:=[.int .i64 d.rc,.int .i64 d.no,.bool d.ye,d.pv]
structure De.ok (d:De):Prop where
 p:bq 3 (d.pl.map kY) d.pv
 pt:d.pv.stab=true
def beforeE(a b:Pt3):∃r,aB CX 161 [.agg (kY a),.agg (kY b)] (· = .bool r):=by
 refine aB.boo0 ?_;refine aL fx161 ?_;simp only[UB,UE,UF,UH,Nat.reduceAdd,Nat.reduceSub,List.replicate];repeat' (first|refine dn ?_|refine ad rfl ?_|(refine dI fun A B a b=>?_;simp only[go_sem, *,kY];(repeat' first|apply a.1|apply b.1|refine aV (fun h=>?_) fun h=>?_)<;>clear a b A B))
 all_goals (simp only[go_sem];exact⟨_,rfl⟩)
theorem lessPE{a b:AV}{l m:List Pt3}(ha:bq 3 (l.map kY) a)(hb:bq 3 (m.map kY) b)(hl:l.length<=1048576):∃r,aB CX 109 [.agg [a],.agg [b]] (· = .bool r):=by
 refine aB.boo0 ?_;have c1:=ha.cell;have c2:=hb.cell;have qb:ac (∀a b,∃r,aB CX 161 [.agg (kY a),.agg (kY b)] (· = .bool r)):=⟨beforeE⟩;refine aL fx109 ?_;refine wk ?_;refine iC [4,6,7,8,9,10,11,12,13,14,15,16,17,18,19,20,21,22,23,24,25,26,27,28,29,30,31,32,33,34,35,36,37,38,39,40,41] (fun k:Nat=>[(5,.int .i64 (k:Int))]) (fun k=>k<=l.length) (fun k=>l.length-k) 0 (U9 _) ?_ ?_
 .exact aQ
 intro k g H hk;replace hk:k<=l.length:=hk;by_cases k1:(k:Int)<(l.length:Int)
 case neg=>
  clear hk;refine pz (lk ha) (lk hb) ?_;all_goals (simp only[go_sem];exact⟨_,rfl⟩)
 by_cases k2:(k:Int)<(m.length:Int)
 case neg=>
  clear hk;refine pz (lk ha) (lk hb) ?_;all_goals (simp only[go_sem];exact⟨_,rfl⟩)
 obtain⟨x,hx⟩:∃x,l[k]? = some x:=⟨_,UL (by omega)⟩;obtain⟨y,hy⟩:∃y,m[k]? = some y:=⟨_,UL (by omega)⟩;have i1:=ay ha (X:=CX) ty107 ty164 rfl (n:=k) (row:=kY x) (k := .i64) (by simp[hx]);have i2:=ay hb (X:=CX) ty107 ty164 rfl (n:=k) (row:=kY y) (k := .i64) (by simp[hy]);obtain⟨r,q1⟩:=qb.out x y;have q1:=q1.rw;have w1:=am (n:=k) (by omega);have hm:ac (l.length-(k+1)<l.length-k/\k+1<=l.length):=⟨by omega⟩;simp only[kY]at i1 i2 q1;clear hk hx hy;simp only[aj,aq,ah,an,UC,UD];repeat' (first|refine dn ?_|refine ad rfl ?_|(refine dI fun A B a b=>?_;simp only[go_sem, *,au ha,au hb,k1,k2];(repeat' first|apply a.1|apply b.1|refine aV (fun h=>?_) fun h=>?_)<;>clear a b A B))
 all_goals
  first
  |(refine gG (k+1) hm.out.1 hm.out.2 ?_ ?_;(· exact aQ);(· exact dk))
  |(simp only[go_sem];exact⟨_,rfl⟩)
def lessDE{a b:De}(ha:a.ok)(hb:b.ok)(hl:a.pl.length<=1048576):∃r,aB CX 54 [.agg (dS a),.agg (dS b)] (· = .bool r):=by
 refine aB.boo0 ?_;have c1:=ha.p.cell;have c2:=hb.p.cell;have s1:=ha.p.snap;have s2:=hb.p.snap;obtain⟨r,q1⟩:=lessPE ha.p hb.p hl;have q1:=q1.rw;clear ha hb;refine aL fx54 ?_;simp only[UB,UE,UF,UH,Nat.reduceAdd,Nat.reduceSub,List.replicate];repeat' (first|refine dn ?_|refine ad rfl ?_|(refine dI fun A B a b=>?_;simp only[go_sem, *,dS];(repeat' first|apply a.1|apply b.1|refine aV (fun h=>?_) fun h=>?_)<;>clear a b A B))
 all_goals (simp only[go_sem];exact⟨_,rfl⟩)
def noDe:De:=⟨0,0,false,dw,[]⟩
theorem check31E{v:AV}{l:List De}(hv:bq 4 (l.map dS) v)(hok:∀d∈l,d.ok)(hf:∀d∈l,d.pl.length<=1048576)(hl:l.length<=1048576):∃x,aB CX 21 [v] (· = .int .i64 x):=by
 refine aB.int0 ?_;have qi:ac (∀n Q,aB CX 53 [.int .i64 n] Q=Q (.bool (jA n))):=⟨fun n=>(kR n).rw⟩;have hH:ac ((∀d∈l,d.ok)/\(∀d∈l,d.pl.length<=1048576)/\l.length<=1048576):=⟨hok,hf,hl⟩;clear hok hf;refine aL fx21 ?_;refine b8 (lk hv) ?_;refine aF [2,3,4,5,9,10,11,12,13,14,15,16,17,18,19,20,21,22,23,24,25,26,27,28,29,30,31,32,33,34,35,36,37,38,39,40,41,42,43,44,45,46,47,48,49,50,51,52,53,54,55,56,57,58,59,60,61,62,63,64,65,66,67,68,69,70,71,72,73] 8 l (fun _ _=>True) ?_ ?_ ?_ ?_
 .trivial
 .exact aQ
 .intro g G _;exact fm (lk hv)
 .intro g G pre x post h1 _;have IZ:pre.length<l.length:=by rw[h1];simp
  have lt1:(pre.length:Int)<(l.length:Int):=by omega
  have w1:=am (n:=pre.length) (by omega);have i1:=ay hv (X:=CX) ty38 ty111 rfl (n:=pre.length) (row:=dS x) (k := .i64) (by rw[h1];simp);have i0:(0:Int)<(pre.length:Int)->aD CX 38 v (.int .i64 (IntKind.wrap .i64 ((pre.length:Int)-1)))=some (.tptr (jW v) (dS (pre.getLastD noDe)) 0):=fun h0=>hG (f:=dS) (h1 ▸ hv) (by rw[<-h1];omega) ty38 ty111 rfl noDe h0;have hx:=hH.out.1 x (by rw[h1];simp);have PV:=hx.p;have cx:=hx.p.cell;have sx:=hx.p.snap;have q1:=qi.out x.rc;have q2:=qi.out x.no
  have Np:(0:Int)<(pre.length:Int)->pre.getLastD noDe∈l:=fun h0=>by
   rcases fA pre with rfl|⟨p,z,rfl⟩
   .simp at h0
   .rw[h1];simp
  have IW:ac (l=pre++x::post):=⟨h1⟩;have Pu:ac x.ok:=⟨hx⟩;generalize pre.getLastD noDe=z at*;simp only[dS]at i1 i0;clear h1 IZ hx;cases hye:x.ye
  all_goals
   generalize jA x.rc=b1 at*;generalize jA x.no=b2 at*;cases b1 with
   | false=>
    clear i0 Np;exact fm (lk hv)
   | true=>
   cases b2 with
   | false=>
    clear i0 Np;exact fm (lk hv)
   | true=>
   by_cases k1:(x.pl.length:Int)=0
   .clear i0 Np;exact IS (lk hv) (lk PV)
   by_cases k2:(4:Int)<(x.pl.length:Int)
   .clear i0 Np;exact IS (lk hv) (lk PV)
   have fin:∀(A:AV->List dY),True:=fun _=>trivial;by_cases h0:(0:Int)<(pre.length:Int)
   .have i0:=i0 h0;have hz:=Np h0;have Rm:=hH.out.1 z hz;have cz:=Rm.p.cell;have sz:=Rm.p.snap;obtain⟨b3,q3⟩:=lessDE Rm Pu.out (hH.out.2.1 z hz);have q3:=q3.rw;simp only[dS,hye]at q3;clear hz Rm Np fin;cases b3 with
    | false=>
     exact IS (lk hv) (lk PV)
    | true=>
    refine pz (lk hv) (lk PV) ?_;refine iC [2,49,50,51,52,53,54,55,56,57,58,59,60,61,62,63,64,65,66,67,68,69,70,71,72] (fun k:Nat=>[(5,.int .i64 (k:Int))]) (fun k=>k<=pre.length) (fun k=>pre.length-k) 0 (U9 _) ?_ ?_
    .exact aQ
    intro k g2 H hk;replace hk:k<=pre.length:=hk;by_cases JY:k<pre.length
    .have lt2:(k:Int)<(pre.length:Int):=by omega
     have w2:=am (n:=k) (by omega);obtain⟨y,hy⟩:∃y,pre[k]? = some y:=⟨_,UL JY⟩;have MN:y∈l:=by rw[IW.out];exact V5 _ (Vs hy)
     have i2:=ay hv (X:=CX) ty38 ty111 rfl (n:=k) (row:=dS y) (k := .i64) (by rw[IW.out,Vv,UN (by simpa using JY),Vc,hy];rfl);have cy:=(hH.out.1 y MN).p.cell;simp only[dS]at i2;have hm:ac (pre.length-(k+1)<pre.length-k/\k+1<=pre.length):=⟨by omega⟩;clear hk JY hy MN;simp only[aj,aq,ah,an,UC,UD];repeat' (first|refine dn ?_|refine ad rfl ?_|(refine dI fun A B a b=>?_;simp only[go_sem, *,au hv];(repeat' first|apply a.1|apply b.1|refine aV (fun h=>?_) fun h=>?_)<;>clear a b A B))
     all_goals
      first
      |(refine gG (k+1) hm.out.1 hm.out.2 ?_ ?_;(· exact aQ);(· exact dk))
      |(simp only[go_sem];exact⟨_,rfl⟩)
    .have MD:¬(k:Int)<(pre.length:Int):=by omega
     clear hk JY;refine b8 (lk hv) ?_;exact vP
   .have Rz:ac ((pre.length:Int)=0):=⟨by omega⟩;clear i0 Np fin;refine pz (lk hv) (lk PV) ?_;refine iC [2,49,50,51,52,53,54,55,56,57,58,59,60,61,62,63,64,65,66,67,68,69,70,71,72] (fun k:Nat=>[(5,.int .i64 (k:Int))]) (fun k=>k=0) (fun k=>0) 0 rfl ?_ ?_
    .exact aQ
    intro k g2 H hk;replace hk:k=0:=hk;subst hk;have MD:¬((0:Nat):Int)<(pre.length:Int):=by have:=Rz.out;omega
    refine b8 (lk hv) ?_;exact vP
end
section
attribute [local irreducible] bB cX cZ aB bS dE
attribute [local go_sem] bi and_self
structure Po where
 id:Int
 ti:ByteArray
 tx:ByteArray
 ev:AV
 el:List Int
 rv:AV
 rl:List Rf
def nR(p:Po):List AV:=[.int .i64 p.id,.str p.ti,.str p.tx,p.ev,p.rv]
attribute [local go_sem] nR
structure Po.ok (p:Po):Prop where
 e:bq 1 (az p.el) p.ev
 et:p.ev.stab=true
 r:bq 2 (p.rl.map cK) p.rv
 rt:p.rv.stab=true
structure Po.few (p:Po):Prop where
 ti:p.ti.size<=1048576
 tx:p.tx.size<=1048576
 e:p.el.length<=1048576
 r:p.rl.length<=1048576
def zm{s:ByteArray}:(AV.str s).cells = [.str s]:=rfl
attribute [local go_sem] zm
theorem point47E{v:AV}{l:List En}{p:Po}(hv:bq 8 (l.map aG) v)(hok:∀e∈l,e.ok)(hl:l.length<=1048576)(h:p.ok)(hf:p.few):∃x,aB CX 55 [v,.agg (nR p)] (· = .int .i64 x):=by
 refine aB.int0 ?_;have c1:=h.e.cell;have c2:=h.r.cell;have s1:=h.e.snap;have s2:=h.r.snap;have sv:=hv.snap;have he:=h.e;have hr:=h.r;have q1:=(yz p.ti hf.ti).rw;obtain⟨e2,_,q2⟩:=textR p.tx (UQ hf.tx (by decide));have q2:=q2.rw;have q3:=(up1 p.ev p.el h.e (Vu hf.e (by decide))).rw;obtain⟨e4,q4⟩:=refsE 12 h.r (Vu hf.r (by decide));have q4:=q4.rw;have qg:ac (∀n Q,aB CX 8 [v,.int .i64 n] Q=Q (jM (fc l n))):=⟨fun n=>(FF n hv hok (by omega)).rw⟩;have hH:ac (p.el.length<=1048576/\∀e∈l,e.ok):=⟨hf.e,hok⟩;generalize yA p.ti.data.toList=b1 at*;generalize Hx p.el=b3 at*;clear h hf hok;cases b1 with
 | false=>
  refine aL fx55 ?_;exact wf
 | true=>
 by_cases k2:e2=0
 case neg=>
  refine aL fx55 ?_;exact wf
 subst k2;cases b3 with
 | false=>
  refine aL fx55 ?_;exact wf
 | true=>
 refine aL fx55 ?_;refine b8 (lk he) ?_;refine aF [4,7,8,23,24,25,26,27,28,29,30,31,32,33,34,35,36,37,38,39,40,41] 6 p.el (fun _ _=>True) ?_ ?_ ?_ ?_
 .trivial
 .exact aQ
 .intro g G _;simp only[aj,aq,ah,an,UC,UD];repeat' (first|refine dn ?_|refine ad rfl ?_|(refine dI fun A B a b=>?_;simp only[go_sem, *,au he,au hr];(repeat' first|apply a.1|apply b.1|refine aV (fun h=>?_) fun h=>?_)<;>clear a b A B))
  all_goals (simp only[go_sem];exact⟨_,rfl⟩)
 .intro g G pre x post h1 _;have IZ:pre.length<p.el.length:=by rw[h1];simp
  have lt1:(pre.length:Int)<(p.el.length:Int):=by omega
  have w1:=am (n:=pre.length) (by have:=hH.out.1;omega);have i1:=ay he (X:=CX) ty31 ty3 rfl (n:=pre.length) (row:=[.int .i64 x]) (k := .i64) (by rw[h1];simp[az]);have qx:=qg.out x;have IW:ac (p.el=pre++x::post):=⟨h1⟩;clear h1 IZ;cases hg:fc l x with
  | none=>
   rw[hg,jM]at qx;simp only[zEn,dw]at qx;clear hg;simp only[aj,aq,ah,an,UC,UD];repeat' (first|refine dn ?_|refine ad rfl ?_|(refine dI fun A B a b=>?_;simp only[go_sem, *,au he,bC,bp];(repeat' first|apply a.1|apply b.1|refine aV (fun h=>?_) fun h=>?_)<;>clear a b A B))
   all_goals exact vP
  | some e=>
   obtain⟨d1,d2,d3,d4,d5⟩:=(hH.out.2 e (yJ hg).1).cells;rw[hg,jM]at qx;simp only[aG]at qx;clear hg;simp only[aj,aq,ah,an,UC,UD];repeat' (first|refine dn ?_|refine ad rfl ?_|(refine dI fun A B a b=>?_;simp only[go_sem, *,au he,bC,bp];(repeat' first|apply a.1|apply b.1|refine aV (fun h=>?_) fun h=>?_)<;>clear a b A B))
   all_goals exact vP
def noPo:Po:=⟨0,.empty,.empty,dw,[],dw,[]⟩
def HT{v w:AV}{l:List En}{ps:List Po}(hv:bq 8 (l.map aG) v)(hok:∀e∈l,e.ok)(hl:l.length<=1048576)(hw:bq 5 (ps.map nR) w)(hp:∀p∈ps,p.ok)(hf:∀p∈ps,p.few)(IZ:ps.length<=1048576):∃x,aB CX 22 [v,w] (· = .int .i64 x):=by
 refine aB.int0 ?_;have sv:=hv.snap;have qi:ac (∀n Q,aB CX 53 [.int .i64 n] Q=Q (.bool (jA n))):=⟨fun n=>(kR n).rw⟩;have qp:ac (∀p∈ps,p.ok/\∃x,aB CX 55 [v,.agg (nR p)] (· = .int .i64 x)):=⟨fun p h=>⟨hp p h,point47E hv hok hl (hp p h) (hf p h)⟩⟩;clear hp hf hok;by_cases k1:(40:Int)<(ps.length:Int)
 .refine aL fx22 ?_;exact fm (lk hw)
 refine aL fx22 ?_;refine b8 (lk hw) ?_;refine aF [4,6,10,11,12,13,14,15,16,17,18,19,20,21,22,23,24,25,26,27,28,29,30,31,32,33,34,35,36,37,38,39,40,41,42,43,44,45,46,47] 5 ps (fun _ _=>True) ?_ ?_ ?_ ?_
 .trivial
 .exact aQ
 .intro g G _;exact fm (lk hw)
 .intro g G pre x post h1 _;have IZ:pre.length<ps.length:=by rw[h1];simp
  have lt1:(pre.length:Int)<(ps.length:Int):=by omega
  have w1:=am (n:=pre.length) (by omega);have i1:=ay hw (X:=CX) ty39 ty114 rfl (n:=pre.length) (row:=nR x) (k := .i64) (by rw[h1];simp);have i0:(0:Int)<(pre.length:Int)->aD CX 39 w (.int .i64 (IntKind.wrap .i64 ((pre.length:Int)-1)))=some (.tptr (jW w) (nR (pre.getLastD noPo)) 0):=fun h0=>hG (f:=nR) (h1 ▸ hw) (by rw[<-h1];omega) ty39 ty114 rfl noPo h0;have q1:=qi.out x.id;obtain⟨hx,e,q2⟩:=qp.out x (by rw[h1];simp);have q2:=q2.rw;have c1:=hx.e.cell;have c2:=hx.r.cell;have s1:=hx.e.snap;have s2:=hx.r.snap;have IW:ac (ps=pre++x::post):=⟨h1⟩;generalize pre.getLastD noPo=z at*;simp only[nR]at i1 i0 q2;generalize jA x.id=b1 at*;clear h1 IZ hx;by_cases h0:(0:Int)<(pre.length:Int)
  .have i0:=i0 h0;simp only[aj,aq,ah,an,UC,UD];repeat' (first|refine dn ?_|refine ad rfl ?_|(refine dI fun A B a b=>?_;simp only[go_sem, *,au hw];(repeat' first|apply a.1|apply b.1|refine aV (fun h=>?_) fun h=>?_)<;>clear a b A B))
   all_goals exact vP
  .clear i0;simp only[aj,aq,ah,an,UC,UD];repeat' (first|refine dn ?_|refine ad rfl ?_|(refine dI fun A B a b=>?_;simp only[go_sem, *,au hw];(repeat' first|apply a.1|apply b.1|refine aV (fun h=>?_) fun h=>?_)<;>clear a b A B))
   all_goals exact vP
end
section
variable {l:List Nt}{v:AV}
attribute [local irreducible] bB cX cZ aB bS dE
attribute [local go_sem] U1 Vj List.replicate UC Vp Nat.reduceMul Vg eF d9 bP bt ci bN cM ba aY aS aM aX and_self ck aZ Fo.spans_len
set_option maxRecDepth 20000
def HF(l:List Nt)(x:Nt)(ti pa:Int):lr (l++[x]) ti pa=lr l ti pa++(if (x.ti == ti && x.pa == pa)=true then [x] else []):=by
 unfold lr;rw[Va];congr 1;simp only[Vy,WX]
def CR(l:List Nt)(ti pa:Int):(lr l ti pa).length<=l.length:=U0 _ _
theorem sibE{d:Dc}{ts:List Ti}{ns:List Nt}(ti pa:Int)(hd:d.ok ts ns)(hl:ns.length<=1000):aB CX 103 [.agg (ck d),.int .i64 ti,.int .i64 pa] (· = .osl 7 ((lr ns ti pa).map aZ)):=by
 have c1:=hd.nc;have c2:=hd.tc;have c3:=hd.sc;have p1:=hd.p1;have p2:=hd.p2;have p3:=hd.p3;have hn:=hd.n;refine aL fx103 ?_;refine wk ?_;refine aJ [10,11,12,13,14,15,16,17,18,19,20,21,22,23,24,25,26,27,28,29,30,31,32,33,34,35,36,37,38,39,40,41,42] (fun p:List Nt×List Nt=>[(7,.sl 2 (lr p.1 ti pa).length 0 (lr p.1 ti pa).length 7),(8,.int .i64 (p.1.length:Int))]) (fun p G=> .arr [ck d] 7 0 true :: .arr [] 7 0 true :: .arr ((lr p.1 ti pa).map aZ) 7 0 true::G) (fun p=>ns=p.1++p.2) (fun p=>p.2.length) ([],ns) rfl ?_ ⟨[],rfl⟩ ?_
 .exact aQ
 rintro⟨pre,post⟩ g G h1;replace h1:ns=pre++post:=h1;cases post with
 | nil=>
  rw[UM]at h1;subst h1;obtain⟨L,hL⟩:∃L,lr ns ti pa=L:=⟨_,rfl⟩;simp only[hL];clear hL;exact fm (lk hn)
 | cons x post=>
  have IZ:pre.length<ns.length:=by rw[h1];simp
  have lt1:(pre.length:Int)<(ns.length:Int):=by omega
  have w1:=am (n:=pre.length) (by omega);have i1:=ay hn (X:=CX) ty72 ty78 rfl (n:=pre.length) (row:=aZ x) (k := .i64) (by rw[h1];exact fp aZ pre x post);have IW:ac (ns=(pre++[x])++post):=⟨by rw[h1];simp⟩;have hs:=HF pre x ti pa;have NY:=CR pre ti pa;obtain⟨L,hL⟩:∃L,lr pre ti pa=L:=⟨_,rfl⟩;rw[hL]at hs NY;simp only[hL];have b1:(L.length+1)*64<=140737488355328:=by omega
  have b2:L.length+1<=140737488355328:=by omega
  clear h1 IZ hL NY;cases k1:(x.ti == ti) with
  | false=>
   rw[k1,VM,if_neg (by simp),UM]at hs;have Ke:ac (lr (pre++[x]) ti pa=L):=⟨hs⟩;clear hs;refine b8 (lk hn) ?_;refine ax (pre++[x],post) (UV _) IW.out ?_ ?_
   ·((try simp only[bh,bJ,ah,an,UC,UD]);all_goals (first|rfl|(simp only[aH,aC,UI,Ke.out];done)|(simp only[aH,aR,aC,UI,UG,UB,UE,UW,Ke.out];first|done|rfl)))
   .rw[Ke.out];exact⟨_,rfl⟩
  | true=>
   cases k2:(x.pa == pa) with
   | false=>
    rw[k1,k2,WF,if_neg (by simp),UM]at hs;have Ke:ac (lr (pre++[x]) ti pa=L):=⟨hs⟩;clear hs;refine b8 (lk hn) ?_;refine ax (pre++[x],post) (UV _) IW.out ?_ ?_
    ·((try simp only[bh,bJ,ah,an,UC,UD]);all_goals (first|rfl|(simp only[aH,aC,UI,Ke.out];done)|(simp only[aH,aR,aC,UI,UG,UB,UE,UW,Ke.out];first|done|rfl)))
    .rw[Ke.out];exact⟨_,rfl⟩
   | true=>
    rw[k1,k2,WC,if_pos rfl]at hs;have Ke:ac (lr (pre++[x]) ti pa=L++[x]):=⟨hs⟩;clear hs;refine b8 (lk hn) ?_;refine ax (pre++[x],post) (UV _) IW.out ?_ ?_
    ·((try simp only[bh,bJ,ah,an,UC,UD]);all_goals (first|rfl|(simp only[aH,aC,UI,Ke.out];done)|(simp only[aH,aR,aC,UI,UG,UB,UE,UW,Ke.out];first|done|rfl)))
    .rw[Ke.out,Vv];exact⟨_,rfl⟩
theorem spansE(hv:bq 7 (l.map aZ) v)(hl:l.length<=1000):aB CX 107 [v] (· = .osl 2 (Fo.spans (l.map fun n=>(n.fr,n.en)))):=by
 have c1:=hv.cell;refine aL fx107 ?_;refine wk ?_;refine aJ [6,7,8,9,10,11,12,13,14,15,16,17,18,19] (fun p:List Nt×List Nt=>[(3,.sl 1 p.1.length 0 p.1.length 2),(4,.int .i64 (p.1.length:Int))]) (fun p G=> .arr [] 2 0 true :: .arr (Fo.spans (p.1.map fun n=>(n.fr,n.en))) 2 0 true::G) (fun p=>l=p.1++p.2) (fun p=>p.2.length) ([],l) rfl ?_ ⟨[],rfl⟩ ?_
 .exact aQ
 rintro⟨pre,post⟩ g G h1;replace h1:l=pre++post:=h1;cases post with
 | nil=>
  rw[UM]at h1;subst h1;exact fm (lk hv)
 | cons x post=>
  have IZ:pre.length<l.length:=by rw[h1];simp
  have lt1:(pre.length:Int)<(l.length:Int):=by omega
  have w1:=am (n:=pre.length) (by omega);have i1:=ay hv (X:=CX) ty72 ty78 rfl (n:=pre.length) (row:=aZ x) (k := .i64) (by rw[h1];exact fp aZ pre x post);have IW:ac (l=(pre++[x])++post):=⟨by rw[h1];simp⟩;have b1:(pre.length+1)*16<=140737488355328:=by omega
  have b2:pre.length+1<=140737488355328:=by omega
  have hS:ac (Fo.spans ((pre++[x]).map fun n=>(n.fr,n.en))=Fo.spans (pre.map fun n=>(n.fr,n.en))++[[.int .i64 x.fr,.int .i64 x.en]]):=⟨by simp[Fo.spans,Fo.encE]⟩;clear h1 IZ;refine b8 (lk hv) ?_;refine ax (pre++[x],post) (UV _) IW.out ?_ ?_
  .exact aQ
  .rw[hS.out];exact⟨_,rfl⟩
def overlapE(hv:bq 7 (l.map aZ) v)(hl:l.length<=1000):∃b,(b=false->l.Pairwise jH)/\aB CX 105 [v] (· = .bool b):=by
 suffices h:aB CX 105 [v] (fun r=> ∃b,r = .bool b/\(b=false->l.Pairwise jH)) by
  obtain⟨r,⟨b,rfl,hb⟩,h⟩:=h.ex;exact⟨b,hb,h⟩
 refine aL fx105 ?_;refine wk ?_;refine aF [2,4,5,6,7,8,9,10,11,12,13,14,15,16,17,18,19,20,21,22,23,24,25,26,27,28,29,30,31,32,33,34,35,36,37,38,39,40,41,42,43] 3 l (fun pre _=>pre.Pairwise jH) ?_ ?_ ?_ ?_
 .exact .nil
 .exact aQ
 .intro g G hP;have Jz:ac (l.Pairwise jH):=⟨hP⟩;clear hP;exact fm (lk hv)
 .intro g G pre x post h1 hP;have Jz:ac (pre.Pairwise jH):=⟨hP⟩;have IZ:pre.length<l.length:=by rw[h1];simp
  have lt1:(pre.length:Int)<(l.length:Int):=by omega
  have w1:=am (n:=pre.length) (by omega);have i1:=ay hv (X:=CX) ty72 ty78 rfl (n:=pre.length) (row:=aZ x) (k := .i64) (by rw[h1];exact fp aZ pre x post);have IW:ac (l=pre++x::post):=⟨h1⟩;have JJ:ac (l.length<=1000):=⟨hl⟩;have hvH:ac (∀(a:List Nt) y b,pre=a++y::b->aD CX 72 v (.int .i64 a.length)=some (.tptr (jW v) (aZ y) 0)):=⟨fun a y b hab=>ay hv (X:=CX) ty72 ty78 rfl (by rw[h1,hab];simp)⟩;have Ll:ac (pre.length<1000):=⟨by omega⟩;clear h1 hP IZ hl;refine b8 (lk hv) ?_;refine aF [2,11,12,13,14,15,16,17,18,19,20,21,22,23,24,25,26,27,28,29,30,31,32,33,34,35,36,37,38,39,40,41,42,43] 4 pre (fun a _=> ∀y∈a,jH y x) ?_ ?_ ?_ ?_
  .intro y h;cases h
  .exact aQ
  .intro g2 G2 hA;have R6:ac (∀y∈pre,jH y x):=⟨hA⟩;clear hA;refine b8 (lk hv) ?_;refine aA IW.out ?_ ?_ ?_
   .rw[V6];exact⟨Jz.out,by simp,fun a ha b hb=>by simp at hb;subst hb;exact R6.out a ha⟩
   .exact aQ
   .exact dk
  .intro g2 G2 a y b h2 hA;have R6:ac (∀y∈a,jH y x):=⟨hA⟩;have K7:a.length<pre.length:=by rw[h2];simp
   have lt2:(a.length:Int)<(pre.length:Int):=by omega
   have w2:=am (n:=a.length) (by have:=Ll.out;omega);have i2:=hvH.out a y b h2;have I7:ac (pre=a++y::b):=⟨h2⟩;clear h2 hA K7;by_cases k1:x.fr<y.en
   .by_cases k2:y.fr<x.en
    .exact fm (lk hv)
    .have hx:ac (jH y x):=⟨fun h=>k2 h.1⟩;refine b8 (lk hv) ?_;refine aA I7.out ?_ ?_ ?_
     .intro z hz;rcases UU.1 hz with h|h
      .exact R6.out z h
      .simp at h;subst h;exact hx.out
     .exact aQ
     .exact dk
   .have hx:ac (jH y x):=⟨fun h=>k1 h.2⟩;refine b8 (lk hv) ?_;refine aA I7.out ?_ ?_ ?_
    .intro z hz;rcases UU.1 hz with h|h
     .exact R6.out z h
     .simp at h;subst h;exact hx.out
    .exact aQ
    .exact dk
theorem rankedE(hv:bq 7 (l.map aZ) v)(hl:l.length<=1000):∃b,(b=true->∀k:Nat,k<l.length->∃x∈l,x.rk=k)/\aB CX 108 [v] (· = .bool b):=by
 suffices h:aB CX 108 [v] (fun r=> ∃b,r = .bool b/\(b=true->∀k:Nat,k<l.length->∃x∈l,x.rk=k)) by
  obtain⟨r,⟨b,rfl,hb⟩,h⟩:=h.ex;exact⟨b,hb,h⟩
 have JJ:ac (l.length<=1000):=⟨hl⟩;clear hl;refine aL fx108 ?_;refine wk ?_;refine aF [2,4,5,6,7,8,9,10,11,12,13,14,15,16,17,18,19,20,21,22,23,24,25,26,27,28,29] 3 l (fun pre _=> ∀k:Nat,k<pre.length->∃x∈l,x.rk=k) ?_ ?_ ?_ ?_
 .intro k h;simp at h
 .exact aQ
 .intro g G hP;have Jz:ac (∀k:Nat,k<l.length->∃x∈l,x.rk=k):=⟨hP⟩;clear hP;exact fm (lk hv)
 .intro g G pre x post h1 hP;have Jz:ac (∀k:Nat,k<pre.length->∃x∈l,x.rk=k):=⟨hP⟩;have IZ:pre.length<l.length:=by rw[h1];simp
  have lt1:(pre.length:Int)<(l.length:Int):=by omega
  have w1:=am (n:=pre.length) (by have:=JJ.out;omega);have IW:ac (l=pre++x::post):=⟨h1⟩;clear h1 hP IZ;refine b8 (lk hv) ?_;refine uk [12,13,14,15,16,17,18,19,20,21,22,23,24,25,26,27] 5 (fun a=>[(4,.bool (a.any fun y=>y.rk == (pre.length:Int)))]) l (fun _ _=>True) trivial ?_ ?_ ?_
  .exact aQ
  .intro g2 G2 _;cases ka:(l.any fun y=>y.rk == (pre.length:Int)) with
   | false=>
    exact fm (lk hv)
   | true=>
    have hx:ac (∃y∈l,y.rk=(pre.length:Int)):=⟨by simpa using ka⟩;clear ka;refine b8 (lk hv) ?_;refine aA IW.out ?_ ?_ ?_
    .intro k hk;rw[UG]at hk;by_cases hkp:k<pre.length
     .exact Jz.out k hkp
     .have:k=pre.length:=by simp at hk;omega
      rw[this];exact hx.out
    .exact aQ
    .exact dk
  .intro g2 G2 a y b h2 _;have K7:a.length<l.length:=by rw[h2];simp
   have lt2:(a.length:Int)<(l.length:Int):=by omega
   have w2:=am (n:=a.length) (by have:=JJ.out;omega);have i2:=ay hv (X:=CX) ty72 ty78 rfl (n:=a.length) (row:=aZ y) (k := .i64) (by rw[h2];exact fp aZ a y b);have I7:ac (l=a++y::b):=⟨h2⟩;have hs:ac (((a++[y]).any fun y=>y.rk == (pre.length:Int))=((a.any fun y=>y.rk == (pre.length:Int)) || (y.rk == (pre.length:Int)))):=⟨by simp⟩;clear h2 K7;cases ka:(a.any fun y=>y.rk == (pre.length:Int)) with
   | true=>
    rw[ka,Wu]at hs;refine b8 (lk hv) ?_;refine aA I7.out trivial ?_ ?_
    ·((try simp only[bh,bJ,ah,an,UC,UD]);all_goals (first|rfl|(simp only[aH,aC,UI,hs.out];done)|(simp only[aH,aR,aC,UI,UG,UB,UE,UW,hs.out];first|done|rfl)))
    .exact dk
   | false=>
    rw[ka,V9]at hs;refine b8 (lk hv) ?_;refine aA I7.out trivial ?_ ?_
    ·((try simp only[bh,bJ,ah,an,UC,UD]);all_goals (first|rfl|(simp only[aH,aC,UI,hs.out];done)|(simp only[aH,aR,aC,UI,UG,UB,UE,UW,hs.out];first|done|rfl)))
    .exact dk
end
end Go.Eng
