/- The reference's lists of spans: Both, without, Minus, Covers, Total, Same. -/
import Derived.Test.YtkahfcmeeloikaaGreatDoorZ14
set_option linter.all false
set_option maxHeartbeats 4000000
namespace Go.Eng.Fo
open Go.Proofs
section
attribute [local irreducible] bB cX cZ aB bS dE
attribute [local go_sem] U1 Vj List.replicate UC Vp Nat.reduceMul Vg bi eF d9 bP bt ci bN cM ba aY aS aM aX and_self spans_len Fq Fl at_new Cg
set_option maxRecDepth 20000
def wo1_len(s x:El):(Gi s x).length<=2:=by
 unfold Gi;split<;>split<;>simp
theorem withoutR(v:AV)(l:List El)(s:El)(hv:bq 2 (spans l) v)(hl:l.length<=2000000):aB CX 137 [v,.agg (encE s)] (· = .osl 2 (spans (wo l s))):=by
 obtain⟨R,hR⟩:∃R,wo l s=R:=⟨_,rfl⟩;rw[hR];obtain⟨s1,s2⟩:=s;simp only[encE];refine aL fx137 ?_;refine Cy ?_
 refine aJ [7,8,10,11,12,13,14,15,16,17,18,19,20,21,22,23,24,25,26,27,28,29,30,31,32,33,34,35,36,37,38,39,40,41,42,43,44,45,46,47,48,49,50,51,52,53,54,55] (fun p:List El×List El×List El×Nat×ab=>[(5,.sl 2 p.2.2.1.length 0 p.2.2.1.length 2),(6,.int .i64 p.1.length)]) (fun p _=>p.2.2.2.2)
  (fun p=>l=p.1++p.2.1/\p.2.2.2.2[0]? = some (.arr [[.int .i64 s1,.int .i64 s2]] 2 0 true)/\p.2.2.2.2[2]? = some (.arr (spans p.2.2.1) 2 p.2.2.2.1 true)/\p.2.2.2.1<=p.2.2.1.length/\p.2.2.1++wo p.2.1 (s1,s2)=R/\p.2.2.1.length<=2*p.1.length)
  (fun p=>p.2.1.length) ([],l,[],0,_) ⟨rfl,rfl,rfl,by simp,hR,by simp⟩ ?_ ⟨[],rfl⟩ ?_
 .rfl
 clear hR;rintro⟨pre,po,out,w0,S⟩ g G ⟨h1,h2,h3,h4,h5,h6⟩;simp only at h1 h2 h3 h4 h5 h6;simp only[aj,aq,ah,an,UC,UD];cases po with
 | nil=>
  have e:(l.length:Int)=(pre.length:Int):=by rw[h1,UM]
  have hh:ac (out=R):=⟨by rw[<-h5];simp[wo]⟩;clear h1 h5;refine b8 (lk hv) ?_;simp only[go_sem,h3];have PK:w0<=R.length:=by rw[<-hh.out];exact h4
  rw[hh.out];first|rfl|(simp;done)|(simp;omega)|(simp[*];done)
 | cons x po=>
  have lta:(pre.length:Int)<(l.length:Int):=by rw[h1];simp;omega
  have i1:=ay hv (X:=CX) ty102 ty51 rfl (n:=pre.length) (row:=[.int .i64 x.1,.int .i64 x.2]) (fI (by rw[h1];simp)) (k := .i64);have n1:=am (n:=pre.length) (by omega);have IW:ac (l=(pre++[x])++po):=⟨by rw[h1];simp⟩;have I7:ac (out.length<=2*pre.length):=⟨h6⟩;have a2:=at_app h2;have a3:=at_app h3;have c3:=set_app h3;have b2:=fM h2 (b:=2) (by decide);have b3:=at_set h3
  have d5:∀x y X,(S.set 2 x++X).set 2 y=S.set 2 y++X:=fun x y X=>by
   rw[WA _ _ (by simpa using(UK.1 h3).1),List.set_set]
  have so:=pC (n:=out.length) (by omega);have so2:=CL (n:=out.length+1) (m:=1) (by omega);have q1:=(rightR (x.1,min x.2 s1)).rw;have q2:=(rightR (max x.1 s2,x.2)).rw;have e5:wo (x::po) (s1,s2)=Gi (s1,s2) x++wo po (s1,s2):=rfl;rw[e5,Gi]at h5;simp only[encE]at q1 q2;have J2:=fV out (x.1,min x.2 s1);have KQ:=fV out (max x.1 s2,x.2);have NF:=fV (out++[(x.1,min x.2 s1)]) (max x.1 s2,x.2);have ws:w0<=out.length+1:=by omega
  clear h1 h6 e5;by_cases r1:dX (x.1,min x.2 s1)=true<;>by_cases r2:dX (max x.1 s2,x.2)=true
  .rw[if_pos r1,if_pos r2]at h5;rw[r1]at q1;rw[r2]at q2;have JG:ac (out++[(x.1,min x.2 s1),(max x.1 s2,x.2)]++wo po (s1,s2)=R):=⟨by rw[<-h5];simp only[UX,UH,UF]⟩;clear h5 r1 r2;refine b8 (lk hv) ?_;refine ax (pre++[x],po,out++[(x.1,min x.2 s1),(max x.1 s2,x.2)],w0,_) (by simp only[UB];omega) ⟨IW.out,b2 _ _,b3 _ _,?_,JG.out,?_⟩ ?_ ⟨[],rfl⟩
   .simp only[UG,UB,UE];omega
   .have:=I7.out;simp only[UG,UB,UE];omega
   .exact aQ
  .rw[if_pos r1,if_neg r2]at h5;rw[r1]at q1;have r2':dX (max x.1 s2,x.2)=false:=by simpa using r2
   rw[r2']at q2;clear r2';have JG:ac (out++[(x.1,min x.2 s1)]++wo po (s1,s2)=R):=⟨by rw[<-h5];simp only[UX,UH,UF]⟩;clear h5 r1 r2;refine b8 (lk hv) ?_;refine ax (pre++[x],po,out++[(x.1,min x.2 s1)],w0,_) (by simp only[UB];omega) ⟨IW.out,b2 _ _,b3 _ _,?_,JG.out,?_⟩ ?_ ⟨[],rfl⟩
   .simp only[UG,UB,UE];omega
   .have:=I7.out;simp only[UG,UB,UE];omega
   .exact aQ
  .rw[if_neg r1,if_pos r2]at h5;have r1':dX (x.1,min x.2 s1)=false:=by simpa using r1
   rw[r1']at q1;clear r1';rw[r2]at q2;have JG:ac (out++[(max x.1 s2,x.2)]++wo po (s1,s2)=R):=⟨by rw[<-h5];simp only[UX,UH,UF]⟩;clear h5 r1 r2;refine b8 (lk hv) ?_;refine ax (pre++[x],po,out++[(max x.1 s2,x.2)],w0,_) (by simp only[UB];omega) ⟨IW.out,b2 _ _,b3 _ _,?_,JG.out,?_⟩ ?_ ⟨[],rfl⟩
   .simp only[UG,UB,UE];omega
   .have:=I7.out;simp only[UG,UB,UE];omega
   .exact aQ
  .rw[if_neg r1,if_neg r2]at h5;have r1':dX (x.1,min x.2 s1)=false:=by simpa using r1
   rw[r1']at q1;clear r1';have r2':dX (max x.1 s2,x.2)=false:=by simpa using r2
   rw[r2']at q2;clear r2';have JG:ac (out++wo po (s1,s2)=R):=⟨by rw[<-h5];simp only[UX,UH,UF]⟩;clear h5 r1 r2;refine b8 (lk hv) ?_;refine ax (pre++[x],po,out,w0,_) (by simp only[UB];omega) ⟨IW.out,a2 _,a3 _,h4,JG.out,?_⟩ ?_ ⟨[],rfl⟩
   .have:=I7.out;simp only[UG,UB,UE];omega
   .exact aQ
end
section
attribute [local irreducible] bB cX cZ aB bS dE
attribute [local go_sem] cM U1 Vj List.replicate UC Vp Nat.reduceMul Vg d9 ba and_self spans_len at_new Cg
set_option maxRecDepth 20000
theorem wo_one(s:El)(hs:s.1<s.2):∀{l:List El},ee l->(wo l s).length<=l.length+1
 | [],_=>by simp[wo]
 | x::l,h=>by
  obtain⟨rx,sx,nl⟩:=eO.mp h;have e:wo (x::l) s=Gi s x++wo l s:=rfl;rw[e,UG,UB];by_cases hx:s.2<x.2
  ·
   have hl:∀y∈l,Gi s y = [y]:=fun y hy=>by
    have h1:=sx y hy;have ry:=bG.mp (nl.rg y hy);have a1:¬dX (y.1,min y.2 s.1)=true:=fun k=>by have:=bG.mp k;simp only at this;omega
    have a2:max y.1 s.2=y.1:=by omega
    unfold Gi;rw[if_neg a1,a2,if_pos (nl.rg y hy)];rfl
   have:wo l s=l:=by
    unfold wo;clear h e sx nl
    induction l with
    | nil=>rfl
    | cons y l ih=>rw[VX,hl y (by simp),ih fun z hz=>hl z (by simp[hz])];rfl
   rw[this];have:=wo1_len s x;omega
  .have h1:(Gi s x).length<=1:=by
    have a2:¬dX (max x.1 s.2,x.2)=true:=fun k=>by have:=bG.mp k;simp only at this;omega
    unfold Gi;rw[if_neg a2];split<;>simp
   have:=wo_one s hs nl;omega
theorem minusRE(v w:AV)(a b:List El)(hv:bq 2 (spans a) v)(hw:bq 2 (spans b) w)(ha:a.length<=500000)(hb:b.length<=500000):aB CX 74 [v,w] (· = .osl 2 (spans (gn a b))):=by
 have q0:=(unionR v a hv (by omega)).rw;have s1:=hv.snap;have Ly:=ou a;have P9:=(iE a).1;unfold gn;obtain⟨R,hR⟩:∃R,b.foldl (fun out s=>if dX s=true then wo out s else out) (jw a)=R:=⟨_,rfl⟩;rw[hR];obtain⟨u,hu⟩:∃u,jw a=u:=⟨_,rfl⟩;rw[hu]at q0 Ly P9 hR;have Si:ac (ee u):=⟨P9⟩;clear P9;refine aL fx74 ?_;refine Cy ?_
 refine aJ [9,10,11,12,13,14,15,16,17,18,19,20,21,22,23,24,25] (fun p:List El×List El×List El×Nat×ab=>[(5,.sl p.2.2.2.1 p.2.2.1.length 0 p.2.2.1.length 2),(6,.int .i64 p.1.length)]) (fun p _=>p.2.2.2.2)
  (fun p=>b=p.1++p.2.1/\p.2.2.2.2[p.2.2.2.1]? = some (.arr (spans p.2.2.1) 2 0 true)/\p.2.1.foldl (fun out s=>if dX s=true then wo out s else out) p.2.2.1=R/\p.2.2.1.length<=p.1.length+u.length/\ee p.2.2.1)
  (fun p=>p.2.1.length) ([],b,u,1,_) ⟨rfl,rfl,hR,by simp,Si.out⟩ ?_ ⟨[],rfl⟩ ?_
 .rfl
 clear hR q0;rintro⟨pre,po,out,bo,S⟩ g G ⟨h1,h2,h3,h4,h5⟩;simp only at h1 h2 h3 h4 h5;simp only[aj,aq,ah,an,UC,UD];cases po with
 | nil=>
  have e:(b.length:Int)=(pre.length:Int):=by rw[h1,UM]
  have hh:ac (out=R):=⟨h3⟩;clear h1 h3;refine b8 (lk hw) ?_;simp only[go_sem,h2];rw[hh.out];try rfl
 | cons x po=>
  have lta:(pre.length:Int)<(b.length:Int):=by rw[h1];simp;omega
  have i1:=ay hw (X:=CX) ty102 ty51 rfl (n:=pre.length) (row:=[.int .i64 x.1,.int .i64 x.2]) (fI (by rw[h1];simp)) (k := .i64);have n1:=am (n:=pre.length) (by omega);have IW:ac (b=(pre++[x])++po):=⟨by rw[h1];simp⟩;have a2:=at_app h2;have q1:=(rightR x).rw;have q2:=(withoutR (.tsl false 2 (spans out)) out x (.rows false) (by omega)).rw;have tko:(spans out).take out.length=spans out:=by rw[<-spans_len out];exact Vn
  rw[VD]at h3;simp only[encE]at q1 q2;have OX:ac (ee out):=⟨h5⟩;clear h1 h5;by_cases hr:dX x=true
  .rw[if_pos hr]at h3;rw[hr]at q1;have I7:ac (po.foldl (fun out s=>if dX s=true then wo out s else out) (wo out x)=R):=⟨h3⟩;have hh6:ac (ee (wo out x)/\(wo out x).length<=out.length+1):=⟨(Bq hr OX.out).1,wo_one x (bG.mp hr).2.1 OX.out⟩;clear h3 hr;refine b8 (lk hw) ?_;refine ax (pre++[x],po,wo out x,S.length,_) (by simp only[UB];omega) ⟨IW.out,by simp only;rw[bZ];rfl,I7.out,?_,hh6.out.1⟩ ?_ ⟨[],rfl⟩
   .have:=hh6.out.2;simp only[aH];omega
   .exact aQ
  .have JT:dX x=false:=by simpa using hr
   rw[if_neg hr]at h3;rw[JT]at q1;have I7:ac (po.foldl (fun out s=>if dX s=true then wo out s else out) out=R):=⟨h3⟩;clear h3 hr JT;refine b8 (lk hw) ?_;refine ax (pre++[x],po,out,bo,_) (by simp only[UB];omega) ⟨IW.out,h2,I7.out,?_,OX.out⟩ ?_ ⟨[],rfl⟩
   .simp only[aH];omega
   .exact aQ
def covRE(v:AV)(l:List El)(s:El)(hv:bq 2 (spans l) v)(hl:l.length<=500000):aB CX 106 [v,.agg (encE s)] (· = .bool (covR l s)):=by
 have q1:=(minusRE (.tsl false 2 (spans [s])) v [s] l (.rows false) hv (by simp) hl).rw;have q2:=(rightR s).rw;have s1:=hv.snap;unfold covR;obtain⟨m,hm⟩:∃m,gn [s] l=m:=⟨_,rfl⟩;rw[hm]at q1 ⊢;obtain⟨a,b⟩:=s;have e0:spans [(a,b)] = [[.int .i64 a,.int .i64 b]]:=rfl;rw[e0]at q1;simp only[encE]at q2 ⊢;by_cases hr:dX (a,b)=true
 .rw[hr]at q2 ⊢;clear hm hr;refine aL fx106 ?_;refine wk ?_;simp only[go_sem];simp[Bool.beq_eq_decide_eq]
 .have JT:dX (a,b)=false:=by simpa using hr
  rw[JT]at q2 ⊢;clear hr JT hm;refine aL fx106 ?_;exact wf
end
end Go.Eng.Fo
namespace Go.Eng
open Go.Proofs
section
variable {b:Bool}{cs:List AV}{n:Nt}{ns:List Nt}{ts:List Ti}
attribute [local irreducible] bB cX cZ aB bS dE
attribute [local go_sem] bi and_self aZ
def oH(l:List Nat):(z8 l).length=l.length:=by simp[z8]
attribute [local go_sem] oH
theorem textR(s:ByteArray)(hs:s.size<=9223372036854775807):∃e,(e=0->TX s)/\aB CX 101 [.str s] (· = .int .i64 e):=by
 suffices h:aB CX 101 [.str s] (fun r=> ∃e,r = .int .i64 e/\(e=0->TX s)) by
  obtain⟨r,⟨b,rfl,hb⟩,h⟩:=h.ex;exact⟨b,hb,h⟩
 by_cases k:(200:Int)<(s.size:Int)
 .refine aL fx101 ?_;exact wf
 have hk:ac (s.size<=200):=⟨by omega⟩;have q:=(ptsE s (by omega)).rw;cases hp:qq s.data.toList with
 | none=>
  rw[hp,EX]at q;refine aL fx101 ?_;simp only[UB,UE,UF,UH,Nat.reduceAdd,Nat.reduceSub,List.replicate];repeat' (first|refine dn ?_|refine ad rfl ?_|(refine dI fun A B a b=>?_;simp only[go_sem, *,bC,bp];(repeat' first|apply a.1|apply b.1|refine aV (fun h=>?_) fun h=>?_)<;>clear a b A B))
  simp only[go_sem];exact⟨_,rfl,fun h=>by cases h⟩
 | some l=>
  rw[hp,EX]at q;have Ll:ac (qq s.data.toList=some l):=⟨hp⟩;clear hp;refine aL fx101 ?_;simp only[UB,UE,UF,UH,Nat.reduceAdd,Nat.reduceSub,List.replicate];repeat' (first|refine dn ?_|refine ad rfl ?_|(refine dI fun A B a b=>?_;simp only[go_sem, *,bC,bp,oH];(repeat' first|apply a.1|apply b.1|refine aV (fun h=>?_) fun h=>?_)<;>clear a b A B))
  refine aF [2,16,17,18,19,20,21,22,23,24,25,26,27,28,29,30,31,32,33] 5 l (fun pre _=> ∀p∈pre,okP p) ?_ ?_ ?_ ?_
  .intro p h;cases h
  .exact aQ
  .intro g G hP;have Jz:ac (TX s):=⟨hk.out,by rw[Ll.out];rfl,ptsU_ok _ _ l (UJ _) Ll.out hP⟩;clear hP;exact wf
  .intro g G pre x post h1 hP;have Jz:ac (∀p∈pre,okP p):=⟨hP⟩;have IW:ac (l=pre++x::post):=⟨h1⟩;have IZ:pre.length<l.length:=by rw[h1];simp
   have KX:l.length<=9223372036854775806:=by
    have:=hk.out;have:=ptsU_len _ _ _ (UJ _) Ll.out;have:s.data.toList.length=s.size:=by simp
    omega
   have lt1:(pre.length:Int)<(l.length:Int):=by omega
   have w1:=am (n:=pre.length) (by omega);have Jq:(az (z8 l))[pre.length]? = some [.int .i64 (x:Int)]:=by rw[h1];simp[az,z8]
   clear h1 hP KX;by_cases k1:(x:Int)<32
   .simp only[aj,aq,ah,an,UC,UD];repeat' (first|refine dn ?_|refine ad rfl ?_|(refine dI fun A B a b=>?_;simp only[go_sem, *,oH,aD,Ww,VS,k1];(repeat' first|apply a.1|apply b.1|refine aV (fun h=>?_) fun h=>?_)<;>clear a b A B))
    simp only[go_sem];exact⟨_,rfl,fun h=>by cases h⟩
   .cases k2:((x:Int) == 127) with
    | true=>
     simp only[aj,aq,ah,an,UC,UD];repeat' (first|refine dn ?_|refine ad rfl ?_|(refine dI fun A B a b=>?_;simp only[go_sem, *,oH,aD,Ww,VS,k1,k2];(repeat' first|apply a.1|apply b.1|refine aV (fun h=>?_) fun h=>?_)<;>clear a b A B))
     simp only[go_sem];exact⟨_,rfl,fun h=>by cases h⟩
    | false=>
     have hok:ac (okP x):=⟨by unfold okP;simp at k2;omega⟩;simp only[aj,aq,ah,an,UC,UD];repeat' (first|refine dn ?_|refine ad rfl ?_|(refine dI fun A B a b=>?_;simp only[go_sem, *,oH,aD,Ww,VS,k1,k2];(repeat' first|apply a.1|apply b.1|refine aV (fun h=>?_) fun h=>?_)<;>clear a b A B))
     refine aA IW.out ?_ ?_ ?_
     .intro p hp;rcases UU.1 hp with h|h
      .exact Jz.out p h
      .simp at h;subst h;exact hok.out
     .exact aQ
     .exact dk
structure Dc where
 id:Int
 nm:ByteArray
 len:Int
 day:Int
 sp:AV
 tv:AV
 nv:AV
def ck(d:Dc):List AV:=[.int .i64 d.id,.str d.nm,.int .i64 d.len,.int .i64 d.day,d.sp,d.tv,d.nv]
attribute [local go_sem] ck
structure Dc.ok (d:Dc) (ts:List Ti) (ns:List Nt):Prop where
 sc:d.sp.cell=true
 ss:∀S,snap S d.sp=some d.sp
 t:bq 4 (ts.map eW) d.tv
 n:bq 7 (ns.map aZ) d.nv
 p1:d.sp.stab=true
 p2:d.tv.stab=true
 p3:d.nv.stab=true
def Dc.ok.tc{d:Dc}(h:d.ok ts ns):d.tv.cell=true:=h.t.cell
def Dc.ok.nc{d:Dc}(h:d.ok ts ns):d.nv.cell=true:=h.n.cell
def Dc.ok.tsn{d:Dc}(h:d.ok ts ns):∀S,snap S d.tv=some d.tv:=h.t.snap
def Dc.ok.nsn{d:Dc}(h:d.ok ts ns):∀S,snap S d.nv=some d.nv:=h.n.snap
def zN:Nt:=⟨0,0,0,0,0,0,.empty⟩
def iX:Option Nt->AV
 | some p=> .tup [.agg (aZ p),.bool true]
 | none=> .tup [.agg (aZ zN),.bool false]
def vi(x:Nt)(l:List Nt)(n:Int):cO (x::l) n=if x.id == n then some x else cO l n:=by
 simp only[cO,V3];cases (x.id == n)<;>rfl
def eY{id:Nat}:dJ id (.tup [.agg cs,.bool b])=(.tup [.agg cs,.bool b],[]):=rfl
theorem jD{R:AV->Prop}{S:ab}(h:∀c∈cs,aW S c=some c):iw R (.tup [.agg cs,.bool b]) S=R (.tup [.agg cs,.bool b]):=by
 have e:dq S cs=some cs:=by
  induction cs with
  | nil=>rfl
  | cons c cs ih=>simp only[dq,h c (by simp),ih fun x hx=>h x (by simp[hx])]
 have e3:ce [AV.agg cs,.bool b] = []:=rfl;have k5:∀(S:ab) (m:Bool),bI S (.bool m)=some (.bool m):=fun _ _=>rfl;simp only[iw,da,dR,e3,if_true,dm,bI,e];rfl
theorem Ie{d:Dc}(n:Int)(hd:d.ok ts ns)(hl:ns.length<=9223372036854775807):aB CX 10 [.agg (ck d),.int .i64 n] (· = iX (cO ns n)):=by
 have c1:=hd.nc;have c2:=hd.tc;have c3:=hd.sc;have hn:=hd.n;have k3:∀(S:ab) (m:Int),aW S (.int .i64 m)=some (.int .i64 m):=fun _ _=>rfl;have k4:∀(S:ab) (m:ByteArray),aW S (.str m)=some (.str m):=fun _ _=>rfl;have k5:∀(S:ab) (m:Bool),bI S (.bool m)=some (.bool m):=fun _ _=>rfl;refine aL fx10 ?_;refine b8 (lk hn) ?_;refine aF [5,7,8,9,10,11,12,13,14,15,16,17,18,19,20,21,22,23,24,25,26] 6 ns (fun _ post=>cO ns n=cO post n) ?_ ?_ ?_ ?_
 .rfl
 .rfl
 .intro g G h2;have e:cO ns n=none:=h2;rw[e,iX];clear h2 e;refine b8 (lk hn) ?_;simp only[go_sem,fx];rw[if_pos (show dR _=true from rfl)];simp only[dm,bI,dq,k3,k4,k5];rfl
 .intro g G pre x post h1 h2;have IZ:pre.length<ns.length:=by rw[h1];simp
  have lt1:(pre.length:Int)<(ns.length:Int):=by omega
  have w1:=am (n:=pre.length) (by omega);have i1:=ay hn (X:=CX) ty72 ty78 rfl (n:=pre.length) (row:=aZ x) (k := .i64) (by rw[h1];exact fp aZ pre x post);have IW:ac (ns=pre++x::post):=⟨h1⟩;rw[vi]at h2;clear h1 IZ;cases hx:(x.id == n) with
  | true=>
   have e:cO ns n=some x:=by rw[h2,hx];rfl
   rw[e,iX];clear h2 e;refine b8 (lk hn) ?_;simp only[go_sem,fx];rw[if_pos (show dR _=true from rfl)];simp only[dm,bI,dq,k3,k4,k5];rfl
  | false=>
   have hh:ac (cO ns n=cO post n):=⟨by rw[h2,hx];rfl⟩;clear h2;refine b8 (lk hn) ?_;refine aA IW.out hh.out ?_ ?_
   .exact aQ
   .exact dk
structure PlOK (len:Int) (ts:List Ti) (ns:List Nt) (n:Nt):Prop where
 par0:(ch ts n.ti).kd=0->n.pa=0
 par:(ch ts n.ti).kd≠0->∃p,cO ns n.pa=some p/\p.ti=(ch ts n.ti).pa/\(tZ (ch ts n.ti).kd=true->p.fr<=n.fr/\n.en<=p.en)
 sp:tZ (ch ts n.ti).kd=true->0<=n.fr/\n.fr<n.en/\n.en<=86400000
 sp0:tZ (ch ts n.ti).kd=false->n.fr=0/\n.en=0
 len:(ch ts n.ti).kd=0->n.en<=len
 rk0:0<=n.rk
 rk1:(ch ts n.ti).kd≠3->n.rk=0
theorem placedE{d:Dc}(hd:d.ok ts ns)(hl:ns.length<=9223372036854775807)(h0:0<=n.ti)(h1:n.ti<ts.length) :
  ∃e,(e=0->PlOK d.len ts ns n)/\aB CX 102 [.agg (ck d),.agg (aZ n)] (· = .int .i64 e):=by
 suffices h:aB CX 102 [.agg (ck d),.agg (aZ n)] (fun r=> ∃e,r = .int .i64 e/\(e=0->PlOK d.len ts ns n)) by
  obtain⟨r,⟨b,rfl,hb⟩,h⟩:=h.ex;exact⟨b,hb,h⟩
 have c1:=hd.nc;have c2:=hd.tc;have c3:=hd.sc;have s1:=hd.nsn;have s2:=hd.tsn;have s3:=hd.ss
 have ht:ts[n.ti.toNat]? = some (ch ts n.ti):=by
  unfold ch;rw[Ve,UL (by omega)];rfl
 have i0:=ay hd.t (X:=CX) ty71 ty180 rfl (n:=n.ti.toNat) (row:=eW (ch ts n.ti)) (k := .i64) (by rw[Vc,ht];rfl);rw[show ((n.ti.toNat:Nat):Int)=n.ti by omega]at i0;have qg:=(Ie n.pa hd hl).rw;obtain⟨t,hT⟩:∃t,ch ts n.ti=t:=⟨_,rfl⟩;have qa:=(Ep t.kd).rw;have qr:=(Fo.rightR (n.fr,n.en)).rw;have KZ:ac (ch ts n.ti=t):=⟨hT⟩;rw[hT]at i0;simp only[ck]at qg;simp only[Fo.encE]at qr;clear ht hT h0 h1 hl;cases k0:(t.kd == 0) with
 | true=>
  have hk:ac (t.kd=0):=⟨by simpa using k0⟩;have ha:tZ t.kd=true:=by rw[hk.out];rfl
  cases k1:(n.pa == 0) with
  | false=>
   obtain⟨z,b,hz⟩:∃z b,iX (cO ns n.pa) = .tup [.agg (aZ z),.bool b]:=by cases cO ns n.pa;exact⟨_,_,rfl⟩;exact⟨_,_,rfl⟩
   rw[hz]at qg;refine aL fx102 ?_;simp only[UB,UE,UF,UH,Nat.reduceAdd,Nat.reduceSub,List.replicate];repeat' (first|refine dn ?_|refine ad rfl ?_|(refine dI fun A B a b=>?_;simp only[go_sem, *,ck,eW,eY,k1];(repeat' first|apply a.1|apply b.1|refine aV (fun h=>?_) fun h=>?_)<;>clear a b A B))
   all_goals simp only[go_sem]
   all_goals exact⟨_,rfl,fun h=>by cases h⟩
  | true=>
   obtain⟨z,b,hz⟩:∃z b,iX (cO ns n.pa) = .tup [.agg (aZ z),.bool b]:=by cases cO ns n.pa;exact⟨_,_,rfl⟩;exact⟨_,_,rfl⟩
   rw[hz]at qg;have NI:ac (n.pa=0):=⟨by simpa using k1⟩;cases k2:dX (n.fr,n.en) with
   | false=>
    rw[k2]at qr;refine aL fx102 ?_;simp only[UB,UE,UF,UH,Nat.reduceAdd,Nat.reduceSub,List.replicate];repeat' (first|refine dn ?_|refine ad rfl ?_|(refine dI fun A B a b=>?_;simp only[go_sem, *,ck,eW,eY,k1];(repeat' first|apply a.1|apply b.1|refine aV (fun h=>?_) fun h=>?_)<;>clear a b A B))
    all_goals simp only[go_sem]
    all_goals exact⟨_,rfl,fun h=>by cases h⟩
   | true=>
    rw[k2]at qr;have hr:ac (dX (n.fr,n.en)=true):=⟨k2⟩;have PE:ac (tZ t.kd=true):=⟨ha⟩;clear k2;refine aL fx102 ?_;simp only[UB,UE,UF,UH,Nat.reduceAdd,Nat.reduceSub,List.replicate];repeat' (first|refine dn ?_|refine ad rfl ?_|(refine dI fun A B a b=>?_;simp only[go_sem, *,ck,eW,eY,k1];(repeat' first|apply a.1|apply b.1|refine aV (fun h=>?_) fun h=>?_)<;>clear a b A B))
    all_goals
     simp only[go_sem];refine⟨_,rfl,?_⟩
     first
      |(intro h;cases h;done)
      |(intro _
        have e:=KZ.out;have LQ:=hk.out;have K1:=bG.1 hr.out;simp only[bne,V8,WH,beq_iff_eq,beq_eq_false_iff_ne,Int.not_lt,ne_eq,not_false_eq_true,V1]at*;refine⟨fun _=>NI.out,?_,fun _=>K1,?_,?_,?_,?_⟩
        .rw[e];intro h;exact absurd LQ h
        .rw[e,PE.out];intro h;cases h
        .intro _;omega
        .omega
        .first|(intro _;omega)|(rw[e,LQ];intro h;omega))
 | false=>
  have hk:ac (¬t.kd=0):=⟨by simpa using k0⟩;cases hg:cO ns n.pa with
  | none=>
   rw[hg,iX]at qg;refine aL fx102 ?_;simp only[UB,UE,UF,UH,Nat.reduceAdd,Nat.reduceSub,List.replicate];repeat' (first|refine dn ?_|refine ad rfl ?_|(refine dI fun A B a b=>?_;simp only[go_sem, *,ck,eW,eY];(repeat' first|apply a.1|apply b.1|refine aV (fun h=>?_) fun h=>?_)<;>clear a b A B))
   all_goals simp only[go_sem]
   all_goals exact⟨_,rfl,fun h=>by cases h⟩
  | some p=>
  rw[hg,iX]at qg;have Lq:ac (cO ns n.pa=some p):=⟨hg⟩;clear hg;cases k1:(p.ti == t.pa) with
  | false=>
   refine aL fx102 ?_;simp only[UB,UE,UF,UH,Nat.reduceAdd,Nat.reduceSub,List.replicate];repeat' (first|refine dn ?_|refine ad rfl ?_|(refine dI fun A B a b=>?_;simp only[go_sem, *,ck,eW,eY,k1];(repeat' first|apply a.1|apply b.1|refine aV (fun h=>?_) fun h=>?_)<;>clear a b A B))
   all_goals simp only[go_sem]
   all_goals exact⟨_,rfl,fun h=>by cases h⟩
  | true=>
  have hpt:ac (p.ti=t.pa):=⟨by simpa using k1⟩;cases ha:tZ t.kd with
  | true=>
   have PE:ac (tZ t.kd=true):=⟨ha⟩;cases k2:dX (n.fr,n.en) with
   | false=>
    rw[k2]at qr;refine aL fx102 ?_;simp only[UB,UE,UF,UH,Nat.reduceAdd,Nat.reduceSub,List.replicate];repeat' (first|refine dn ?_|refine ad rfl ?_|(refine dI fun A B a b=>?_;simp only[go_sem, *,ck,eW,eY,k1];(repeat' first|apply a.1|apply b.1|refine aV (fun h=>?_) fun h=>?_)<;>clear a b A B))
    all_goals simp only[go_sem]
    all_goals exact⟨_,rfl,fun h=>by cases h⟩
   | true=>
    rw[k2]at qr;have hr:ac (dX (n.fr,n.en)=true):=⟨k2⟩;clear k2;refine aL fx102 ?_;simp only[UB,UE,UF,UH,Nat.reduceAdd,Nat.reduceSub,List.replicate];repeat' (first|refine dn ?_|refine ad rfl ?_|(refine dI fun A B a b=>?_;simp only[go_sem, *,ck,eW,eY,k1];(repeat' first|apply a.1|apply b.1|refine aV (fun h=>?_) fun h=>?_)<;>clear a b A B))
    all_goals
     simp only[go_sem];refine⟨_,rfl,?_⟩
     first
      |(intro h;cases h;done)
      |(intro _
        have e:=KZ.out;have LQ:=hk.out;have K1:=bG.1 hr.out;simp only[bne,V8,WH,beq_iff_eq,beq_eq_false_iff_ne,Int.not_lt,ne_eq,not_false_eq_true,V1]at*;refine⟨?_,?_,fun _=>K1,?_,?_,?_,?_⟩
        .rw[e];intro h;exact absurd h LQ
        .rw[e];intro _;exact⟨p,Lq.out,hpt.out,fun _=>⟨by omega,by omega⟩⟩
        .rw[e,PE.out];intro h;cases h
        .rw[e];intro h;exact absurd h LQ
        .omega
        .rw[e];first|(intro _;omega)|(intro h;omega)|(intro h;exact absurd ‹t.kd=3› h))
  | false=>
   have PE:ac (tZ t.kd=false):=⟨ha⟩;refine aL fx102 ?_;simp only[UB,UE,UF,UH,Nat.reduceAdd,Nat.reduceSub,List.replicate];repeat' (first|refine dn ?_|refine ad rfl ?_|(refine dI fun A B a b=>?_;simp only[go_sem, *,ck,eW,eY,k1];(repeat' first|apply a.1|apply b.1|refine aV (fun h=>?_) fun h=>?_)<;>clear a b A B))
   all_goals
    simp only[go_sem];refine⟨_,rfl,?_⟩
    first
     |(intro h;cases h;done)
     |(intro _
       have e:=KZ.out;have LQ:=hk.out;simp only[bne,V8,WH,beq_iff_eq,beq_eq_false_iff_ne,Int.not_lt,ne_eq,not_false_eq_true,V1,UT]at*;refine⟨?_,?_,?_,?_,?_,?_,?_⟩
       .rw[e];intro h;exact absurd h LQ
       .rw[e];intro _;exact⟨p,Lq.out,hpt.out,fun h=>by rw[PE.out]at h;cases h⟩
       .rw[e,PE.out];intro h;cases h
       .intro _;constructor<;>omega
       .rw[e];intro h;exact absurd h LQ
       .omega
       .rw[e];first|(intro _;omega)|(intro h;omega)|(intro h;exact absurd ‹t.kd=3› h))
def noteE{d:Dc}{pre post:List Nt}(hd:d.ok ts ns)(MT:ns=pre++n::post)(hl:ns.length<=9223372036854775807)(hx:n.tx.size<=9223372036854775807)(Mj:ts.length<=9223372036854775807) :
  ∃e,(e=0->lp TX d.len ts ns n/\(∀y,pre.getLast? = some y->y.id<n.id))/\aB CX 51 [.agg (ck d),.int .i64 pre.length] (· = .int .i64 e):=by
 suffices h:aB CX 51 [.agg (ck d),.int .i64 pre.length] (fun r=> ∃e,r = .int .i64 e/\(e=0->lp TX d.len ts ns n/\(∀y,pre.getLast? = some y->y.id<n.id))) by
  obtain⟨r,⟨b,rfl,hb⟩,h⟩:=h.ex;exact⟨b,hb,h⟩
 have c1:=hd.nc;have c2:=hd.tc;have c3:=hd.sc;have s1:=hd.nsn;have s2:=hd.tsn;have s3:=hd.ss;have ht:=hd.t;have i0:=ay hd.n (X:=CX) ty72 ty78 rfl (n:=pre.length) (row:=aZ n) (k := .i64) (by rw[MT];exact fp aZ pre n post);obtain⟨et,het,qt⟩:=textR n.tx hx;have qt:=qt.rw;by_cases k1:n.id<1
 .refine aL fx51 ?_;refine wk ?_;all_goals simp only[go_sem]
  all_goals exact⟨_,rfl,fun h=>by cases h⟩
 by_cases k2:1099511627776<n.id
 .refine aL fx51 ?_;refine wk ?_;all_goals simp only[go_sem]
  all_goals exact⟨_,rfl,fun h=>by cases h⟩
 have prev:((0:Int)<(pre.length:Int)/\∃y,pre.getLast? = some y/\aD CX 72 d.nv (.int .i64 (IntKind.wrap .i64 ((pre.length:Int)-1)))=some (.tptr (jW d.nv) (aZ y) 0))\/(¬(0:Int)<(pre.length:Int)/\pre.getLast? = none):=by
  rcases fA pre with rfl|⟨p,y,rfl⟩
  .exact .inr ⟨by simp,rfl⟩
  .refine .inl ⟨by simp,y,by simp,?_⟩;have KX:=hl;rw[MT]at KX;simp only[UG,UB,UE]at KX
   have e:IntKind.wrap .i64 (((p++[y]).length:Int)-1)=(p.length:Int):=by
    rw[wrap_small (by simp<;>omega) (by simp<;>omega)];simp
   rw[e];exact ay hd.n ty72 ty78 rfl (by rw[MT];simp)
 have tail:∀(LM:∀y,pre.getLast? = some y->y.id<n.id),(∀h0:0<=n.ti,∀h1:n.ti<ts.length,et=0->∃e,(e=0->lp TX d.len ts ns n/\(∀y,pre.getLast? = some y->y.id<n.id))/\aB CX 102 [.agg (ck d),.agg (aZ n)] (· = .int .i64 e)):=by
  intro LM h0 h1 he;obtain⟨e,QQ,q⟩:=placedE hd hl h0 h1;refine⟨e,fun hz=>⟨?_,LM⟩,q⟩;have p:=QQ hz;exact⟨by omega,h0,h1,het he,p.par0,p.par,p.sp,p.sp0,p.len,p.rk0,p.rk1⟩
 have tailH:ac (∀(LM:∀y,pre.getLast? = some y->y.id<n.id),(∀h0:0<=n.ti,∀h1:n.ti<ts.length,et=0->∃e,(e=0->lp TX d.len ts ns n/\(∀y,pre.getLast? = some y->y.id<n.id))/\aB CX 102 [.agg (ck d),.agg (aZ n)] (· = .int .i64 e))):=⟨tail⟩;clear tail het
 have fin:∀(LM:∀y,pre.getLast? = some y->y.id<n.id),(¬(0:Int)<(pre.length:Int)\/((0:Int)<(pre.length:Int)/\∃y,aD CX 72 d.nv (.int .i64 (IntKind.wrap .i64 ((pre.length:Int)-1)))=some (.tptr (jW d.nv) (aZ y) 0)/\¬n.id<=y.id)) ->
   aB CX 51 [.agg (ck d),.int .i64 pre.length] (fun r=> ∃e,r = .int .i64 e/\(e=0->lp TX d.len ts ns n/\(∀y,pre.getLast? = some y->y.id<n.id))):=by
  intro LM J9;have RA:ac (∀y,pre.getLast? = some y->y.id<n.id):=⟨LM⟩;clear LM prev MT;by_cases k3:n.ti<0
  .rcases J9 with k5|⟨k5,y,iy,k6⟩
   .refine aL fx51 ?_;refine wk ?_;all_goals simp only[go_sem]
    all_goals exact⟨_,rfl,fun h=>by cases h⟩
   .refine aL fx51 ?_;refine wk ?_;all_goals simp only[go_sem]
    all_goals exact⟨_,rfl,fun h=>by cases h⟩
  by_cases k4:(ts.length:Int)<=n.ti
  .rcases J9 with k5|⟨k5,y,iy,k6⟩
   .refine aL fx51 ?_;refine b8 (lk ht) ?_;all_goals simp only[go_sem]
    all_goals exact⟨_,rfl,fun h=>by cases h⟩
   .refine aL fx51 ?_;refine b8 (lk ht) ?_;all_goals simp only[go_sem]
    all_goals exact⟨_,rfl,fun h=>by cases h⟩
  by_cases k7:et=0
  .obtain⟨e,he,q⟩:=tailH.out RA.out (by omega) (by omega) k7;have q:=q.rw;simp only[ck,aZ]at q;have heH:ac (e=0->lp TX d.len ts ns n/\(∀y,pre.getLast? = some y->y.id<n.id)):=⟨he⟩;clear he;have k7:(et == 0)=true:=by simpa using k7
   rcases J9 with k5|⟨k5,y,iy,k6⟩
   .refine aL fx51 ?_;refine b8 (lk ht) ?_;all_goals simp only[go_sem]
    all_goals exact⟨_,rfl,heH.out⟩
   .refine aL fx51 ?_;refine b8 (lk ht) ?_;all_goals simp only[go_sem]
    all_goals exact⟨_,rfl,heH.out⟩
  .have hz:ac (et≠0):=⟨k7⟩;have k7:(et == 0)=false:=by simpa using k7
   rcases J9 with k5|⟨k5,y,iy,k6⟩
   .refine aL fx51 ?_;refine b8 (lk ht) ?_;all_goals simp only[go_sem]
    all_goals exact⟨_,rfl,fun h=>absurd h hz.out⟩
   .refine aL fx51 ?_;refine b8 (lk ht) ?_;all_goals simp only[go_sem]
    all_goals exact⟨_,rfl,fun h=>absurd h hz.out⟩
 rcases prev with ⟨k5,y,hy,iy⟩|⟨k5,hy⟩
 .by_cases k6:n.id<=y.id
  .clear fin tailH;refine aL fx51 ?_;refine wk ?_;all_goals simp only[go_sem]
   all_goals exact⟨_,rfl,fun h=>by cases h⟩
  .exact fin (fun z hz=>by rw[hy]at hz;injection hz with hz;subst hz;omega) (.inr ⟨k5,y,iy,k6⟩)
 .exact fin (fun z hz=>by rw[hy]at hz;cases hz) (.inl k5)
end
section
variable {X:dV}{args:List AV}{f:FuncId}{v:AV}
attribute [local irreducible] bB cX cZ aB bS dE
attribute [local go_sem] bi and_self
theorem aB.int{P:Int->Prop}(h:aB X f args fun r=> ∃e,r = .int .i64 e/\P e):∃e,P e/\aB X f args (· = .int .i64 e):=by
 obtain⟨r,⟨e,rfl,he⟩,h⟩:=h.ex;exact⟨e,he,h⟩
def aB.int0(h:aB X f args fun r=> ∃e,r = .int .i64 e):∃e,aB X f args (· = .int .i64 e):=by
 obtain⟨r,⟨e,rfl⟩,h⟩:=h.ex;exact⟨e,h⟩
def aB.boo{P:Bool->Prop}(h:aB X f args fun r=> ∃e,r = .bool e/\P e):∃e,P e/\aB X f args (· = .bool e):=by
 obtain⟨r,⟨e,rfl,he⟩,h⟩:=h.ex;exact⟨e,he,h⟩
def aB.boo0(h:aB X f args fun r=> ∃e,r = .bool e):∃e,aB X f args (· = .bool e):=by
 obtain⟨r,⟨e,rfl⟩,h⟩:=h.ex;exact⟨e,h⟩
abbrev Rf:=Int×Int
def cK(x:Rf):List AV:=[.int .i64 x.1,.int .i64 x.2]
abbrev Lk:=Int×Int
def gV(x:Lk):List AV:=[.int .i64 x.1,.int .i64 x.2]
abbrev Sn:=ByteArray×ByteArray
def ga(x:Sn):List AV:=[.str x.1,.str x.2]
def snFew(x:Sn):Prop:=x.1.size<=1048576/\x.2.size<=1048576
def precE(a b:Rf):aB CX 163 [.agg (cK a),.agg (cK b)] (· = .bool (decide (a.1<b.1\/a.1=b.1/\a.2<b.2))):=by
 refine aL fx163 ?_;simp only[UB,UE,UF,UH,Nat.reduceAdd,Nat.reduceSub,List.replicate];repeat' (first|refine dn ?_|refine ad rfl ?_|(refine dI fun A B a b=>?_;simp only[go_sem, *,cK];(repeat' first|apply a.1|apply b.1|refine aV (fun h=>?_) fun h=>?_)<;>clear a b A B))
 all_goals simp only[go_sem]
 all_goals simp[*]
def refRE(a:Rf):aB CX 162 [.agg (cK a)] (· = .bool (jA a.1 && jA a.2)):=by
 have q1:=(kR a.1).rw;have q2:=(kR a.2).rw;refine aL fx162 ?_;simp only[UB,UE,UF,UH,Nat.reduceAdd,Nat.reduceSub,List.replicate];repeat' (first|refine dn ?_|refine ad rfl ?_|(refine dI fun A B a b=>?_;simp only[go_sem, *,cK];(repeat' first|apply a.1|apply b.1|refine aV (fun h=>?_) fun h=>?_)<;>clear a b A B))
 all_goals simp only[go_sem]
 all_goals simp[*]
def refsE{l:List Rf}(m:Int)(hv:bq 2 (l.map cK) v)(hl:l.length<9223372036854775807):∃e,aB CX 111 [v,.int .i64 m] (· = .int .i64 e):=by
 refine aB.int0 ?_;by_cases hm:m<(l.length:Int)
 .refine aL fx111 ?_;exact fm (lk hv)
 refine aL fx111 ?_;refine b8 (lk hv) ?_;refine aF [4,10,11,12,13,14,15,16,17,18,19,20,21,22,23,24,25,26,27,28,29,30,31,32,33,34,35,36] 5 l (fun _ _=>True) ?_ ?_ ?_ ?_
 .trivial
 .exact aQ
 .intro g G _;exact fm (lk hv)
 .intro g G pre x post h1 _;have IZ:pre.length<l.length:=by rw[h1];simp
  have lt1:(pre.length:Int)<(l.length:Int):=by omega
  have w1:=am (n:=pre.length) (by omega);have i1:=ay hv (X:=CX) ty64 ty90 rfl (n:=pre.length) (row:=cK x) (k := .i64) (by rw[h1];simp);have i0:(0:Int)<(pre.length:Int)->aD CX 64 v (.int .i64 (IntKind.wrap .i64 ((pre.length:Int)-1)))=some (.tptr (jW v) (cK (pre.getLastD (0,0))) 0):=fun h0=>hG (f:=cK) (h1 ▸ hv) (by rw[<-h1];exact hl) ty64 ty90 rfl (0,0) h0;have q1:=(refRE x).rw;have q2:=(precE (pre.getLastD (0,0)) x).rw;have IW:ac (l=pre++x::post):=⟨h1⟩;generalize (0,0)=z at*;simp only[cK]at i1 i0 q1 q2;clear h1 IZ;by_cases h0:(0:Int)<(pre.length:Int)
  .have i0:=i0 h0;simp only[aj,aq,ah,an,UC,UD];repeat' (first|refine dn ?_|refine ad rfl ?_|(refine dI fun A B a b=>?_;simp only[go_sem, *,au hv];(repeat' first|apply a.1|apply b.1|refine aV (fun h=>?_) fun h=>?_)<;>clear a b A B))
   all_goals exact vP
  .clear i0;simp only[aj,aq,ah,an,UC,UD];repeat' (first|refine dn ?_|refine ad rfl ?_|(refine dI fun A B a b=>?_;simp only[go_sem, *,au hv];(repeat' first|apply a.1|apply b.1|refine aV (fun h=>?_) fun h=>?_)<;>clear a b A B))
   all_goals exact vP
structure En where
 id:Int
 fv:AV
 fl:List Int
 cl:Int
 av:AV
 al:List (AV×List Int)
 ma:Int
 sv:AV
 sl:List Sn
 lv:AV
 ll:List Lk
 rv:AV
 rl:List Rf
def aG(e:En):List AV:=[.int .i64 e.id,e.fv,.int .i64 e.cl,e.av,.int .i64 e.ma,e.sv,e.lv,e.rv]
attribute [local go_sem] aG
structure En.ok (e:En):Prop where
 f:bq 1 (az e.fl) e.fv
 ft:e.fv.stab=true
 a:bq 1 (e.al.map fun x=>[x.1]) e.av
 at':e.av.stab=true
 ai:∀x∈e.al,bq 1 (az x.2) x.1/\x.1.stab=true
 s:bq 2 (e.sl.map ga) e.sv
 st:e.sv.stab=true
 l:bq 2 (e.ll.map gV) e.lv
 lt:e.lv.stab=true
 r:bq 2 (e.rl.map cK) e.rv
 rt:e.rv.stab=true
structure En.few (e:En):Prop where
 f:e.fl.length<=1048576
 a:e.al.length<=1048576
 ai:∀x∈e.al,x.2.length<=1048576
 s:e.sl.length<=1048576
 si:∀x∈e.sl,snFew x
 l:e.ll.length<=1048576
 r:e.rl.length<=1048576
def En.ok.cells{e:En}(h:e.ok):e.fv.cell=true/\e.av.cell=true/\e.sv.cell=true/\e.lv.cell=true/\e.rv.cell=true:=⟨h.f.cell,h.a.cell,h.s.cell,h.l.cell,h.r.cell⟩
def linksE{e:En}(h:e.ok)(hl:e.ll.length<9223372036854775807):∃x,aB CX 157 [.agg (aG e)] (· = .int .i64 x):=by
 refine aB.int0 ?_;obtain⟨c1,c2,c3,c4,c5⟩:=h.cells;have hv:=h.l;clear h;by_cases hm:(12:Int)<(e.ll.length:Int)
 .refine aL fx157 ?_;exact fm (lk hv)
 refine aL fx157 ?_;refine b8 (lk hv) ?_;refine aF [2,4,9,10,11,12,13,14,15,16,17,18,19,20,21,22,23,24,25,26,27,28,29,30,31,32,33,34,35,36,37,38,39,40,41,42,43,44,45,46,47,48,49,50,51,52,53,54,55,56,57,58,59,60,61,62,63,64,65,66,67,68,69,70,71,72,73,74,75] 3 e.ll (fun _ _=>True) ?_ ?_ ?_ ?_
 .trivial
 .exact aQ
 .intro g G _;exact fm (lk hv)
 .intro g G pre x post h1 _;have IZ:pre.length<e.ll.length:=by rw[h1];simp
  have lt1:(pre.length:Int)<(e.ll.length:Int):=by omega
  have w1:=am (n:=pre.length) (by omega);have i1:=ay hv (X:=CX) ty63 ty153 rfl (n:=pre.length) (row:=gV x) (k := .i64) (by rw[h1];simp);have i0:(0:Int)<(pre.length:Int)->aD CX 63 e.lv (.int .i64 (IntKind.wrap .i64 ((pre.length:Int)-1)))=some (.tptr (jW e.lv) (gV (pre.getLastD (0,0))) 0):=fun h0=>hG (f:=gV) (h1 ▸ hv) (by rw[<-h1];exact hl) ty63 ty153 rfl (0,0) h0;have q1:=(kR x.2).rw;have IW:ac (e.ll=pre++x::post):=⟨h1⟩;generalize (0,0)=z at*;simp only[gV]at i1 i0;clear h1 IZ;by_cases h0:(0:Int)<(pre.length:Int)
  .have i0:=i0 h0;simp only[aj,aq,ah,an,UC,UD];repeat' (first|refine dn ?_|refine ad rfl ?_|(refine dI fun A B a b=>?_;simp only[go_sem, *,au hv];(repeat' first|apply a.1|apply b.1|refine aV (fun h=>?_) fun h=>?_)<;>clear a b A B))
   all_goals exact vP
  .clear i0;simp only[aj,aq,ah,an,UC,UD];repeat' (first|refine dn ?_|refine ad rfl ?_|(refine dI fun A B a b=>?_;simp only[go_sem, *,au hv];(repeat' first|apply a.1|apply b.1|refine aV (fun h=>?_) fun h=>?_)<;>clear a b A B))
   all_goals exact vP
def glossE(s:ByteArray)(hs:s.size<=1048576):∃b,aB CX 238 [.str s] (· = .bool b):=by
 refine aB.boo0 ?_;have q:=(yz s hs).rw;refine aL fx238 ?_;refine wk ?_;refine aJ [2,4,5,6,7,8,9,10,11,12,13,14,15,16,17,18,19] (fun k:Nat=>[(3,.int .i64 (k:Int))]) (fun _ G=>G) (fun k=>k<=s.size) (fun k=>s.size-k) 0 (U9 _) ?_ ⟨_,rfl⟩ ?_
 .exact aQ
 intro k g G hk;replace hk:k<=s.size:=hk;by_cases Ja:k<s.size
 .have lt1:(k:Int)<(s.size:Int):=by omega
  have w1:=am (n:=k) (by omega);have K3:ac (s.size-(k+1)<s.size-k/\k+1<=s.size):=⟨by omega⟩;obtain⟨c,hc⟩:∃c,s[k]? = some c:=⟨s[k],by simp[Ja]⟩;have i1:=kv (X:=CX) ty9 hc (k := .i64);clear hk Ja hc;simp only[aj,aq,ah,an,UC,UD];repeat' (first|refine dn ?_|refine ad rfl ?_|(refine dI fun A B a b=>?_;simp only[go_sem, *,mo];(repeat' first|apply a.1|apply b.1|refine aV (fun h=>?_) fun h=>?_)<;>clear a b A B))
  all_goals first|(refine ax (k+1) K3.out.1 K3.out.2 ?_ ?_;(· exact aQ);(· exact⟨_,rfl⟩))|(simp only[go_sem];exact⟨_,rfl⟩)
 .have:¬(k:Int)<(s.size:Int):=by omega
  clear hk Ja;refine wk ?_;all_goals (simp only[go_sem];exact⟨_,rfl⟩)
def hasSnE{l:List Sn}(s:ByteArray)(hv:bq 2 (l.map ga) v)(hl:l.length<9223372036854775807):∃b,aB CX 239 [v,.str s] (· = .bool b):=by
 refine aB.boo0 ?_;refine aL fx239 ?_;refine b8 (lk hv) ?_;refine aF [4,6,7,8,9,10,11,12,13,14,15,16,17,18] 5 l (fun _ _=>True) ?_ ?_ ?_ ?_
 .trivial
 .exact aQ
 .intro g G _;exact fm (lk hv)
 .intro g G pre x post h1 _;have IZ:pre.length<l.length:=by rw[h1];simp
  have lt1:(pre.length:Int)<(l.length:Int):=by omega
  have w1:=am (n:=pre.length) (by omega);have i1:=ay hv (X:=CX) ty62 ty178 rfl (n:=pre.length) (row:=ga x) (k := .i64) (by rw[h1];simp);have IW:ac (l=pre++x::post):=⟨h1⟩;simp only[ga]at i1;clear h1 IZ;simp only[aj,aq,ah,an,UC,UD];repeat' (first|refine dn ?_|refine ad rfl ?_|(refine dI fun A B a b=>?_;simp only[go_sem, *,au hv,ik];(repeat' first|apply a.1|apply b.1|refine aV (fun h=>?_) fun h=>?_)<;>clear a b A B))
  all_goals exact vP
def senseE{l:List Sn}{x:Sn}(hv:bq 2 (l.map ga) v)(hl:l.length<9223372036854775807)(hx:snFew x):∃b,aB CX 200 [v,.agg (ga x)] (· = .int .i64 b):=by
 obtain⟨b1,q1⟩:=glossE x.1 hx.1;obtain⟨b2,_,q2⟩:=textR x.2 (UQ hx.2 (by decide));obtain⟨b3,q3⟩:=hasSnE x.1 hv hl;have q1:=q1.rw;have q2:=q2.rw;have q3:=q3.rw;have s1:=hv.snap;have c1:=hv.cell;refine aB.int0 ?_;refine aL fx200 ?_;simp only[UB,UE,UF,UH,Nat.reduceAdd,Nat.reduceSub,List.replicate];repeat' (first|refine dn ?_|refine ad rfl ?_|(refine dI fun A B a b=>?_;simp only[go_sem, *,ga];(repeat' first|apply a.1|apply b.1|refine aV (fun h=>?_) fun h=>?_)<;>clear a b A B))
 all_goals (simp only[go_sem];exact⟨_,rfl⟩)
theorem sensesE{e:En}(h:e.ok)(hf:e.few):∃x,aB CX 156 [.agg (aG e)] (· = .int .i64 x):=by
 refine aB.int0 ?_;obtain⟨c1,c2,c3,c4,c5⟩:=h.cells;have hv:=h.s;have hs:=hf.s;have q1:=(kR e.ma).rw;have Nw:ac e.few:=⟨hf⟩;clear h hf;by_cases hm:(5:Int)<(e.sl.length:Int)
 .refine aL fx156 ?_;simp only[UB,UE,UF,UH,Nat.reduceAdd,Nat.reduceSub,List.replicate];repeat' (first|refine dn ?_|refine ad rfl ?_|(refine dI fun A B a b=>?_;simp only[go_sem, *,aG,au hv];(repeat' first|apply a.1|apply b.1|refine aV (fun h=>?_) fun h=>?_)<;>clear a b A B))
  all_goals (simp only[go_sem];exact⟨_,rfl⟩)
 refine aL fx156 ?_;simp only[UB,UE,UF,UH,Nat.reduceAdd,Nat.reduceSub,List.replicate];repeat' (first|refine dn ?_|refine ad rfl ?_|(refine dI fun A B a b=>?_;simp only[go_sem, *,aG,au hv];(repeat' first|apply a.1|apply b.1|refine aV (fun h=>?_) fun h=>?_)<;>clear a b A B))
 all_goals
  first
  |(show qX _ _ _;simp only[go_sem];exact⟨_,rfl⟩)
  | skip
 all_goals
  refine aF [2,4,32,33,34,35,36,37,38,39,40,41,42,43,44,45,46,47,48,49,50,51] 3 e.sl (fun _ _=>True) ?_ ?_ ?_ ?_
  .trivial
  .exact aQ
  .intro g G _;exact fm (lk hv)
  .intro g G pre x post h1 _;have IZ:pre.length<e.sl.length:=by rw[h1];simp
   have lt1:(pre.length:Int)<(e.sl.length:Int):=by omega
   have w1:=am (n:=pre.length) (by omega);have i1:=ay hv (X:=CX) ty62 ty178 rfl (n:=pre.length) (row:=ga x) (k := .i64) (by rw[h1];simp)
   obtain⟨pv,hp,MR⟩:∃pv,dW CX 62 e.sv none (some (.int .i64 (pre.length:Int))) none=some pv/\bq 2 (pre.map ga) pv:=by
    have:=hv;generalize e.sv=v at*;cases this with
    | rows st=>exact⟨_,slice_to ty62 ty178 rfl (by simp;omega) rfl,by rw[h1,Vv,List.take_left' (by simp)];exact .rows st⟩
    | esl h=>rw[h1]at h;simp at h
    | nil h=>rw[h1]at h;simp at h
   have Qk:=MR.cell;have JP:=MR.snap;obtain⟨b,q⟩:=senseE MR (by omega) (Nw.out.si x (by rw[h1];simp));have q:=q.rw;have IW:ac (e.sl=pre++x::post):=⟨h1⟩;simp only[ga]at i1 q;clear h1 IZ MR;simp only[aj,aq,ah,an,UC,UD];repeat' (first|refine dn ?_|refine ad rfl ?_|(refine dI fun A B a b=>?_;simp only[go_sem, *,au hv];(repeat' first|apply a.1|apply b.1|refine aV (fun h=>?_) fun h=>?_)<;>clear a b A B))
   all_goals exact vP
end
section
attribute [local irreducible] bB cX cZ aB bS dE
end
section
attribute [local irreducible] bB cX cZ aB bS dE
structure Sg where
 name:ByteArray
 feat:Int
def encS(x:Sg):List AV:=[.str x.name,.int .i64 x.feat]
def bL_eq(a b:ByteArray):(a.toList == b.toList)=decide (a=b):=by
 rw[toList_data,toList_data];by_cases h:a=b
 .rw[h];simp
 .have:¬a.data.toList=b.data.toList:=fun e=>h (by
   have e2:a.data=b.data:=Vw.1 e;cases a;cases b;simp only at e2;rw[e2])
  rw[show decide (a=b)=false by simp[h]];exact beq_false_of_ne this
def tf(ss:List Sg)(n:Int):Bool:=decide (1<=n) && decide (n<=(ss.length:Int))
def segM(v:AV)(ss:List Sg)(n:Int)(hv:bq 2 (ss.map encS) v):aB CX 148 [.agg [v],.int .i64 n] (· = .bool (tf ss n)):=by
 have c1:=hv.cell;by_cases h:1<=n
 .have e:tf ss n=decide (n<=(ss.length:Int)):=by simp[tf,h]
  rw[e];clear e;refine aL fx148 ?_;exact fm (lk hv)
 .have e:tf ss n=false:=by simp[tf,h]
  rw[e];clear e;refine aL fx148 ?_;exact fm (lk hv)
def isR(v:AV)(ss:List Sg)(n:Int)(hv:bq 2 (ss.map encS) v):aB CX 153 [.agg [v],.int .i64 n] (· = .bool (tf ss n)):=by
 have c1:=hv.cell;by_cases h:1<=n
 .have e:tf ss n=decide (n<=(ss.length:Int)):=by simp[tf,h]
  rw[e];clear e;refine aL fx153 ?_;exact fm (lk hv)
 .have e:tf ss n=false:=by simp[tf,h]
  rw[e];clear e;refine aL fx153 ?_;exact fm (lk hv)
end
section
attribute [local irreducible] bB cX cZ aB bS dE
attribute [local go_sem] and_self encS aR cY ik
def yh(pre:List Sg)(n:ByteArray):Bool:=pre.any fun y=>decide (y.name=n)
def HI:List Sg->List Sg->Int
 | _,[]=>0
 | pre,x::post=>if yA x.name.data.toList=true then if yh pre x.name=true then 8 else if 0<=x.feat/\x.feat<65536 then HI (pre++[x]) post else 2 else 7
def D9(ss:List Sg):Int:=if ss.length<=60 then HI [] ss else 11
theorem checkSR(v:AV)(ss:List Sg)(hv:bq 2 (ss.map encS) v)(hn:∀x∈ss,x.name.size<=1048576):aB CX 43 [.agg [v]] (· = .int .i64 (D9 ss)):=by
 have c1:=hv.cell;have s1:=hv.snap;by_cases k1:60<(ss.length:Int)
 .have e:D9 ss=11:=by rw[D9,if_neg (by omega)]
  rw[e];clear e;refine aL fx43 ?_;exact fm (lk hv)
 have e:D9 ss=HI [] ss:=by rw[D9,if_pos (by omega)]
 rw[e];clear e;refine aL fx43 ?_;refine b8 (lk hv) ?_;refine aF [2,3,4,13,14,15,16,17,18,19,20,21,22,23,24,25,26,27,28,29,30,31,32,33,34,35,36,37,38,39,40,41,42,43,44,45,46,47,48,49,50,51,52,53,54,55,56,57] 12 ss (fun pre post=>HI [] ss=HI pre post) ?_ ?_ ?_ ?_
 .rfl
 .exact aQ
 .intro g G h2;rw[h2];exact wf
 intro g G pre x post h1 h2;have i1:=ay hv (X:=CX) ty22 ty170 rfl (by rw[h1];exact eK encS pre x post) (k := .i64);have w1:=am (n:=pre.length) (by have:=congrArg List.length h1;simp at this;omega);have lt1:(pre.length:Int)<(ss.length:Int):=by rw[h1];simp;omega
 have ql:=(yz x.name (hn x (by rw[h1];simp))).rw;have IW:ac (ss=pre++x::post):=⟨h1⟩;have IY:pre.length<=60:=by omega
 rw[h2,HI];clear h1 h2 k1;simp only[aj,aq,ah,an,UC,UD];cases k2:yA x.name.data.toList with
 | false=>
  rw[k2]at ql;rw[if_neg (by simp)];clear k2;exact wf
 | true=>
 rw[k2]at ql;rw[if_pos rfl];clear k2;refine wk ?_;obtain⟨GG,NZ⟩:∃GG,GG=G:=⟨_,rfl⟩;refine aF [2,23,24,25,26,27,28,29,30,31,32,33,34,35,36,37,38,39,40] 4 pre (fun pp po=>yh pre x.name=yh po x.name) ?_ ?_ ?_ ?_
 .rfl
 .exact aQ
 .intro g2 G2 h3;have k3:yh pre x.name=false:=h3;rw[k3,if_neg (by simp)];clear h3 k3;simp only[aj,aq,ah,an,UC,UD];by_cases f1:x.feat<0
  .rw[if_neg (by omega)];exact wf
  by_cases f2:65536<=x.feat
  .rw[if_neg (by omega)];exact wf
  rw[if_pos (by omega)];refine wk ?_;refine aA IW.out rfl ?_ ?_
  .exact aQ
  .exact dk
 intro g2 G2 pp y po h4 h3;have i2:=ay hv (X:=CX) ty22 ty170 rfl (n:=pp.length) (row:=encS y) (by rw[IW.out,h4];simp) (k := .i64);have w2:=am (n:=pp.length) (by have:=congrArg List.length h4;simp at this;omega);have lt2:(pp.length:Int)<(pre.length:Int):=by rw[h4];simp;omega
 have hb:=bL_eq y.name x.name;have M7:ac (pre=pp++y::po):=⟨h4⟩;have JG:ac (yh pre x.name=yh (y::po) x.name):=⟨h3⟩;clear h4 h3;simp only[aj,aq,ah,an,UC,UD];by_cases hx:y.name=x.name
 .have Kd:decide (y.name=x.name)=true:=by simpa using hx
  have e:yh pre x.name=true:=by rw[JG.out];simp[yh,hx]
  rw[Kd]at hb;rw[e,if_pos rfl];clear hx Kd e;exact wf
 .have Kd:decide (y.name=x.name)=false:=by simpa using hx
  have e:ac (yh pre x.name=yh po x.name):=⟨by rw[JG.out];simp[yh,hx]⟩;rw[Kd]at hb;clear hx Kd;refine wk ?_;refine aA M7.out e.out ?_ ?_
  .exact aQ
  .exact dk
end
section
attribute [local irreducible] bB cX cZ aB bS dE
def bA(a b:Int):Int:=IntKind.wrap .i64 ((BitVec.ofInt 64 a &&& BitVec.ofInt 64 b).toNat:Int)
def foldA(a b:Int):IntKind.wrap .i64 ((BitVec.ofInt 64 a &&& BitVec.ofInt 64 b).toNat:Int)=bA a b:=rfl
def fS(ss:List Sg)(n:Int):Int:=((ss[(n-1).toNat]?).map Sg.feat).getD 0
def inS(ss:List Sg)(m c n:Int):Bool:=tf ss n && decide (bA (fS ss n) m=c)
def isS_at{ss:List Sg}{n:Int}(h:tf ss n=true):∃(k:Nat) (x:Sg),n=(k:Int)+1/\k<ss.length/\ss[k]? = some x/\fS ss n=x.feat:=by
 simp[tf]at h;obtain⟨k,hk⟩:∃k:Nat,n=(k:Int)+1:=⟨(n-1).toNat,by omega⟩;have hl:k<ss.length:=by omega
 refine⟨k,ss[k],hk,hl,UL hl,?_⟩;have:(n-1).toNat=k:=by omega
 rw[fS,this,UL hl];rfl
theorem inM(v:AV)(ss:List Sg)(m c n:Int)(hv:bq 2 (ss.map encS) v)(hl:ss.length<=1000000):aB CX 363 [.agg [v],.int .i64 n,.agg [.int .i64 m,.int .i64 c]] (· = .bool (inS ss m c n)):=by
 have c1:=hv.cell;have s1:=hv.snap;have q:=(segM v ss n hv).rw;cases k:tf ss n with
 | false=>
  have e:inS ss m c n=false:=by rw[inS,k];rfl
  rw[k]at q;rw[e];clear e k;refine aL fx363 ?_;exact wf
 | true=>
  obtain⟨j,x,h1,h2,h3,h4⟩:=isS_at k;have w:IntKind.wrap .i64 (n-1)=(j:Int):=by rw[wrap_small (by omega) (by omega)];omega
  have i1:=ay hv (X:=CX) ty22 ty170 rfl (n:=j) (row:=encS x) (by rw[Vc,h3];rfl) (k := .i64);have e:inS ss m c n=decide (bA x.feat m=c):=by rw[inS,k,h4];rfl
  rw[k]at q;rw[e];clear e k h1 h2 h3 h4;by_cases hc:bA x.feat m=c
  .have b1:(c == bA x.feat m)=true:=by rw[hc];exact beq_self_eq_true _
   have e:decide (bA x.feat m=c)=true:=by simp[hc]
   rw[e];clear e hc;refine aL fx363 ?_;simp only[UB,UE,UF,UH,Nat.reduceAdd,Nat.reduceSub,List.replicate];repeat' (first|refine dn ?_|refine ad rfl ?_|(refine dI fun A B a b=>?_;simp only[go_sem, *,encS,foldA,b1,beq_self_eq_true,Vx];(repeat' first|apply a.1|apply b.1|refine aV (fun h=>?_) fun h=>?_)<;>clear a b A B))
   simp only[aO,aP,bg,cH,cb,cG,cI,cA,cE,aN,go_sem,and_self];exact congrArg AV.bool b1
  .have b1:(c == bA x.feat m)=false:=beq_false_of_ne fun e=>hc e.symm;have e:decide (bA x.feat m=c)=false:=by simp[hc]
   rw[e];clear e hc;refine aL fx363 ?_;simp only[UB,UE,UF,UH,Nat.reduceAdd,Nat.reduceSub,List.replicate];repeat' (first|refine dn ?_|refine ad rfl ?_|(refine dI fun A B a b=>?_;simp only[go_sem, *,encS,foldA,b1,beq_self_eq_true,Vx];(repeat' first|apply a.1|apply b.1|refine aV (fun h=>?_) fun h=>?_)<;>clear a b A B))
   simp only[aO,aP,bg,cH,cb,cG,cI,cA,cE,aN,go_sem,and_self];exact congrArg AV.bool b1
end
section
attribute [local irreducible] bB cX cZ aB bS dE
attribute [local go_sem] cM and_self
set_option maxRecDepth 20000
abbrev El:=Int
def encE(x:El):List AV:=[.int .i64 x]
def rowsD(d:Array El):List (List AV):=d.toList.map encE
def mr(d:Array El):(rowsD d).length=d.size:=by simp[rowsD]
def AG{d:Array El}{i:Nat}(h:i<d.size):(rowsD d)[i]? = some (encE d[i]!):=by
 simp[rowsD,h]
def HM{d:Array El}{i:Nat}{x:El}:(rowsD d).set i [.int .i64 x]=rowsD (d.setIfInBounds i x):=by
 simp[rowsD,List.map_set,encE]
def dropD{d:Array El}{i:Nat}(h:i<d.size):List.drop 1 ((rowsD d).getD i []) = []:=by
 rw[Ve,AG h];rfl
theorem takeD{l:List AV}:List.take 0 l = []:=rfl
def sM(d:Array Int):rowsD d=az d.toList:=rfl
theorem oN:∀l:List Int,kQ (az l)=some l
 | []=>rfl
 | x::l=>by
  have:=oN l;simp only[az,Vk,kQ]at this ⊢;rw[this]
def sortNil(S:ab):bS CX 247 [.flat (.slice none 0 0)] S (fun v S'=>v = .tup []/\S'=S):=by
 unfold bS;have hp:CX.prim 247=some (fX 1 IT fun r=>r.isEmpty):=rfl;exact⟨1,_,_,by simp only[dj,hp];rfl,rfl,rfl⟩
theorem sortE(A C:ab)(l:List Int)(n w:Nat)(hn:l.length=n)(hw:w<=n)(Le:n<4294967296) :
  bS CX 247 [.sl A.length n 0 n 1] (A ++ .arr (az l) 1 w true::C) (fun v S=>v = .tup []/\∃w',w'<=n/\S=A ++ .arr (az (BX l)) 1 w' true::C):=by
 unfold bS;have hp:CX.prim 247=some (fX 1 IT fun r=>r.isEmpty):=rfl;have hc:([]:List AV).isEmpty=true:=rfl;by_cases h0:n=0
 .have:l = []:=UO (hn.trans h0);subst this;subst h0;exact⟨1,_,_,by simp only[dj,hp];exact xY hc,rfl,w,hw,rfl⟩
 .have hl:(az l).length=n:=by simp[az,hn]
  have ha:(az l).all (fY 1)=true:=by
   rw[Vb];intro r hr;obtain⟨x,_,rfl⟩:=UZ.1 hr;rfl
  have e1:(az l).take n=az l:=by rw[<-hl];exact Vn
  have e2:(az l).drop n = []:=WG (by omega);have e3:IT (az l)=some (az (BX l)):=by rw[IT,oN];rfl
  have hk:1=1/\(az l).length=n/\w<=n/\n<=n/\n<4294967296/\(az l).all (fY 1)=true:=⟨rfl,hl,hw,UJ _,Le,ha⟩
  have e4:(fX 1 IT fun r=>r.isEmpty) [.sl A.length n 0 n 1] (A ++ .arr (az l) 1 w true::C)=some (.tup [],A ++ .arr (az (BX l)) 1 n true::C):=by
   rw[xZ hc h0 bZ hk.2 (by rw[e1];exact e3),e2,ly,UM];rfl
  exact⟨1,_,_,by simp only[dj,hp];exact e4,rfl,n,UJ _,rfl⟩
def nW(l:List Int):AV:=if l = [] then .flat (.slice none 0 0) else .osl 1 (az l)
theorem vV{v:AV}{l:List Int}(h:bq 1 (az l) v):BB v=some l:=by
 cases h with
 | rows st=>exact oN l
 | esl h=>
  have:l = []:=by simpa[az]using h
  subst this;rfl
 | nil h=>
  have:l = []:=by simpa[az]using h
  subst this;rfl
def seqE(v:AV)(l:List Int)(st:Bool)(hv:bq 1 (az l) v)(hl:l.length<=1099511627776):aB CX 271 [.flat (.slice none 0 0),.fn 248 [.tptr st [v] 0]] (· = nW l):=by
 by_cases h:l = []
 .subst h;refine aB.prim (r := .flat (.slice none 0 0)) (S:=[]) rfl ?_ rfl;simp only[lz,vV hv];rfl
 .have h0:¬l.length=0:=by simpa using h
  refine aB.prim (r := .sl 0 l.length 0 l.length 1) (S:=[.arr (az l) 1 0 true]) rfl ?_ ?_
  .simp only[lz,vV hv,if_true,if_pos hl,if_neg h0];rfl
  .simp only[nW,if_neg h];simp[da,dR,ce,bT,bI,aC]
def colE(v:AV)(l:List Int)(st:Bool)(hv:bq 1 (az l) v)(hl:l.length<=1099511627776):aB CX 246 [.fn 248 [.tptr st [v] 0]] (· = nW l):=by
 have q:=(seqE v l st hv hl).rw;have hs:∀S,snap S (.tptr st [v] 0)=some (.tptr st [v] 0):=fun S=>by simp only[snap]
 by_cases h:l = []
 .subst h;have e:nW [] = .flat (.slice none 0 0):=rfl;rw[e]at q ⊢;have ha:∀id,dJ id (.flat (.slice none 0 0))=(.flat (.slice none 0 0),[]):=fun _=>rfl;refine aL fx246 ?_;simp only[UB,UE,UF,UH,Nat.reduceAdd,Nat.reduceSub,List.replicate];repeat' (first|refine dn ?_|refine ad rfl ?_|(refine dI fun A B a b=>?_;simp only[go_sem, *,dA ty31 rfl];(repeat' first|apply a.1|apply b.1|refine aV (fun h=>?_) fun h=>?_)<;>clear a b A B))
  simp only[go_sem];simp[iw,da,dR,ce,bI,AV.stab]
 .have e:nW l = .osl 1 (az l):=by rw[nW,if_neg h]
  rw[e]at q ⊢;refine aL fx246 ?_;exact wf
def lS(l:List Int):List Int:=l.mergeSort fun x y=>decide (x<=y)
def wZ(l:List Int):(lS l).length=l.length:=by simp[lS]
def Gr(l:List Int):lS l = []↔l = []:=by
 rw[<-V0,wZ,V0]
def srtE(v:AV)(l:List Int)(st:Bool)(hv:bq 1 (az l) v)(hl:l.length<4294967296):aB CX 210 [.fn 248 [.tptr st [v] 0]] (· = nW (lS l)):=by
 have q:=(colE v l st hv (by omega)).rw;have hs:∀S,snap S (.tptr st [v] 0)=some (.tptr st [v] 0):=fun S=>by simp only[snap]
 by_cases h:l = []
 .subst h;have e:nW [] = .flat (.slice none 0 0):=rfl;have e':nW (lS []) = .flat (.slice none 0 0):=by simp[nW,lS]
  rw[e]at q;rw[e'];have ha:∀id,dJ id (.flat (.slice none 0 0))=(.flat (.slice none 0 0),[]):=fun _=>rfl;refine aL fx210 ?_;simp only[UB,UE,UF,UH,Nat.reduceAdd,Nat.reduceSub,List.replicate];repeat' (first|refine dn ?_|refine ad rfl ?_|(refine gh fun A B a b=>?_;simp only[go_sem, *,dA ty31 rfl];(repeat' first|apply a.1|refine aV (fun h=>?_) fun h=>?_)<;>clear a b A B))
  refine bK fun K hK=>?_;simp only[go_sem];refine bS.mono (sortNil _) ?_;rintro _ _ ⟨rfl,rfl⟩;refine hK.out _ _ ?_;clear hK K;refine wk ?_;simp only[go_sem];simp[iw,da,dR,ce,bI,AV.stab]
 .have e:nW l = .osl 1 (az l):=by rw[nW,if_neg h]
  have e':nW (lS l) = .osl 1 (az (lS l)):=by rw[nW,if_neg (by rw[Gr];exact h)]
  rw[e]at q;rw[e'];refine aL fx210 ?_;simp only[UB,UE,UF,UH,Nat.reduceAdd,Nat.reduceSub,List.replicate];repeat' (first|refine dn ?_|refine ad rfl ?_|(refine gh fun A B a b=>?_;simp only[go_sem, *,dA ty31 rfl];(repeat' first|apply a.1|refine aV (fun h=>?_) fun h=>?_)<;>clear a b A B))
  refine bK fun K hK=>?_;simp only[go_sem];try simp only[aC]
  refine bS.mono (sortE [.arr [] 1 0 true] [] l l.length 0 rfl (U9 _) hl) ?_;rintro _ S ⟨rfl,w',Lx,rfl⟩;have e2:BX l=lS l:=GW l;rw[e2];refine hK.out _ _ ?_;clear hK K;refine wk ?_;simp only[go_sem,wZ];simp[Lx]
end
end Go.Eng
