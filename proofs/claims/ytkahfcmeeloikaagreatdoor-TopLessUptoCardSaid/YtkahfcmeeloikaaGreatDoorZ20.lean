/- Projects: what the reference's check tells. -/
import Derived.Test.YtkahfcmeeloikaaGreatDoorZ19
set_option linter.all false
set_option maxHeartbeats 4000000
namespace Go.Eng
open Go.Proofs
section
attribute [local irreducible] bB cX cZ aB bS dE
attribute [local go_sem] U1 Vj List.replicate UC Vp Nat.reduceMul Vg eF d9 bP bt ci bN cM ba aY aS aM aX and_self
structure Dq where
 r:lO
 tv:AV
 ts:List Ti
 nv:AV
 ns:List Nt
def Dq.dc(d:Dq):Dc:=⟨d.r.id,d.r.name,d.r.len,d.r.day,d.r.sv,d.tv,d.nv⟩
def bd(d:Dq):List AV:=[.int .i64 d.r.id,.str d.r.name,.int .i64 d.r.len,.int .i64 d.r.day,d.r.sv,d.tv,d.nv]
structure Dq.ok (d:Dq):Prop where
 r:d.r.ok
 t:bq 4 (d.ts.map eW) d.tv
 tt:d.tv.stab=true
 n:bq 7 (d.ns.map aZ) d.nv
 nt:d.nv.stab=true
structure Dq.few (d:Dq):Prop where
 nm:d.r.name.size<=1048576
 sp:d.r.sp.length<=1048576
 t:d.ts.length<=1048576
 ti:∀x∈d.ts,x.nm.size<=1048576
 n:d.ns.length<=1048576
 ni:∀n∈d.ns,n.tx.size<=1048576
theorem Dq.ok.dc{d:Dq}(h:d.ok):d.dc.ok d.ts d.ns:=⟨h.r.sv.cell,h.r.sv.snap,h.t,h.n,h.r.st,h.tt,h.nt⟩
structure Pr where
 g:Lg
 dv:AV
 ds:List Dq
 ev:AV
 es:List De
 ov:AV
 os:List Po
 pv:AV
 ps:List ij
 gv:AV
 gs:List eZ
 cv:AV
 cs:List gw
 rv:AV
 rs:List Ru
def cd(p:Pr):List AV:=[p.g.sgv,.str p.g.onm,p.g.uv,p.g.lv,p.g.rv,.int .i64 p.g.nst,p.g.pv,p.g.fv,p.g.xv,p.dv,p.ev,p.ov,p.pv,p.gv,p.cv,p.rv]
attribute [local go_sem] cd
structure Pr.ok (p:Pr):Prop where
 g:p.g.ok
 d:bq 7 (p.ds.map bd) p.dv
 di:∀d∈p.ds,d.ok
 e:bq 4 (p.es.map dS) p.ev
 ei:∀d∈p.es,d.ok
 o:bq 5 (p.os.map nR) p.ov
 oi:∀d∈p.os,d.ok
 r:Hm p.pv p.gv p.cv p.rv p.ps p.gs p.cs p.rs
structure Pr.few (p:Pr):Prop where
 g:p.g.few
 d:p.ds.length<=1048576
 di:∀d∈p.ds,d.few
 e:p.es.length<=1048576
 ei:∀d∈p.es,d.pl.length<=1048576
 o:p.os.length<=1048576
 oi:∀d∈p.os,d.few
 r:Hn p.ps p.gs p.cs p.rs
structure nK (p:Pr):Prop where
 g:qj p.g
 d:p.ds.length<=12
 di:∀d∈p.ds,lj TX d.r.len d.ts d.ns
 ids:p.ds.Pairwise fun a b=>a.r.id<b.r.id
 r:mL p.ps (p.ds.map (·.r)) p.gs p.cs p.rs=0
 few:jC p.ps p.gs p.cs p.rs=true
def ii(l:List Dq):List (List AV):=(l.map (·.r)).map fE
def BE(l:List Dq)(x:Dq):ii (l++[x])=ii l++[fE x.r]:=by simp[ii]
def iI(l:List Dq):(ii l).length=l.length:=by simp[ii]
attribute [local go_sem] iI
def sO(l:List Dq):(ii l).take l.length=ii l:=Vm (by rw[iI];exact UJ _)
attribute [local go_sem] sO
theorem GC{v:AV}{l:List Dq}(hv:bq 7 (l.map bd) v)(hok:∀d∈l,d.ok)(hl:l.length<=1048576):aB CX 14 [v] (· = .osl 5 (ii l)):=by
 refine aL fx14 ?_;refine b8 (lk hv) ?_;refine aJ [5,6,7,8,9,10,11,12,13,14,15,16,17,18] (fun p:List Dq×List Dq=>[(3,.sl 1 p.1.length 0 p.1.length 5),(4,.int .i64 (p.1.length:Int))]) (fun p G=> .arr [] 5 0 true :: .arr (ii p.1) 5 0 true::G) (fun p=>l=p.1++p.2) (fun p=>p.2.length) ([],l) rfl ?_ ⟨[],rfl⟩ ?_
 .exact aQ
 rintro⟨pre,post⟩ g G h1;replace h1:l=pre++post:=h1;cases post with
 | nil=>
  rw[UM]at h1;subst h1;have J5:=iI l;exact fm (lk hv)
 | cons x post=>
  have IZ:pre.length<l.length:=by rw[h1];simp
  have lt1:(pre.length:Int)<(l.length:Int):=by omega
  have w1:=am (n:=pre.length) (by omega);have i1:=ay hv (X:=CX) ty37 ty74 rfl (n:=pre.length) (row:=bd x) (k := .i64) (by rw[h1];simp);have hx:=hok x (by rw[h1];simp);have c1:=hx.r.sv.cell;have t1:=hx.r.st;have IW:ac (l=(pre++[x])++post):=⟨by rw[h1];simp⟩;have b1:(pre.length+1)*64<=140737488355328:=by omega
  have b2:pre.length+1<=140737488355328:=by omega
  have J5:=iI pre;simp only[bd]at i1;clear h1 IZ hx;refine b8 (lk hv) ?_;refine ax (pre++[x],post) (UV _) IW.out ?_ ?_
  .exact aQ
  .simp only[BE,fE];exact⟨_,rfl⟩
def pwDq{pre:List Dq}{x:Dq}(h:pre.Pairwise fun a b=>a.r.id<b.r.id)(hx:∀y,pre.getLast? = some y->y.r.id<x.r.id):(pre++[x]).Pairwise fun a b=>a.r.id<b.r.id:=by
 rw[V6];refine⟨h,by simp,fun a ha b hb=>?_⟩;simp at hb;subst hb;rcases fA pre with rfl|⟨p,z,rfl⟩
 .simp at ha
 .have hz:=hx z (by simp);rcases UU.1 ha with h1|h1
  .have:=(V6.1 h).2.2 a h1 z (by simp);omega
  .simp at h1;subst h1;exact hz
def noDq:Dq:=⟨⟨0,.empty,0,0,dw,[]⟩,dw,[],dw,[]⟩
def Pr.ok.cells{p:Pr}(h:p.ok):p.dv.cell=true/\p.ev.cell=true/\p.ov.cell=true/\p.pv.cell=true/\p.gv.cell=true/\p.cv.cell=true/\p.rv.cell=true:=⟨h.d.cell,h.e.cell,h.o.cell,h.r.p.cell,h.r.g.cell,h.r.c.cell,h.r.r.cell⟩
def Pr.ok.snaps{p:Pr}(h:p.ok):(∀S,snap S p.dv=some p.dv)/\(∀S,snap S p.ev=some p.ev)/\(∀S,snap S p.ov=some p.ov)/\(∀S,snap S p.pv=some p.pv)/\(∀S,snap S p.gv=some p.gv)/\(∀S,snap S p.cv=some p.cv)/\(∀S,snap S p.rv=some p.rv):=⟨h.d.snap,h.e.snap,h.o.snap,h.r.p.snap,h.r.g.snap,h.r.c.snap,h.r.r.snap⟩
def Ea{p:Pr}(h:p.ok)(hf:p.few):∃x,(x=0->nK p)/\aB CX 6 [.agg (cd p)] (· = .int .i64 x):=by
 refine aB.int ?_;obtain⟨c1,c2,c3,c4,c5,c6,c7⟩:=h.g.cells;obtain⟨s1,s2,s3,s4,s5,s6,s7⟩:=h.g.snaps;obtain⟨d1,d2,d3,d4,d5,d6,d7⟩:=h.cells;obtain⟨t1,t2,t3,t4,t5,t6,t7⟩:=h.snaps;have hd:=h.d;obtain⟨e1,f1,q1⟩:=GT h.g hf.g;obtain⟨e2,q2⟩:=check31E h.e h.ei hf.ei hf.e;obtain⟨e3,q3⟩:=HT h.g.x h.g.xo hf.g.x h.o h.oi hf.oi hf.o;have q1:=q1.rw;have q2:=q2.rw;have q3:=q3.rw;simp only[fU]at q1;have f1H:ac (e1=0->qj p.g):=⟨f1⟩;have q5:=(GC hd h.di hf.d).rw;have qd:ac (∀d∈p.ds,d.ok/\∃e,(e=0->lj TX d.r.len d.ts d.ns)/\aB CX 20 [.agg (bd d)] (· = .int .i64 e)):=⟨fun d hd=>⟨h.di d hd,Ec (h.di d hd).dc (hf.di d hd).n (hf.di d hd).t (hf.di d hd).ti (hf.di d hd).ni⟩⟩
 have qr:ac (p.ds.length<=12->∃e,(e=0->mL p.ps (p.ds.map (·.r)) p.gs p.cs p.rs=0/\jC p.ps p.gs p.cs p.rs=true)/\aB CX 23 [.tsl false 5 (ii p.ds),.agg [p.pv,p.gv,p.cv,p.rv]] (· = .int .i64 e)) :=
  ⟨fun PM=>by
   have hok:∀x∈p.ds.map (·.r),x.ok:=fun x hx=>by obtain⟨d,hd,rfl⟩:=UZ.1 hx;exact(h.di d hd).r
   refine Eb h.r hf.r (.rows false) hok (by simp;omega) (recsR h.r.p (by have:=hf.r.p;omega) _ hok (fun x hx=>?_) (fun x hx=>?_) (by simp;omega) false)
   .obtain⟨d,hd,rfl⟩:=UZ.1 hx;exact(hf.di d hd).nm
   .obtain⟨d,hd,rfl⟩:=UZ.1 hx;exact Vu (hf.di d hd).sp (by decide)⟩
 clear h hf f1;by_cases k1:e1=0
 case neg=>
  refine aL fx6 ?_;refine wk ?_;simp only[go_sem];exact⟨_,rfl,fun h=>absurd h k1⟩
 have g1:=f1H.out k1;have RT:ac (qj p.g):=⟨g1⟩;clear g1 f1H;subst k1;by_cases k2:(12:Int)<(p.ds.length:Int)
 .refine aL fx6 ?_;exact fm (lk hd)
 have Mt:ac (p.ds.length<=12):=⟨by omega⟩;obtain⟨e4,f4,q4⟩:=qr.out Mt.out;have q4:=q4.rw;have f4:ac _:=⟨f4⟩;clear qr;refine aL fx6 ?_;refine b8 (lk hd) ?_;refine aF [2,5,18,19,20,21,22,23,24,25,26,27,28,29,30,31,32,33,34,35,36,37,38,39,40,41,42,43,44,45,46,47,48,49,50,51,52,53] 4 p.ds (fun pre _=>pre.Pairwise (fun a b=>a.r.id<b.r.id)/\∀d∈pre,lj TX d.r.len d.ts d.ns) ?_ ?_ ?_ ?_
 .exact⟨.nil,fun e h=>by cases h⟩
 .exact aQ
 .intro g G hP;have Jz:ac (e4=0->nK p):=⟨fun h=>⟨RT.out,Mt.out,hP.2,hP.1,(f4.out h).1,(f4.out h).2⟩⟩;clear hP;by_cases k3:e2=0
  case neg=>
   refine b8 (lk hd) ?_;simp only[go_sem];exact⟨_,rfl,fun h=>absurd h k3⟩
  subst k3;by_cases k4:e3=0
  case neg=>
   refine b8 (lk hd) ?_;simp only[go_sem];exact⟨_,rfl,fun h=>absurd h k4⟩
  subst k4;exact fm (lk hd)
 .intro g G pre x post h1 hP;have IZ:pre.length<p.ds.length:=by rw[h1];simp
  have lt1:(pre.length:Int)<(p.ds.length:Int):=by omega
  have w1:=am (n:=pre.length) (by have:=Mt.out;omega);have i1:=ay hd (X:=CX) ty37 ty74 rfl (n:=pre.length) (row:=bd x) (k := .i64) (by rw[h1];simp);have i0:(0:Int)<(pre.length:Int)->aD CX 37 p.dv (.int .i64 (IntKind.wrap .i64 ((pre.length:Int)-1)))=some (.tptr (jW p.dv) (bd (pre.getLastD noDq)) 0):=fun h0=>hG (f:=bd) (h1 ▸ hd) (by rw[<-h1];have:=Mt.out;omega) ty37 ty74 rfl noDq h0;obtain⟨hx,e,he,qx⟩:=qd.out x (by rw[h1];simp);have qx:=qx.rw;have x1:=hx.r.sv.cell;have x2:=hx.t.cell;have x3:=hx.n.cell;have y1:=hx.r.sv.snap;have y2:=hx.t.snap;have y3:=hx.n.snap;have IW:ac (p.ds=pre++x::post):=⟨h1⟩;have Jz:ac (pre.Pairwise (fun a b=>a.r.id<b.r.id)/\∀d∈pre,lj TX d.r.len d.ts d.ns):=⟨hP⟩
  have Ko:ac (∀y,pre.getLast? = some y->(pre.getLastD noDq)=y):=⟨fun y hy=>by
   rcases fA pre with rfl|⟨p,z,rfl⟩
   .simp at hy
   .simp at hy ⊢;exact hy⟩
  have Js:ac (¬(0:Int)<(pre.length:Int)->pre = []):=⟨fun h=>UO (by omega)⟩;generalize pre.getLastD noDq=z at*;simp only[bd]at i1 i0 qx;clear h1 IZ hx hP;by_cases k3:e=0
  case neg=>
   clear i0 he;refine b8 (lk hd) ?_;simp only[go_sem];exact⟨_,rfl,fun h=>absurd h k3⟩
  have ND:ac (lj TX x.r.len x.ts x.ns):=⟨he k3⟩;clear he;subst k3;by_cases h0:(0:Int)<(pre.length:Int)
  .have i0:=i0 h0;by_cases k4:x.r.id<=z.r.id
   .exact fm (lk hd)
   .have k5:ac (¬x.r.id<=z.r.id):=⟨k4⟩;refine b8 (lk hd) ?_;refine aA IW.out ?_ ?_ ?_
    .refine⟨pwDq Jz.out.1 fun y hy=>?_,fun e he=>?_⟩
     .have:=Ko.out y hy;have:=k5.out;subst y;omega
     .rcases UU.1 he with h|h
      .exact Jz.out.2 e h
      .simp at h;subst h;exact ND.out
    .exact aQ
    .exact dk
  .clear i0;refine b8 (lk hd) ?_;refine aA IW.out ?_ ?_ ?_
   .rw[Js.out h0];exact⟨by simp,fun e he=>by simp at he;subst he;exact ND.out⟩
   .exact aQ
   .exact dk
end
section
attribute [local irreducible] bB cX cZ aB bS dE
attribute [local go_sem] bi and_self bd
def IR:List AV:=[.int .i64 0,.str .empty,.int .i64 0,.int .i64 0,dw,dw,dw]
def eu(l:List Dq)(n:Int):Option Dq:=l.find? fun d=>d.r.id == n
def iY:Option Dq->AV
 | some d=> .tup [.agg (bd d),.bool true]
 | none=> .tup [.agg IR,.bool false]
def yL(x:Dq)(l:List Dq)(n:Int):eu (x::l) n=if x.r.id == n then some x else eu l n:=by
 simp only[eu,V3];cases (x.r.id == n)<;>rfl
def Dq.ok.exp{d:Dq}(h:d.ok)(S:ab):∀c∈bd d,aW S c=some c:=by
 intro c hc;simp only[bd,U2,VA,or_false]at hc;rcases hc with rfl|rfl|rfl|rfl|rfl|rfl|rfl
 .rfl
 .rfl
 .rfl
 .rfl
 .exact bk h.r.st S
 .exact bk h.tt S
 .exact bk h.nt S
def Gg(S:ab):∀c∈IR,aW S c=some c:=by
 intro c hc;simp only[IR,dw,U2,VA,or_false]at hc;rcases hc with rfl|rfl|rfl|rfl|rfl|rfl|rfl<;>rfl
theorem doc47E{v:AV}{l:List Dq}(n:Int)(hv:bq 7 (l.map bd) v)(hok:∀d∈l,d.ok)(hl:l.length<9223372036854775807):aB CX 9 [v,.int .i64 n] (· = iY (eu l n)):=by
 refine aL fx9 ?_;refine b8 (lk hv) ?_;refine aF [5,7,8,9,10,11,12,13,14,15,16,17,18,19,20,21,22,23,24] 6 l (fun _ post=>eu l n=eu post n) ?_ ?_ ?_ ?_
 .rfl
 .rfl
 .intro g G h2;have e:eu l n=none:=h2;rw[e,iY];clear h2 e;refine b8 (lk hv) ?_;simp only[go_sem];exact(jD (Gg _)).mpr rfl
 .intro g G pre x post h1 h2;have IZ:pre.length<l.length:=by rw[h1];simp
  have lt1:(pre.length:Int)<(l.length:Int):=by omega
  have w1:=am (n:=pre.length) (by omega);have i1:=ay hv (X:=CX) ty37 ty74 rfl (n:=pre.length) (row:=bd x) (k := .i64) (by rw[h1];simp);have Kw:=hok x (by rw[h1];simp);have N4:ac (∀S,∀c∈bd x,aW S c=some c):=⟨Kw.exp⟩;have c1:=Kw.r.sv.cell;have c2:=Kw.t.cell;have c3:=Kw.n.cell;have IW:ac (l=pre++x::post):=⟨h1⟩;rw[yL]at h2;clear h1 IZ Kw;cases hx:(x.r.id == n) with
  | true=>
   have e:eu l n=some x:=by rw[h2,hx];rfl
   rw[e,iY];clear h2 e;refine b8 (lk hv) ?_;simp only[go_sem];exact(jD (N4.out _)).mpr rfl
  | false=>
   have hh:ac (eu l n=eu post n):=⟨by rw[h2,hx];rfl⟩;clear h2;refine b8 (lk hv) ?_;refine aA IW.out hh.out ?_ ?_
   .exact aQ
   .exact dk
end
section
attribute [local irreducible] bB cX cZ aB bS dE
def alT(ts:List Ti)(i:Int):Bool:=decide (0<=i) && decide (i<ts.length) && tZ (ch ts i).kd
def al11E{v:AV}{ts:List Ti}(i:Int)(hv:bq 4 (ts.map eW) v):aB CX 221 [v,.int .i64 i] (· = .bool (alT ts i)):=by
 unfold alT;by_cases k1:0<=i
 case neg=>
  rw[decide_eq_false k1];refine aL fx221 ?_;refine b8 (lk hv) ?_;all_goals simp only[aO,aP,bg,cH,cb,cG,cI,cA,cE,aN,go_sem,and_self]
  all_goals simp
 by_cases k2:i<(ts.length:Int)
 case neg=>
  rw[decide_eq_false k2];refine aL fx221 ?_;refine b8 (lk hv) ?_;all_goals simp only[aO,aP,bg,cH,cb,cG,cI,cA,cE,aN,go_sem,and_self]
  all_goals simp
 obtain⟨k,rfl⟩:∃k:Nat,i=(k:Int):=⟨i.toNat,by omega⟩;obtain⟨t,ht⟩:∃t,ts[k]? = some t:=⟨_,UL (by omega)⟩;have e:ch ts (k:Int)=t:=by simp[ch,ht]
 have i1:=ay hv (X:=CX) ty71 ty180 rfl (n:=k) (row:=eW t) (k := .i64) (by simp[ht]);have q:=(ED t.kd).rw;rw[e];simp only[eW]at i1;clear e ht;refine aL fx221 ?_;refine b8 (lk hv) ?_;all_goals simp only[aO,aP,bg,cH,cb,cG,cI,cA,cE,aN,go_sem,and_self]
 all_goals simp[k1,k2]
end
section
attribute [local irreducible] bB cX cZ aB bS dE
attribute [local go_sem] bi and_self ck
def zb(n:Nt)(S:ab):∀c∈aZ n,aW S c=some c:=by
 intro c hc;simp only[aZ,U2,VA,or_false]at hc;rcases hc with rfl|rfl|rfl|rfl|rfl|rfl|rfl<;>rfl
theorem Ib{d:Dc}{ts:List Ti}{ns:List Nt}(n:Int)(hd:d.ok ts ns)(hl:ns.length<=1048576):aB CX 70 [.agg (ck d),.int .i64 n] (· = iX (cO ns n)):=by
 have c1:=hd.nc;have c2:=hd.tc;have c3:=hd.sc;have hn:=hd.n;refine aL fx70 ?_;refine b8 (lk hn) ?_;refine aF [5,7,12,13,14,15,16,17,18,19,20] 11 ns (fun _ post=>cO ns n=cO post n) ?_ ?_ ?_ ?_
 .rfl
 .rfl
 .intro g G h2;have e:cO ns n=none:=h2;rw[e,iX];clear h2 e;refine b8 (lk hn) ?_;simp only[go_sem];exact(jD (zb zN _)).mpr rfl
 .intro g G pre x post h1 h2;have IZ:pre.length<ns.length:=by rw[h1];simp
  have lt1:(pre.length:Int)<(ns.length:Int):=by omega
  have w1:=am (n:=pre.length) (by omega);have i1:=ay hn (X:=CX) ty72 ty78 rfl (n:=pre.length) (row:=aZ x) (k := .i64) (by rw[h1];exact fp aZ pre x post);have IW:ac (ns=pre++x::post):=⟨h1⟩;rw[vi]at h2;simp only[aZ]at i1;clear h1 IZ;cases hx:(x.id == n) with
  | true=>
   have e:cO ns n=some x:=by rw[h2,hx];rfl
   rw[e,iX];clear h2 e;refine b8 (lk hn) ?_;simp only[go_sem];exact(jD (zb x _)).mpr rfl
  | false=>
   have hh:ac (cO ns n=cO post n):=⟨by rw[h2,hx];rfl⟩;clear h2;refine b8 (lk hn) ?_;refine aA IW.out hh.out ?_ ?_
   .exact aQ
   .exact dk
end
section
variable {ts:List Ti}{v:AV}
attribute [local irreducible] bB cX cZ aB bS dE
attribute [local go_sem] bi and_self bd zm
theorem docM{l:List Dq}(n:Int)(hv:bq 7 (l.map bd) v)(hok:∀d∈l,d.ok)(hl:l.length<9223372036854775807):aB CX 38 [v,.int .i64 n] (· = iY (eu l n)):=by
 refine aL fx38 ?_;refine b8 (lk hv) ?_;refine aF [5,7,11,12,13,14,15,16,17,18,19,20] 10 l (fun _ post=>eu l n=eu post n) ?_ ?_ ?_ ?_
 .rfl
 .rfl
 .intro g G h2;have e:eu l n=none:=h2;rw[e,iY];clear h2 e;refine b8 (lk hv) ?_;simp only[go_sem];exact(jD (Gg _)).mpr rfl
 .intro g G pre x post h1 h2;have IZ:pre.length<l.length:=by rw[h1];simp
  have lt1:(pre.length:Int)<(l.length:Int):=by omega
  have w1:=am (n:=pre.length) (by omega);have i1:=ay hv (X:=CX) ty37 ty74 rfl (n:=pre.length) (row:=bd x) (k := .i64) (by rw[h1];simp);have Kw:=hok x (by rw[h1];simp);have N4:ac (∀S,∀c∈bd x,aW S c=some c):=⟨Kw.exp⟩;have c1:=Kw.r.sv.cell;have c2:=Kw.t.cell;have c3:=Kw.n.cell;have IW:ac (l=pre++x::post):=⟨h1⟩;rw[yL]at h2;clear h1 IZ Kw;cases hx:(x.r.id == n) with
  | true=>
   have e:eu l n=some x:=by rw[h2,hx];rfl
   rw[e,iY];clear h2 e;refine b8 (lk hv) ?_;simp only[go_sem];exact(jD (N4.out _)).mpr rfl
  | false=>
   have hh:ac (eu l n=eu post n):=⟨by rw[h2,hx];rfl⟩;clear h2;refine b8 (lk hv) ?_;refine aA IW.out hh.out ?_ ?_
   .exact aQ
   .exact dk
def alM(k:Int):aB CX 213 [.int .i64 k] (· = .bool (tZ k)):=by
 refine aL fx213 ?_;simp only[UB,UE,UF,UH,Nat.reduceAdd,Nat.reduceSub,List.replicate];repeat' (first|refine dn ?_|refine ad rfl ?_|(refine dI fun A B a b=>?_;simp only[go_sem, *];(repeat' first|apply a.1|apply b.1|refine aV (fun h=>?_) fun h=>?_)<;>clear a b A B))
 all_goals simp only[go_sem]
 all_goals simp[tZ, *]
def alignedM(i:Int)(hv:bq 4 (ts.map eW) v):aB CX 176 [v,.int .i64 i] (· = .bool (alT ts i)):=by
 unfold alT;by_cases k1:0<=i
 case neg=>
  rw[decide_eq_false k1];refine aL fx176 ?_;refine b8 (lk hv) ?_;all_goals simp only[go_sem]
  all_goals simp
 by_cases k2:i<(ts.length:Int)
 case neg=>
  rw[decide_eq_false k2];refine aL fx176 ?_;refine b8 (lk hv) ?_;all_goals simp only[go_sem]
  all_goals simp
 obtain⟨k,rfl⟩:∃k:Nat,i=(k:Int):=⟨i.toNat,by omega⟩;obtain⟨t,ht⟩:∃t,ts[k]? = some t:=⟨_,UL (by omega)⟩;have e:ch ts (k:Int)=t:=by simp[ch,ht]
 have i1:=ay hv (X:=CX) ty71 ty180 rfl (n:=k) (row:=eW t) (k := .i64) (by simp[ht]);have q:=(alM t.kd).rw;rw[e];simp only[eW]at i1;clear e ht;refine aL fx176 ?_;refine b8 (lk hv) ?_;all_goals simp only[go_sem]
 all_goals simp[k1,k2]
def dP(ro:Int):List Ti->Nat->Int
 | [],_=> -1
 | t::ts,k=>if ¬ro=0/\t.ro=ro then (k:Int) else dP ro ts (k+1)
def C4(ro:Int)(hv:bq 4 (ts.map eW) v)(hl:ts.length<=1048576):aB CX 64 [v,.int .i64 ro] (· = .int .i64 (dP ro ts 0)):=by
 refine aL fx64 ?_;refine b8 (lk hv) ?_;refine aF [4,5,6,10,11,12,13,14,15,16,17,18,19,20,21,22,23] 9 ts (fun pre post=>dP ro ts 0=dP ro post pre.length) ?_ ?_ ?_ ?_
 .rfl
 .exact aQ
 .intro g G h2;rw[h2];simp only[dP];clear h2;exact fm (lk hv)
 .intro g G pre x post h1 h2;have IZ:pre.length<ts.length:=by rw[h1];simp
  have lt1:(pre.length:Int)<(ts.length:Int):=by omega
  have w1:=am (n:=pre.length) (by omega);have i1:=ay hv (X:=CX) ty71 ty180 rfl (n:=pre.length) (row:=eW x) (k := .i64) (by rw[h1];simp);have IW:ac (ts=pre++x::post):=⟨h1⟩;simp only[eW]at i1;rw[dP]at h2;clear h1 IZ;by_cases k:¬ro=0/\x.ro=ro
  .rw[if_pos k]at h2;rw[h2];obtain⟨k1,k2⟩:=k;clear h2;refine b8 (lk hv) ?_;all_goals simp only[go_sem]
  .rw[if_neg k]at h2;have JD:ac (dP ro ts 0=dP ro post (pre++[x]).length):=⟨by rw[h2];simp⟩;clear h2;by_cases k1:ro=0
   .have kb:(ro == 0)=true:=by simp[k1]
    clear k k1;refine b8 (lk hv) ?_;refine aA IW.out JD.out ?_ ?_
    .exact aQ
    .exact dk
   .have k2:¬x.ro=ro:=fun e=>k ⟨k1,e⟩;clear k;refine b8 (lk hv) ?_;refine aA IW.out JD.out ?_ ?_
    .exact aQ
    .exact dk
end
section
def sk(ts:List Ti)(ns:List Nt):Prop := ∀n∈ns,0<=n.ti/\n.ti<(ts.length:Int)/\∀m,cO ns n.pa=some m->alT ts n.ti=false->m.ti<n.ti
def fz(ts:List Ti)(ns:List Nt):Nat->Int->Option (Int×Int)
 | 0,_=>none
 | k+1,id=>match cO ns id with
  | none=>none
  | some n=>if alT ts n.ti=true then some (n.fr,n.en) else fz ts ns k n.pa
def mT:Option (Int×Int)->AV
 | some s=> .tup [.agg [.int .i64 s.1,.int .i64 s.2],.bool true]
 | none=> .tup [.agg [.int .i64 0,.int .i64 0],.bool false]
def v6(ts:List Ti)(ns:List Nt)(s:Nt×Bool×Nat):Option (Int×Int):=if s.2.1=true then (if alT ts s.1.ti=true then some (s.1.fr,s.1.en) else fz ts ns s.2.2 s.1.pa) else none
def mG{ns:List Nt}{n:Int}{x:Nt}(h:cO ns n=some x):x∈ns:=U8 h
def sH(a b:Int)(S:ab):∀c∈[AV.int .i64 a,AV.int .i64 b],aW S c=some c:=by
 intro c hc;simp only[U2,VA,or_false]at hc;rcases hc with rfl|rfl<;>rfl
attribute [local irreducible] bB cX cZ aB bS dE
attribute [local go_sem] bi and_self ck aZ bC bp
theorem whereM{d:Dc}{ts:List Ti}{ns:List Nt}(id:Int)(hd:d.ok ts ns)(ht:sk ts ns)(hl:ns.length<=1048576):aB CX 130 [.agg (ck d),.int .i64 id] (· = mT (fz ts ns (ts.length+1) id)):=by
 have c1:=hd.nc;have c2:=hd.tc;have c3:=hd.sc;have s1:=hd.n.snap;have s2:=hd.tsn;have s3:=hd.ss;have qg:∀n Q,_:=fun n=>(Ib n hd hl).rw;have qa:∀i Q,_:=fun i=>(alignedM i hd.t).rw;simp only[ck]at qg;generalize hR:fz ts ns (ts.length+1) id=R
 obtain⟨x,ok,k,hg,hP⟩:∃x ok k,iX (cO ns id) = .tup [.agg (aZ x),.bool ok]/\v6 ts ns (x,ok,k)=R/\(ok=true->x∈ns/\x.ti<=(k:Int)):=by
  rw[fz]at hR;cases e:cO ns id with
  | none=>rw[e]at hR;exact⟨zN,false,0,rfl,hR,fun h=>by cases h⟩
  | some m=>
   rw[e]at hR;exact⟨m,true,ts.length,rfl,hR,fun _=>⟨mG e,by have:=(ht m (mG e)).2.1;omega⟩⟩
 have q0:=qg id;rw[hg]at q0;simp only[aZ]at q0;have hH:=ac.mk hP;have Rs:=ac.mk ht;have Qh:=ac.mk qg;clear hR hg hP ht qg hd hl;refine aL fx130 ?_;refine wk ?_;refine aJ [14,15,16,17,18,19,20,21,22,23,24,25,26,27,28,29] (fun s:Nt×Bool×Nat=>[(7,.bool s.2.1)]) (fun s G=> .arr [[.int .i64 d.id,.str d.nm,.int .i64 d.len,.int .i64 d.day,d.sp,d.tv,d.nv]] 7 0 (d.sp.stab && (d.tv.stab && d.nv.stab)) :: .arr [[.int .i64 0,.int .i64 0]] 2 0 true :: .arr [[.int .i64 s.1.id,.int .i64 s.1.ti,.int .i64 s.1.pa,.int .i64 s.1.fr,.int .i64 s.1.en,.int .i64 s.1.rk,.str s.1.tx]] 7 1 true::G) (fun s=>v6 ts ns s=R/\(s.2.1=true->s.1∈ns/\s.1.ti<=(s.2.2:Int))) (fun s=>if s.2.1=true then s.2.2+1 else 0) (x,ok,k) hH.out aQ dk ?_;rintro⟨y,b,k'⟩ g G ⟨h1,h2⟩;replace h1:v6 ts ns (y,b,k')=R:=h1;replace h2:b=true->y∈ns/\y.ti<=(k':Int):=h2;cases b with
 | false=>
  have e:R=none:=by rw[<-h1];rfl
  subst e;clear h1 h2 hH;refine wk ?_;simp only[go_sem];exact(jD (sH _ _ _)).mpr rfl
 | true=>
  obtain⟨hy,hk⟩:=h2 rfl;cases ha:alT ts y.ti with
  | true=>
   have e:R=some (y.fr,y.en):=by rw[<-h1,v6];simp[ha]
   subst e;have qa:=qa y.ti;rw[ha]at qa;clear h1 h2 hH;refine wk ?_;simp only[go_sem];exact(jD (sH _ _ _)).mpr rfl
  | false=>
   have qa:=qa y.ti;rw[ha]at qa;have e:fz ts ns k' y.pa=R:=by rw[<-h1,v6];simp[ha]
   obtain⟨z,b2,k2,hg,hP,hm⟩:∃z b2 k2,iX (cO ns y.pa) = .tup [.agg (aZ z),.bool b2]/\(v6 ts ns (z,b2,k2)=R/\(b2=true->z∈ns/\z.ti<=(k2:Int)))/\(if b2=true then k2+1 else 0)<k'+1:=by
    cases e2:cO ns y.pa with
    | none=>
     refine⟨zN,false,0,rfl,⟨?_,fun h=>by cases h⟩,by simp⟩;rw[<-e];cases k'<;>simp[fz,v6,e2]
    | some m=>
     have h3:=(Rs.out y hy).2.2 m e2 ha;have h4:=(Rs.out m (mG e2)).1;cases k' with
     | zero=>omega
     | succ k'=>exact⟨m,true,k',rfl,⟨by rw[<-e];simp[fz,v6,e2],fun _=>⟨mG e2,by omega⟩⟩,by simp⟩
   have q1:=Qh.out y.pa;rw[hg]at q1;simp only[aZ]at q1;have Jz:=ac.mk hP;have RF:=ac.mk hm;clear h1 h2 hH hg hP hm e hy hk;refine wk ?_;exact ax (z,b2,k2) RF.out Jz.out aQ dk
end
section
attribute [local irreducible] bB cX cZ aB bS dE
attribute [local go_sem] and_self bd
def light12E{d:Dq}(h:d.ok)(hf:d.few):∃b,(b=true->d.ns.length<=14/\d.ts.length<=6/\d.r.sp.length<=6)/\aB CX 15 [.agg (bd d)] (· = .bool b):=by
 refine aB.boo ?_;obtain⟨e,_,q⟩:=Ec h.dc hf.n hf.t hf.ti hf.ni;have q:=(show aB CX 20 [.agg (bd d)] (· = .int .i64 e) from q).rw;have x1:=h.r.sv.cell;have x2:=h.t.cell;have x3:=h.n.cell;have y1:=h.r.sv.snap;have y2:=h.t.snap;have y3:=h.n.snap;have h1:=h.n;have h2:=h.t;have h3:=h.r.sv;simp only[bd]at q;clear h hf;by_cases k1:(d.ns.length:Int)<=14
 case neg=>
  refine aL fx15 ?_;refine b8 (lk h1) ?_;all_goals (simp only[go_sem];exact⟨_,rfl,fun h=>by cases h⟩)
 by_cases k2:(d.ts.length:Int)<=6
 case neg=>
  refine aL fx15 ?_;refine pz (lk h1) (lk h2) ?_;all_goals (simp only[go_sem];exact⟨_,rfl,fun h=>by cases h⟩)
 by_cases k3:(d.r.sp.length:Int)<=6
 case neg=>
  refine aL fx15 ?_;refine wk3 (lk h1) (lk h2) (lk h3) ?_;all_goals (simp only[go_sem];exact⟨_,rfl,fun h=>by cases h⟩)
 have hh:ac (d.ns.length<=14/\d.ts.length<=6/\d.r.sp.length<=6):=⟨by omega⟩;refine aL fx15 ?_;refine wk3 (lk h1) (lk h2) (lk h3) ?_;all_goals (simp only[go_sem];exact⟨_,rfl,fun _=>hh.out⟩)
theorem small29E{v:AV}{l:List En}(hv:bq 8 (l.map aG) v)(hok:∀e∈l,e.ok)(hf:∀e∈l,e.few)(hl:l.length<=1048576):∃b,aB CX 33 [v] (· = .bool b):=by
 refine aB.boo0 ?_;refine aL fx33 ?_;simp only[UB,UE,UF,UH,Nat.reduceAdd,Nat.reduceSub,List.replicate];repeat' (first|refine dn ?_|refine ad rfl ?_|(refine dI fun A B a b=>?_;simp only[go_sem, *,au hv];(repeat' first|apply a.1|apply b.1|refine aV (fun h=>?_) fun h=>?_)<;>clear a b A B))
 all_goals first|(show qX _ _ _;simp only[go_sem];exact⟨_,rfl⟩)|skip
 refine aF [2,4,8,9,10,11,12,13,14,15,16,17,18,19,20,21,22,23,24,25,26,27,28,29,30,31,32,33,34,35,36,37,38,39,40,41,42,43,44,45,46,47,48,49] 3 l (fun _ _=>True) ?_ ?_ ?_ ?_
 .trivial
 .exact aQ
 .intro g G _;exact fm (lk hv)
 .intro g G pre x post h1 _;have IZ:pre.length<l.length:=by rw[h1];simp
  have lt1:(pre.length:Int)<(l.length:Int):=by omega
  have w1:=am (n:=pre.length) (by omega);have i1:=ay hv (X:=CX) ty34 ty66 rfl (n:=pre.length) (row:=aG x) (k := .i64) (by rw[h1];simp);have Jg:x∈l:=by rw[h1];simp
  have hx:=hok x Jg;have PX:=hx.f;have Rp:=hx.a;have hH:ac (x.al.length<=1048576/\∀y∈x.al,bq 1 (az y.2) y.1):=⟨(hf x Jg).a,fun y hy=>(hx.ai y hy).1⟩;have IW:ac (l=pre++x::post):=⟨h1⟩;simp only[aG]at i1;clear h1 IZ Jg hx;simp only[aj,aq,ah,an,UC,UD];repeat' (first|refine dn ?_|refine ad rfl ?_|(refine dI fun A B a b=>?_;simp only[go_sem, *,au hv,au PX,au Rp];(repeat' first|apply a.1|apply b.1|refine aV (fun h=>?_) fun h=>?_)<;>clear a b A B))
  all_goals first|(show qX _ _ _;simp only[go_sem];exact⟨_,rfl⟩)|skip
  all_goals
   refine aF [2,30,31,32,33,34,35,36,37,38,39,40,41,42,43,44,45,46,47,48,49] 4 x.al (fun _ _=>True) ?_ ?_ ?_ ?_
   .trivial
   .exact aQ
   .intro g2 G2 _;refine pz (lk hv) (lk Rp) ?_;exact vP
   .intro g2 G2 pr y po h2 _;have Ml:pr.length<x.al.length:=by rw[h2];simp
    have lt2:(pr.length:Int)<(x.al.length:Int):=by omega
    have w2:=am (n:=pr.length) (by have:=hH.out.1;omega);have i2:=ay Rp (X:=CX) ty61 ty31 rfl (n:=pr.length) (row:=[y.1]) (k := .i64) (by rw[h2];simp);have hy:=hH.out.2 y (by rw[h2];simp);have I7:ac (x.al=pr++y::po):=⟨h2⟩;clear h2 Ml;simp only[aj,aq,ah,an,UC,UD];repeat' (first|refine dn ?_|refine ad rfl ?_|(refine dI fun A B a b=>?_;simp only[go_sem, *,au hv,au Rp,au hy];(repeat' first|apply a.1|apply b.1|refine aV (fun h=>?_) fun h=>?_)<;>clear a b A B))
    all_goals
     first
     |(refine aA I7.out ?_ ?_ ?_;(· exact trivial);(· exact aQ);(· exact dk))
     |(simp only[go_sem];exact⟨_,rfl⟩)
end
section
attribute [local irreducible] bB cX cZ aB bS dE
def light29E{g:Lg}(h:g.ok)(hf:g.few):∃b,aB CX 12 [.agg (fU g)] (· = .bool b):=by
 refine aB.boo0 ?_;obtain⟨c1,c2,c3,c4,c5,c6,c7⟩:=h.cells;obtain⟨s1,s2,s3,s4,s5,s6,s7⟩:=h.snaps;obtain⟨e,_,q1⟩:=GT h hf;obtain⟨b,q2⟩:=small29E h.x h.xo hf.xo hf.x;have q1:=q1.rw;have q2:=q2.rw;simp only[fU]at q1;have l1:=h.sg;have l2:=h.u;have l3:=h.r;have l4:=h.p;have l5:=h.f;have J5:=hf.r;have Jr:ac (∀r∈g.rs,r.ok):=⟨h.ro⟩;clear h hf;refine aL fx12 ?_;simp only[UB,UE,UF,UH,Nat.reduceAdd,Nat.reduceSub,List.replicate];repeat' (first|refine dn ?_|refine ad rfl ?_|(refine dI fun A B a b=>?_;simp only[go_sem, *,fU,au l1,au l2,au l3,au l4,au l5,aC,UI];(repeat' first|apply a.1|apply b.1|refine aV (fun h=>?_) fun h=>?_)<;>clear a b A B))
 all_goals first|(show qX _ _ _;simp only[aO,aP,bg,cH,cb,cG,cI,cA,cE,aN,go_sem,and_self];exact⟨_,rfl⟩)|skip
 all_goals
  refine aF [2,48,49,50,51,52,53,54,55,56,57,58,59,60,61,62] 3 g.rs (fun _ _=>True) ?_ ?_ ?_ ?_
  .trivial
  .exact aQ
  .intro g2 G _;exact fm (lk l3)
  .intro g2 G pre x post h1 _;have IZ:pre.length<g.rs.length:=by rw[h1];simp
   have lt1:(pre.length:Int)<(g.rs.length:Int):=by omega
   have w1:=am (n:=pre.length) (by omega);have i1:=ay l3 (X:=CX) ty29 ty120 rfl (n:=pre.length) (row:=ge x) (k := .i64) (by rw[h1];simp);have hx:=(Jr.out x (by rw[h1];simp)).f;have IW:ac (g.rs=pre++x::post):=⟨h1⟩;simp only[ge]at i1;clear h1 IZ;simp only[aj,aq,ah,an,UC,UD];repeat' (first|refine dn ?_|refine ad rfl ?_|(refine dI fun A B a b=>?_;simp only[go_sem, *,au l3,au hx,aC,UI,jf,UD,UC,Vx,U9,bZ,cr,ly,UX,UG,UF,kK,jX,aM,mE,Vn,UW,Wu];(repeat' first|apply a.1|apply b.1|refine aV (fun h=>?_) fun h=>?_)<;>clear a b A B))
   all_goals exact vP
def light45E{pv gv cv rv u:AV}{ps:List ij}{gs:List eZ}{cs:List gw}{rs:List Ru}{rows:List (List AV)}(h:Hm pv gv cv rv ps gs cs rs)(hu:bq 5 rows u)(q:rows.length<=4->∃e,aB CX 23 [u,.agg [pv,gv,cv,rv]] (· = .int .i64 e)):∃b,aB CX 13 [.agg [pv,gv,cv,rv],u] (· = .bool b):=by
 refine aB.boo0 ?_;have c1:=h.p.cell;have c2:=h.g.cell;have c3:=h.c.cell;have c4:=h.r.cell;have s1:=h.p.snap;have s2:=h.g.snap;have s3:=h.c.snap;have s4:=h.r.snap;have su:=hu.snap;have l1:=h.p;have l2:=h.g;have l3:=h.c;have l4:=h.r;clear h;by_cases k:(4:Int)<(rows.length:Int)
 .clear q;refine aL fx13 ?_;simp only[UB,UE,UF,UH,Nat.reduceAdd,Nat.reduceSub,List.replicate];repeat' (first|refine dn ?_|refine ad rfl ?_|(refine dI fun A B a b=>?_;simp only[go_sem, *,au l1,au l2,au l3,au l4,au hu,UI];(repeat' first|apply a.1|apply b.1|refine aV (fun h=>?_) fun h=>?_)<;>clear a b A B))
  all_goals (simp only[aO,aP,bg,cH,cb,cG,cI,cA,cE,aN,go_sem,and_self];exact⟨_,rfl⟩)
 obtain⟨e,q⟩:=q (by omega);have q:=q.rw;refine aL fx13 ?_;simp only[UB,UE,UF,UH,Nat.reduceAdd,Nat.reduceSub,List.replicate];repeat' (first|refine dn ?_|refine ad rfl ?_|(refine dI fun A B a b=>?_;simp only[go_sem, *,au l1,au l2,au l3,au l4,au hu,UI];(repeat' first|apply a.1|apply b.1|refine aV (fun h=>?_) fun h=>?_)<;>clear a b A B))
 all_goals (simp only[aO,aP,bg,cH,cb,cG,cI,cA,cE,aN,go_sem,and_self];exact⟨_,rfl⟩)
end
section
attribute [local irreducible] bB cX cZ aB bS dE
attribute [local go_sem] and_self cd
structure Cq (p:Pr):Prop where
 r:nK p
 d:∀d∈p.ds,d.ns.length<=14/\d.ts.length<=6/\d.r.sp.length<=6
theorem light48E{p:Pr}(h:p.ok)(hf:p.few):∃b,(b=true->Cq p)/\aB CX 4 [.agg (cd p)] (· = .bool b):=by
 refine aB.boo ?_;obtain⟨c1,c2,c3,c4,c5,c6,c7⟩:=h.g.cells;obtain⟨s1,s2,s3,s4,s5,s6,s7⟩:=h.g.snaps;obtain⟨d1,d2,d3,d4,d5,d6,d7⟩:=h.cells;obtain⟨t1,t2,t3,t4,t5,t6,t7⟩:=h.snaps;have hd:=h.d;have he:=h.e;have ho:=h.o;obtain⟨e1,f1,q1⟩:=Ea h hf;obtain⟨b2,q2⟩:=light29E h.g hf.g;have q5:=(GC hd h.di hf.d).rw
 obtain⟨b3,q3⟩:=light45E h.r (u := .tsl false 5 (ii p.ds)) (rows:=ii p.ds) (.rows false) (fun h4=>by
  rw[iI]at h4;have hok:∀x∈p.ds.map (·.r),x.ok:=fun x hx=>by obtain⟨d,hd,rfl⟩:=UZ.1 hx;exact(h.di d hd).r
  obtain⟨e,_,q⟩:=Eb h.r hf.r (u := .tsl false 5 ((p.ds.map (·.r)).map fE)) (recs:=p.ds.map (·.r)) (.rows false) hok (by simp;omega) (recsR h.r.p (by have:=hf.r.p;omega) _ hok (fun x hx=>by obtain⟨d,hd,rfl⟩:=UZ.1 hx;exact(hf.di d hd).nm) (fun x hx=>by obtain⟨d,hd,rfl⟩:=UZ.1 hx;exact Vu (hf.di d hd).sp (by decide)) (by simp;omega) false);exact⟨e,q⟩)
 have q1:=q1.rw;have q2:=q2.rw;have q3:=q3.rw;simp only[cd,fU]at q1 q2;have qd:ac (∀d∈p.ds,d.ok/\∃b,(b=true->d.ns.length<=14/\d.ts.length<=6/\d.r.sp.length<=6)/\aB CX 15 [.agg (bd d)] (· = .bool b)):=⟨fun d hd=>⟨h.di d hd,light12E (h.di d hd) (hf.di d hd)⟩⟩;have f1H:ac (e1=0->nK p):=⟨f1⟩;have LU:ac (p.ds.length<=1048576):=⟨hf.d⟩;clear h hf f1;by_cases k1:e1=0
 case neg=>
  refine aL fx4 ?_;refine wk ?_;all_goals (simp only[go_sem];exact⟨_,rfl,fun h=>by cases h⟩)
 have hR:ac (nK p):=⟨f1H.out k1⟩;clear f1H;subst k1;refine aL fx4 ?_;simp only[UB,UE,UF,UH,Nat.reduceAdd,Nat.reduceSub,List.replicate];repeat' (first|refine dn ?_|refine ad rfl ?_|(refine dI fun A B a b=>?_;simp only[go_sem, *,iI,sO,au hd,au he,au ho];(repeat' first|apply a.1|apply b.1|refine aV (fun h=>?_) fun h=>?_)<;>clear a b A B))
 all_goals first|(show qX _ _ _;simp only[go_sem];exact⟨_,rfl,fun h=>by cases h⟩)|skip
 all_goals
  refine aF [2,40,41,42,43,44,45,46,47,48,49,50,51,52,53] 3 p.ds (fun pre _=> ∀d∈pre,d.ns.length<=14/\d.ts.length<=6/\d.r.sp.length<=6) ?_ ?_ ?_ ?_
  .intro d h;cases h
  .exact aQ
  .intro g2 G hP;have Jz:ac (Cq p):=⟨⟨hR.out,hP⟩⟩;clear hP;exact fm (lk hd)
  .intro g2 G pre x post h1 hP;have IZ:pre.length<p.ds.length:=by rw[h1];simp
   have lt1:(pre.length:Int)<(p.ds.length:Int):=by omega
   have w1:=am (n:=pre.length) (by have:=LU.out;omega);have i1:=ay hd (X:=CX) ty37 ty74 rfl (n:=pre.length) (row:=bd x) (k := .i64) (by rw[h1];simp);obtain⟨hx,b,hb,qx⟩:=qd.out x (by rw[h1];simp);have qx:=qx.rw;have x1:=hx.r.sv.cell;have x2:=hx.t.cell;have x3:=hx.n.cell;have y1:=hx.r.sv.snap;have y2:=hx.t.snap;have y3:=hx.n.snap;have IW:ac (p.ds=pre++x::post):=⟨h1⟩
   have Jz:ac (b=true->∀d∈pre++[x],d.ns.length<=14/\d.ts.length<=6/\d.r.sp.length<=6):=⟨fun h d hd=>by
    rcases UU.1 hd with k|k
    .exact hP d k
    .simp at k;subst k;exact hb h⟩
   simp only[bd]at i1 qx;clear h1 IZ hx hb hP;cases b with
   | false=>
    exact fm (lk hd)
   | true=>
    refine b8 (lk hd) ?_;refine aA IW.out (Jz.out rfl) ?_ ?_
    .exact aQ
    .exact dk
end
section
variable {cs:List gw}{cv gv pv rv:AV}{gs:List eZ}{ps:List ij}{rs:List Ru}
attribute [local irreducible] bB cX cZ aB bS dE
attribute [local go_sem] bi and_self fF
attribute [local go_sem] bC adC1 adC2
def atM(h:Cb cv=some cs)(hl:cs.length<=1000000)(p r d:Int):aB CX 204 [cv,.int .i64 p,.int .i64 r,.int .i64 d] (· = .int .i64 (zH cs p r d)) :=
 aB.prim (r := .int .i64 (zH cs p r d)) (S:=[]) rfl (by simp only[uE,h,if_pos hl]) rfl
def H0(ps:List ij)(n:Int):Bool:=oe ps n && (Es ps n).mem
theorem memberM(h:Hm pv gv cv rv ps gs cs rs)(hl:ps.length<=1000)(n:Int):aB CX 205 [.agg [pv,gv,cv,rv],.int .i64 n] (· = .bool (H0 ps n)):=by
 have c1:=h.p.cell;have c2:=h.g.cell;have c3:=h.c.cell;have c4:=h.r.cell;have s1:=h.p.snap;have q:=(GI pv ps n h.p (by omega)).rw;have hE:H0 ps n=(oe ps n && (Es ps n).mem):=rfl;cases k:oe ps n with
 | false=>
  rw[k]at q hE;rw[hE];clear hE k;refine aL fx205 ?_;exact wf
 | true=>
  rw[k]at q hE;rw[hE];clear hE k;refine aL fx205 ?_;exact wf
def ew(M:Bool)(cs:List gw)(id day:Int):List Int->Int
 | []=>0
 | s::l=>if zH cs s id day=0 then 26 else if zH cs s id day=1/\M=false then 25 else ew M cs id day l
def qP(ps:List ij)(cs:List gw)(r:lO)(pe day:Int):Int:=ew (H0 ps pe) cs r.id day r.sp
theorem baseM(h:Hm pv gv cv rv ps gs cs rs)(hl:ps.length<=1000)(JA:cs.length<=1000)(r:lO)(hr:r.ok)(J5:r.sp.length<=1000)(pe day:Int) :
  aB CX 168 [.agg [pv,gv,cv,rv,.int .i64 r.id,.str r.name,.int .i64 r.len,.int .i64 r.day,r.sv,.int .i64 pe,.int .i64 day]] (· = .int .i64 (qP ps cs r pe day)):=by
 have c1:=h.p.cell;have c2:=h.g.cell;have c3:=h.c.cell;have c4:=h.r.cell;have c5:=hr.sv.cell;have s1:=h.p.snap;have s2:=h.g.snap;have s3:=h.c.snap;have s4:=h.r.snap;have s5:=hr.sv.snap;have q:=(memberM h hl pe).rw;unfold qP;obtain⟨M,hM⟩:∃M,H0 ps pe=M:=⟨_,rfl⟩;rw[hM]at q ⊢;clear hM;obtain⟨R,hR⟩:∃R,ew M cs r.id day r.sp=R:=⟨_,rfl⟩;have LR:ac (ew M cs r.id day r.sp=R):=⟨hR⟩;rw[hR];clear hR;refine aL fx168 ?_;refine b8 (lk hr.sv) ?_;refine aF [2,4,5,11,12,13,14,15,16,17,18,19,20,21,22,23,24,25,26,27,28,29,30,31,32,33,34,35,36,37,38,39] 10 r.sp (fun _ post=>ew M cs r.id day r.sp=ew M cs r.id day post) ?_ ?_ ?_ ?_
 .rfl
 .rfl
 .intro g G hA;have e:R=0:=by rw[<-LR.out,hA];rfl
  rw[e];clear e hA LR;exact wf
 intro g G pre x post h1 hA;have i1:=ay hr.sv (X:=CX) ty31 ty3 rfl (by rw[h1];exact dp pre x post) (k := .i64);have IZ:pre.length<r.sp.length:=by rw[h1];simp
 have lt1:(pre.length:Int)<(r.sp.length:Int):=by omega
 have w1:=am (n:=pre.length) (by omega);have qa:=(atM h.ca (by omega) x r.id day).rw;have IW:ac (r.sp=pre++x::post):=⟨h1⟩;obtain⟨A,Pp⟩:∃A,zH cs x r.id day=A:=⟨_,rfl⟩;have hs:ew M cs r.id day r.sp=if A=0 then 26 else if A=1/\M=false then 25 else ew M cs r.id day post:=by rw[hA,ew,Pp]
 rw[Pp]at qa;have Mc:ac (ew M cs r.id day r.sp=if A=0 then 26 else if A=1/\M=false then 25 else ew M cs r.id day post):=⟨hs⟩;clear h1 IZ hA hs Pp;by_cases k1:A=0
 .subst k1;have e:R=26:=by rw[<-LR.out,Mc.out];rfl
  rw[e];clear e Mc LR;exact wf
 have b1:(A == 0)=false:=beq_false_of_ne k1;by_cases k2:A=1
 .subst k2;cases M with
  | false=>
   have e:R=25:=by rw[<-LR.out,Mc.out];rfl
   rw[e];clear e Mc LR;exact wf
  | true=>
   exact wf
 .have b2:(A == 1)=false:=beq_false_of_ne k2;have M6:ac (ew M cs r.id day r.sp=ew M cs r.id day post):=⟨by rw[Mc.out,if_neg k1,if_neg (fun e=>k2 e.1)]⟩;clear k1 k2;refine wk ?_;refine aA IW.out M6.out ?_ ?_
  .exact aQ
  .exact dk
theorem baseR(h:Hm pv gv cv rv ps gs cs rs)(hl:ps.length<=1000)(JA:cs.length<=1000)(r:lO)(hr:r.ok)(J5:r.sp.length<=1000)(pe day:Int) :
  aB CX 72 [.agg [pv,gv,cv,rv],.agg [.int .i64 r.id,.str r.name,.int .i64 r.len,.int .i64 r.day,r.sv],.agg [.int .i64 pe,.int .i64 day]] (· = .int .i64 (qP ps cs r pe day)):=by
 have c1:=h.p.cell;have c2:=h.g.cell;have c3:=h.c.cell;have c4:=h.r.cell;have c5:=hr.sv.cell;have s1:=h.p.snap;have s2:=h.g.snap;have s3:=h.c.snap;have s4:=h.r.snap;have s5:=hr.sv.snap;have q:=(sR pv ps pe h.p (by omega)).rw;have Ue:H0 ps pe=(oe ps pe && (Es ps pe).mem):=rfl;unfold qP;obtain⟨M,hM⟩:∃M,H0 ps pe=M:=⟨_,rfl⟩;rw[hM]at Ue ⊢;clear hM;generalize oe ps pe=I at*;generalize Es ps pe=y at*;obtain⟨R,hR⟩:∃R,ew M cs r.id day r.sp=R:=⟨_,rfl⟩;have LR:ac (ew M cs r.id day r.sp=R):=⟨hR⟩;have Tk:ac (M=(I && y.mem)):=⟨Ue⟩;rw[hR];clear hR Ue;refine aL fx72 ?_;refine b8 (lk hr.sv) ?_;refine aF [6,9,10,23,24,25,26,27,28,29,30,31,32,33,34,35,36,37,38,39,40,41,42,43,44,45,46,47,48,49,50] 22 r.sp (fun _ post=>ew M cs r.id day r.sp=ew M cs r.id day post) ?_ ?_ ?_ ?_
 .rfl
 .rfl
 .intro g G hA;have e:R=0:=by rw[<-LR.out,hA];rfl
  rw[e];clear e hA LR;exact wf
 intro g G pre x post h1 hA;have i1:=ay hr.sv (X:=CX) ty31 ty3 rfl (by rw[h1];exact dp pre x post) (k := .i64);have IZ:pre.length<r.sp.length:=by rw[h1];simp
 have lt1:(pre.length:Int)<(r.sp.length:Int):=by omega
 have w1:=am (n:=pre.length) (by omega);have qa:=(atR x r.id day h.c JA).rw;have IW:ac (r.sp=pre++x::post):=⟨h1⟩;obtain⟨A,Pp⟩:∃A,zH cs x r.id day=A:=⟨_,rfl⟩;have hs:ew M cs r.id day r.sp=if A=0 then 26 else if A=1/\M=false then 25 else ew M cs r.id day post:=by rw[hA,ew,Pp]
 rw[Pp]at qa;have Mc:ac (ew M cs r.id day r.sp=if A=0 then 26 else if A=1/\M=false then 25 else ew M cs r.id day post):=⟨hs⟩;clear h1 IZ hA hs Pp;by_cases k1:A=0
 .subst k1;have e:R=26:=by rw[<-LR.out,Mc.out];rfl
  rw[e];clear e Mc LR;exact wf
 have b1:(A == 0)=false:=beq_false_of_ne k1;by_cases k2:A=1
 .subst k2;cases I with
  | false=>
   have e:R=25:=by rw[<-LR.out,Mc.out,Tk.out];rfl
   rw[e];clear e Mc LR;exact wf
  | true=>
   obtain⟨yid,ynm,ym⟩:=y;cases ym with
   | false=>
    have e:R=25:=by rw[<-LR.out,Mc.out,Tk.out];rfl
    rw[e];clear e Mc LR;exact wf
   | true=>
    have M6:ac (ew M cs r.id day r.sp=ew M cs r.id day post):=⟨by rw[Mc.out,Tk.out];rfl⟩;refine wk ?_;refine aA IW.out M6.out ?_ ?_
    .exact aQ
    .exact dk
 .have b2:(A == 1)=false:=beq_false_of_ne k2;have M6:ac (ew M cs r.id day r.sp=ew M cs r.id day post):=⟨by rw[Mc.out,if_neg k1,if_neg (fun e=>k2 e.1)]⟩;clear k1 k2;refine wk ?_;refine aA IW.out M6.out ?_ ?_
  .exact aQ
  .exact dk
end
section
attribute [local irreducible] bB cX cZ aB bS dE
end
section
variable {gl:List Int}{gs:List eZ}{pg v w:AV}{ps:List ij}
attribute [local irreducible] bB cX cZ aB bS dE
attribute [local go_sem] bi and_self aR cY fF
noncomputable def m9(ps:List ij)(gs:List eZ)(lv:Int)(gl:List Int)(un pe day:Int):Bool :=
 if day<un then false else if lv=2 then gl.any fun g=>(ej gs g).contains pe else if lv=3 then false else if lv=1 then oe ps pe && (Es ps pe).mem else true
def mayE(h:ko v gs)(hw:bq 3 (ps.map fF) w)(JP:ps.length<=1000)(hp:bq 1 (az gl) pg)(Kr:gl.length<=1050000)(lv un pe day:Int) :
  aB CX 206 [w,v,.agg [.int .i64 lv,pg,.int .i64 un],.agg [.int .i64 pe,.int .i64 day]] (· = .bool (m9 ps gs lv gl un pe day)):=by
 have J3:=fun S=>h.sl.snap (S:=S);have Ow:=hw.snap;have c1:=hp.cell;have s1:=hp.snap;by_cases h1:day<un
 .refine aL fx206 ?_;refine pz @bj @aI ?_;simp only[go_sem];simp[m9,h1]
 by_cases h2:lv=2
 .subst h2;have e:m9 ps gs 2 gl un pe day=gl.any fun g=>(ej gs g).contains pe:=by simp[m9,h1]
  rw[e];clear e;have z:((2:Int) == 2)=true:=rfl;refine aL fx206 ?_;refine wk3 @bj @aI (lk hp) ?_;refine aF [8,10,30,31,32,33,34,35,36,37,38] 29 gl (fun _ post=>(gl.any fun g=>(ej gs g).contains pe)=post.any fun g=>(ej gs g).contains pe) ?_ ?_ ?_ ?_
  .rfl
  .rfl
  .intro g G hE;rw[hE];exact wf
  .intro g G pre x post h3 hE;rw[hE];have i1:=ay hp (X:=CX) ty31 ty3 rfl (by rw[h3];exact dp pre x post) (k := .i64);have lt1:(pre.length:Int)<(gl.length:Int):=by rw[h3];simp;omega
   have w1:=am (n:=pre.length) (by rw[h3]at Kr;simp at Kr;omega);have q:=(inE h x pe).rw;have hh:ac (gl=pre++x::post):=⟨h3⟩;have JL:ac ((gl.any fun g=>(ej gs g).contains pe)=(x::post).any fun g=>(ej gs g).contains pe):=⟨hE⟩;clear h3 hE;simp only[aj,aq,ah,an,UC,UD];by_cases k:(ej gs x).contains pe=true
   .rw[k]at q;refine pz @bj @aI ?_;simp only[go_sem];rw[V4,k];rfl
   .have k:(ej gs x).contains pe=false:=by simpa using k
    rw[k]at q;refine pz @bj @aI ?_;refine aA hh.out ?_ ?_ ?_
    .rw[V4,k,V9]
    .exact aQ
    .exact dk
 by_cases h3:lv=3
 .subst h3;have z:((3:Int) == 3)=true:=rfl;have z2:((3:Int) == 2)=false:=rfl;refine aL fx206 ?_;refine pz @bj @aI ?_;simp only[go_sem];simp[m9,h1]
 by_cases h4:lv=1
 .subst h4;have z:((1:Int) == 3)=false:=rfl;have z2:((1:Int) == 2)=false:=rfl;have z1:((1:Int) == 1)=true:=rfl;have q:=(GI w ps pe hw (by omega)).rw;by_cases k:oe ps pe=true
  .refine aL fx206 ?_;refine pz @bj @aI ?_;simp only[go_sem];simp[m9,h1,k]
  .have k:oe ps pe=false:=by simpa using k
   refine aL fx206 ?_;refine pz @bj @aI ?_;simp only[go_sem];simp[m9,h1,k]
 .refine aL fx206 ?_;refine pz @bj @aI ?_;simp only[go_sem];simp[m9,h1,h2,h3,h4]
def wO(ps:List ij)(gs:List eZ)(lv:Int)(gl:List Int)(un pe day:Int):Bool :=
 if day<un then false else if lv=0 then true else if lv=1 then oe ps pe && (Es ps pe).mem else if lv=2 then gl.any fun g=>(eG gs g).contains pe else false
def mayG_eq(hc:Clo gs){lv:Int}(h0:0<=lv)(h3:lv<=3)(gl:List Int)(un pe day:Int):wO ps gs lv gl un pe day=m9 ps gs lv gl un pe day:=by
 unfold wO m9;simp only[Dp hc];have:lv=0\/lv=1\/lv=2\/lv=3:=by omega
 rcases this with e|e|e|e<;>subst e<;>simp
def mayR(h:ko v gs)(hw:bq 3 (ps.map fF) w)(JP:ps.length<=1000)(hp:bq 1 (az gl) pg)(Kr:gl.length<=1050000)(lv un pe day:Int) :
  aB CX 73 [w,v,.agg [.int .i64 lv,pg,.int .i64 un],.agg [.int .i64 pe,.int .i64 day]] (· = .bool (wO ps gs lv gl un pe day)):=by
 have J3:=fun S=>h.sl.snap (S:=S);have Ow:=hw.snap;have c1:=hp.cell;have s1:=hp.snap;by_cases h1:day<un
 .refine aL fx73 ?_;refine pz @bj @aI ?_;simp only[go_sem];simp[wO,h1]
 by_cases h3:lv=0
 .subst h3;have z:((0:Int) == 0)=true:=rfl;refine aL fx73 ?_;refine pz @bj @aI ?_;simp only[go_sem];simp[wO,h1]
 by_cases h4:lv=1
 .subst h4;have z:((1:Int) == 0)=false:=rfl;have z1:((1:Int) == 1)=true:=rfl;have q:=(sR w ps pe hw (by omega)).rw;by_cases k:oe ps pe=true
  .refine aL fx73 ?_;refine pz @bj @aI ?_;simp only[go_sem];simp[wO,h1,k]
  .have k:oe ps pe=false:=by simpa using k
   refine aL fx73 ?_;refine pz @bj @aI ?_;simp only[go_sem];simp[wO,h1,k]
 by_cases h2:lv=2
 .subst h2;have e:wO ps gs 2 gl un pe day=gl.any fun g=>(eG gs g).contains pe:=by simp[wO,h1]
  rw[e];clear e;have z:((2:Int) == 2)=true:=rfl;have z0:((2:Int) == 0)=false:=rfl;have z1:((2:Int) == 1)=false:=rfl;refine aL fx73 ?_;refine pz @bj @aI ?_;refine aF [8,38,39,40,41,42,43,44,45,46,47,48,49,50,51,52,53] 11 gl (fun _ post=>(gl.any fun g=>(eG gs g).contains pe)=post.any fun g=>(eG gs g).contains pe) ?_ ?_ ?_ ?_
  .rfl
  .rfl
  .intro g G hE;rw[hE];refine b8 (lk hp) ?_;simp only[go_sem];rfl
  .intro g G pre x post h3 hE;rw[hE];have i1:=ay hp (X:=CX) ty31 ty3 rfl (by rw[h3];exact dp pre x post) (k := .i64);have lt1:(pre.length:Int)<(gl.length:Int):=by rw[h3];simp;omega
   have w1:=am (n:=pre.length) (by rw[h3]at Kr;simp at Kr;omega);have q:=(inRE h x pe).rw;have hh:ac (gl=pre++x::post):=⟨h3⟩;have JL:ac ((gl.any fun g=>(eG gs g).contains pe)=(x::post).any fun g=>(eG gs g).contains pe):=⟨hE⟩;clear h3 hE;simp only[aj,aq,ah,an,UC,UD];by_cases k:(eG gs x).contains pe=true
   .rw[k]at q;refine wk3 @bj @aI (lk hp) ?_;simp only[go_sem];rw[V4,k];rfl
   .have k:(eG gs x).contains pe=false:=by simpa using k
    rw[k]at q;refine wk3 @bj @aI (lk hp) ?_;refine aA hh.out ?_ ?_ ?_
    .rw[V4,k,V9]
    .exact aQ
    .exact dk
 .refine aL fx73 ?_;refine pz @bj @aI ?_;simp only[go_sem];simp[wO,h1,h2,h3,h4]
structure Prt where
 lv:Int
 gl:List Int
 un:Int
 gv:AV
structure Prt.ok (p:Prt):Prop where
 gv:bq 1 (az p.gl) p.gv
 len:p.gl.length<=1050000
end
section
variable {cs:List gw}{cv gv pv rv:AV}{gs:List eZ}{ps:List ij}{rs:List Ru}
attribute [local irreducible] bB cX cZ aB bS dE
attribute [local go_sem] U1 Vj List.replicate UC Vp Nat.reduceMul Vg bi eF d9 bP bt ci bN cM ba aY aS aM aX and_self Fo.spans_len fe
def mayM(h:Hm pv gv cv rv ps gs cs rs)(hf:jC ps gs cs rs=true)(x:Ru)(hx:x.ok)(JQ:x.gl.length<=1050000)(pe day:Int) :
  aB CX 169 [.agg [pv,gv,cv,rv],.agg [.int .i64 x.lv,x.gv,.int .i64 x.un],.agg [.int .i64 pe,.int .i64 day]] (· = .bool (m9 ps gs x.lv x.gl x.un pe day)):=by
 have c1:=h.p.cell;have c2:=h.g.cell;have c3:=h.c.cell;have c4:=h.r.cell;have c5:=hx.sl.cell;have s1:=h.p.snap;have s2:=h.g.snap;have s5:=hx.sl.snap;have f1:=(iZ hf).1;have q:=(mayE (h.gsok hf) h.p (by omega) hx.sl JQ x.lv x.un pe day).rw;generalize m9 ps gs x.lv x.gl x.un pe day=M at*;clear hf f1;refine aL fx169 ?_;exact wf
noncomputable def iQ(ps:List ij)(gs:List eZ)(r:lO)(pe day:Int)(x:Ru):Bool:=(x.rc == r.id) && !(m9 ps gs x.lv x.gl x.un pe day)
def gZ(x:Ru):Bool:=(x.sp.1 == 0) && (x.sp.2 == 0)
noncomputable def fC(ps:List ij)(gs:List eZ)(r:lO)(pe day:Int)(rs:List Ru):List (Int×Int):=(rs.filter (iQ ps gs r pe day)).map Ru.sp
noncomputable def sI(ps:List ij)(gs:List eZ)(cs:List gw)(rs:List Ru)(r:lO)(pe day:Int):List (Int×Int) :=
 if qP ps cs r pe day=0 then if (rs.filter (iQ ps gs r pe day)).any gZ=true then [] else lT [(0,r.len)] (fC ps gs r pe day rs) else []
theorem spansM(h:Hm pv gv cv rv ps gs cs rs)(hf:jC ps gs cs rs=true)(r:lO)(hr:r.ok)(J5:r.sp.length<=1000)(pe day:Int) :
  aB CX 122 [.agg [pv,gv,cv,rv,.int .i64 r.id,.str r.name,.int .i64 r.len,.int .i64 r.day,r.sv,.int .i64 pe,.int .i64 day]] (· = .osl 2 (Fo.spans (sI ps gs cs rs r pe day))):=by
 have c1:=h.p.cell;have c2:=h.g.cell;have c3:=h.c.cell;have c4:=h.r.cell;have c5:=hr.sv.cell;have s1:=h.p.snap;have s2:=h.g.snap;have s3:=h.c.snap;have s4:=h.r.snap;have s5:=hr.sv.snap;obtain⟨f1,f2,f3,f4,f5,f6,f7⟩:=iZ hf;have q1:=(baseM h (by omega) (by omega) r hr J5 pe day).rw;have hE:sI ps gs cs rs r pe day=if qP ps cs r pe day=0 then if (rs.filter (iQ ps gs r pe day)).any gZ=true then [] else lT [(0,r.len)] (fC ps gs r pe day rs) else []:=rfl
 obtain⟨R,hR⟩:∃R,sI ps gs cs rs r pe day=R:=⟨_,rfl⟩;rw[hR]at hE ⊢;clear hR;generalize qP ps cs r pe day=B at*;have hhf:ac (jC ps gs cs rs=true):=⟨hf⟩;have Tn:ac (∀x∈rs,x.gl.length<=1048576):=⟨f7⟩;clear hf f1 f2 f3 f5 f6 f7;by_cases k1:B=0
 rotate_left
 .rw[if_neg k1]at hE;have b1:(B == 0)=false:=beq_false_of_ne k1;rw[hE];clear hE k1;refine aL fx122 ?_;exact wf
 subst k1;rw[if_pos rfl]at hE;have JL:ac (R=if (rs.filter (iQ ps gs r pe day)).any gZ=true then [] else lT [(0,r.len)] (fC ps gs r pe day rs)):=⟨hE⟩;clear hE;refine aL fx122 ?_;refine b8 (lk h.r) ?_;obtain⟨st,Kk⟩:∃st,(pv.stab && (gv.stab && (cv.stab && (rv.stab && r.sv.stab))))=st:=⟨_,rfl⟩;rw[Kk];clear Kk
 refine aJ [2,6,21,22,23,24,25,26,27,28,29,30,31,32,33,34,35,36,37,38,39,40,41,42,43,44,45,46,47,48] (fun p:List Ru×List Ru=>[(4,.sl 3 (fC ps gs r pe day p.1).length 0 (fC ps gs r pe day p.1).length 2),(20,.int .i64 p.1.length)])
  (fun p G=> .arr [[pv,gv,cv,rv,.int .i64 r.id,.str r.name,.int .i64 r.len,.int .i64 r.day,r.sv,.int .i64 pe,.int .i64 day]] 11 0 st :: .arr [] 2 0 true :: .arr [[.int .i64 0,.int .i64 r.len]] 2 0 true :: .arr (Fo.spans (fC ps gs r pe day p.1)) 2 0 true::G)
  (fun p=>rs=p.1++p.2/\(p.1.filter (iQ ps gs r pe day)).any gZ=false) (fun p=>p.2.length) ([],rs) ⟨rfl,rfl⟩ ?_ ⟨[],rfl⟩ ?_
 .rfl
 rintro⟨pre,post⟩ g G ⟨h1,h2⟩;simp only at h1 h2;have QB:(fC ps gs r pe day pre).length<=pre.length:=by unfold fC;rw[UI];exact U0 _ _
 cases post with
 | nil=>
  rw[UM]at h1;subst h1;have e:R=lT [(0,r.len)] (fC ps gs r pe day rs):=by rw[JL.out,h2];rfl
  rw[e];clear e JL h2;generalize fC ps gs r pe day rs=L at*;have q:=(Fo.minusE (.tsl false 2 (Fo.spans [(0,r.len)])) (.tsl false 2 (Fo.spans L)) [(0,r.len)] L (.rows false) (.rows false) (by simp) (by omega)).rw;have KL:Fo.spans [(0,r.len)] = [[.int .i64 0,.int .i64 r.len]]:=rfl;rw[KL]at q;have tL:(Fo.spans L).take L.length=Fo.spans L:=by rw[<-Fo.spans_len L];exact Vn
  clear QB;exact wf
 | cons x post=>
  have IZ:pre.length<rs.length:=by rw[h1];simp
  have lt1:(pre.length:Int)<(rs.length:Int):=by omega
  have w1:=am (n:=pre.length) (by omega);have i0:=ay h.r (X:=CX) ty43 ty55 rfl (n:=pre.length) (row:=fe x) (k := .i64) (by rw[h1];exact eK fe pre x post);have Jg:x∈rs:=by rw[h1];simp
  have hx:=h.ro x Jg;have d1:=hx.sl.cell;have t1:=hx.sl.snap;have qm:=(mayM h hhf.out x hx (by have:=Tn.out x Jg;omega) pe day).rw;have IW:ac (rs=(pre++[x])++post):=⟨by rw[h1];simp⟩;have NS:iQ ps gs r pe day x=((x.rc == r.id) && !(m9 ps gs x.lv x.gl x.un pe day)):=rfl;have PR:gZ x=((x.sp.1 == 0) && (x.sp.2 == 0)):=rfl
  have JU:(pre++[x]).filter (iQ ps gs r pe day)=pre.filter (iQ ps gs r pe day)++if iQ ps gs r pe day x=true then [x] else []:=by
   rw[Va,Vy];split<;>simp
  have Nz:ac (iQ ps gs r pe day x=true->gZ x=true->R = []):=⟨fun e1 e2=>by
   rw[JL.out,if_pos (VQ.2 ⟨x,VE.2 ⟨Jg,e1⟩,e2⟩)]⟩
  obtain⟨b5,b6⟩:((fC ps gs r pe day pre).length+1)*16<=140737488355328/\(fC ps gs r pe day pre).length+1<=140737488355328:=by omega
  clear h1 IZ Jg QB JL;generalize m9 ps gs x.lv x.gl x.un pe day=M at*
  have ways:(iQ ps gs r pe day x=false/\((x.rc == r.id)=false\/(x.rc == r.id)=true/\M=true))\/(iQ ps gs r pe day x=true/\(x.rc == r.id)=true/\M=false /\
    (gZ x=true/\(x.sp.1 == 0)=true/\(x.sp.2 == 0)=true\/gZ x=false/\((x.sp.1 == 0)=true/\(x.sp.2 == 0)=false\/(x.sp.1 == 0)=false))):=by
   rw[NS,PR];cases (x.rc == r.id)<;>cases M<;>cases (x.sp.1 == 0)<;>cases (x.sp.2 == 0)<;>simp
  clear NS PR;rcases ways with ⟨k,hw⟩|⟨k,b1,rfl,hw⟩
  .rw[k,if_neg (by simp),UM]at JU;have I7:ac (fC ps gs r pe day (pre++[x])=fC ps gs r pe day pre):=⟨by unfold fC;rw[JU]⟩;have OV:ac (((pre++[x]).filter (iQ ps gs r pe day)).any gZ=false):=⟨by rw[JU];exact h2⟩;clear JU k Nz h2;generalize fC ps gs r pe day pre=L at*;rcases hw with b1|⟨b1,rfl⟩
   all_goals
    refine wk ?_;refine ax (pre++[x],post) (UV _) ⟨IW.out,OV.out⟩ ?_ ?_
    ·((try simp only[bh,bJ,ah,an,UC,UD]);all_goals (first|rfl|(simp only[aH,aC,UI,I7.out];done)|(simp only[aH,aR,aC,UI,UG,UB,UE,UW,I7.out];first|done|rfl)))
    .simp only[I7.out];exact⟨_,rfl⟩
  .rcases hw with ⟨z,b2,b3⟩|⟨z,hw⟩
   .have e:R = []:=Nz.out k z;rw[e];clear e JU k Nz h2 z;generalize fC ps gs r pe day pre=L at*;exact wf
   .rw[k,if_pos rfl]at JU;have I7:ac (fC ps gs r pe day (pre++[x])=fC ps gs r pe day pre++[x.sp]):=⟨by unfold fC;rw[JU,Vv];rfl⟩;have OV:ac (((pre++[x]).filter (iQ ps gs r pe day)).any gZ=false):=⟨by rw[JU,Xv,h2];simp[z]⟩;clear JU k Nz h2 z;generalize fC ps gs r pe day pre=L at*;have hi:Fo.spans L++[[.int .i64 x.sp.1,.int .i64 x.sp.2]]=Fo.spans (L++[x.sp]):=by simp[Fo.spans,Fo.encE]
    rcases hw with ⟨b2,b3⟩|b2
    all_goals
     refine wk ?_;refine ax (pre++[x],post) (UV _) ⟨IW.out,OV.out⟩ ?_ ?_
     ·((try simp only[bh,bJ,ah,an,UC,UD]);all_goals (first|rfl|(simp only[aH,aC,UI,I7.out];done)|(simp only[aH,aR,aC,UI,UG,UB,UE,UW,I7.out];first|done|rfl)))
     .simp only[I7.out];exact⟨_,rfl⟩
end
section
variable {a:List (Int×Int)}{cs:List gw}{cv gv pv rv:AV}{gs:List eZ}{ps:List ij}{rs:List Ru}
attribute [local irreducible] bB cX cZ aB bS dE
attribute [local go_sem] cM U1 Vj List.replicate UC Vp Nat.reduceMul Vg bi d9 ba and_self Fo.spans_len fe
def jO(a L:List (Int×Int)):List (Int×Int):=L.foldl (fun o s=>gn o [s]) a
def It(a L:List (Int×Int))(s:Int×Int):jO a (L++[s])=gn (jO a L) [s]:=by simp[jO,Xp]
def yn{o:List (Int×Int)}(h:ee o)(s:Int×Int):gn o [s]=if dX s=true then wo o s else o:=by
 unfold gn;rw[CD h];rfl
theorem Hb(h:ee a):∀L:List (Int×Int),jO a L=gn a L:=by
 have key:∀(L a:List (Int×Int)),ee a->jO a L=L.foldl (fun out s=>if dX s=true then wo out s else out) a:=by
  intro L
  induction L with
  | nil=>intro a _;rfl
  | cons s L ih=>
   intro a h;have e:jO a (s::L)=jO (gn a [s]) L:=rfl;rw[e,ih _ (lD a [s]).1,VD,yn h]
 intro L;rw[key L a h];unfold gn;rw[CD h]
theorem DU(h:ee a):∀L:List (Int×Int),(jO a L).length<=a.length+L.length:=by
 have key:∀(L a:List (Int×Int)),ee a->(jO a L).length<=a.length+L.length:=by
  intro L
  induction L with
  | nil=>intro a _;exact UJ _
  | cons s L ih=>
   intro a h;have e:jO a (s::L)=jO (gn a [s]) L:=rfl;have h1:=ih _ (lD a [s]).1
   have h2:(gn a [s]).length<=a.length+1:=by
    rw[yn h];split
    .rename_i hs;exact Fo.wo_one s (bG.1 hs).2.1 h
    .omega
   rw[e,UB];omega
 exact fun L=>key L a h
def chk_len{r:lO}(h:jF ps r=0):dX (0,r.len)=true:=by
 unfold jF at h;split at h
 .split at h
  .split at h
   .rename_i ht;simp only[uq,UT,decide_eq_true_eq]at ht;exact bG.2 ⟨Int.le_refl _,by simp only;omega,by simp only;omega⟩
   .cases h
  .cases h
 .cases h
theorem C0 :∀{rs:List Ru},gW [] gs rs=0->∀x∈rs,kF [] gs x=0
 | [],_,x,hx=>by cases hx
 | y::l,h,x,hx=>by
  rw[gW]at h;by_cases k:kF [] gs y=0
  .rw[if_pos k]at h;rcases U2.1 hx with rfl|hx
   .exact k
   .exact C0 h x hx
  .rw[if_neg k]at h;exact absurd h k
def rule_ok{x:Ru}(h:kF [] gs x=0):jA x.rc=true/\spOK x.sp=true/\lc gs x.lv x.gl x.un=0:=by
 unfold kF at h;split at h
 .split at h
  .exact⟨by assumption,by assumption,by simpa using h⟩
  .cases h
 .cases h
def check_lv{lv un:Int}{gl:List Int}(h:lc gs lv gl un=0):0<=lv/\lv<=3:=by
 unfold lc at h;split at h
 .cases h
 .omega
def kz{recs:List lO}(h:mL ps recs gs cs rs=0):qv ps=0/\iH ps recs=0/\od ps gs=0/\qB ps cs=0/\rs.length<=60/\gW recs gs rs=0:=by
 unfold mL at h;split at h
 .split at h
  .split at h
   .split at h
    .split at h
     .exact⟨by assumption,by assumption,by assumption,by assumption,by assumption,h⟩
     .cases h
    .rename_i k;exact absurd h k
   .rename_i k;exact absurd h k
  .rename_i k;exact absurd h k
 .rename_i k;exact absurd h k
def chkG_clo(h:od ps gs=0):Clo gs:=by
 unfold od at h;split at h
 .split at h
  .split at h
   .rename_i h2;exact clo_of h2
   .cases h
  .rename_i h1;exact absurd h h1
 .cases h
def may_eq(h:mL ps [] gs cs rs=0)(pe day:Int):∀x∈rs,wO ps gs x.lv x.gl x.un pe day=m9 ps gs x.lv x.gl x.un pe day:=fun x hx=>by
 obtain⟨_,_,hg,_,_,hr⟩:=kz h;obtain⟨_,_,hc⟩:=rule_ok (C0 hr x hx);obtain⟨h0,h3⟩:=check_lv hc;exact mayG_eq (chkG_clo hg) h0 h3 x.gl x.un pe day
def spansMM(h:Hm pv gv cv rv ps gs cs rs)(hf:jC ps gs cs rs=true)(r:lO)(hr:r.ok)(J5:r.sp.length<=1000)(pe day:Int) :
  aB CX 62 [.agg [pv,gv,cv,rv],.agg [.int .i64 r.id,.str r.name,.int .i64 r.len,.int .i64 r.day,r.sv],.agg [.int .i64 pe,.int .i64 day]] (· = .osl 2 (Fo.spans (sI ps gs cs rs r pe day))):=by
 have c1:=h.p.cell;have c2:=h.g.cell;have c3:=h.c.cell;have c4:=h.r.cell;have c5:=hr.sv.cell;have s1:=h.p.snap;have s2:=h.g.snap;have s3:=h.c.snap;have s4:=h.r.snap;have s5:=hr.sv.snap;have q:=(spansM h hf r hr J5 pe day).rw;generalize sI ps gs cs rs r pe day=L at*;refine aL fx62 ?_;exact wf
theorem spansR(h:Hm pv gv cv rv ps gs cs rs)(hf:jC ps gs cs rs=true)(hm:mL ps [] gs cs rs=0)(r:lO)(hr:r.ok)(J5:r.sp.length<=1000)(MC:dX (0,r.len)=true)(pe day:Int) :
  aB CX 32 [.agg [pv,gv,cv,rv],.agg [.int .i64 r.id,.str r.name,.int .i64 r.len,.int .i64 r.day,r.sv],.agg [.int .i64 pe,.int .i64 day]] (· = .osl 2 (Fo.spans (sI ps gs cs rs r pe day))):=by
 have c1:=h.p.cell;have c2:=h.g.cell;have c3:=h.c.cell;have c4:=h.r.cell;have c5:=hr.sv.cell;have s1:=h.p.snap;have s2:=h.g.snap;have s3:=h.c.snap;have s4:=h.r.snap;have s5:=hr.sv.snap;obtain⟨f1,f2,f3,f4,f5,f6,f7⟩:=iZ hf;have MJ:=h.gsok hf;have RE:=may_eq hm pe day;have q1:=(baseR h (by omega) (by omega) r hr J5 pe day).rw;have hn:ee [((0:Int),r.len)]:=fZ.2 MC
 have hE:sI ps gs cs rs r pe day=if qP ps cs r pe day=0 then if (rs.filter (iQ ps gs r pe day)).any gZ=true then [] else jO [(0,r.len)] (fC ps gs r pe day rs) else []:=by
  unfold sI;rw[AP,Hb hn]
 obtain⟨R,hR⟩:∃R,sI ps gs cs rs r pe day=R:=⟨_,rfl⟩;rw[hR]at hE ⊢;clear hR;generalize qP ps cs r pe day=B at*;have Tn:ac (∀x∈rs,x.gl.length<=1048576):=⟨f7⟩;have hhm:ac (∀x∈rs,wO ps gs x.lv x.gl x.un pe day=m9 ps gs x.lv x.gl x.un pe day):=⟨RE⟩;have M6:ac (ee [((0:Int),r.len)]):=⟨hn⟩;have Nv:ac (ko gv gs):=⟨MJ⟩;clear hf f2 f3 f5 f6 f7 RE hm MC hn MJ;by_cases k1:B=0
 rotate_left
 .rw[if_neg k1]at hE;have b1:(B == 0)=false:=beq_false_of_ne k1;rw[hE];clear hE k1;refine aL fx32 ?_;exact wf
 subst k1;rw[if_pos rfl]at hE;have JL:ac (R=if (rs.filter (iQ ps gs r pe day)).any gZ=true then [] else jO [(0,r.len)] (fC ps gs r pe day rs)):=⟨hE⟩;clear hE;refine aL fx32 ?_;refine b8 (lk h.r) ?_;obtain⟨st,Kk⟩:∃st,(pv.stab && (gv.stab && (cv.stab && rv.stab)))=st:=⟨_,rfl⟩;rw[Kk];clear Kk;have KL:Fo.spans [((0:Int),r.len)] = [[.int .i64 0,.int .i64 r.len]]:=rfl
 refine aJ [6,9,10,25,26,27,28,29,30,31,32,33,34,35,36,37,38,39,40,41,42,43,44,45,46,47,48,49,50,51,52,53,54,55,56] (fun p:List Ru×List Ru×List dY=>[(8,.sl (p.2.2.length+1+1+1) (jO [(0,r.len)] (fC ps gs r pe day p.1)).length 0 (jO [(0,r.len)] (fC ps gs r pe day p.1)).length 2),(24,.int .i64 p.1.length)])
  (fun p G=> .arr [[pv,gv,cv,rv]] 4 0 st :: .arr [[.int .i64 r.id,.str r.name,.int .i64 r.len,.int .i64 r.day,r.sv]] 5 0 r.sv.stab :: .arr [[.int .i64 pe,.int .i64 day]] 2 0 true::(p.2.2 ++ .arr (Fo.spans (jO [(0,r.len)] (fC ps gs r pe day p.1))) 2 0 true::G))
  (fun p=>rs=p.1++p.2.1/\(p.1.filter (iQ ps gs r pe day)).any gZ=false) (fun p=>p.2.1.length) ([],rs,[.arr [] 2 0 true]) ⟨rfl,rfl⟩ ?_ ⟨[],rfl⟩ ?_
 .rfl
 rintro⟨pre,post,X⟩ g G ⟨h1,h2⟩;simp only at h1 h2;cases post with
 | nil=>
  rw[UM]at h1;subst h1;have e:R=jO [(0,r.len)] (fC ps gs r pe day rs):=by rw[JL.out,h2];rfl
  rw[e];clear e JL h2;generalize jO [(0,r.len)] (fC ps gs r pe day rs)=L at*;exact wf
 | cons x post=>
  have IZ:pre.length<rs.length:=by rw[h1];simp
  have lt1:(pre.length:Int)<(rs.length:Int):=by omega
  have w1:=am (n:=pre.length) (by omega);have i0:=ay h.r (X:=CX) ty43 ty55 rfl (n:=pre.length) (row:=fe x) (k := .i64) (by rw[h1];exact eK fe pre x post);have Jg:x∈rs:=by rw[h1];simp
  have hx:=h.ro x Jg;have d1:=hx.sl.cell;have d2:=hx.st;have t1:=hx.sl.snap;have qm:=(mayR Nv.out h.p (by omega) hx.sl (by have:=Tn.out x Jg;omega) x.lv x.un pe day).rw;rw[hhm.out x Jg]at qm;have IW:ac (rs=(pre++[x])++post):=⟨by rw[h1];simp⟩;have NS:iQ ps gs r pe day x=((x.rc == r.id) && !(m9 ps gs x.lv x.gl x.un pe day)):=rfl;have PR:gZ x=((x.sp.1 == 0) && (x.sp.2 == 0)):=rfl
  have JU:(pre++[x]).filter (iQ ps gs r pe day)=pre.filter (iQ ps gs r pe day)++if iQ ps gs r pe day x=true then [x] else []:=by
   rw[Va,Vy];split<;>simp
  have Nz:ac (iQ ps gs r pe day x=true->gZ x=true->R = []):=⟨fun e1 e2=>by
   rw[JL.out,if_pos (VQ.2 ⟨x,VE.2 ⟨Jg,e1⟩,e2⟩)]⟩
  have JA:(fC ps gs r pe day pre).length<=pre.length:=by unfold fC;rw[UI];exact U0 _ _
  have Kb:=DU M6.out (fC ps gs r pe day pre);simp only[UB,UE]at Kb;clear h1 Jg JL;generalize m9 ps gs x.lv x.gl x.un pe day=M at*
  have ways:(iQ ps gs r pe day x=false/\((x.rc == r.id)=false\/(x.rc == r.id)=true/\M=true))\/(iQ ps gs r pe day x=true/\(x.rc == r.id)=true/\M=false /\
    (gZ x=true/\(x.sp.1 == 0)=true/\(x.sp.2 == 0)=true\/gZ x=false/\((x.sp.1 == 0)=true/\(x.sp.2 == 0)=false\/(x.sp.1 == 0)=false))):=by
   rw[NS,PR];cases (x.rc == r.id)<;>cases M<;>cases (x.sp.1 == 0)<;>cases (x.sp.2 == 0)<;>simp
  clear NS PR;rcases ways with ⟨k,hw⟩|⟨k,b1,rfl,hw⟩
  .rw[k,if_neg (by simp),UM]at JU;have I7:ac (jO [(0,r.len)] (fC ps gs r pe day (pre++[x]))=jO [(0,r.len)] (fC ps gs r pe day pre)):=⟨by unfold fC;rw[JU]⟩;have OV:ac (((pre++[x]).filter (iQ ps gs r pe day)).any gZ=false):=⟨by rw[JU];exact h2⟩;clear JU k Nz h2 JA Kb IZ;generalize jO [(0,r.len)] (fC ps gs r pe day pre)=O at*;rcases hw with b1|⟨b1,rfl⟩
   all_goals
    refine wk ?_;refine ax (pre++[x],post,X) (UV _) ⟨IW.out,OV.out⟩ ?_ ?_
    ·((try simp only[bh,bJ,ah,an,UC,UD]);all_goals (first|rfl|(simp only[aH,aC,UI,I7.out];done)|(simp only[aH,aR,aC,UI,UG,UB,UE,UW,I7.out];first|done|rfl)))
    .simp only[I7.out];exact⟨_,rfl⟩
  .rcases hw with ⟨z,b2,b3⟩|⟨z,hw⟩
   .have e:R = []:=Nz.out k z;rw[e];clear e JU k Nz h2 z JA Kb IZ;generalize jO [(0,r.len)] (fC ps gs r pe day pre)=O at*;exact wf
   .rw[k,if_pos rfl]at JU
    have I7:ac (jO [(0,r.len)] (fC ps gs r pe day (pre++[x]))=gn (jO [(0,r.len)] (fC ps gs r pe day pre)) [x.sp]):=⟨by
     rw[<-It];unfold fC;rw[JU,Vv];rfl⟩
    have OV:ac (((pre++[x]).filter (iQ ps gs r pe day)).any gZ=false):=⟨by rw[JU,Xv,h2];simp[z]⟩;obtain⟨O,hO⟩:∃O,jO [(0,r.len)] (fC ps gs r pe day pre)=O:=⟨_,rfl⟩;rw[hO]at I7 Kb;simp only[hO];have qn:=(Fo.minusRE (.tsl false 2 (Fo.spans O)) (.tsl false 2 (Fo.spans [x.sp])) O [x.sp] (.rows false) (.rows false) (by omega) (by simp)).rw;have Qm:Fo.spans [x.sp] = [[.int .i64 x.sp.1,.int .i64 x.sp.2]]:=rfl;rw[Qm]at qn;have tO:(Fo.spans O).take O.length=Fo.spans O:=by rw[<-Fo.spans_len O];exact Vn
    clear JU k Nz h2 z JA Kb IZ hO;rcases hw with ⟨b2,b3⟩|b2
    all_goals
     refine wk ?_;refine ax (pre++[x],post,X ++ .arr (Fo.spans O) 2 0 true::(G++[.arr [fe x] 6 1 true,.arr [[.int .i64 x.sp.1,.int .i64 x.sp.2]] 2 0 true])) (UV _) ⟨IW.out,OV.out⟩ ?_ ?_
     ·((try simp only[bh,bJ,ah,an,UC,UD]);all_goals (first|rfl|(simp only[aH,aC,UI,I7.out];done)|(simp only[aH,aR,aC,UI,UG,UB,UE,UW,I7.out];first|done|rfl)))
     .exact⟨[],by simp[I7.out,fe]⟩
end
end Go.Eng
