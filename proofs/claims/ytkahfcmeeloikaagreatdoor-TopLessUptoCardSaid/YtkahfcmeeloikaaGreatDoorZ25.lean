/- Where a note is, what is seen (the reference's). -/
import Derived.Test.YtkahfcmeeloikaaGreatDoorZ24
set_option linter.all false
set_option maxHeartbeats 8000000
namespace Go.Eng
open Go.Proofs
section
variable {d:Dc}{ns:List Nt}{ts:List Ti}
def jn(ns:List Nt):Nat->Int->List Int
 | 0,_=>[]
 | k+1,id=>match cO ns id with
  | none=>[]
  | some n=>n.id::jn ns k n.pa
def xS(ns:List Nt)(x:Nt)(ok:Bool):Nat->List Int
 | 0=>[]
 | m+1=>if ok=true then x.id::jn ns m x.pa else []
theorem AH(ns:List Nt)(id:Int)(m:Nat):∃x ok,iX (cO ns id) = .tup [.agg (aZ x),.bool ok]/\xS ns x ok m=jn ns m id:=by
 cases m with
 | zero=>
  cases cO ns id with
  | none=>exact⟨zN,false,rfl,rfl⟩
  | some n=>exact⟨n,true,rfl,rfl⟩
 | succ m=>
  rw[jn];cases cO ns id with
  | none=>exact⟨zN,false,rfl,rfl⟩
  | some n=>exact⟨n,true,rfl,rfl⟩
theorem rU(ns:List Nt):∀(k:Nat) (id:Int),(jn ns k id).length<=k
 | 0,_=>UJ _
 | k+1,id=>by
  rw[jn];split
  .exact U9 _
  .rename_i n _;have:=rU ns k n.pa;simp only[UB];omega
theorem zj(ns:List Nt):∀(k:Nat) (id:Int),∀i∈jn ns k id,cO ns i≠none
 | 0,_,_,h=>(by cases h)
 | k+1,id,i,h=>by
  rw[jn]at h;cases hg:cO ns id with
  | none=>rw[hg]at h;cases h
  | some n=>
   rw[hg]at h;have hi:n.id=id:=by simpa using VN hg
   rcases U2.1 h with rfl|h
   .rw[hi,hg];exact fun e=>(by cases e)
   .exact zj ns k n.pa i h
def kU(ts:List Ti)(ns:List Nt):List Int->Option (Int×Int)
 | []=>none
 | i::l=>match cO ns i with
  | none=>kU ts ns l
  | some n=>if alT ts n.ti=true then some (n.fr,n.en) else kU ts ns l
theorem tD(ts:List Ti)(ns:List Nt):∀(k:Nat) (id:Int),kU ts ns (jn ns k id)=fz ts ns k id
 | 0,_=>rfl
 | k+1,id=>by
  rw[jn,fz];cases hg:cO ns id with
  | none=>rfl
  | some n=>
   have hi:n.id=id:=by simpa using VN hg
   dsimp only;rw[kU,hi,hg];dsimp only;rw[tD ts ns k n.pa]
attribute [local irreducible] bB cX cZ aB bS dE
attribute [local go_sem] U1 Vj List.replicate UC Vp Nat.reduceMul Vg bi eF d9 bP bt ci bN cM ba aY aS aM aX and_self ck aZ zN bC bp
theorem chainE(id:Int)(hd:d.ok ts ns)(hl:ns.length<=1048576)(ht:ts.length<=1000):aB CX 220 [.agg (ck d),.int .i64 id] (· = .osl 1 (az (jn ns (ts.length+1) id))):=by
 have c1:=hd.nc;have c2:=hd.tc;have c3:=hd.sc;have s1:=hd.n.snap;have s2:=hd.tsn;have s3:=hd.ss;have L1:=@au _ _ _ hd.t;rw[UI]at L1;have qg:∀n Q,_:=fun n=>(Ie n hd (by omega)).rw;simp only[ck]at qg;obtain⟨x,ok,h1,h2⟩:=AH ns id (ts.length+1);have q0:=qg id;rw[h1]at q0;simp only[aZ]at q0;have Qh:=ac.mk qg;generalize hR:jn ns (ts.length+1) id=R at*;have KO:=ac.mk h2;have R0:ac (R.length<=1001):=⟨by rw[<-hR];have:=rU ns (ts.length+1) id;omega⟩;have Rs:=ac.mk ht;clear hR h1 h2 qg hd hl;refine aL fx220 ?_;refine wk ?_;refine aJ [15,16,17,18,19,20,21,22,23,24,25,26,27,28,29,30,31,32,33,34,35,36] (fun s:Nt×Bool×Nat×List Int=>[(5,.sl 2 s.2.2.2.length 0 s.2.2.2.length 1),(7,.bool s.2.1),(8,.int .i64 ((ts.length+1-s.2.2.1:Nat):Int))]) (fun s G=> .arr [[.int .i64 d.id,.str d.nm,.int .i64 d.len,.int .i64 d.day,d.sp,d.tv,d.nv]] 7 0 (d.sp.stab && (d.tv.stab && d.nv.stab)) :: .arr [] 1 0 true :: .arr (az s.2.2.2) 1 0 true :: .arr [[.int .i64 s.1.id,.int .i64 s.1.ti,.int .i64 s.1.pa,.int .i64 s.1.fr,.int .i64 s.1.en,.int .i64 s.1.rk,.str s.1.tx]] 7 1 true::G) (fun s=>s.2.2.2++xS ns s.1 s.2.1 s.2.2.1=R/\s.2.2.1<=ts.length+1) (fun s=>s.2.2.1) (x,ok,ts.length+1,[]) ⟨KO.out,UJ _⟩ (by simp only[W7];exact aQ) dk ?_;rintro⟨y,b,m,o⟩ g G ⟨h1,h2⟩;replace h1:o++xS ns y b m=R:=h1;replace h2:m<=ts.length+1:=h2;have Kb:o.length<=1001:=by have:=R0.out;rw[<-h1,UG]at this;omega
 have a1:(o.length+1)*8<=140737488355328:=by omega
 have a2:o.length+1<=140737488355328:=by omega
 cases m with
 | zero=>
  have e:R=o:=by rw[<-h1,xS,UM]
  subst e;have k1:¬((ts.length+1-0:Nat):Int)<=(ts.length:Int):=by omega
  clear h1 h2 KO Kb;exact wf
 | succ m=>
  have k1:((ts.length+1-(m+1):Nat):Int)<=(ts.length:Int):=by omega
  cases b with
  | false=>
   have e:R=o:=by rw[<-h1,xS];simp
   subst e;clear h1 h2 KO Kb;exact wf
  | true=>
   obtain⟨z,ok2,h3,h4⟩:=AH ns y.pa m;have q1:=Qh.out y.pa;rw[h3]at q1;simp only[aZ]at q1
   have w1:IntKind.wrap .i64 (((ts.length+1-(m+1):Nat):Int)+1)=((ts.length+1-m:Nat):Int):=by
    have:=Rs.out;rw[wrap_small (by omega) (by omega)];omega
   have hP:=ac.mk (show (o++[y.id])++xS ns z ok2 m=R/\m<=ts.length+1 from⟨by rw[<-h1,xS,h4];simp,by omega⟩);clear h1 h2 KO Kb h3 h4;refine wk ?_;exact ax (z,ok2,m,o++[y.id]) (UV _) hP.out aQ dk
theorem whereE(id:Int)(hd:d.ok ts ns)(hl:ns.length<=1048576)(ht:ts.length<=1000):aB CX 181 [.agg (ck d),.int .i64 id] (· = mT (fz ts ns (ts.length+1) id)):=by
 have c1:=hd.nc;have c2:=hd.tc;have c3:=hd.sc;have s1:=hd.n.snap;have s2:=hd.tsn;have s3:=hd.ss;have q0:=(chainE id hd hl ht).rw;have qg:=ac.mk fun n=>(Ie n hd (by omega)).rw;have qa:=ac.mk fun i=>(al11E i hd.t).rw;simp only[ck]at qg q0;rw[<-tD];have JA:=rU ns (ts.length+1) id;have Le:=zj ns (ts.length+1) id;generalize jn ns (ts.length+1) id=l at*;have Le:=ac.mk Le;have Jd:l.length<9223372036854775807:=by omega
 clear hd hl ht JA;refine aL fx181 ?_;refine wk ?_;refine cN [5,8,9,13,14,15,16,17,18,19,20,21,22,23,24,25,26,27,28,29,30,31,32,33,34] 7 l (fun _:Unit=>[]) (fun _ G=> .arr [[.int .i64 d.id,.str d.nm,.int .i64 d.len,.int .i64 d.day,d.sp,d.tv,d.nv]] 7 0 (d.sp.stab && (d.tv.stab && d.nv.stab)) :: .arr [[.int .i64 0,.int .i64 0]] 2 0 true :: .arr (az l) 1 0 true::G) (fun _ post _=>kU ts ns l=kU ts ns post) () Jd ?_ ?_ ?_
 .rfl
 .intro _ g G h2;rw[h2,kU,mT];clear h2;refine wk ?_;simp only[go_sem];exact(jD (sH _ _ _)).mpr rfl
 .intro _ g G pre x post IW lt1 w1 h2;have Jq:(az l)[pre.length]? = some [.int .i64 x]:=by rw[IW.out];simp[az]
  have IZ:pre.length<l.length:=by omega
  have i2:∀{j:IntKind},aD CX 31 (.sl 2 l.length 0 l.length 1) (.int j (pre.length:Int))=some (.ptr 2 l.length 1 pre.length 0):=fun {j}=>gu ty31 ty3 rfl lt1;have q1:=qg.out x;rw[kU]at h2;cases hg:cO ns x with
  | none=>exact absurd hg (Le.out x (by rw[IW.out];simp))
  | some n=>
   rw[hg,iX]at q1;rw[hg]at h2;have q2:=qa.out n.ti;simp only[aZ]at q1;cases ha:alT ts n.ti with
   | true=>
    rw[ha]at q2;have e:kU ts ns l=some (n.fr,n.en):=by rw[h2];simp[ha]
    rw[e,mT];clear h2 e hg ha;refine wk ?_;simp only[go_sem];exact(jD (sH _ _ _)).mpr rfl
   | false=>
    rw[ha]at q2;have hP:=ac.mk (show kU ts ns l=kU ts ns post by rw[h2];simp[ha]);clear h2 hg ha;refine wk ?_;exact aE (σ:=Unit) () IW.out hP.out aQ dk
theorem seenE{v:AV}{L:List (Int×Int)}(id:Int)(hd:d.ok ts ns)(hl:ns.length<=1048576)(ht:ts.length<=1000)(hv:bq 2 (Fo.spans L) v)(hL:L.length<=500000):aB CX 132 [.agg (ck d),v,.int .i64 id] (· = .bool (ez ts ns L id)):=by
 have c1:=hd.nc;have c2:=hd.tc;have c3:=hd.sc;have s1:=hd.n.snap;have s2:=hd.tsn;have s3:=hd.ss;have s4:=hv.snap;have q1:=(whereE id hd hl ht).rw;have q2:∀s:Int×Int,∀Q,aB CX 106 [v,.agg [.int .i64 s.1,.int .i64 s.2]] Q=Q (.bool (oa L s)):=fun s Q=>by rw[cov_eq];exact(Fo.covRE v L s hv hL).rw Q
 unfold ez;simp only[ck]at q1;cases hw:fz ts ns (ts.length+1) id with
 | none=>
  rw[hw,mT]at q1;clear hw q2 hd hl ht;refine aL fx132 ?_;exact wf
 | some s=>
  rw[hw,mT]at q1;replace q2:=q2 s;dsimp only;generalize oa L s=K at*;clear hw hd hl ht;refine aL fx132 ?_;exact wf
end
section
variable {L:List (Int×Int)}{d:Dc}{ns:List Nt}{ts:List Ti}{v:AV}
attribute [local irreducible] bB cX cZ aB bS dE
attribute [local go_sem] U1 Vj List.replicate UC Vp Nat.reduceMul Vg eF d9 bP bt ci bN cM ba aY aS aM aX bi and_self ck aZ zN bC bp
theorem hid46E(hd:d.ok ts ns)(hl:ns.length<=1000)(ht:ts.length<=1000)(hv:bq 2 (Fo.spans L) v)(hL:L.length<=500000):aB CX 71 [.agg (ck d),v] (· = .osl 1 (az ((ns.filter fun n=> !ez ts ns L n.id).map (·.id)))):=by
 have c1:=hd.nc;have c2:=hd.tc;have c3:=hd.sc;have c4:=hv.cell;have s1:=hd.n.snap;have s2:=hd.tsn;have s3:=hd.ss;have s4:=hv.snap;have L1:=@au _ _ _ hd.n;rw[UI]at L1;have qs:∀id Q,_:=fun id=>(seenE id hd (by omega) ht hv hL).rw;simp only[ck]at qs;replace qs:=ac.mk qs;have hn:=hd.n;have JJ:=ac.mk hl;have Jd:ns.length<9223372036854775807:=by omega
 generalize hSF:ez ts ns L=SF at*;clear hSF hd hl ht hv hL;refine aL fx71 ?_;refine wk ?_;refine cN [7,8,9,10,11,12,13,14,15,16,17,18,19,20,21,22,23,24,25,26,27,28,29,30,31,32] 6 ns (fun o:List Int=>[(5,.sl 2 o.length 0 o.length 1)]) (fun o G=> .arr [[.int .i64 d.id,.str d.nm,.int .i64 d.len,.int .i64 d.day,d.sp,d.tv,d.nv]] 7 0 (d.sp.stab && (d.tv.stab && d.nv.stab)) :: .arr [] 1 0 true :: .arr (az o) 1 0 true::G) (fun pre _ o=>o=(pre.filter fun n=> !SF n.id).map (·.id)) ([]:List Int) Jd ?_ ?_ ?_
 .rfl
 .intro o g G h2;replace h2:o=(ns.filter fun n=> !SF n.id).map (·.id):=h2;rw[<-h2];clear h2 hn;refine wk ?_;simp only[go_sem]
 .intro o g G pre x post IW lt1 w1 h2;replace h2:o=(pre.filter fun n=> !SF n.id).map (·.id):=h2;have IZ:pre.length<ns.length:=by omega
  have i1:=ay hn (X:=CX) ty72 ty78 rfl (n:=pre.length) (row:=aZ x) (k := .i64) (by rw[IW.out];exact fp aZ pre x post)
  have KT:o.length<=1000:=by
   rw[h2,UI];exact UQ (U0 _ _) (by have:=JJ.out;omega)
  have a1:(o.length+1)*8<=140737488355328:=by omega
  have a2:o.length+1<=140737488355328:=by omega
  have q1:=qs.out x.id;simp only[aZ]at i1;cases hx:SF x.id with
  | true=>
   rw[hx]at q1;have hP:=ac.mk (show o=((pre++[x]).filter fun n=> !SF n.id).map (·.id) by rw[Va,Vv,<-h2];simp[hx]);clear h2 KT hx hn;refine wk ?_;exact aE (σ:=List Int) o IW.out hP.out aQ dk
  | false=>
   rw[hx]at q1;have hP:=ac.mk (show o++[x.id]=((pre++[x]).filter fun n=> !SF n.id).map (·.id) by rw[Va,Vv,<-h2];simp[hx]);clear h2 KT hx hn;refine wk ?_;exact aE (σ:=List Int) (o++[x.id]) IW.out hP.out aQ dk
theorem cln46E(hd:d.ok ts ns)(hl:ns.length<=1000)(ht:ts.length<=1000)(hv:bq 2 (Fo.spans L) v)(hL:L.length<=500000)(hc:∀n∈ns,n.tx≠.empty->ez ts ns L n.id=true):aB CX 31 [.agg (ck d),v] (· = .bool true):=by
 have c1:=hd.nc;have c2:=hd.tc;have c3:=hd.sc;have c4:=hv.cell;have s1:=hd.n.snap;have s2:=hd.tsn;have s3:=hd.ss;have s4:=hv.snap;have q0:=(hid46E hd hl ht hv hL).rw;have qg:∀n Q,_:=fun n=>(Ie n hd (by omega)).rw;simp only[ck]at q0 qg;replace qg:=ac.mk qg
 have hK:ac (∀i∈(ns.filter fun n=> !ez ts ns L n.id).map (·.id),∃n,cO ns i=some n/\n.tx = .empty):=⟨fun i hi=>by
  obtain⟨n,hn,rfl⟩:=UZ.1 hi;obtain⟨hn,hs⟩:=VE.1 hn;cases hg:cO ns n.id with
  | none=>
   have:=WI.1 hg n hn;simp at this
  | some m=>
   have hm:=U8 hg;have hi:m.id=n.id:=by simpa using VN hg
   refine⟨m,rfl,VG fun ht=>?_⟩;rw[<-hi,hc m hm ht]at hs;exact absurd hs (by simp)⟩
 have JY:((ns.filter fun n=> !ez ts ns L n.id).map (·.id)).length<=1000:=by
  rw[UI];exact UQ (U0 _ _) hl
 generalize ((ns.filter fun n=> !ez ts ns L n.id).map (·.id))=K at*;have Jd:K.length<9223372036854775807:=by omega
 clear hd hl ht hv hL hc JY;refine aL fx31 ?_;refine wk ?_;refine cN [4,7,8,12,13,14,15,16,17,18,19,20,21,22,23,24,25,26,27,28,29] 6 K (fun _:Unit=>[]) (fun _ G=> .arr [[.int .i64 d.id,.str d.nm,.int .i64 d.len,.int .i64 d.day,d.sp,d.tv,d.nv]] 7 0 (d.sp.stab && (d.tv.stab && d.nv.stab)) :: .arr (az K) 1 0 true::G) (fun _ _ _=>True) () Jd ?_ ?_ ?_
 .trivial
 .intro _ g G _;refine wk ?_;simp only[go_sem]
 .intro _ g G pre x post IW lt1 w1 _;have Jq:(az K)[pre.length]? = some [.int .i64 x]:=by rw[IW.out];simp[az]
  have IZ:pre.length<K.length:=by omega
  have i2:∀{j:IntKind},aD CX 31 (.sl 1 K.length 0 K.length 1) (.int j (pre.length:Int))=some (.ptr 1 K.length 1 pre.length 0):=fun {j}=>gu ty31 ty3 rfl lt1;obtain⟨n,hn,hx⟩:=hK.out x (by rw[IW.out];simp);have q1:=qg.out x;rw[hn,iX]at q1;simp only[aZ]at q1;rw[hx]at q1;have ke:ik .neq ByteArray.empty ⟨#[]⟩=some (.bool false):=by show some (AV.bool (!((⟨#[]⟩:ByteArray).toList == (⟨#[]⟩:ByteArray).toList)))=_;rw[beq_self_eq_true];rfl
  clear hn hx;refine wk ?_;exact aE (σ:=Unit) () IW.out trivial aQ dk
end
section
variable {gs:List eZ}{ps:List ij}{recs:List lO}
def ER{x:Ru}(h:kF recs gs x=0):kF [] gs x=0:=by
 unfold kF at h ⊢;split at h
 .rename_i h1;split at h
  .rename_i h2;rw[if_pos h1,if_pos h2];split at h
   .cases h
   .simpa using h
  .cases h
 .cases h
theorem vY{recs:List lO}{gs:List eZ}:∀{rs:List Ru},gW recs gs rs=0->gW [] gs rs=0
 | [],_=>rfl
 | x::l,h=>by
  rw[gW]at h ⊢;by_cases k:kF recs gs x=0
  .rw[if_pos k]at h;rw[if_pos (ER k)];exact vY h
  .rw[if_neg k]at h;exact absurd h k
def FW{cs:List gw}{rs:List Ru}(h:mL ps recs gs cs rs=0):mL ps [] gs cs rs=0:=by
 obtain⟨h1,_,h3,h4,h5,h6⟩:=kz h;have h2:iH ps []=0:=rfl;unfold mL;rw[if_pos h1,if_pos h2,if_pos h3,if_pos h4,if_pos h5];exact vY h6
theorem GD{ps:List ij}:∀{post pre:List lO},rcF ps pre post=0->∀x∈post,jF ps x=0
 | [],_,_,x,hx=>(by cases hx)
 | y::l,pre,h,x,hx=>by
  rw[rcF]at h;by_cases k:jF ps y=0
  .rw[if_pos k]at h;split at h
   .cases h
   .split at h
    .cases h
    .rcases U2.1 hx with rfl|hx
     .exact k
     .exact GD h x hx
  .rw[if_neg k]at h;exact absurd h k
def sN(h:iH ps recs=0){r:lO}(hr:r∈recs):dX (0,r.len)=true:=by
 unfold iH at h;split at h
 .exact chk_len (GD h r hr)
 .cases h
attribute [local irreducible] bB cX cZ aB bS dE
attribute [local go_sem] bi and_self cd bd ck lw bC bp
def law11E{p q:Pr}(hp:p.ok)(hR:nK p)(hq:q.ok)(SH:p.g.stb)(Qh:q.g.stb)(JP:p.dv.stab=true/\p.ev.stab=true/\p.ov.stab=true/\p.pv.stab=true/\p.gv.stab=true/\p.cv.stab=true/\p.rv.stab=true)(Qg:q.pv.stab=true/\q.gv.stab=true/\q.cv.stab=true/\q.rv.stab=true){xv dv ev ov:AV}(hx:xv.cell=true/\(∀S,snap S xv=some xv)/\xv.stab=true)(he:ev.cell=true/\(∀S,snap S ev=some ev)/\ev.stab=true)(ho:ov.cell=true/\(∀S,snap S ov=some ov)/\ov.stab=true){ds:List Dq}(hd:bq 7 (ds.map bd) dv)(NR:dv.stab=true)(JB:∀d∈ds,d.ok)(LU:ds.length<=12)(pe day:Int)
  (hs:∀d∈ds,∃e,eu p.ds d.r.id=some e/\e.r.sp.length<=1000/\(nV p pe day e).length<=500000/\d.ns.length<=1000/\d.ts.length<=1000/\∀n∈d.ns,n.tx≠.empty->ez d.ts d.ns (nV p pe day e) n.id=true) :
  aB CX 11 [.agg (cd p),.agg [.int .i64 pe,.int .i64 day],.agg (lw q xv dv ev ov)] (· = .bool true):=by
 obtain⟨d1,d2,d3,d4,d5,d6,d7⟩:=hp.cells;obtain⟨e1,e2,e3,e4,e5,e6,e7⟩:=hp.g.cells;obtain⟨p1,p2,p3,p4,p5,p6,p7⟩:=hp.snaps;obtain⟨g1,g2,g3,g4,g5,g6,g7⟩:=hp.g.snaps;obtain⟨D1,D2,D3,D4,D5,D6,D7⟩:=hq.cells;obtain⟨E1,E2,E3,E4,E5,E6,E7⟩:=hq.g.cells;obtain⟨P1,P2,P3,P4,P5,P6,P7⟩:=hq.snaps;obtain⟨G1,G2,G3,G4,G5,G6,G7⟩:=hq.g.snaps;obtain⟨x1,x2,x3⟩:=hx;obtain⟨y1,y2,y3⟩:=he;obtain⟨z1,z2,z3⟩:=ho;obtain⟨t1,t2,t3,t4,t5,t6,t7⟩:=SH;obtain⟨u1,u2,u3,u4,u5,u6,u7⟩:=JP;obtain⟨T1,T2,T3,T4,T5,T6,T7⟩:=Qh;obtain⟨U4,U5,U6,U7⟩:=Qg;have c1:=hd.cell;have s1:=hd.snap;have L1:=@au _ _ _ hd;rw[UI]at L1;have qd:=ac.mk fun n=>(doc47E n hp.d hp.di (by have:=hR.d;omega)).rw;have qs:=ac.mk fun (e:Dq) (hm:e∈p.ds) (Lz:e.r.sp.length<=1000)=>(spansR hp.r hR.few (FW hR.r) e.r (hp.di e hm).r Lz (sN (kz hR.r).2.1 (WR hm)) pe day).rw;have O6:=ac.mk JB;have Ll:=ac.mk hp.di;have Ke:=ac.mk hs;have Jd:ds.length<9223372036854775807:=by omega
 clear hp hR hq JB LU hs;refine aL fx11 ?_;refine wk ?_;refine cN [6,8,9,10,11,12,13,14,15,16,17,18,19,20,21,22,23,24,25,26,27,28,29,30,31,32,33,34,35,36,37,38,39,40,41,42] 7 ds (fun _:Unit=>[]) (fun _ G=> .arr [cd p] 16 0 true :: .arr [[.int .i64 pe,.int .i64 day]] 2 0 true :: .arr [lw q xv dv ev ov] 16 0 true::G) (fun _ _ _=>True) () Jd ?_ ?_ ?_
 .trivial
 .intro _ g G _;refine wk ?_;simp only[go_sem]
 .intro _ g G pre d post IW lt1 w1 _;have hm:d∈ds:=by rw[IW.out];simp
  have i1:=ay hd (X:=CX) ty37 ty74 rfl (n:=pre.length) (row:=bd d) (k := .i64) (by rw[IW.out];exact fp bd pre d post);obtain⟨e,hg,h1,h2,h3,h4,h5⟩:=Ke.out d hm;have Tw:=kw hg;have q1:=qd.out d.r.id;rw[hg,iY]at q1;have q2:=qs.out e Tw h1;have K5:=Ll.out e Tw;have JB:=O6.out d hm;have q3:=(cln46E (d:=d.dc) (v := .tsl false 2 (Fo.spans (nV p pe day e))) JB.dc h3 h4 (.rows false) h2 h5).rw;have a1:=K5.r.sv.cell;have a2:=K5.t.cell;have a3:=K5.n.cell;have b1:=K5.r.sv.snap;have b2:=K5.t.snap;have b3:=K5.n.snap;have m1:=JB.r.sv.cell;have m2:=JB.t.cell;have m3:=JB.n.cell;have n1:=JB.r.sv.snap;have n2:=JB.t.snap;have n3:=JB.n.snap;change (∀Q,aB CX 31 [.agg (bd d),_] Q=Q _) at q3;change (∀Q,aB CX _ _ Q=Q (.osl 2 (Fo.spans (nV p pe day e)))) at q2;generalize nV p pe day e=L at*
  have own:∀S:ab,∀b,S[b]? = some (.arr (Fo.spans L) 2 0 true)->snap S (.sl b (Fo.spans L).length 0 (Fo.spans L).length 2)=some (.tsl false 2 (Fo.spans L)):=fun S b hb=>by
   simp[jX,aM,hb]
  simp only[bd]at q1 q3 i1;clear hg h1 h2 h3 h4 h5 Tw K5 JB hm;refine wk ?_;exact aE (σ:=Unit) () IW.out trivial aQ dk
end
section
variable {R:xg}{TX:ByteArray->Prop}{day len pe:Int}{ns:List Nt}{p:Pr}{ts:List Ti}
def EJ{ps:List ij}{gs:List eZ}{cs:List gw}{rs:List Ru}{r:lO}(h:dX (0,r.len)=true)(hl:rs.length<=65):(sI ps gs cs rs r pe day).length<=100:=by
 unfold sI;split
 .split
  .simp
  .rw[AP,<-Hb (fZ.2 h)];have h1:=DU (fZ.2 h) (fC ps gs r pe day rs);have h2:(fC ps gs r pe day rs).length<=rs.length:=by rw[fC,UI];exact U0 _ _
   simp only[W8]at h1;omega
 .simp
def EE{i:Int}(h0:0<=i)(h1:i<(ts.length:Int)):ts[i.toNat]? = some (ch ts i):=by
 have h:i.toNat<ts.length:=by omega
 rw[ch,Ve,UL h];rfl
def CC(h:lj TX len ts ns):Up ts.length ns where
 ids:=h.ids
 rng n hn:=⟨(h.note n hn).ti0,(h.note n hn).tiL⟩
 par n hn m hm e:=by
  have hN:=h.note n hn;have hM:=h.note m hm;by_cases k:(ch ts m.ti).kd=0
  .have:=hM.par0 k;have:=hN.id1;omega
  .obtain⟨q,hq,ht,_⟩:=hM.par k;rw[e,eQ h.ids n hn]at hq;cases hq;have:=h.tier m.ti.toNat _ (EE hM.ti0 hM.tiL) k;have:=hM.ti0;omega
def EC(h:lj TX len ts ns):sk ts ns:=fun n hn=>⟨(h.note n hn).ti0,(h.note n hn).tiL,fun m hm _=>by
 obtain⟨h1,h2⟩:=xd hm;exact(CC h).par m h1 n hn h2.symm⟩
def Ht(h:p.ok)(hf:p.few)(hl:Cq p)(hg:p.g.stb)(hs:p.dv.stab=true/\p.ev.stab=true/\p.ov.stab=true/\p.pv.stab=true/\p.gv.stab=true/\p.cv.stab=true/\p.rv.stab=true)(hR:∀S,(zR S p.g).uok R):p.vok R where
 ok:=h
 few:=hl.r.few
 docs:=⟨fun d hd=>EC (hl.r.di d hd),fun d hd=>by have:=(hl.d d hd).1;omega,fun d hd=>by have:=(hl.d d hd).2.2;omega⟩
 dl:=hl.r.d
 sp:=fun d hd pe day=>UQ (EJ (sN (kz hl.r.r).2.1 (WR hd)) (iZ hl.r.few).2.2.2.1) (by decide)
 up:=fun d hd=>CC (hl.r.di d hd)
 n:=fun d hd=>⟨(hl.d d hd).1,(hl.d d hd).2.1,fun n hn=>by have:=((hl.r.di d hd).note n hn).tx.1;omega⟩
 ids:=hl.r.ids
 g:=hR
 gok:=h.g
 gst:=hg
 sts:=hs
 x:=by have:=hl.r.g.lex.few;omega
 xl:=fun e he=>⟨(hf.g.xo e he).l,(hf.g.xo e he).r⟩
 xi:=hl.r.g.lex.ids
 tier:=fun d hd=>(hl.r.di d hd).tier
 el:=hf.e
 epl:=hf.ei
 pl:=hf.o
 pr:=fun o ho=>⟨(hf.oi o ho).r,(hf.oi o ho).e⟩
def vok_more{v:AV}{r:Ru}(h:p.vok R)(hr:nK (p.more v r))(hv:bq 6 ((p.rs++[r]).map fe) v)(hvt:v.stab=true)(ho:r.ok):(p.more v r).vok R where
 ok:=⟨h.ok.g,h.ok.d,h.ok.di,h.ok.e,h.ok.ei,h.ok.o,h.ok.oi,h.ok.r.p,h.ok.r.g,h.ok.r.go,h.ok.r.gt,h.ok.r.c,h.ok.r.ca,hv,fun x hx=>by
  rcases UU.1 hx with hx|hx
  .exact h.ok.r.ro x hx
  .simp only[VI]at hx;subst hx;exact ho⟩
 few:=hr.few
 docs:=⟨h.docs.tr,h.docs.n,h.docs.sp⟩
 dl:=h.dl
 sp:=fun d hd pe day=>UQ (EJ (sN (kz hr.r).2.1 (WR hd)) (iZ hr.few).2.2.2.1) (by decide)
 up:=h.up
 n:=h.n
 ids:=h.ids
 g:=h.g
 gok:=h.gok
 gst:=h.gst
 sts:=⟨h.sts.1,h.sts.2.1,h.sts.2.2.1,h.sts.2.2.2.1,h.sts.2.2.2.2.1,h.sts.2.2.2.2.2.1,hvt⟩
 x:=h.x
 xl:=h.xl
 xi:=h.xi
 tier:=h.tier
 el:=h.el
 epl:=h.epl
 pl:=h.pl
 pr:=h.pr
def uok_all{g:Lg}(hg:g.ok)(hs:g.stb)(hf:g.few)(hr:qj g):∃R:xg,∀S,(zR S g).uok R:=by
 obtain⟨Rd,h1⟩:=readM hg hf.u (fun u hu=>(hf.uo u hu).s);obtain⟨Lf,h2⟩:=lastM hg.sg hg.r (fun r JT=>⟨hg.ro r JT,(hf.ro r JT).f,(hr.ru r JT).1,(hr.ru r JT).2.1,(hr.ru r JT).2.2⟩) (by have:=hr.sg;omega) hf.r;obtain⟨sh,h3⟩:=shrinksM hg.r (fun r JT=>⟨hg.ro r JT,by have:=(hr.ru r JT).1;have:=(hf.ro r JT).f;omega⟩) hf.r;refine⟨⟨Rd,Lf,sh⟩,fun S=>?_⟩
 have hx:∀e∈gB S g.xs,∃y∈g.xs,e=zU S y:=fun e he=>by
  simp only[gB,UZ,VE]at he;obtain⟨y,hy,rfl⟩:=he;exact⟨y,hy.1,rfl⟩
 have hok:(zR S g).ok:={ hg with
  x := .rows true
  xo:=fun e he=>by obtain⟨y,hy,rfl⟩:=hx e he;exact EI (hg.xo y hy) }
 have hl:(gB S g.xs).length<=100:=by
  rw[gB,UI];exact UQ (U0 _ _) hr.lex.few
 refine⟨hok,{ hs with x:=rfl },h1,fun w id _=>usesM id hok (fun e he=>?_) (UQ hl (by decide)) hf.p hf.f hr.net h3.rw (fun s e=>?_),UQ hl (by decide)⟩
 .obtain⟨y,hy,rfl⟩:=hx e he;have hw:=hr.lex.en y hy;have hn:=hr.sg;refine⟨EI (hg.xo y hy),(hf.xo y hy).s,(hf.xo y hy).a,fun x hx=>?_⟩;rcases U2.1 (show x∈(y.fv,y.fl)::y.al from hx) with rfl|hx
  .exact⟨fun i hi=>by have:=hw.f i hi;omega,(hf.xo y hy).f⟩
  .exact⟨fun i hi=>by have:=hw.a x hx i hi;omega,(hf.xo y hy).ai x hx⟩
 .unfold zL;rw[e];exact h2
def vw_ok{S:List Int}{ds:List Dq}(h:sq p pe day R S)(h2:jU p pe day S p.ds ds):VwOK p pe day R S ds:=⟨h,h2.doc,h2.all⟩
end
section
variable {S:List Int}{en xs:List En}{p:Pr}{r:Ru}{v:AV}
def dc3:CX.deco 3=cW [(5,7)]:=rfl
def ad1_agg(id:Nat)(cs:List AV):bp id (.agg cs)=(.agg cs,[]):=rfl
def ad1_boo(id:Nat)(b:Bool):bp id (.bool b)=(.bool b,[]):=rfl
def pW(sz:Nat)(rows:List (List AV)):(B8 true sz rows).stab=true:=by cases rows<;>rfl
def GN(h:p.ok)(ho:r.ok):(p.more (.tsl true 6 ((p.rs++[r]).map fe)) r).ok:=⟨h.g,h.d,h.di,h.e,h.ei,h.o,h.oi,h.r.p,h.r.g,h.r.go,h.r.gt,h.r.c,h.r.ca,.rows true,fun x hx=>by
  rcases UU.1 hx with hx|hx
  .exact h.r.ro x hx
  .simp only[VI]at hx;subst hx;exact ho⟩
def more_few(h:p.few)(hl:p.rs.length<=1000)(hr:r.gl.length<=1048576):(p.more v r).few:=⟨h.g,h.d,h.di,h.e,h.ei,h.o,h.oi,h.r.p,h.r.pn,h.r.g,h.r.gi,h.r.c,by simp[Pr.more];omega,fun x hx=>by
  rcases UU.1 hx with hx|hx
  .exact h.r.ri x hx
  .simp only[VI]at hx;subst hx;omega⟩
theorem Bp{X:dV}{a b c:Code}{Q:Ex->List AV->ab->Prop}{fr:List AV}{S:ab}(h:bB X (.seq (.seq a b) c) Q fr S):bB X (.seq a (.seq b c)) Q fr S:=by
 simp only[bB]at h ⊢;refine fk (fun e fr S h=>?_) h;cases e with
 | normal=>simp only[xN,bB]at h ⊢;exact h
 | exit id=>exact h
 | ret=>exact h
def GQ(h:en.map (·.id)=(gB S xs).map (·.id))(n:Int):(∃e∈en,e.id=n)↔n∈S/\∃y∈xs,y.id=n:=by
 have h1:(∃e∈en,e.id=n)↔n∈(gB S xs).map (·.id):=by rw[<-h,UZ]
 rw[h1];simp only[gB,UZ,VE,decide_eq_true_eq];constructor
 .rintro⟨a,⟨b,⟨hb,hs⟩,rfl⟩,rfl⟩;exact⟨hs,b,hb,rfl⟩
 .rintro⟨hs,y,hy,rfl⟩;exact⟨zU S y,⟨y,⟨hy,hs⟩,rfl⟩,rfl⟩
theorem en_less{S':List Int}{en':List En}(h:en.map (·.id)=(gB S xs).map (·.id))(h':en'.map (·.id)=(gB S' xs).map (·.id))(hs:∀x∈S',x∈S){x:En}(hx:x∈en'):∃e∈en,fc en x.id=some e:=by
 obtain⟨h1,h2⟩:=(GQ h' x.id).1 ⟨x,hx,rfl⟩;obtain⟨e,he,hi⟩:=(GQ h x.id).2 ⟨hs _ h1,h2⟩;cases hg:fc en x.id with
 | none=>
  have:=WI.1 hg e he;simp[hi]at this
 | some y=>exact⟨y,U8 hg,rfl⟩
def en_len(h:en.map (·.id)=(gB S xs).map (·.id))(hl:xs.length<=100):en.length<=100:=by
 have:=congrArg List.length h;simp only[gB,UI]at this;rw[this];exact UQ (U0 _ _) hl
def hid_pre{R:xg}{pe day:Int}{ds:List Dq}(hp:p.vok R)(Lz:∀d∈p.ds,d.r.sp.length<=6/\dX (0,d.r.len)=true)(h:jU (p.more v r) pe day S (p.more v r).ds ds)(d:Dq)(hd:d∈ds):∃e,eu p.ds d.r.id=some e/\e.r.sp.length<=1000/\(nV p pe day e).length<=500000/\d.ns.length<=1000/\d.ts.length<=1000/\∀n∈d.ns,n.tx≠.empty->ez d.ts d.ns (nV p pe day e) n.id=true:=by
 obtain⟨o,ho,e1,e2,e3,e4⟩:=h.doc d hd;have ho:o∈p.ds:=ho;obtain⟨e,he⟩:=DD ho;have hm:=rF he;have:e=o:=dq_eq hp.ids hm.1 ho hm.2;subst this;refine⟨e,by rw[e1];exact he,by have:=(Lz e ho).1;omega,UQ (EJ (Lz e ho).2 (iZ hp.few).2.2.2.1) (by decide),by have:=(h.ok d hd).2;omega,by rw[e2];have:=(hp.n e ho).2.1;omega,fun n hn ht=>?_⟩;rw[e2];exact pE (fun s=>zg s) (Ir (hp.up e ho) e4 hn ht)
attribute [local irreducible] bB cX cZ aB bS dE
attribute [local go_sem] U1 Vj List.replicate UC Vp Nat.reduceMul Vg bi eF d9 bP bt ci bN ba aY aS aM aX and_self cd bd aG aZ fe dw zPr lw bC ad1_agg ad1_boo Co Cm Cn tp to nr lI lH nu tu tq xe yP Wj
set_option maxRecDepth 20000
theorem topLessE(h:p.ok)(hf:p.few)(hg:p.g.stb)(hs:p.dv.stab=true/\p.ev.stab=true/\p.ov.stab=true/\p.pv.stab=true/\p.gv.stab=true/\p.cv.stab=true/\p.rv.stab=true)(hr:r.ok)(J5:r.gl.length<=1048576)(pe day:Int)(ha:aB CX 5 [] (· = .bool true)):aB CX 3 [.agg (cd p),.agg [.int .i64 pe,.int .i64 day],.agg (fe r)] (· = .bool true):=by
 have qa:=ha.rw;obtain⟨d1,d2,d3,d4,d5,d6,d7⟩:=h.cells;obtain⟨e1,e2,e3,e4,e5,e6,e7⟩:=h.g.cells;obtain⟨p1,p2,p3,p4,p5,p6,p7⟩:=h.snaps;obtain⟨g1,g2,g3,g4,g5,g6,g7⟩:=h.g.snaps;obtain⟨t1,t2,t3,t4,t5,t6,t7⟩:=hg;have hg:p.g.stb:=⟨t1,t2,t3,t4,t5,t6,t7⟩;obtain⟨u1,u2,u3,u4,u5,u6,u7⟩:=hs;have hs:=And.intro u1 (And.intro u2 (And.intro u3 (And.intro u4 (And.intro u5 (And.intro u6 u7)))));have w1:=hr.sl.cell;have w2:=hr.sl.snap;have w3:=hr.st;obtain⟨b1,L1,q1⟩:=light48E h hf;have q1:=q1.rw;simp only[cd]at q1;cases b1 with
 | false=>
  clear h hf hg hs hr L1;refine aB.walkD rfl fx3.f rfl fx3.n rfl rfl ?_;simp only[dc3,o8,mK,kZ,mI,mH,o9,mJ,pc,Nat.reduceBEq,U3,if_false,if_true];exact wf
 | true=>
  have hL:=L1 rfl;have Sx:p.rs.length<=65:=(iZ hL.r.few).2.2.2.1;have hx:=GN h hr;obtain⟨ek,C2,q2⟩:=Ea hx (more_few hf (by omega) J5);replace q2:=q2.rw;simp only[cd,Pr.more]at q2;have L6:=@au _ _ _ h.r.r;rw[UI]at L6;have MC:=h.r.r;have Ke:=ac.mk hs;have Lq:=ac.mk hg;have hH:=ac.mk h;have Nw:=ac.mk hf;have NX:=ac.mk hL;have hrH:=ac.mk hr;have hC2:=ac.mk C2;clear h hf hg hs hr L1 hL C2 hx;have PH:p.rs.length*64+64<=140737488355328/\p.rs.length+1<=140737488355328:=⟨by omega,by omega⟩;have Jr:=fun S=>MC.rowsOf S;refine aB.walkD rfl fx3.f rfl fx3.n rfl rfl ?_;simp only[dc3,o8,mK,kZ,mI,mH,o9,mJ,pc,Nat.reduceBEq,U3,if_false,if_true];refine Bp (Bp (Bp (gL ?_)));refine wW [8,9,10,11,12,13,14,15,16,17,18,19,20,21,22,23,24,25,26,27,28,29,30,31,32,33,34,35,36,37,38,39,40,41,42,43,44,45,46,47,48,49,50,51,52,53,54,55,56,57,58,59,60,61,62,63,64,65,66,67,68,69,70,71,72,73,74,75,76,77,78,79,80,81,82,83,84,85,86,87,88,89,90,91,92,93,94,95,96,97,98,99,100,101,102,103,104,105,106,107,108,109,110,111,112,113,114,115,116,117,118,119,120,121,122,123,124,125,126,127,128,129,130,131,132,133,134,135,136,137,138,139,140,141,142,143,144,145,146,147,148,149,150,151,152,153,154,155,156,157,158,159,160,161,162,163,164,165,166,167,168,169,170] (fun _:ab=>[(3,.ptr 0 1 16 0 0),(4,.ptr 1 1 2 0 0),(5,.ptr 2 1 6 0 0),(6,.bool false),(7,.ptr 3 1 16 0 0)]) (fun a G=> .arr [cd p] 16 0 true :: .arr [[.int .i64 pe,.int .i64 day]] 2 0 true :: .arr [fe r] 6 0 true :: .arr [[p.g.sgv,.str p.g.onm,p.g.uv,p.g.lv,p.g.rv,.int .i64 p.g.nst,p.g.pv,p.g.fv,p.g.xv,p.dv,p.ev,p.ov,p.pv,p.gv,p.cv,.sl (a.length+1+1+1+1) (p.rs.length+1) 0 (p.rs.length+1) 6]] 16 1 false::(a ++ .arr ((p.rs++[r]).map fe) 6 0 true::G)) (fun _=>True) ?_ ?_
  .cases hp:p.rs with
   | nil=>
    rw[hp]at Jr L6;clear hp;refine wk ?_;exact eH [.arr [fe r] 6 0 true] trivial aQ dk
   | cons x l=>
    have I8:¬p.rs.length=0:=by rw[hp];simp
    have a1:p.rs.length*64<=140737488355328:=by omega
    have a2:p.rs.length<=140737488355328:=by omega
    have a3:(p.rs.length+1)*64<=140737488355328:=by omega
    have a4:p.rs.length+1<=140737488355328:=by omega
    rw[<-hp];clear hp;refine wk ?_;refine eH [] trivial aQ ⟨[.arr [fe r] 6 0 true],?_⟩;rw[Vv];rfl
  intro X g G _;have R0:((p.rs++[r]).map fe).length=p.rs.length+1:=by simp
  have hn3:¬X.length+1+1+1+1=3:=by omega
  generalize R1:(p.rs++[r]).map fe=RR at*;replace R1:=ac.mk R1;by_cases k2:ek=0
  case neg=>
   exact wf
  subst k2;have hR2:=hC2.out rfl;obtain⟨R,hU⟩:=uok_all hH.out.g Lq.out Nw.out.g NX.out.r.g;have v1:=Ht hH.out Nw.out NX.out Lq.out Ke.out hU;have v2:=vok_more v1 hR2 (show bq 6 ((p.rs++[r]).map fe) _ by rw[R1.out];exact .rows true) rfl hrH.out;obtain⟨z1,⟨S1,ds1,en1,rw1,rfl,hS1,Uv,Om,QY,Ku⟩,qv1⟩:=(viewM v1 pe day).ex;obtain⟨z2,⟨S2,ds2,en2,rw2,rfl,KN,Ut,PF,QX,PZ⟩,qv2⟩:=(viewM v2 pe day).ex;replace qv1:=qv1.rw;replace qv2:=qv2.rw;have Q3:=ac.mk (vw_ok hS1 Uv);have Q2:=ac.mk (vw_ok KN Ut);have hE:=ac.mk (And.intro Om (And.intro QY (And.intro PF QX)));have hW:=ac.mk (And.intro Ku PZ);have N0:=ac.mk (And.intro Uv Ut);have v1H:=ac.mk v1;clear hS1 Uv Om QY Ku KN Ut PF QX PZ v1 v2 hU hR2;have f1:=nC true 7 (ds1.map bd);have f2:=nC true 7 (ds2.map bd);have f3:=nC true 5 rw1;have f4:=nC true 5 rw2;have f5:=nC true 4 ((p.es.filter fun d=>gk p pe day ds1 (d.rc,d.no) && eN S1 d.pl).map dS);have f6:=nC true 4 (((p.more (.tsl true 6 RR) r).es.filter fun d=>gk (p.more (.tsl true 6 RR) r) pe day ds2 (d.rc,d.no) && eN S2 d.pl).map dS);have b1:=pW 7 (ds1.map bd);have b2:=pW 7 (ds2.map bd);have b3:=pW 5 rw1;have b4:=pW 5 rw2;have b5:=pW 4 ((p.es.filter fun d=>gk p pe day ds1 (d.rc,d.no) && eN S1 d.pl).map dS);have b6:=pW 4 (((p.more (.tsl true 6 RR) r).es.filter fun d=>gk (p.more (.tsl true 6 RR) r) pe day ds2 (d.rc,d.no) && eN S2 d.pl).map dS)
  have RV:ac ((((p.more (.tsl true 6 RR) r).es.filter fun d=>gk (p.more (.tsl true 6 RR) r) pe day ds2 (d.rc,d.no) && eN S2 d.pl).map dS).length<=((p.es.filter fun d=>gk p pe day ds1 (d.rc,d.no) && eN S1 d.pl).map dS).length):=⟨by
   rw[UI,UI];refine pT (fun d hd=>?_) p.es;simp only[UT]at hd ⊢;exact⟨C6 v1H.out.ids v1H.out.up Q3.out Q2.out _ hd.1,Am (ut Q2.out.st Q3.out.st) hd.2⟩⟩
  generalize ((p.es.filter fun d=>gk p pe day ds1 (d.rc,d.no) && eN S1 d.pl).map dS)=er1 at*;generalize (((p.more (.tsl true 6 RR) r).es.filter fun d=>gk (p.more (.tsl true 6 RR) r) pe day ds2 (d.rc,d.no) && eN S2 d.pl).map dS)=er2 at*;simp only[cd,Pr.more,lw]at qv1 qv2;generalize B8 true 7 (ds1.map bd)=dv1 at*;generalize B8 true 7 (ds2.map bd)=dv2 at*;generalize B8 true 5 rw1=ov1 at*;generalize B8 true 5 rw2=ov2 at*;generalize B8 true 4 er1=ev1 at*;generalize B8 true 4 er2=ev2 at*;have n1:=db hH.out.g.sg;have n2:=db hH.out.g.u;have n3:=db hH.out.g.l;have n4:=db hH.out.g.r;have n5:=db hH.out.g.p;have n6:=db hH.out.g.f;have n7:=db hH.out.r.p;have n8:=db hH.out.r.g;have n9:=db hH.out.r.c;have n0:=db hH.out.r.r;have m1:=db f1;have m2:=db f2;have m3:=db f3;have m4:=db f4;have m5:=db f5;have m6:=db f6;have c11:=f1.cell;have c12:=f2.cell;have c13:=f3.cell;have c14:=f4.cell;have c15:=f5.cell;have c16:=f6.cell;have x1:=f1.snap;have x2:=f2.snap;have x3:=f3.snap;have x4:=f4.snap;have x5:=f5.snap;have x6:=f6.snap;refine wk ?_;have KD:bq 8 (en1.map aG) (.tsl true 8 (en1.map aG)) := .rows true;have J6:bq 8 (en2.map aG) (.tsl true 8 (en2.map aG)) := .rows true;have L8:=@au _ _ _ J6;rw[UI]at L8;have S8:en1.length<=100:=en_len hE.out.1 NX.out.r.g.lex.few;have KX:en2.length<=100:=en_len hE.out.2.2.1 NX.out.r.g.lex.few;have qge:=ac.mk fun n=>(FF n KD hE.out.2.1 (by omega)).rw;have OF:=ac.mk J6;have hdl1:ds1.length<=12:=UQ N0.out.1.len NX.out.r.d;have QS:ds2.length<=12:=UQ N0.out.2.len NX.out.r.d;have qdd:=ac.mk fun n=>(doc47E n f1 (fun d hd=>(N0.out.1.ok d hd).1) (by omega)).rw;have L9:=@au _ _ _ f2;rw[UI]at L9;have f2H:=ac.mk f2;clear KD J6 qv1 qv2 q1 q2;refine cN [6,11,12,44,45,46,47,48,49,50,51,52,53,54,55,56,57,58,59,60,61,62,63,64,65,66,67] 10 en2 (fun _:Unit=>[]) (fun _ G'=> .arr [cd p] 16 0 true :: .arr [[.int .i64 pe,.int .i64 day]] 2 0 true :: .arr [fe r] 6 0 true :: .arr [[p.g.sgv,.str p.g.onm,p.g.uv,p.g.lv,p.g.rv,.int .i64 p.g.nst,p.g.pv,p.g.fv,p.g.xv,p.dv,p.ev,p.ov,p.pv,p.gv,p.cv,.tsl true 6 RR]] 16 1 false::(X ++ .dead (p.rs.length+1)::(G ++ .arr [lw p (.tsl true 8 (en1.map aG)) dv1 ev1 ov1] 16 1 true :: .arr [[p.g.sgv,.str p.g.onm,p.g.uv,p.g.lv,p.g.rv,.int .i64 p.g.nst,p.g.pv,p.g.fv,.tsl true 8 (en2.map aG),dv2,ev2,ov2,p.pv,p.gv,p.cv,.tsl true 6 RR]] 16 1 true::G'))) (fun _ _ _=>True) () (Vu KX (by decide)) ?_ ?_ ?_
  .trivial
  .intro _ g1 G1 _;refine wk ?_;refine cN [6,14,15,16,17,18,68,69,70,71,72,73,74,75,76,77,78,79,80,81,82,83,84,85,86,87,88,89,90,91,92,93,94,95,96,97,98,99,100,101,102,103,104,105,106,107,108,109,110,111,112,113,114,115,116,117,118,119,120,121,122,123,124,125,126,127,128,129,130,131,132,133,134,135,136,137,138,139,140,141,142,143,144,145] 13 ds2 (fun _:Unit=>[]) (fun _ G'=> .arr [cd p] 16 0 true :: .arr [[.int .i64 pe,.int .i64 day]] 2 0 true :: .arr [fe r] 6 0 true :: .arr [[p.g.sgv,.str p.g.onm,p.g.uv,p.g.lv,p.g.rv,.int .i64 p.g.nst,p.g.pv,p.g.fv,p.g.xv,p.dv,p.ev,p.ov,p.pv,p.gv,p.cv,.tsl true 6 RR]] 16 1 false::(X ++ .dead (p.rs.length+1)::(G ++ .arr [lw p (.tsl true 8 (en1.map aG)) dv1 ev1 ov1] 16 1 true :: .arr [[p.g.sgv,.str p.g.onm,p.g.uv,p.g.lv,p.g.rv,.int .i64 p.g.nst,p.g.pv,p.g.fv,.tsl true 8 (en2.map aG),dv2,ev2,ov2,p.pv,p.gv,p.cv,.tsl true 6 RR]] 16 1 true::(G1++G')))) (fun _ _ _=>True) () (Vu QS (by decide)) ?_ ?_ ?_
   .trivial
   .intro _ g2 G2 _
    have hwl:rw2.length<=rw1.length:=by
     rw[hW.out.1,hW.out.2];refine pT (fun o ho=>?_) p.os;have hle:=pT (fun x hx=>C6 v1H.out.ids v1H.out.up Q3.out Q2.out x hx) o.rl;cases h1:o.rl.filter (fun r=>gk p pe day ds1 r) with
     | nil=>
      rw[h1]at hle;rw[UO (Nat.le_zero.1 hle)]at ho;exact absurd ho (by simp)
     | cons a l=>rfl
    have l1:(er2.length:Int)<=(er1.length:Int):=by have:=RV.out;omega
    have l2:(rw2.length:Int)<=(rw1.length:Int):=by omega
    have La:=@au _ _ _ f5;have Lb:=@au _ _ _ f6;have Lc:=@au _ _ _ f3;have Ld:=@au _ _ _ f4;have qh:=(law11E (q:=p.more (.tsl true 6 RR) r) hH.out NX.out.r (by rw[<-R1.out];exact GN hH.out hrH.out) Lq.out Lq.out Ke.out ⟨u4,u5,u6,rfl⟩ (xv := .tsl true 8 (en2.map aG)) ⟨OF.out.cell,OF.out.snap,rfl⟩ ⟨c16,x6,b6⟩ ⟨c14,x4,b4⟩ f2H.out b2 (fun d hd=>(N0.out.2.ok d hd).1) QS pe day (fun d hd=>hid_pre v1H.out (fun d hd=>⟨by have:=NX.out.d d hd;omega,sN (kz NX.out.r.r).2.1 (WR hd)⟩) N0.out.2 d hd)).rw;simp only[cd,lw,Pr.more]at qh;exact wf
   .intro _ g2 G2 pre d post IW lt1 w1 _;have Nf:d∈ds2:=by rw[IW.out];simp
    have i1:=ay f2H.out (X:=CX) ty37 ty74 rfl (n:=pre.length) (row:=bd d) (k := .i64) (by rw[IW.out];exact fp bd pre d post);obtain⟨d',hg,hn⟩:=DQ v1H.out.ids v1H.out.up Q3.out Q2.out Nf;have hn:=ac.mk hn;have qx:=qdd.out d.r.id;rw[hg,iY]at qx;have Mn:=(N0.out.1.ok d' (kw hg)).1;have Nr:=(N0.out.2.ok d Nf).1;have MD:=(N0.out.2.ok d Nf).2;have hnl1:=(N0.out.1.ok d' (kw hg)).2;have qn:=ac.mk fun n=>(show ∀Q,aB CX 10 [.agg (bd d'),.int .i64 n] Q=Q (iX (cO d'.ns n)) from(Ie (d:=d'.dc) n Mn.dc (by omega)).rw);have k1:=Mn.r.sv.cell;have k2:=Mn.t.cell;have k3:=Mn.n.cell;have k4:=Mn.r.sv.snap;have k5:=Mn.t.snap;have k6:=Mn.n.snap;have k7:=Nr.r.sv.cell;have k8:=Nr.t.cell;have k9:=Nr.n.cell;have j1:=Mn.r.st;have j2:=Mn.tt;have j3:=Mn.nt;have L3:=@au _ _ _ Nr.n;rw[UI]at L3;have hon:=ac.mk Nr.n;simp only[bd]at qx i1;clear hg Mn Nr Nf;refine wk ?_;refine cN [6,17,18,90,91,92,93,94,95,96,97,98,99,100,101,102,103,104,105,106,107,108,109,110,111,112,113,114,115,116,117,118,119,120,121,122,123,124,125,126,127,128,129,130,131,132,133,134,135,136,137,138,139,140,141,142,143,144,145] 16 d.ns (fun _:Unit=>[]) (fun _ G'=> .arr [cd p] 16 0 true :: .arr [[.int .i64 pe,.int .i64 day]] 2 0 true :: .arr [fe r] 6 0 true :: .arr [[p.g.sgv,.str p.g.onm,p.g.uv,p.g.lv,p.g.rv,.int .i64 p.g.nst,p.g.pv,p.g.fv,p.g.xv,p.dv,p.ev,p.ov,p.pv,p.gv,p.cv,.tsl true 6 RR]] 16 1 false::(X ++ .dead (p.rs.length+1)::(G ++ .arr [lw p (.tsl true 8 (en1.map aG)) dv1 ev1 ov1] 16 1 true :: .arr [[p.g.sgv,.str p.g.onm,p.g.uv,p.g.lv,p.g.rv,.int .i64 p.g.nst,p.g.pv,p.g.fv,.tsl true 8 (en2.map aG),dv2,ev2,ov2,p.pv,p.gv,p.cv,.tsl true 6 RR]] 16 1 true::(G1++(G2 ++ .arr [bd d'] 7 1 true::G'))))) (fun _ _ _=>True) () (Vu MD (by decide)) ?_ ?_ ?_
    .trivial
    .intro _ g3 G3 _;refine wk ?_;exact aE (σ:=Unit) () IW.out trivial aQ dk
    .intro _ g3 G3 pre2 y post2 I7 lt2 w2 _;have i2:=ay hon.out (X:=CX) ty72 ty78 rfl (n:=pre2.length) (row:=aZ y) (k := .i64) (by rw[I7.out];exact fp aZ pre2 y post2);obtain⟨m,hm,ht⟩:=hn.out y (by rw[I7.out];simp);have qy:=qn.out y.id;rw[hm,iX]at qy;simp only[aZ,bd]at qy i2;have s1:ik .neq y.tx ⟨#[]⟩=some (.bool (!(y.tx.toList == (⟨#[]⟩:ByteArray).toList))):=rfl;have s2:ik .neq y.tx m.tx=some (.bool (!(y.tx.toList == m.tx.toList))):=rfl;cases hc:(y.tx.toList == (⟨#[]⟩:ByteArray).toList) with
     | true=>
      rw[hc]at s1;clear s2 hc ht hm;refine wk ?_;exact aE (σ:=Unit) () I7.out trivial aQ dk
     | false=>
      rw[ht (fun e=>by rw[e]at hc;exact absurd hc (by rw[show (ByteArray.empty.toList == (⟨#[]⟩:ByteArray).toList)=true from beq_self_eq_true _];simp)),beq_self_eq_true]at s2;rw[hc]at s1;rw[ht (fun e=>by rw[e]at hc;exact absurd hc (by rw[show (ByteArray.empty.toList == (⟨#[]⟩:ByteArray).toList)=true from beq_self_eq_true _];simp))]at qy;clear hc ht hm;refine wk ?_;exact aE (σ:=Unit) () I7.out trivial aQ dk
  .intro _ g1 G1 pre x post IW lt1 w1 _;have i1:=ay OF.out (X:=CX) ty34 ty66 rfl (n:=pre.length) (row:=aG x) (k := .i64) (by rw[IW.out];exact fp aG pre x post);obtain⟨e,he,hg⟩:=en_less hE.out.1 hE.out.2.2.1 (ut Q2.out.st Q3.out.st) (show x∈en2 by rw[IW.out];simp);have qx:=qge.out x.id;rw[hg,jM]at qx;obtain⟨k1,k2,k3,k4,k5⟩:=(hE.out.2.1 e he).cells;simp only[aG]at qx i1;clear hg he;refine wk ?_;exact aE (σ:=Unit) () IW.out trivial aQ dk
end
def avBL_pos{s:vM}{ss:List vM}{r:List AV}(h:fJ (s::ss) r):1<=fy r:=by
 simp only[fJ]at h;obtain⟨v,r',rfl,h1,_⟩:=h
 have:1<=qQ v:=by
  cases s<;>simp only[hZ]at h1
  .obtain⟨n,rfl,_⟩:=h1;simp[qQ]
  .obtain⟨n,rfl⟩:=h1;simp[qQ]
  .obtain⟨n,rfl,_⟩:=h1;simp[qQ]
  .obtain⟨n,rfl,_⟩:=h1;simp[qQ]
 simp only[fy];omega
def zM{α:Type}(τ:List vM)(enc:α->List AV)(P:α->Prop):Prop := ∀r,fJ τ r->fy r<=1048576->∃x,r=enc x/\P x
theorem zM.list{α:Type}{s:vM}{ss:List vM}{enc:α->List AV}{P:α->Prop}(h:zM (s::ss) enc P):∀{rows:List (List AV)},(∀r∈rows,fJ (s::ss) r)->zG rows<=1048576->∃l:List α,rows=l.map enc/\l.length<=1048576/\l.length<=zG rows/\∀x∈l,P x
 | [],_,_=>⟨[],rfl,by simp,by simp,fun _ h=>(by cases h)⟩
 | r::rows,hr,hb=>by
  simp only[zG]at hb;have h0:=avBL_pos (hr r (by simp));obtain⟨x,rfl,hx⟩:=h r (hr _ (by simp)) (by omega);obtain⟨l,rfl,_,h2,h3⟩:=h.list (rows:=rows) (fun r JT=>hr r (by simp[JT])) (by omega);refine⟨x::l,rfl,by simp only[UB];omega,by simp only[UB,zG];omega,fun y hy=>?_⟩;rcases U2.1 hy with rfl|hy
  .exact hx
  .exact h3 y hy
def yI:zM [.int .i64] (fun n:Int=>[.int .i64 n]) (fun _=>True):=by
 intro r hr hb;simp only[fJ,hZ]at hr;obtain⟨_,_,rfl,⟨a,rfl,_⟩,rfl⟩:=hr;exact⟨a,rfl,trivial⟩
def gotS:zM [.str] (fun n:ByteArray=>[.str n]) (fun s=>s.size<=1048576):=by
 intro r hr hb;simp only[fJ,hZ]at hr;obtain⟨_,_,rfl,⟨a,rfl,_⟩,rfl⟩:=hr;simp only[fy,qQ]at hb;exact⟨a,rfl,by omega⟩
def gotP:zM [.int .i64,.int .i64] (fun x:Int×Int=>[.int .i64 x.1,.int .i64 x.2]) (fun _=>True):=by
 intro r hr hb;simp only[fJ,hZ]at hr;obtain⟨_,_,rfl,⟨a,rfl,_⟩,_,_,rfl,⟨b,rfl,_⟩,rfl⟩:=hr;exact⟨(a,b),rfl,trivial⟩
def gotT:zM [.int .i64,.int .i64,.int .i64] (fun x:Int×Int×Int=>[.int .i64 x.1,.int .i64 x.2.1,.int .i64 x.2.2]) (fun _=>True):=by
 intro r hr hb;simp only[fJ,hZ]at hr;obtain⟨_,_,rfl,⟨a,rfl,_⟩,_,_,rfl,⟨b,rfl,_⟩,_,_,rfl,⟨c,rfl,_⟩,rfl⟩:=hr;exact⟨(a,b,c),rfl,trivial⟩
def gotSg:zM [.str,.int .i64] encS (fun x=>x.name.size<=1048576):=by
 intro r hr hb;simp only[fJ,hZ]at hr;obtain⟨_,_,rfl,⟨a,rfl,_⟩,_,_,rfl,⟨b,rfl,_⟩,rfl⟩:=hr;simp only[fy,qQ]at hb;exact⟨⟨a,b⟩,rfl,show a.size<=1048576 by omega⟩
def gotSn:zM [.str,.str] ga snFew:=by
 intro r hr hb;simp only[fJ,hZ]at hr;obtain⟨_,_,rfl,⟨a,rfl,_⟩,_,_,rfl,⟨b,rfl,_⟩,rfl⟩:=hr;simp only[fy,qQ]at hb;exact⟨(a,b),rfl,show a.size<=1048576 by omega,show b.size<=1048576 by omega⟩
def gotUn:zM [.str,.sl [.int .i64]] nQ (fun u=>u.ok/\u.few):=by
 intro r hr hb;simp only[fJ,hZ]at hr;obtain⟨_,_,rfl,⟨a,rfl,_⟩,_,_,rfl,⟨r1,rfl,_,k1⟩,rfl⟩:=hr;simp only[fy,qQ]at hb;obtain⟨l1,rfl,n1,-,-⟩:=yI.list (by simpa only[fJ,hZ]using k1) (by omega);exact⟨⟨a,.tsl true 1 (az l1),l1⟩,rfl,⟨.rows true,rfl⟩,show a.size<=1048576 by omega,n1⟩
def gotLe:zM [.sl [.str]] (fun x:AV×List ByteArray=>[x.1]) (fun x=>bq 1 (strs x.2) x.1/\x.2.length<=1048576/\∀s∈x.2,s.size<=1048576):=by
 intro r hr hb;simp only[fJ,hZ]at hr;obtain⟨_,_,rfl,⟨r1,rfl,_,k1⟩,rfl⟩:=hr;simp only[fy,qQ]at hb;obtain⟨l1,rfl,n1,-,h1⟩:=gotS.list (by simpa only[fJ,hZ]using k1) (by omega);exact⟨(.tsl true 1 (strs l1),l1),rfl,.rows true,n1,h1⟩
def gotIs:zM [.sl [.int .i64]] (fun x:AV×List Int=>[x.1]) (fun x=>(bq 1 (az x.2) x.1/\x.1.stab=true)/\x.2.length<=1048576):=by
 intro r hr hb;simp only[fJ,hZ]at hr;obtain⟨_,_,rfl,⟨r1,rfl,_,k1⟩,rfl⟩:=hr;simp only[fy,qQ]at hb;obtain⟨l1,rfl,n1,-,-⟩:=yI.list (by simpa only[fJ,hZ]using k1) (by omega);exact⟨(.tsl true 1 (az l1),l1),rfl,⟨.rows true,rfl⟩,n1⟩
def gotRw:zM [.sl [.int .i64],.sl [.int .i64],.sl [.int .i64,.int .i64],.sl [.int .i64,.int .i64],.bool,.bool] ge (fun x=>x.ok/\x.few):=by
 intro r hr hb;simp only[fJ,hZ]at hr;obtain⟨_,_,rfl,⟨r1,rfl,_,k1⟩,_,_,rfl,⟨r2,rfl,_,k2⟩,_,_,rfl,⟨r3,rfl,_,k3⟩,_,_,rfl,⟨r4,rfl,_,k4⟩,_,_,rfl,⟨a,rfl⟩,_,_,rfl,⟨b,rfl⟩,rfl⟩:=hr;simp only[fy,qQ]at hb;obtain⟨l1,rfl,n1,-,-⟩:=yI.list (by simpa only[fJ,hZ]using k1) (by omega);obtain⟨l2,rfl,n2,-,-⟩:=yI.list (by simpa only[fJ,hZ]using k2) (by omega);obtain⟨l3,rfl,n3,-,-⟩:=gotP.list (by simpa only[fJ,hZ]using k3) (by omega);obtain⟨l4,rfl,n4,-,-⟩:=gotP.list (by simpa only[fJ,hZ]using k4) (by omega);exact⟨⟨.tsl true 1 (az l1),l1,.tsl true 1 (az l2),l2,.tsl true 2 (l3.map wy),l3,.tsl true 2 (l4.map wy),l4,a,b⟩,rfl,⟨.rows true,rfl,.rows true,rfl,.rows true,rfl,.rows true,rfl⟩,n1,n2,n3,n4⟩
def gotEn:zM [.int .i64,.sl [.int .i64],.int .i64,.sl [.sl [.int .i64]],.int .i64,.sl [.str,.str],.sl [.int .i64,.int .i64],.sl [.int .i64,.int .i64]] aG (fun x=>x.ok/\x.few):=by
 intro r hr hb;simp only[fJ,hZ]at hr;obtain⟨_,_,rfl,⟨a,rfl,_⟩,_,_,rfl,⟨r1,rfl,_,k1⟩,_,_,rfl,⟨b,rfl,_⟩,_,_,rfl,⟨r2,rfl,_,k2⟩,_,_,rfl,⟨c,rfl,_⟩,_,_,rfl,⟨r3,rfl,_,k3⟩,_,_,rfl,⟨r4,rfl,_,k4⟩,_,_,rfl,⟨r5,rfl,_,k5⟩,rfl⟩:=hr;simp only[fy,qQ]at hb;obtain⟨l1,rfl,n1,-,-⟩:=yI.list (by simpa only[fJ,hZ]using k1) (by omega);obtain⟨l2,rfl,n2,-,h2⟩:=gotIs.list (by simpa only[fJ,hZ]using k2) (by omega);obtain⟨l3,rfl,n3,-,h3⟩:=gotSn.list (by simpa only[fJ,hZ]using k3) (by omega);obtain⟨l4,rfl,n4,-,-⟩:=gotP.list (by simpa only[fJ,hZ]using k4) (by omega);obtain⟨l5,rfl,n5,-,-⟩:=gotP.list (by simpa only[fJ,hZ]using k5) (by omega);exact⟨⟨a,.tsl true 1 (az l1),l1,b,.tsl true 1 (l2.map fun x=>[x.1]),l2,c,.tsl true 2 (l3.map ga),l3,.tsl true 2 (l4.map gV),l4,.tsl true 2 (l5.map cK),l5⟩,rfl,⟨.rows true,rfl,.rows true,rfl,fun x hx=>(h2 x hx).1,.rows true,rfl,.rows true,rfl,.rows true,rfl⟩,n1,n2,fun x hx=>(h2 x hx).2,n3,h3,n4,n5⟩
def gotDe:zM [.int .i64,.int .i64,.bool,.sl [.int .i64,.int .i64,.int .i64]] dS (fun x=>x.ok/\x.pl.length<=1048576):=by
 intro r hr hb;simp only[fJ,hZ]at hr;obtain⟨_,_,rfl,⟨a,rfl,_⟩,_,_,rfl,⟨b,rfl,_⟩,_,_,rfl,⟨c,rfl⟩,_,_,rfl,⟨r1,rfl,_,k1⟩,rfl⟩:=hr;simp only[fy,qQ]at hb;obtain⟨l1,rfl,n1,-,-⟩:=gotT.list (by simpa only[fJ,hZ]using k1) (by omega);exact⟨⟨a,b,c,.tsl true 3 (l1.map kY),l1⟩,rfl,⟨.rows true,rfl⟩,n1⟩
def gotPo:zM [.int .i64,.str,.str,.sl [.int .i64],.sl [.int .i64,.int .i64]] nR (fun x=>x.ok/\x.few):=by
 intro r hr hb;simp only[fJ,hZ]at hr;obtain⟨_,_,rfl,⟨a,rfl,_⟩,_,_,rfl,⟨b,rfl,_⟩,_,_,rfl,⟨c,rfl,_⟩,_,_,rfl,⟨r1,rfl,_,k1⟩,_,_,rfl,⟨r2,rfl,_,k2⟩,rfl⟩:=hr;simp only[fy,qQ]at hb;obtain⟨l1,rfl,n1,-,-⟩:=yI.list (by simpa only[fJ,hZ]using k1) (by omega);obtain⟨l2,rfl,n2,-,-⟩:=gotP.list (by simpa only[fJ,hZ]using k2) (by omega);exact⟨⟨a,b,c,.tsl true 1 (az l1),l1,.tsl true 2 (l2.map cK),l2⟩,rfl,⟨.rows true,rfl,.rows true,rfl⟩,show b.size<=1048576 by omega,show c.size<=1048576 by omega,n1,n2⟩
def gotTi:zM [.str,.int .i64,.int .i64,.int .i64] eW (fun x=>x.nm.size<=1048576):=by
 intro r hr hb;simp only[fJ,hZ]at hr;obtain⟨_,_,rfl,⟨s,rfl,_⟩,_,_,rfl,⟨a,rfl,_⟩,_,_,rfl,⟨b,rfl,_⟩,_,_,rfl,⟨c,rfl,_⟩,rfl⟩:=hr;simp only[fy,qQ]at hb;exact⟨⟨s,a,b,c⟩,rfl,show s.size<=1048576 by omega⟩
def gotNt:zM [.int .i64,.int .i64,.int .i64,.int .i64,.int .i64,.int .i64,.str] aZ (fun x=>x.tx.size<=1048576):=by
 intro r hr hb;simp only[fJ,hZ]at hr;obtain⟨_,_,rfl,⟨a,rfl,_⟩,_,_,rfl,⟨b,rfl,_⟩,_,_,rfl,⟨c,rfl,_⟩,_,_,rfl,⟨d,rfl,_⟩,_,_,rfl,⟨e,rfl,_⟩,_,_,rfl,⟨f,rfl,_⟩,_,_,rfl,⟨s,rfl,_⟩,rfl⟩:=hr;simp only[fy,qQ]at hb;exact⟨⟨a,b,c,d,e,f,s⟩,rfl,show s.size<=1048576 by omega⟩
def gotDq:zM [.int .i64,.str,.int .i64,.int .i64,.sl [.int .i64],.sl [.str,.int .i64,.int .i64,.int .i64],.sl [.int .i64,.int .i64,.int .i64,.int .i64,.int .i64,.int .i64,.str]] bd (fun x=>x.ok/\x.few):=by
 intro r hr hb;simp only[fJ,hZ]at hr;obtain⟨_,_,rfl,⟨a,rfl,_⟩,_,_,rfl,⟨s,rfl,_⟩,_,_,rfl,⟨b,rfl,_⟩,_,_,rfl,⟨c,rfl,_⟩,_,_,rfl,⟨r1,rfl,_,k1⟩,_,_,rfl,⟨r2,rfl,_,k2⟩,_,_,rfl,⟨r3,rfl,_,k3⟩,rfl⟩:=hr;simp only[fy,qQ]at hb;obtain⟨l1,rfl,n1,-,-⟩:=yI.list (by simpa only[fJ,hZ]using k1) (by omega);obtain⟨l2,rfl,n2,-,h2⟩:=gotTi.list (by simpa only[fJ,hZ]using k2) (by omega);obtain⟨l3,rfl,n3,-,h3⟩:=gotNt.list (by simpa only[fJ,hZ]using k3) (by omega);exact⟨⟨⟨a,s,b,c,.tsl true 1 (az l1),l1⟩,.tsl true 4 (l2.map eW),l2,.tsl true 7 (l3.map aZ),l3⟩,rfl,⟨⟨.rows true,rfl⟩,.rows true,rfl,.rows true,rfl⟩,show s.size<=1048576 by omega,n1,n2,h2,n3,h3⟩
def gotPsn:zM [.int .i64,.str,.bool] fF (fun x=>x.name.size<=1048576):=by
 intro r hr hb;simp only[fJ,hZ]at hr;obtain⟨_,_,rfl,⟨a,rfl,_⟩,_,_,rfl,⟨s,rfl,_⟩,_,_,rfl,⟨b,rfl⟩,rfl⟩:=hr;simp only[fy,qQ]at hb;exact⟨⟨a,s,b⟩,rfl,show s.size<=1048576 by omega⟩
def gotGrp:zM [.int .i64,.str,.sl [.int .i64],.sl [.int .i64]] eE (fun g=>g.ok/\(g.pv.stab=true/\g.sv.stab=true)/\g.name.size<=1048576/\g.people.length<=1048576/\g.subs.length<=1048576):=by
 intro r hr hb;simp only[fJ,hZ]at hr;obtain⟨_,_,rfl,⟨a,rfl,_⟩,_,_,rfl,⟨s,rfl,_⟩,_,_,rfl,⟨r1,rfl,_,k1⟩,_,_,rfl,⟨r2,rfl,_,k2⟩,rfl⟩:=hr;simp only[fy,qQ]at hb;obtain⟨l1,rfl,n1,-,-⟩:=yI.list (by simpa only[fJ,hZ]using k1) (by omega);obtain⟨l2,rfl,n2,-,-⟩:=yI.list (by simpa only[fJ,hZ]using k2) (by omega);exact⟨⟨a,s,l1,l2,.tsl true 1 (az l1),.tsl true 1 (az l2)⟩,rfl,⟨.rows true,.rows true⟩,⟨rfl,rfl⟩,show s.size<=1048576 by omega,n1,n2⟩
def gotCon:zM [.int .i64,.int .i64,.int .i64,.int .i64] i6 (fun _=>True):=by
 intro r hr hb;simp only[fJ,hZ]at hr;obtain⟨_,_,rfl,⟨a,rfl,_⟩,_,_,rfl,⟨b,rfl,_⟩,_,_,rfl,⟨c,rfl,_⟩,_,_,rfl,⟨d,rfl,_⟩,rfl⟩:=hr;exact⟨⟨a,b,c,d⟩,rfl,trivial⟩
def gotRu:zM [.int .i64,.int .i64,.int .i64,.int .i64,.sl [.int .i64],.int .i64] fe (fun x=>x.ok/\x.gl.length<=1048576):=by
 intro r hr hb;simp only[fJ,hZ]at hr;obtain⟨_,_,rfl,⟨a,rfl,_⟩,_,_,rfl,⟨b,rfl,_⟩,_,_,rfl,⟨c,rfl,_⟩,_,_,rfl,⟨d,rfl,_⟩,_,_,rfl,⟨r1,rfl,_,k1⟩,_,_,rfl,⟨e,rfl,_⟩,rfl⟩:=hr;simp only[fy,qQ]at hb;obtain⟨l1,rfl,n1,-,-⟩:=yI.list (by simpa only[fJ,hZ]using k1) (by omega);exact⟨⟨a,(b,c),d,.tsl true 1 (az l1),l1,e⟩,rfl,⟨.rows true,rfl⟩,n1⟩
abbrev projS:List vM:=[.sl [.str,.int .i64],.str,.sl [.str,.sl [.int .i64]],.sl [.sl [.str]],.sl [.sl [.int .i64],.sl [.int .i64],.sl [.int .i64,.int .i64],.sl [.int .i64,.int .i64],.bool,.bool],.int .i64,.sl [.int .i64,.int .i64,.int .i64],.sl [.int .i64],.sl [.int .i64,.sl [.int .i64],.int .i64,.sl [.sl [.int .i64]],.int .i64,.sl [.str,.str],.sl [.int .i64,.int .i64],.sl [.int .i64,.int .i64]],
 .sl [.int .i64,.str,.int .i64,.int .i64,.sl [.int .i64],.sl [.str,.int .i64,.int .i64,.int .i64],.sl [.int .i64,.int .i64,.int .i64,.int .i64,.int .i64,.int .i64,.str]],.sl [.int .i64,.int .i64,.bool,.sl [.int .i64,.int .i64,.int .i64]],.sl [.int .i64,.str,.str,.sl [.int .i64],.sl [.int .i64,.int .i64]],
 .sl [.int .i64,.str,.bool],.sl [.int .i64,.str,.sl [.int .i64],.sl [.int .i64]],.sl [.int .i64,.int .i64,.int .i64,.int .i64],.sl [.int .i64,.int .i64,.int .i64,.int .i64,.sl [.int .i64],.int .i64]]
abbrev ruleS:List vM:=[.int .i64,.int .i64,.int .i64,.int .i64,.sl [.int .i64],.int .i64]
def gotPr:zM projS cd (fun p=>p.ok/\p.few/\p.g.stb/\p.dv.stab=true/\p.ev.stab=true/\p.ov.stab=true/\p.pv.stab=true/\p.gv.stab=true/\p.cv.stab=true/\p.rv.stab=true):=by
 intro r hr hb;simp only[fJ,hZ]at hr;obtain⟨_,_,rfl,⟨r1,rfl,_,k1⟩,_,_,rfl,⟨s,rfl,_⟩,_,_,rfl,⟨r2,rfl,_,k2⟩,_,_,rfl,⟨r3,rfl,_,k3⟩,_,_,rfl,⟨r4,rfl,_,k4⟩,_,_,rfl,⟨a,rfl,_⟩,_,_,rfl,⟨r5,rfl,_,k5⟩,_,_,rfl,⟨r6,rfl,_,k6⟩,_,_,rfl,⟨r7,rfl,_,k7⟩,_,_,rfl,⟨r8,rfl,_,k8⟩,_,_,rfl,⟨r9,rfl,_,k9⟩,_,_,rfl,⟨r10,rfl,_,k10⟩,_,_,rfl,⟨r11,rfl,_,k11⟩,_,_,rfl,⟨r12,rfl,_,k12⟩,_,_,rfl,⟨r13,rfl,_,k13⟩,_,_,rfl,⟨r14,rfl,_,k14⟩,rfl⟩:=hr;simp only[fy,qQ]at hb;obtain⟨l1,rfl,n1,-,h1⟩:=gotSg.list (by simpa only[fJ,hZ]using k1) (by omega);obtain⟨l2,rfl,n2,-,h2⟩:=gotUn.list (by simpa only[fJ,hZ]using k2) (by omega);obtain⟨l3,rfl,n3,-,h3⟩:=gotLe.list (by simpa only[fJ,hZ]using k3) (by omega);obtain⟨l4,rfl,n4,-,h4⟩:=gotRw.list (by simpa only[fJ,hZ]using k4) (by omega);obtain⟨l5,rfl,n5,-,-⟩:=gotT.list (by simpa only[fJ,hZ]using k5) (by omega);obtain⟨l6,rfl,n6,-,-⟩:=yI.list (by simpa only[fJ,hZ]using k6) (by omega);obtain⟨l7,rfl,n7,-,h7⟩:=gotEn.list (by simpa only[fJ,hZ]using k7) (by omega);obtain⟨l8,rfl,n8,-,h8⟩:=gotDq.list (by simpa only[fJ,hZ]using k8) (by omega);obtain⟨l9,rfl,n9,-,h9⟩:=gotDe.list (by simpa only[fJ,hZ]using k9) (by omega);obtain⟨l10,rfl,n10,-,R7⟩:=gotPo.list (by simpa only[fJ,hZ]using k10) (by omega);obtain⟨l11,rfl,n11,-,Ux⟩:=gotPsn.list (by simpa only[fJ,hZ]using k11) (by omega);obtain⟨l12,rfl,n12,-,PM⟩:=gotGrp.list (by simpa only[fJ,hZ]using k12) (by omega);obtain⟨l13,rfl,n13,-,-⟩:=gotCon.list (by simpa only[fJ,hZ]using k13) (by omega);obtain⟨l14,rfl,n14,-,h14⟩:=gotRu.list (by simpa only[fJ,hZ]using k14) (by omega)
 exact⟨⟨⟨.tsl true 2 (l1.map encS),l1,s,.tsl true 2 (l2.map nQ),l2,.tsl true 1 (l3.map fun x=>[x.1]),l3,.tsl true 6 (l4.map ge),l4,a,.tsl true 3 (l5.map wx),l5,.tsl true 1 (az l6),l6,.tsl true 8 (l7.map aG),l7⟩,
   .tsl true 7 (l8.map bd),l8,.tsl true 4 (l9.map dS),l9,.tsl true 5 (l10.map nR),l10,.tsl true 3 (l11.map fF),l11,.tsl true 4 (l12.map eE),l12,.tsl true 4 (l13.map i6),l13,.tsl true 6 (l14.map fe),l14⟩,rfl,
  ⟨⟨.rows true,.rows true,fun x hx=>(h2 x hx).1,.rows true,fun x hx=>(h3 x hx).1,.rows true,fun x hx=>(h4 x hx).1,.rows true,.rows true,.rows true,fun x hx=>(h7 x hx).1⟩,
   .rows true,fun x hx=>(h8 x hx).1,.rows true,fun x hx=>(h9 x hx).1,.rows true,fun x hx=>(R7 x hx).1,⟨.rows true,.rows true,fun x hx=>(PM x hx).1,fun x hx=>(PM x hx).2.1,.rows true,zi l13,.rows true,fun x hx=>(h14 x hx).1⟩⟩,
  ⟨⟨h1,show s.size<=1048576 by omega,n2,fun x hx=>(h2 x hx).2,n3,fun x hx=>(h3 x hx).2,n4,fun x hx=>(h4 x hx).2,n5,n6,n7,fun x hx=>(h7 x hx).2⟩,
   n8,fun x hx=>(h8 x hx).2,n9,fun x hx=>(h9 x hx).2,n10,fun x hx=>(R7 x hx).2,⟨n11,Ux,n12,fun x hx=>(PM x hx).2.2,n13,n14,fun x hx=>(h14 x hx).2⟩⟩,
  ⟨rfl,rfl,rfl,rfl,rfl,rfl,rfl⟩,rfl,rfl,rfl,rfl,rfl,rfl,rfl⟩
end Go.Eng
