/- What is seen (the program's): a note within permitted spans; a reference of a project. -/
import Derived.Test.YtkahfcmeeloikaaGreatDoorZ20
set_option linter.all false
set_option maxHeartbeats 4000000
namespace Go.Eng
open Go.Proofs
section
def ez(ts:List Ti)(ns:List Nt)(L:List (Int×Int))(id:Int):Bool:=match fz ts ns (ts.length+1) id with
 | none=>false
 | some s=>oa L s
noncomputable def g8(p:Pr)(pe day:Int)(r:Rf):Bool:=match eu p.ds r.1 with
 | none=>false
 | some d=>ez d.ts d.ns (sI p.ps p.gs p.cs p.rs d.r pe day) r.2
attribute [local irreducible] bB cX cZ aB bS dE
attribute [local go_sem] bi cM and_self bd cd cK bC bp
theorem seenM{d:Dq}{v:AV}{L:List (Int×Int)}(id:Int)(hd:d.ok)(ht:sk d.ts d.ns)(hl:d.ns.length<=1048576)(hv:bq 2 (Fo.spans L) v)(hL:L.length<=1000000):aB CX 68 [.agg (bd d),v,.int .i64 id] (· = .bool (ez d.ts d.ns L id)):=by
 have c1:=hd.r.sv.cell;have c2:=hd.t.cell;have c3:=hd.n.cell;have s1:=hd.r.sv.snap;have s2:=hd.t.snap;have s3:=hd.n.snap;have s4:=hv.snap;have q1:∀Q,aB CX 130 [.agg (bd d),.int .i64 id] Q=Q (mT (fz d.ts d.ns (d.ts.length+1) id)):=(whereM (d:=d.dc) id hd.dc ht hl).rw;have q2:∀s:Int×Int,∀Q,aB CX 131 [v,.agg [.int .i64 s.1,.int .i64 s.2]] Q=Q (.bool (oa L s)):=fun s=>(Fo.coversE v L s hv hL).rw;unfold ez;simp only[bd]at q1;cases hw:fz d.ts d.ns (d.ts.length+1) id with
 | none=>
  rw[hw,mT]at q1;clear hw q2 hd ht hl;refine aL fx68 ?_;exact wf
 | some s=>
  rw[hw,mT]at q1;have q2:=q2 s;generalize oa L s=R at*;clear hw hd ht hl;refine aL fx68 ?_;exact wf
def Gs{p:Pr}(h:p.ok)(hf:jC p.ps p.gs p.cs p.rs=true){d:Dq}(hd:d.ok)(J5:d.r.sp.length<=1000)(pe day:Int) :
  aB CX 26 [.agg (cd p),.agg [.int .i64 pe,.int .i64 day],.agg (bd d)] (· = .osl 2 (Fo.spans (sI p.ps p.gs p.cs p.rs d.r pe day))):=by
 have c1:=hd.r.sv.cell;have c2:=hd.t.cell;have c3:=hd.n.cell;have s1:=hd.r.sv.snap;obtain⟨d1,d2,d3,d4,d5,d6,d7⟩:=h.cells;obtain⟨e1,e2,e3,e4,e5,e6,e7⟩:=h.g.cells;obtain⟨p1,p2,p3,p4,p5,p6,p7⟩:=h.snaps;have q:=(spansMM h.r hf d.r hd.r J5 pe day).rw;generalize sI p.ps p.gs p.cs p.rs d.r pe day=L at*;clear h hf hd J5;refine aL fx26 ?_;exact wf
structure DocsOK (p:Pr):Prop where
 tr:∀d∈p.ds,sk d.ts d.ns
 n:∀d∈p.ds,d.ns.length<=1048576
 sp:∀d∈p.ds,d.r.sp.length<=1000
def kw{l:List Dq}{n:Int}{d:Dq}(h:eu l n=some d):d∈l:=U8 h
theorem seesM{p:Pr}(h:p.ok)(hf:jC p.ps p.gs p.cs p.rs=true)(hD:DocsOK p)(LU:p.ds.length<=1048576)(Lz:∀d∈p.ds,∀pe day,(sI p.ps p.gs p.cs p.rs d.r pe day).length<=1000000)(r:Rf)(pe day:Int) :
  aB CX 120 [.agg (cd p),.agg [.int .i64 pe,.int .i64 day],.agg (cK r)] (· = .bool (g8 p pe day r)):=by
 obtain⟨d1,d2,d3,d4,d5,d6,d7⟩:=h.cells;obtain⟨e1,e2,e3,e4,e5,e6,e7⟩:=h.g.cells;obtain⟨p1,p2,p3,p4,p5,p6,p7⟩:=h.snaps;obtain⟨g1,g2,g3,g4,g5,g6,g7⟩:=h.g.snaps;have q1:=(docM r.1 h.d h.di (by omega)).rw;unfold g8;cases hd:eu p.ds r.1 with
 | none=>
  rw[hd,iY]at q1;simp only[IR,dw]at q1;clear hd h hf hD LU Lz;refine aL fx120 ?_;exact wf
 | some d=>
  dsimp only;rw[hd,iY]at q1;have hm:=kw hd;have JB:=h.di d hm;have c1:=JB.r.sv.cell;have c2:=JB.t.cell;have c3:=JB.n.cell;have s1:=JB.r.sv.snap;have s2:=JB.t.snap;have s3:=JB.n.snap;have q2:=(Gs h hf JB (hD.sp d hm) pe day).rw;have q3:=(seenM (v := .tsl false 2 (Fo.spans (sI p.ps p.gs p.cs p.rs d.r pe day))) r.2 JB (hD.tr d hm) (hD.n d hm) (.rows false) (Lz d hm pe day)).rw;generalize sI p.ps p.gs p.cs p.rs d.r pe day=L at*
  have own:∀S:ab,∀b,S[b]? = some (.arr (Fo.spans L) 2 0 true)->snap S (.sl b (Fo.spans L).length 0 (Fo.spans L).length 2)=some (.tsl false 2 (Fo.spans L)):=fun S b hb=>by
   simp[jX,aM,hb]
  generalize ez d.ts d.ns L r.2=R at*;simp only[bd,cd]at q1 q2 q3;clear hd h hf hD LU Lz JB hm;refine aL fx120 ?_;exact wf
end
section
variable {d:Array Nt}{i:Nat}{x:Nt}
instance:Inhabited Nt:=⟨zN⟩
def gq(d:Array Nt):List (List AV):=d.toList.map aZ
def AF(d:Array Nt):(gq d).length=d.size:=by simp[gq]
def uz(h:i<d.size):(gq d)[i]? = some (aZ d[i]!):=by simp[gq,h]
def HL :(gq d).set i (aZ x)=gq (d.setIfInBounds i x):=by
 rw[gq,gq,Wo,List.map_set]
def AE :(gq d).set i [.int .i64 x.id,.int .i64 x.ti,.int .i64 x.pa,.int .i64 x.fr,.int .i64 x.en,.int .i64 x.rk,.str x.tx]=gq (d.setIfInBounds i x):=HL
def dropN(h:i<d.size):List.drop 7 ((gq d).getD i []) = []:=by
 rw[Ve,uz h];rfl
def Gw :(d.setIfInBounds i x).size=d.size:=by simp
def swp_perm{j:Nat}(hi:i<d.size)(hj:j<d.size):((d.setIfInBounds i d[j]!).setIfInBounds j d[i]!).toList.Perm d.toList:=by
 rw[getElem!_pos d i hi,getElem!_pos d j hj];have:=List.set_set_perm (show i<d.toList.length by simpa using hi) (show j<d.toList.length by simpa using hj);simpa using this
attribute [local irreducible] bB cX cZ aB bS dE
attribute [local go_sem] U1 Vj List.replicate UC Vp Nat.reduceMul Vg d9 ba and_self aZ
def orM{v:AV}{l:List Int}(hv:bq 1 (az l) v)(hl:l.length<=1048576):∃c,aB CX 81 [v] (· = .int .i64 c):=by
 refine aB.int0 ?_;have L1:=@au _ _ _ hv;have Jd:l.length<9223372036854775807:=by omega
 refine aL fx81 ?_;refine wk ?_;refine iD [2,5,9,10,11,12,13,14,15,16] 8 l (fun _ _=>True) hv Jd ty31 ty3 rfl ?_ ?_
 .intro g G _;exact wf
 .intro g G pre x post IW lt1 w1 i1 _;cases k:(x == 0)<;>exact wf
def ordM(a b:Nt):∃c,aB CX 172 [.agg (aZ a),.agg (aZ b)] (· = .int .i64 c):=by
 have q:=fun x y=>(Fo.cmpE x y).rw;obtain⟨c,hc⟩:=orM (v := .tsl false 1 (az [Fo.cmpI a.pa b.pa,Fo.cmpI a.fr b.fr,Fo.cmpI a.rk b.rk])) (.rows false) (by simp);have hc:=hc.rw;simp only[az,Vk,Wb]at hc;refine⟨c,?_⟩;generalize Fo.cmpI=F at*;refine aL fx172 ?_;exact wf
def idxN{b n:Nat}{k:IntKind}(h:i<n):aD CX 72 (.sl b n 0 n 7) (.int k i)=some (.ptr b n 7 i 0):=gu ty72 ty78 rfl (by omega)
attribute [local go_sem] AF dropN Gw
theorem insN(A C:ab)(d:Array Nt)(n w:Nat)(hn:d.size=n)(hw:w<=n)(Le:n<=1048576):bS CX 244 [.sl A.length n 0 n 7,.int .i64 0,.int .i64 (n:Int),.fn 172 []] (A ++ .arr (gq d) 7 w true::C)
  (fun v S=>v = .tup []/\∃d' w' C',d'.toList.Perm d.toList/\d'.size=n/\w'<=n/\S=A ++ .arr (gq d') 7 w' true::(C++C')):=by
 have hO:∃f:Nt->Nt->Int,∀a b Q,aB CX 172 [.agg (aZ a),.agg (aZ b)] Q=Q (.int .i64 (f a b)):=⟨fun a b=>(ordM a b).choose,fun a b=>(ordM a b).choose_spec.rw⟩;obtain⟨f,qf⟩:=hO;simp only[aZ]at qf;have hH:ac (d.size=n/\w<=n/\n<=1048576):=⟨hn,hw,Le⟩;have w0:IntKind.wrap .i64 ((0:Int)+1)=((1:Nat):Int):=rfl;clear hn hw Le;refine tY fx244 ?_;refine wk ?_;refine aJ [9,12,13,14,15,16,17,18,19,20,21,22,23,24,25,26,27,28,29,30,31,32,33,34,35,36,37,38,39,40,41,42,43,44,45,46,47,48,49,50,51,52] (fun p:Nat×Array Nt×Nat=>[(8,.int .i64 p.1)]) (fun p G=>A ++ .arr (gq p.2.1) 7 p.2.2 true::(C++G)) (fun p=>p.2.1.toList.Perm d.toList/\p.2.1.size=n/\p.2.2<=n) (fun p=>n-p.1) (1,d,w) ⟨List.Perm.refl _,hH.out.1,hH.out.2.1⟩ aQ ⟨[],by rw[UM]⟩ ?_;rintro⟨i,d1,w1⟩ g G ⟨h1,h2,h3⟩;replace h1:d1.toList.Perm d.toList:=h1;replace h2:d1.size=n:=h2;replace h3:w1<=n:=h3;by_cases k:(i:Int)<(n:Int)
 case neg=>
  have hP:=ac.mk (And.intro h1 (And.intro h2 h3));clear h1 h2 h3;refine wk ?_;simp only[go_sem];exact⟨d1,w1,G,hP.out.1,hP.out.2.1,hP.out.2.2,rfl⟩
 have KF:i<n:=by omega
 have wi:=am (n:=i) (by have:=hH.out.2.2;omega);refine wk ?_;refine aJ [18,19,20,21,22,23,24,25,26,27,28,29,30,31,32,33,34,35,36,37,38,39,40,41,42,43,44,45,46,47,48,49,50,51,52] (fun p:Nat×Array Nt×Nat=>[(9,.int .i64 p.1)]) (fun p G=>A ++ .arr (gq p.2.1) 7 p.2.2 true::(C++G)) (fun p=>p.2.1.toList.Perm d.toList/\p.2.1.size=n/\p.2.2<=n/\p.1<=i) (fun p=>p.1) (i,d1,w1) ⟨h1,h2,h3,UJ _⟩ aQ dk ?_;clear h1 h2 h3;rintro⟨j,d2,w2⟩ g2 G2 ⟨h1,h2,h3,h4⟩;replace h1:d2.toList.Perm d.toList:=h1;replace h2:d2.size=n:=h2;replace h3:w2<=n:=h3;replace h4:j<=i:=h4;have hP:=ac.mk (And.intro h1 (And.intro h2 h3));cases j with
 | zero=>
  have h0:¬(0:Int)<((0:Nat):Int):=by omega
  clear h1 h2 h3 h4;refine wk ?_;exact ax (i+1,d2,w2) (by show n-(i+1)<n-i;omega) hP.out aQ dk
 | succ j=>
  have Le:=hH.out.2.2;have RM:j<n:=by omega
  have OS:j+1<n:=by omega
  have h0:(0:Int)<((j+1:Nat):Int):=by omega
  have w3:IntKind.wrap .i64 (((j+1:Nat):Int)-1)=(j:Int):=by rw[wrap_small (by omega) (by omega)];omega
  have i1:∀{k:IntKind},aD CX 72 (.sl A.length n 0 n 7) (.int k ((j+1:Nat):Int))=_:=fun {k}=>idxN OS;have i2:∀{k:IntKind},aD CX 72 (.sl A.length n 0 n 7) (.int k (j:Int))=_:=fun {k}=>idxN RM;have g1:=uz (d:=d2) (i:=j+1) (by omega);have g3:=uz (d:=d2) (i:=j) (by omega);have Tp:ac (((d2.setIfInBounds (j+1) d2[j]!).setIfInBounds j d2[j+1]!).toList.Perm d.toList):=⟨(swp_perm (by omega) (by omega)).trans h1⟩;have ha:=h2;generalize hx:d2[j+1]! = x at*;generalize hy:d2[j]! = y at*;have qc:=qf x y;have hPi:ac (d2.toList.Perm d.toList/\d2.size=n/\w2<=n):=⟨h1,h2,h3⟩;have p1:=AE (d:=d2) (i:=j+1) (x:=y);have p2:=AE (d:=d2.setIfInBounds (j+1) y) (i:=j) (x:=x);have e1:List.drop 7 ((gq d2).getD (j+1) []) = []:=dropN (by omega);have e2:List.drop 7 ((gq (d2.setIfInBounds (j+1) y)).getD j []) = []:=dropN (by rw[Gw];omega);have e3:(d2.setIfInBounds (j+1) y).size=n:=by rw[Gw];exact h2
  simp only[aZ]at g1 g3;have PK:j<=i:=by omega
  clear h1 h4;by_cases kc:f x y<0
  .refine wk ?_;exact ax (j,(d2.setIfInBounds (j+1) y).setIfInBounds j x,n) (UV _) ⟨Tp.out,by rw[Gw];exact e3,UJ _,PK⟩ aQ dk
  .refine wk ?_;exact ax (i+1,d2,w2) (by show n-(i+1)<n-i;omega) hP.out aQ dk
def Sorts(A C:ab)(d:Array Nt)(n:Nat)(v:AV)(S:ab):Prop:=v = .tup []/\∃d' w' C',d'.toList.Perm d.toList/\d'.size=n/\w'<=n/\S=A ++ .arr (gq d') 7 w' true::(C++C')
def stabN(A C:ab)(d:Array Nt)(n w:Nat)(hn:d.size=n)(hw:w<=n)(Le:n<=19):bS CX 208 [.sl A.length n 0 n 7,.int .i64 (n:Int),.fn 172 []] (A ++ .arr (gq d) 7 w true::C) (Sorts A C d n):=by
 have q:=insN A C d n w hn hw (by omega);have k1:¬(20:Int)<=(n:Int):=by omega
 have k2:¬(20:Int)<(n:Int):=by omega
 clear hn hw Le;refine tY fx208 ?_;refine wk ?_;refine aJ [11,12,13,14,15,16,17,18,19,20,21,22] (fun _:Unit=>[]) (fun _ _=>A ++ .arr (gq d) 7 w true::C) (fun _=>True) (fun _=>0) () trivial aQ ⟨[],rfl⟩ ?_;rintro _ g G -;refine wk ?_;refine wr q ?_;rintro v S' ⟨rfl,d',w',C',h1,h2,h3,rfl⟩;have hP:ac (Sorts A C d n (.tup []) (A ++ .arr (gq d') 7 w' true::(C++C'))):=⟨rfl,d',w',C',h1,h2,h3,rfl⟩;clear h1 h2 h3 q;refine wk ?_;refine aJ [7,8,9,28,29,30,31,32,33,34,35,36,37,38,39,40,41,42,43,44,45,46,47,48,49,50,51,52,53,54,55,56,57,58,59,60,61,62] (fun _:Unit=>[]) (fun _ _=>A ++ .arr (gq d') 7 w' true::(C++C')) (fun _=>True) (fun _=>0) () trivial aQ ⟨[],rfl⟩ ?_;rintro _ g2 G2 -;refine wk ?_;simp only[go_sem];exact hP.out
def sortN(A C:ab)(d:Array Nt)(n w:Nat)(hn:d.size=n)(hw:w<=n)(Le:n<=19):bS CX 171 [.sl A.length n 0 n 7,.fn 172 []] (A ++ .arr (gq d) 7 w true::C) (Sorts A C d n):=by
 have q:=stabN A C d n w hn hw Le;clear hn hw Le;refine tY fx171 ?_;refine wk ?_;refine wr q ?_;rintro v S' ⟨rfl,h⟩;have hP:=ac.mk (And.intro (Eq.refl (AV.tup [])) h);refine wk ?_;simp only[go_sem];exact hP.out
end
section
def qw(ts:List Ti)(id t:Int)(n:Nt):Bool:=(n.ti == t) && ((n.pa == id) && (decide (0<=t) && decide (t<(ts.length:Int))))
def fq(ts:List Ti)(ns:List Nt)(id t:Int):List Nt:=ns.filter (qw ts id t)
attribute [local irreducible] bB cX cZ aB bS dE
attribute [local go_sem] U1 Vj List.replicate UC Vp Nat.reduceMul Vg bi eF d9 bP bt ci bN cM ba aY aS aM aX and_self ck aZ
attribute [local go_sem] AF
theorem kidsM{d:Dc}{ts:List Ti}{ns:List Nt}(id t:Int)(hd:d.ok ts ns)(hl:ns.length<=19):∃ids:List Int,ids.Perm ((fq ts ns id t).map (·.id))/\aB CX 123 [.agg (ck d),.int .i64 id,.int .i64 t] (· = .osl 1 (az ids)):=by
 suffices hh:aB CX 123 [.agg (ck d),.int .i64 id,.int .i64 t] (fun v=> ∃ids,v = .osl 1 (az ids)/\ids.Perm ((fq ts ns id t).map (·.id))) by
  obtain⟨x,⟨o,rfl,ho⟩,hx⟩:=hh.ex;exact⟨o,ho,hx⟩
 have c1:=hd.nc;have c2:=hd.tc;have c3:=hd.sc;have LN:=hd.n;have L1:=@au _ _ _ LN;have L2:=@au _ _ _ hd.t;have Jd:ns.length<9223372036854775807:=by omega
 have JJ:ac (ns.length<=19):=⟨hl⟩;rw[UI]at L2;clear hl hd;refine aL fx123 ?_;refine wk ?_;refine ct [9,17,18,19,20,21,22,23,24,25,26,27,28,29,30,31,32,33,34,35,36,37,38,39,40,41,42,43,44,45] 16 ns (fun l:List Nt=>[(7,.sl 2 l.length 0 l.length 7)]) (fun l G=> .arr [[.int .i64 d.id,.str d.nm,.int .i64 d.len,.int .i64 d.day,d.sp,d.tv,d.nv]] 7 0 (d.sp.stab && (d.tv.stab && d.nv.stab)) :: .arr [] 1 0 true :: .arr (l.map aZ) 7 0 true::G) (fun pre _ l=>l=pre.filter (qw ts id t)) ([]:List Nt) LN Jd ty72 ty78 rfl ?_ ?_ ?_
 .rfl
 .intro l g G h2;replace h2:l=fq ts ns id t:=h2;have Mr:l.length<=19:=by rw[h2];exact UQ (U0 _ _) JJ.out
  have q:=sortN [.arr [[.int .i64 d.id,.str d.nm,.int .i64 d.len,.int .i64 d.day,d.sp,d.tv,d.nv]] 7 0 (d.sp.stab && (d.tv.stab && d.nv.stab)),.arr [] 1 0 true] G l.toArray l.length 0 rfl (U9 _) Mr;have JD:=ac.mk h2;clear h2 Mr;refine wk ?_;refine wr q ?_;rintro v S' ⟨rfl,d',w',C',h3,h4,h5,rfl⟩;have hp:ac ((d'.toList.map (·.id)).Perm ((fq ts ns id t).map (·.id))/\d'.toList.length<=19):=⟨by rw[<-JD.out];exact h3.map _,by rw[h3.length_eq];have:=JJ.out;rw[JD.out];exact UQ (U0 _ _) JJ.out⟩;have PC:d'.toList.length=l.length:=by simpa using h4
  generalize hH:G++C'=H;have hd'l:d'.toList.length<9223372036854775807:=by have:=hp.out.2;omega
  have I9:gq d'=d'.toList.map aZ:=rfl;generalize d'.toList=D at*;clear JD h3 h4 q;have LU:l.length=D.length:=PC.symm;have h5':w'<=D.length:=by omega
  have Jz:=ac.mk hp.out.1;have Uu:=ac.mk hp.out.2;clear PC h5 hp;refine wk ?_;refine cN [12,51,52,53,54,55,56,57,58,59] 50 D (fun o:List Int=>[(10,.sl (H.length+1+1+1) o.length 0 o.length 1)]) (fun o G2=> .arr [[.int .i64 d.id,.str d.nm,.int .i64 d.len,.int .i64 d.day,d.sp,d.tv,d.nv]] 7 0 (d.sp.stab && (d.tv.stab && d.nv.stab)) :: .arr [] 1 0 true :: .arr (D.map aZ) 7 w' true::(H ++ .arr (az o) 1 0 true::G2)) (fun pre _ o=>o=pre.map (·.id)) ([]:List Int) hd'l ?_ ?_ ?_
  .rfl
  .intro o g2 G2 h2;replace h2:o=D.map (·.id):=h2;have hP:ac (o.Perm ((fq ts ns id t).map (·.id))):=⟨by rw[h2];exact Jz.out⟩;clear h2;exact wf
  .intro o g2 G2 pre x post IW lt1 w1 h2;have Jq:(D.map aZ)[pre.length]? = some (aZ x):=by rw[IW.out];simp
   have IZ:pre.length<D.length:=by omega
   have Kb:o.length<=19:=by rw[show o=pre.map (·.id) from h2,UI];have:=Uu.out;omega
   have a1:(o.length+1)*8<=140737488355328:=by omega
   have a2:o.length+1<=140737488355328:=by omega
   have i1:∀{j:IntKind},aD CX 72 (.sl 2 D.length 0 D.length 7) (.int j (pre.length:Int))=some (.ptr 2 D.length 7 pre.length 0):=fun {j}=>gu ty72 ty78 rfl lt1;have hP:ac (o++[x.id]=(pre++[x]).map (·.id)):=⟨by rw[show o=pre.map (·.id) from h2];simp⟩;clear h2 Kb;exact wf
 .intro l g G pre x post IW lt1 w1 i1 h2
  have KT:l.length<=19:=by
   rw[show l=pre.filter (qw ts id t) from h2];exact UQ (U0 _ _) (by have:=JJ.out;omega)
  have a1:(l.length+1)*64<=140737488355328:=by omega
  have a2:l.length+1<=140737488355328:=by omega
  have Qw:(l.map aZ).length=l.length:=by simp
  cases hk:qw ts id t x with
  | true=>
   have hP:ac (l++[x]=(pre++[x]).filter (qw ts id t)):=⟨by rw[Va,<-(show l=pre.filter (qw ts id t) from h2)];simp[hk]⟩;simp only[qw,UT,decide_eq_true_eq]at hk;obtain⟨k1,k2,k3,k4⟩:=hk;clear h2 KT;exact wf
  | false=>
   have hP:ac (l=(pre++[x]).filter (qw ts id t)):=⟨by rw[Va,<-(show l=pre.filter (qw ts id t) from h2)];simp[hk]⟩;clear h2 KT;rw[qw]at hk;cases k1:(x.ti == t) with
   | false=>exact wf
   | true=>
   cases k2:(x.pa == id) with
   | false=>exact wf
   | true=>
   by_cases k3:0<=t
   case neg=>exact wf
   by_cases k4:t<(ts.length:Int)
   case neg=>exact wf
   rw[k1,k2,decide_eq_true k3,decide_eq_true k4]at hk;cases hk
end
section
def BN(ts:List Ti)(ns:List Nt):Nat->Int->List Int
 | 0,_=>[]
 | k+1,t=>if 0<=t/\t<(ts.length:Int) then (if (ch ts t).kd=0 then (fq ts ns 0 t).map (·.id) else (BN ts ns k (ch ts t).pa).flatMap fun id=>(fq ts ns id t).map (·.id)) else []
attribute [local irreducible] bB cX cZ aB bS dE
attribute [local go_sem] eF bP bt ci bN cM aY aS aM aX and_self ck eW
theorem ofM{d:Dc}{ts:List Ti}{ns:List Nt}(hd:d.ok ts ns)(hl:ns.length<=19)(hT:∀(i:Nat) t,ts[i]? = some t->t.kd≠0->0<=t.pa/\t.pa<i):∀(k:Nat),k<=6->∀t:Int,t<(k:Int)->∃ids:List Int,(∀x,x∈ids↔x∈BN ts ns k t)/\ids.length<=19 ^ k/\∀Q,aB CX 63 [.agg (ck d),.int .i64 t] Q=Q (.osl 1 (az ids)):=by
 intro k
 have Kq:∀id t,∃ids:List Int,ids.Perm ((fq ts ns id t).map (·.id))/\ids.length<=19/\∀Q,aB CX 123 [.agg (ck d),.int .i64 id,.int .i64 t] Q=Q (.osl 1 (az ids)):=fun id t=>by
  obtain⟨ids,h1,h2⟩:=kidsM id t hd hl;exact⟨ids,h1,by rw[h1.length_eq,UI];exact UQ (U0 _ _) hl,h2.rw⟩
 have c1:=hd.nc;have c2:=hd.tc;have c3:=hd.sc;have s1:=hd.n.snap;have s2:=hd.tsn;have s3:=hd.ss;have L2:=@au _ _ _ hd.t;have NR:=hd.t;rw[UI]at L2;clear hd hl
 induction k with
 | zero=>
  intro _ t ht;have k1:t<0:=ht;refine⟨[],fun x=>by simp[BN],by simp,aB.rw ?_⟩;clear Kq hT ht;refine aL fx63 ?_;exact wf
 | succ k ih=>
  intro hk t ht;by_cases h0:t<0
  .refine⟨[],fun x=>by rw[BN,if_neg (by omega)],by simp,aB.rw ?_⟩;clear Kq hT ht ih;refine aL fx63 ?_;exact wf
  by_cases h1:(ts.length:Int)<=t
  .refine⟨[],fun x=>by rw[BN,if_neg (by omega)],by simp,aB.rw ?_⟩;clear Kq hT ht ih;refine aL fx63 ?_;exact wf
  obtain⟨n,rfl⟩:∃n:Nat,t=(n:Int):=⟨t.toNat,by omega⟩;obtain⟨tt,Mi⟩:∃tt,ts[n]? = some tt:=⟨_,UL (by omega)⟩;have e:ch ts (n:Int)=tt:=by simp[ch,Mi]
  have i1:=ay NR (X:=CX) ty71 ty180 rfl (n:=n) (row:=eW tt) (k := .i64) (by simp[Mi]);have hr:0<=(n:Int)/\(n:Int)<(ts.length:Int):=by omega
  cases LQ:(tt.kd == 0) with
  | true=>
   obtain⟨ids,q1,q2,q3⟩:=Kq 0 n;refine⟨ids,fun x=>by rw[BN,if_pos hr,e,if_pos (by simpa using LQ)];exact q1.mem_iff,UQ q2 (by simpa using Xd (show 0<19 by omega) (show 1<=k+1 by omega)),aB.rw ?_⟩;simp only[ck]at q3;clear Kq hT ht ih Mi e hr NR;refine aL fx63 ?_;exact wf
  | false=>
   have NI:=hT n tt Mi (by simpa using LQ);obtain⟨l,m1,m2,q0⟩:=ih (by omega) tt.pa (by omega);have hf:∃f:Int->List Int,∀id,(f id).Perm ((fq ts ns id n).map (·.id))/\(f id).length<=19/\∀Q,aB CX 123 [.agg (ck d),.int .i64 id,.int .i64 n] Q=Q (.osl 1 (az (f id))):=⟨fun id=>(Kq id n).choose,fun id=>(Kq id n).choose_spec⟩;obtain⟨f,hf⟩:=hf
   have JU:∀m:List Int,(m.flatMap f).length<=19*m.length:=fun m=>by
    induction m with
    | nil=>simp
    | cons a m ihm=>have:=(hf a).2.1;simp only[VX,UG,UB];omega
   have hl6:19 ^ k<=2476099:=UQ (Xd (show 0<19 by omega) (show k<=5 by omega)) (by decide);refine⟨l.flatMap f,fun x=>?_,by have:=JU l;rw[Nat.pow_succ];omega,aB.rw ?_⟩
   .rw[BN,if_pos hr,e,if_neg (by simpa using LQ)];simp only[Wp];constructor
    .rintro⟨a,a1,a2⟩;exact⟨a,(m1 a).1 a1,(hf a).1.mem_iff.1 a2⟩
    .rintro⟨a,a1,a2⟩;exact⟨a,(m1 a).2 a1,(hf a).1.mem_iff.2 a2⟩
   have Nw:=ac.mk hf;have Ts:=ac.mk JU;have NL:ac (l.length<=2476099):=⟨by omega⟩;have Jd:l.length<9223372036854775807:=by omega
   simp only[ck]at q0 Nw;clear Kq hT ht ih Mi e hr NR m1 m2 hf JU NI hl6;refine aL fx63 ?_;refine wk ?_;refine cN [7,37,38,39,40,41,42,43,44,45,46] 36 l (fun o:List Int=>[(5,.sl 2 o.length 0 o.length 1)]) (fun o G=> .arr [[.int .i64 d.id,.str d.nm,.int .i64 d.len,.int .i64 d.day,d.sp,d.tv,d.nv]] 7 0 (d.sp.stab && (d.tv.stab && d.nv.stab)) :: .arr [] 1 0 true :: .arr (az o) 1 0 true :: .arr (az l) 1 0 true::G) (fun pre _ o=>o=pre.flatMap f) ([]:List Int) Jd ?_ ?_ ?_
   .rfl
   .intro o g G h2;replace h2:o=l.flatMap f:=h2;rw[<-h2];clear h2;exact wf
   .intro o g G pre x post IW lt1 w1 h2;replace h2:o=pre.flatMap f:=h2;have Jq:(az l)[pre.length]? = some [.int .i64 x]:=by rw[IW.out];simp[az]
    have IZ:pre.length<l.length:=by omega
    have i2:∀{j:IntKind},aD CX 31 (.sl 3 l.length 0 l.length 1) (.int j (pre.length:Int))=some (.ptr 3 l.length 1 pre.length 0):=fun {j}=>gu ty31 ty3 rfl lt1;have q:=(Nw.out x).2.2;have hfx:=(Nw.out x).2.1;have Kb:o.length<=19*2476099:=by have h9:=Ts.out pre;have:=NL.out;rw[h2];omega
    have a1:(o.length+(f x).length)*8<=140737488355328:=by omega
    have a2:o.length+(f x).length<=140737488355328:=by omega
    by_cases hz:(f x).length=0
    .have hP:ac (o=(pre++[x]).flatMap f):=⟨by rw[h2,Xh];simp[UO hz]⟩;have b1:(o.length+0)*8<=140737488355328:=by omega
     have b2:o.length+0<=140737488355328:=by omega
     clear h2 Kb hfx;exact wf
    .have hP:ac (o++f x=(pre++[x]).flatMap f):=⟨by rw[h2,Xh];simp⟩;clear h2 Kb hfx;exact wf
end
section
variable {M Mk pre:List Int}{d:Dq}{n:Nt}{ns:List Nt}{ts:List Ti}
def we(M:List Int):List (AV×AV):=M.map fun i=>(.int .i64 i,.bool true)
theorem lJ(n:Int):∀M:List Int,ef (.int .i64 n) (we M)=some (if n∈M then some (.bool true) else none)
 | []=>rfl
 | m::M=>by
  have ih:=lJ n M;simp only[we,Vk]at ih ⊢;simp only[ef,iK,if_true];by_cases k:n=m
  .simp[k]
  .rw[show (n == m)=false by simpa using k];simp only[ih];simp[k]
def upd_mk{n:Int}(h:n∉M):jc (.int .i64 n) (.bool true) (we M)=we (M++[n]):=by
 rw[nA (by rw[lJ,if_neg h])];simp[we]
theorem eQ:∀{ns:List Nt},(ns.Pairwise fun a b=>a.id<b.id)->∀x∈ns,cO ns x.id=some x
 | n::ns,h,x,hx=>by
  rw[vi];rcases U2.1 hx with rfl|hx
  .simp
  .have h1:=(Wx.1 h).1 x hx;rw[if_neg (by simp;omega)];exact eQ (Wx.1 h).2 x hx
def pw(ts:List Ti)(ns:List Nt)(a b:Int):Prop := ∃n,cO ns a=some n/\(b=n.pa\/(ch ts n.ti).kd=1/\b∈(fq ts ns n.pa n.ti).map (·.id))
inductive Reach (ts:List Ti) (ns:List Nt):Int->Int->Prop where
 | refl (a:Int):Reach ts ns a a
 | tail {a b c:Int}:Reach ts ns a b->pw ts ns b c->Reach ts ns a c
theorem Reach.head{a b c:Int}(h:pw ts ns a b)(h2:Reach ts ns b c):Reach ts ns a c:=by
 induction h2 with
 | refl=>exact .tail (.refl _) h
 | tail _ h3 ih=>exact .tail ih h3
def lX(ns:List Nt)(a:Int):Prop:=(cO ns a).isSome=true
structure tX (ts:List Ti) (ns:List Nt) (M:List Int) (id:Int) (M':List Int):Prop where
 sub:∀x∈M,x∈M'
 new:∀x∈M',x∈M\/(Reach ts ns id x/\lX ns x)
 clo:∀y∈M',y∉M->∀b,pw ts ns y b->lX ns b->b∈M'
 me:lX ns id->id∈M'
def opn(ns:List Nt)(M:List Int):Nat:=(ns.filter fun n=> !decide (n.id∈M)).length
theorem Df{M':List Int}(h:∀x∈M,x∈M'):opn ns M'<=opn ns M:=by
 unfold opn
 induction ns with
 | nil=>simp
 | cons n ns ih=>
  simp only[Vy];by_cases k:n.id∈M
  .have k2:=h _ k;simp[k,k2];exact ih
  .by_cases k2:n.id∈M'
   .simp[k,k2];omega
   .simp[k,k2];exact ih
theorem opn_lt :∀{ns:List Nt},n∈ns->n.id∉M->opn ns (M++[n.id])<opn ns M
 | m::ns,hm,h=>by
  have L7:=Df (ns:=ns) (M:=M) (M':=M++[n.id]) (fun x hx=>by simp[hx]);unfold opn at*;simp only[Vy];rcases U2.1 hm with rfl|hm
  .have e1:decide (n.id∈M++[n.id])=true:=by simp
   have e2:decide (n.id∈M)=false:=by simp[h]
   simp only[e1,e2,Wv,WO,if_true,if_false,U3,UB];omega
  .have ih:=opn_lt hm h;unfold opn at ih;by_cases k:m.id∈M
   .have e1:decide (m.id∈M++[n.id])=true:=by simp[k]
    have e2:decide (m.id∈M)=true:=by simp[k]
    simp only[e1,e2,Wv,if_false,U3];exact ih
   .have e2:decide (m.id∈M)=false:=by simp[k]
    by_cases k2:m.id=n.id
    .have e1:decide (m.id∈M++[n.id])=true:=by simp[k2]
     simp only[e1,e2,Wv,WO,if_true,if_false,U3,UB];omega
    .have e1:decide (m.id∈M++[n.id])=false:=by simp[k,k2]
     simp only[e1,e2,WO,if_true,UB];omega
structure Mid (ts:List Ti) (ns:List Nt) (M:List Int) (id:Int) (n:Nt) (Mk pre:List Int):Prop where
 sub:∀x∈M,x∈Mk
 self:id∈Mk
 new:∀x∈Mk,x∈M\/(Reach ts ns id x/\lX ns x)
 clo:∀y∈Mk,y∉M->y≠id->∀b,pw ts ns y b->lX ns b->b∈Mk
 par:lX ns n.pa->n.pa∈Mk
 kid:∀k∈pre,lX ns k->k∈Mk
def HY{M2:List Int}{id:Int}(hn:cO ns id=some n)(h:tX ts ns (M++[id]) n.pa M2):Mid ts ns M id n M2 [] where
 sub x hx:=h.sub x (by simp[hx])
 self:=h.sub id (by simp)
 new x hx:=by
  rcases h.new x hx with h1|⟨h1,h2⟩
  .rcases UU.1 h1 with h1|h1
   .exact .inl h1
   .simp at h1;subst h1;exact .inr ⟨.refl _,by simp[lX,hn]⟩
  .exact .inr ⟨.head ⟨n,hn,.inl rfl⟩ h1,h2⟩
 clo y hy h1 h2 b hb Nj:=h.clo y hy (by simp[h1,h2]) b hb Nj
 par:=h.me
 kid k hk:=by cases hk
def mid_step{Mk':List Int}{id k:Int}(hn:cO ns id=some n)(hk:(ch ts n.ti).kd=1)(hm:k∈(fq ts ns n.pa n.ti).map (·.id))(h:Mid ts ns M id n Mk pre)(h':tX ts ns Mk k Mk'):Mid ts ns M id n Mk' (pre++[k]) where
 sub x hx:=h'.sub x (h.sub x hx)
 self:=h'.sub _ h.self
 new x hx:=by
  rcases h'.new x hx with h1|⟨h1,h2⟩
  .exact h.new x h1
  .exact .inr ⟨.head ⟨n,hn,.inr ⟨hk,hm⟩⟩ h1,h2⟩
 clo y hy h1 h2 b hb Nj:=by
  by_cases k2:y∈Mk
  .exact h'.sub _ (h.clo y k2 h1 h2 b hb Nj)
  .exact h'.clo y hy k2 b hb Nj
 par hp:=h'.sub _ (h.par hp)
 kid x hx Ou:=by
  rcases UU.1 hx with h1|h1
  .exact h'.sub _ (h.kid x h1 Ou)
  .simp at h1;subst h1;exact h'.me Ou
def GP{id:Int}(hn:cO ns id=some n)(h:Mid ts ns M id n Mk pre)(hk:(ch ts n.ti).kd=1->∀b∈(fq ts ns n.pa n.ti).map (·.id),b∈pre):tX ts ns M id Mk where
 sub:=h.sub
 new:=h.new
 clo y hy h1 b hb Nj:=by
  by_cases k2:y=id
  .subst k2;obtain⟨m,hm,hb⟩:=hb;rw[hn]at hm;injection hm with hm;subst hm;rcases hb with rfl|⟨h2,h3⟩
   .exact h.par Nj
   .exact h.kid b (hk h2 b h3) Nj
  .exact h.clo y hy h1 k2 b hb Nj
 me _:=h.self
def yt{id:Int}(h:lX ns id->id∈M):tX ts ns M id M where
 sub _ h:=h
 new _ h := .inl h
 clo y hy h1:=absurd hy h1
 me:=h
def p8{b:Nat}:(AV.mp b).cells = [.mp b]:=rfl
def vz{f:FuncId}{l:List AV}:(AV.fn f l).cells = [.fn f l]:=rfl
def asgMap{X:dV}{d:Bool}{dst:Option Tmp}{ty:TypeId}{pos:String}{after:Array Edge}{g:Option (Nat×Bool)}{K:List AV->ab->Prop}{fr:List AV}{S:ab}:em X d ⟨dst,.assign (.const (.map none)),ty,pos,after,g⟩ dst K fr S=K (cj fr dst (.flat (.map none))) S:=(dL _ rfl rfl rfl rfl rfl).trans im
attribute [local irreducible] bB cX cZ aB bS dE
attribute [local go_sem] bi and_self bd aZ eW bC bp mB nY gp Fi lJ Wy p8 vz asgMap
def KS(B0 B1:dY)(d:Dq)(M:List Int)(G:ab):ab:=B0::B1 :: .arr [[.int .i64 d.r.id,.str d.r.name,.int .i64 d.r.len,.int .i64 d.r.day,d.r.sv,d.tv,d.nv]] 7 0 (d.r.sv.stab && (d.tv.stab && d.nv.stab)) :: .map (we M) :: .arr [[.mp 3]] 1 1 false :: .arr [[.fn 129 [.ptr 2 1 7 0 0,.ptr 4 1 1 0 0,.ptr 5 1 1 0 0]]] 1 1 false::G
attribute [local go_sem] KS
theorem markS(B0 B1:dY)(hd:d.ok)(ht:sk d.ts d.ns)(hl:d.ns.length<=19):∀(N:Nat) (M:List Int) (id:Int) (G:ab),opn d.ns M<=N ->
  bS CX 129 [.int .i64 id,.ptr 2 1 7 0 0,.ptr 4 1 1 0 0,.ptr 5 1 1 0 0] (KS B0 B1 d M G) (fun v S'=>v = .tup []/\∃M' G',tX d.ts d.ns M id M'/\S'=KS B0 B1 d M' (G++G')):=by
 intro N;have c1:=hd.r.sv.cell;have c2:=hd.t.cell;have c3:=hd.n.cell;have s1:=hd.r.sv.snap;have s2:=hd.t.snap;have s3:=hd.n.snap;have Lp:=fun n=>(Ib (d:=d.dc) n hd.dc (UQ hl (by omega))).rw;have QE:=fun id t=>kidsM (d:=d.dc) id t hd.dc hl;have NR:=hd.t;simp only[ck,Dq.dc]at Lp QE
 induction N using Nat.strongRecOn with
 | ind N ih=>
  intro M id G hN;have q1:=Lp id;cases hg:cO d.ns id with
  | none=>
   rw[hg,iX]at q1;have hM:ac (tX d.ts d.ns M id M):=⟨yt (by simp[lX,hg])⟩;clear ih hN Lp QE NR ht hl hg;simp only[aZ,zN]at q1;refine tY fx129 ?_;refine wk ?_;simp only[go_sem];exact⟨M,_,hM.out,rfl⟩
  | some n=>
   rw[hg,iX]at q1;have JX:=mG hg;have hni:n.id=id:=by simpa using VN hg
   by_cases KF:id∈M
   .have hM:ac (tX d.ts d.ns M id M):=⟨yt (fun _=>KF)⟩;clear ih hN Lp QE NR ht hl hg;simp only[aZ]at q1;refine tY fx129 ?_;refine wk ?_;simp only[go_sem];exact⟨M,_,hM.out,rfl⟩
   .have Ja:opn d.ns (M++[id])<N:=by have:=opn_lt (M:=M) JX (by rw[hni];exact KF);rw[hni]at this;omega
    have ihH:=ac.mk (fun M' (h:∀x∈M++[id],x∈M') Ki G'=>ih _ Ja M' Ki G' (Df h));have hu:=upd_mk KF;have hti:=ht n JX;obtain⟨k,hk⟩:∃k:Nat,n.ti=(k:Int):=⟨n.ti.toNat,by omega⟩;obtain⟨tt,Mi⟩:∃tt,d.ts[k]? = some tt:=⟨_,UL (by omega)⟩;have e:ch d.ts n.ti=tt:=by rw[hk];simp[ch,Mi]
    have i1:=ay NR (X:=CX) ty71 ty180 rfl (n:=k) (row:=eW tt) (k := .i64) (by simp[Mi]);rw[<-hk]at i1;have Lq:=ac.mk hg;have S7:=ac.mk hl;have hinH:=ac.mk KF;have Td:=ac.mk (QE n.pa n.ti);have qp:=ihH.out (M++[id]) (fun x h=>h) n.pa;simp only[aZ]at q1;simp only[eW]at i1;clear ih hN Lp QE NR ht hl hg Ja hk Mi hti JX;refine tY fx129 ?_;refine wk ?_;refine wr (qp _) ?_;rintro v S' ⟨rfl,M2,G1,Ug,rfl⟩;have Qr:=ac.mk (HY Lq.out Ug);have J4:=ac.mk Ug.sub;clear Ug qp;cases Tc:(tt.kd == 1) with
    | false=>
     have hM:ac (tX d.ts d.ns M id M2):=⟨GP Lq.out Qr.out (by rw[e];intro h;rw[h]at Tc;cases Tc)⟩;refine wk ?_;simp only[go_sem];exact⟨M2,_,hM.out,rfl⟩
    | true=>
     obtain⟨ids,hp,q2⟩:=Td.out;have q2:=q2.rw;have Ll:=ac.mk hp
     have Jd:ids.length<9223372036854775807:=by
      rw[hp.length_eq,UI];exact Vu (U0 _ _) (by have:=S7.out;omega)
     have QD:(ch d.ts n.ti).kd=1:=by rw[e];simpa using Tc
     have Tb:=ac.mk QD;clear hp QD e;refine wk ?_;refine cN [8,44,45,46,47,48,49,50] 43 ids (fun _:List Int=>[]) (fun Mk G'=>B0::B1 :: .arr [[.int .i64 d.r.id,.str d.r.name,.int .i64 d.r.len,.int .i64 d.r.day,d.r.sv,d.tv,d.nv]] 7 0 (d.r.sv.stab && (d.tv.stab && d.nv.stab)) :: .map (we Mk) :: .arr [[.mp 3]] 1 1 false :: .arr [[.fn 129 [.ptr 2 1 7 0 0,.ptr 4 1 1 0 0,.ptr 5 1 1 0 0]]] 1 1 false::(G ++ .arr [[.int .i64 id,.int .i64 n.ti,.int .i64 n.pa,.int .i64 n.fr,.int .i64 n.en,.int .i64 n.rk,.str n.tx]] 7 1 true::(G1 ++ .arr (az ids) 1 0 true::G'))) (fun pre _ Mk=>Mid d.ts d.ns M id n Mk pre/\∀x∈M++[id],x∈Mk) M2 Jd ?_ ?_ ?_
     .exact⟨Qr.out,J4.out⟩
     .intro Mk g2 G2 h2;have hM:ac (tX d.ts d.ns M id Mk):=⟨GP Lq.out h2.1 (fun _ b hb=>Ll.out.mem_iff.2 hb)⟩;clear h2;refine wk ?_;simp only[go_sem];exact⟨Mk,_,hM.out,rfl⟩
     .intro Mk g2 G2 pre x post IW lt1 w1 h2;have JD:=ac.mk h2;have Jq:(az ids)[pre.length]? = some [.int .i64 x]:=by rw[IW.out];simp[az]
      have IZ:pre.length<ids.length:=by omega
      have i2:∀{j:IntKind},aD CX 31 (.sl (G.length+(G1.length+1)+1+1+1+1+1+1) ids.length 0 ids.length 1) (.int j (pre.length:Int))=some (.ptr (G.length+(G1.length+1)+1+1+1+1+1+1) ids.length 1 pre.length 0):=fun {j}=>gu ty31 ty3 rfl lt1;have qx:=ihH.out Mk JD.out.2 x;have Jg:x∈(fq d.ts d.ns n.pa n.ti).map (·.id):=Ll.out.mem_iff.1 (by rw[IW.out];simp);have Pu:=ac.mk Jg;clear h2 Jg;refine wk ?_;refine wr (qx _) ?_;rintro v S' ⟨rfl,M3,G3,Uf,rfl⟩;have hP:ac (Mid d.ts d.ns M id n M3 (pre++[x])/\∀x∈M++[id],x∈M3):=⟨mid_step Lq.out Tb.out Pu.out JD.out.1 Uf,fun y hy=>Uf.sub y (JD.out.2 y hy)⟩;clear Uf qx;exact wf
structure vO (ts:List Ti) (ns:List Nt) (L:List (Int×Int)) (M:List Int):Prop where
 seen:∀n∈ns,ez ts ns L n.id=true->n.id∈M
 clo:∀y∈M,∀b,pw ts ns y b->lX ns b->b∈M
 why:∀x∈M,lX ns x/\∃n∈ns,ez ts ns L n.id=true/\Reach ts ns n.id x
theorem keptM(B0 B1:dY){v:AV}{L:List (Int×Int)}(hd:d.ok)(ht:sk d.ts d.ns)(hl:d.ns.length<=19)(hu:d.ns.Pairwise fun a b=>a.id<b.id)(hv:bq 2 (Fo.spans L) v)(hL:L.length<=1000000) :
  bS CX 67 [.agg (bd d),v] [B0,B1] (fun u S'=>u = .mp 3/\∃M G,vO d.ts d.ns L M/\S'=KS B0 B1 d M G):=by
 have c1:=hd.r.sv.cell;have c2:=hd.t.cell;have c3:=hd.n.cell;have s1:=hd.r.sv.snap;have s2:=hd.t.snap;have s3:=hd.n.snap;have s4:=hv.snap;have L1:=@au _ _ _ hd.n;have LN:=hd.n;have Jd:d.ns.length<9223372036854775807:=by omega
 have qs:=fun id=>(seenM id hd ht (by omega) hv hL).rw;have qm:=ac.mk (fun M id G=>markS B0 B1 hd ht hl (opn d.ns M) M id G (UJ _));have hgn:ac (∀x∈d.ns,cO d.ns x.id=some x):=⟨eQ hu⟩;simp only[bd]at qs;clear hd ht hl hv hL hu;refine tY fx67 ?_;refine wk ?_;refine ct [8,15,16,17,18,19,20,21,22,23,24,25,26,27] 14 d.ns (fun _:List Int=>[]) (fun M G=>B0::B1 :: .arr [[.int .i64 d.r.id,.str d.r.name,.int .i64 d.r.len,.int .i64 d.r.day,d.r.sv,d.tv,d.nv]] 7 0 (d.r.sv.stab && (d.tv.stab && d.nv.stab)) :: .map (we M) :: .arr [[.mp 3]] 1 1 false :: .arr [[.fn 129 [.ptr 2 1 7 0 0,.ptr 4 1 1 0 0,.ptr 5 1 1 0 0]]] 1 1 false::G) (fun pre _ M=>(∀n∈pre,ez d.ts d.ns L n.id=true->n.id∈M)/\(∀y∈M,∀b,pw d.ts d.ns y b->lX d.ns b->b∈M)/\∀x∈M,lX d.ns x/\∃n∈d.ns,ez d.ts d.ns L n.id=true/\Reach d.ts d.ns n.id x) ([]:List Int) LN Jd ty72 ty78 rfl ?_ ?_ ?_
 .exact⟨fun n hn=>((by cases hn)),fun y hy=>((by cases hy)),fun y hy=>((by cases hy))⟩
 .intro M g G h2;have hM:=ac.mk h2;clear h2;refine wk ?_;simp only[go_sem];exact⟨M,G,⟨hM.out.1,hM.out.2.1,hM.out.2.2⟩,rfl⟩
 .intro M g G pre x post IW lt1 w1 i1 h2;have q1:=qs x.id;have Jg:ac (x∈d.ns):=⟨by rw[IW.out];simp⟩;have JD:=ac.mk h2;clear h2 qs;cases hs:ez d.ts d.ns L x.id with
  | false=>
   rw[hs]at q1
   have hP:ac ((∀n∈pre++[x],ez d.ts d.ns L n.id=true->n.id∈M)/\(∀y∈M,∀b,pw d.ts d.ns y b->lX d.ns b->b∈M)/\∀x∈M,lX d.ns x/\∃n∈d.ns,ez d.ts d.ns L n.id=true/\Reach d.ts d.ns n.id x):=by
    refine⟨⟨fun n hn Qd=>?_,JD.out.2.1,JD.out.2.2⟩⟩;rcases UU.1 hn with hn|hn
    .exact JD.out.1 n hn Qd
    .simp at hn;subst hn;rw[hs]at Qd;cases Qd
   clear hs;exact wf
  | true=>
   rw[hs]at q1;have Ke:=ac.mk hs;have qx:=qm.out M x.id;clear hs;refine wk ?_;refine wr (qx _) ?_;rintro v S' ⟨rfl,M',G',hM,rfl⟩
   have hP:ac ((∀n∈pre++[x],ez d.ts d.ns L n.id=true->n.id∈M')/\(∀y∈M',∀b,pw d.ts d.ns y b->lX d.ns b->b∈M')/\∀x∈M',lX d.ns x/\∃n∈d.ns,ez d.ts d.ns L n.id=true/\Reach d.ts d.ns n.id x):=by
    refine⟨⟨fun n hn Qd=>?_,fun y hy b hb Nj=>?_,fun y hy=>?_⟩⟩
    .rcases UU.1 hn with hn|hn
     .exact hM.sub _ (JD.out.1 n hn Qd)
     .simp at hn;subst hn;exact hM.me (by simp[lX,hgn.out n Jg.out])
    .by_cases k:y∈M
     .exact hM.sub _ (JD.out.2.1 y k b hb Nj)
     .exact hM.clo y hy k b hb Nj
    .rcases hM.new y hy with h|⟨h,h'⟩
     .exact JD.out.2.2 y h
     .exact⟨h',x,Jg.out,Ke.out,h⟩
   clear hM qx;exact wf
end
section
variable {L:List (Int×Int)}{M:List Int}{ns pre:List Nt}{ts:List Ti}{x:Nt}
def fT(ts:List Ti)(ns:List Nt)(L:List (Int×Int))(n:Nt):Nt:=if ez ts ns L n.id=true then n else { n with tx := .empty }
def jK(ts:List Ti)(ns:List Nt)(L:List (Int×Int))(M:List Int)(l:List Nt):List Nt:=(l.filter fun n=>decide (n.id∈M)).map (fT ts ns L)
def zu(k:Nat):List Nt->AV
 | []=> .flat (.slice none 0 0)
 | n::l=> .sl k (l.length+1) 0 (l.length+1) 7
def F5:List Nt->ab
 | []=>[]
 | n::l=>[.arr (aZ n::l.map aZ) 7 0 true]
def FK:List Nt->Bool
 | []=>true
 | _::_=>false
def nvR:List Nt->AV
 | []=> .flat (.slice none 0 0)
 | n::l=> .tsl true 7 (aZ n::l.map aZ)
def IC(k:Nat):zu k [] = .flat (.slice none 0 0):=rfl
def FX(k:Nat)(n:Nt)(l:List Nt):zu k (n::l) = .sl k (l.length+1) 0 (l.length+1) 7:=rfl
def blkN_nil:F5 [] = []:=rfl
def IG(n:Nt)(l:List Nt):F5 (n::l) = [.arr (aZ n::l.map aZ) 7 0 true]:=rfl
def flgN_nil:FK []=true:=rfl
def Ig(n:Nt)(l:List Nt):FK (n::l)=false:=rfl
def exp7{S:ab}{a c e:Int}{b:ByteArray}{sv tv nv nv':AV}(h1:aW S sv=some sv)(h2:aW S tv=some tv)(h3:aW S nv=some nv'):dq S [.int .i64 a,.str b,.int .i64 c,.int .i64 e,sv,tv,nv]=some [.int .i64 a,.str b,.int .i64 c,.int .i64 e,sv,tv,nv']:=by
 have k3:∀(m:Int),aW S (.int .i64 m)=some (.int .i64 m):=fun _=>rfl;have k4:∀(m:ByteArray),aW S (.str m)=some (.str m):=fun _=>rfl;simp only[dq,k3,k4,h1,h2,h3]
def redN_in(h:x.id∈M):jK ts ns L M (pre++[x])=jK ts ns L M pre++[fT ts ns L x]:=by simp[jK,Va,h]
def redN_out(h:x.id∉M):jK ts ns L M (pre++[x])=jK ts ns L M pre:=by simp[jK,Va,h]
attribute [local irreducible] bB cX cZ aB bS dE
attribute [local go_sem] U1 Vj List.replicate UC Vp Nat.reduceMul Vg bi eF d9 bP bt ci bN ba aY aS aM aX and_self bd aZ bC bp mB nY gp lJ Wy p8 KS sY IC FX blkN_nil IG flgN_nil Ig
theorem viewRM{d:Dq}{v:AV}(hd:d.ok)(ht:sk d.ts d.ns)(hl:d.ns.length<=19)(hu:d.ns.Pairwise fun a b=>a.id<b.id)(hv:bq 2 (Fo.spans L) v)(hL:L.length<=1000000) :
  aB CX 28 [.agg (bd d),v] (fun u=> ∃M,u = .agg [.int .i64 d.r.id,.str d.r.name,.int .i64 d.r.len,.int .i64 d.r.day,d.r.sv,d.tv,nvR (jK d.ts d.ns L M d.ns)]/\vO d.ts d.ns L M):=by
 have c1:=hd.r.sv.cell;have c2:=hd.t.cell;have c3:=hd.n.cell;have s1:=hd.r.sv.snap;have s2:=hd.t.snap;have s3:=hd.n.snap;have s4:=hv.snap;have t1:=hd.r.st;have t2:=hd.tt;have t3:=hd.nt;have L1:=@au _ _ _ hd.n;have LN:=hd.n;have Jd:d.ns.length<9223372036854775807:=by omega
 have JJ:=ac.mk hl;have qs:=fun id=>(seenM id hd ht (by omega) hv hL).rw;have qk:=fun B0 B1=>keptM B0 B1 hd ht hl hu hv hL;have dc:=slsC hd.r.sv;have dt:=slsC hd.t;simp only[bd]at qs qk;clear hd ht hl hv hL hu;refine aL fx28 ?_;refine wk ?_;refine wr (qk _ _) ?_;rintro u S' ⟨rfl,M,G,hM,rfl⟩;have NV:=ac.mk hM;clear qk hM;refine wk ?_;refine ct [8,21,22,23,24,25,26,27,28,29,30,31,32,33,34,35,36,37,38,39,40,41,42] 20 d.ns (fun _:List Nt×ab=>[]) (fun s G'=> .arr [[.int .i64 d.r.id,.str d.r.name,.int .i64 d.r.len,.int .i64 d.r.day,d.r.sv,d.tv,d.nv]] 7 0 true :: .arr [[.int .i64 0,.str .empty,.int .i64 0,.int .i64 0,.flat (.slice none 0 0),.flat (.slice none 0 0),.flat (.slice none 0 0)]] 7 0 true :: .arr [[.int .i64 d.r.id,.str d.r.name,.int .i64 d.r.len,.int .i64 d.r.day,d.r.sv,d.tv,d.nv]] 7 0 true :: .map (we M) :: .arr [[.mp 3]] 1 1 false :: .arr [[.fn 129 [.ptr 2 1 7 0 0,.ptr 4 1 1 0 0,.ptr 5 1 1 0 0]]] 1 1 false::(G ++ .arr [[.int .i64 d.r.id,.str d.r.name,.int .i64 d.r.len,.int .i64 d.r.day,d.r.sv,d.tv,zu (G.length+(s.2.length+1)+1+1+1+1+1+1) s.1]] 7 1 (FK s.1)::(s.2++(F5 s.1++G')))) (fun pre _ s=>s.1=jK d.ts d.ns L M pre) ([],[]) LN Jd ty72 ty78 rfl ?_ ?_ ?_
 .rfl
 .rintro⟨l,X⟩ g G2 h2;replace h2:l=jK d.ts d.ns L M d.ns:=h2;have JD:=ac.mk h2;have x1:=bk t1;have x2:=bk t2;clear h2 qs;cases l with
  | nil=>
   refine wk ?_;simp only[go_sem];rw[exp7 (x1 _) (x2 _) rfl];exact⟨M,by rw[<-JD.out];rfl,NV.out⟩
  | cons y l=>
   refine wk ?_;simp only[go_sem];rw[exp7 (nv' := .tsl true 7 (aZ y::l.map aZ)) (x1 _) (x2 _) (by simp[aW,aM,aZ,Vm])];exact⟨M,by rw[<-JD.out];rfl,NV.out⟩
 .rintro⟨l,X⟩ g G2 pre x post IW lt1 w1 i1 h2;replace h2:l=jK d.ts d.ns L M pre:=h2;have q1:=qs x.id;by_cases KF:x.id∈M
  case neg=>
   have hP:ac (l=jK d.ts d.ns L M (pre++[x])):=⟨by rw[redN_out KF];exact h2⟩;clear h2 qs q1;cases l with
   | nil=>refine wk ?_;exact aE (σ:=List Nt×ab) ([],X) IW.out hP.out aQ dk
   | cons y l=>refine wk ?_;exact aE (σ:=List Nt×ab) (y::l,X) IW.out hP.out aQ dk
  have hP:ac (l++[fT d.ts d.ns L x]=jK d.ts d.ns L M (pre++[x])):=⟨by rw[redN_in KF,h2]⟩;have Mr:l.length<=19:=by rw[h2,jK,UI];exact UQ (U0 _ _) (by have:=JJ.out;omega)
  have a1:(l.length+1)*64<=140737488355328:=by omega
  have a2:l.length+1<=140737488355328:=by omega
  clear h2 qs Mr;have a3:(1:Nat)*64<=140737488355328:=by omega
  have a4:(1:Nat)<=140737488355328:=by omega
  cases hs:ez d.ts d.ns L x.id with
  | true=>
   rw[hs]at q1;rw[fT,if_pos hs]at hP;clear hs;cases l with
   | nil=>
    refine wk ?_;exact aE (σ:=List Nt×ab) ([x],X++(G2++[.arr [[.int .i64 x.id,.int .i64 x.ti,.int .i64 x.pa,.int .i64 x.fr,.int .i64 x.en,.int .i64 x.rk,.str x.tx]] 7 1 true,.arr [[.int .i64 x.id,.int .i64 x.ti,.int .i64 x.pa,.int .i64 x.fr,.int .i64 x.en,.int .i64 x.rk,.str x.tx]] 7 0 true])) IW.out hP.out aQ ⟨[],by simp[zu,F5,FK,aZ]⟩
   | cons y l=>
    simp only[UB]at a1 a2;refine wk ?_;exact aE (σ:=List Nt×ab) (y::(l++[x]),X) IW.out hP.out aQ ⟨G2++[.arr [[.int .i64 x.id,.int .i64 x.ti,.int .i64 x.pa,.int .i64 x.fr,.int .i64 x.en,.int .i64 x.rk,.str x.tx]] 7 1 true,.arr [[.int .i64 x.id,.int .i64 x.ti,.int .i64 x.pa,.int .i64 x.fr,.int .i64 x.en,.int .i64 x.rk,.str x.tx]] 7 0 true],by simp[zu,F5,FK,aZ]⟩
  | false=>
   rw[hs]at q1;have e0:fT d.ts d.ns L x=⟨x.id,x.ti,x.pa,x.fr,x.en,x.rk,.empty⟩:=by rw[fT,if_neg (by rw[hs];simp)]
   rw[e0]at hP;clear hs e0;cases l with
   | nil=>
    refine wk ?_;exact aE (σ:=List Nt×ab) ([⟨x.id,x.ti,x.pa,x.fr,x.en,x.rk,.empty⟩],X++(G2++[.arr [[.int .i64 x.id,.int .i64 x.ti,.int .i64 x.pa,.int .i64 x.fr,.int .i64 x.en,.int .i64 x.rk,.str .empty]] 7 1 true,.arr [[.int .i64 x.id,.int .i64 x.ti,.int .i64 x.pa,.int .i64 x.fr,.int .i64 x.en,.int .i64 x.rk,.str .empty]] 7 0 true])) IW.out hP.out aQ ⟨[],by simp[zu,F5,FK,aZ]<;>rfl⟩
   | cons y l=>
    simp only[UB]at a1 a2;refine wk ?_;exact aE (σ:=List Nt×ab) (y::(l++[(⟨x.id,x.ti,x.pa,x.fr,x.en,x.rk,.empty⟩:Nt)]),X) IW.out hP.out aQ ⟨G2++[.arr [[.int .i64 x.id,.int .i64 x.ti,.int .i64 x.pa,.int .i64 x.fr,.int .i64 x.en,.int .i64 x.rk,.str .empty]] 7 1 true,.arr [[.int .i64 x.id,.int .i64 x.ti,.int .i64 x.pa,.int .i64 x.fr,.int .i64 x.en,.int .i64 x.rk,.str .empty]] 7 0 true],by simp[zu,F5,FK,aZ]<;>rfl⟩
end
section
def tmM(S:List Int):AV := .tmap ((we S).map (·.1)) ((we S).map (·.2))
theorem zip_fs{α β:Type}:∀l:List (α×β),(l.map (·.1)).zip (l.map (·.2))=l
 | []=>rfl
 | x::l=>by simp[zip_fs l]
def pP(S:ab)(M:List Int):wh S (tmM M)=some (we M):=by rw[tmM,sX,zip_fs]
def CN(S:ab)(M:List Int):snap S (tmM M)=some (tmM M):=by simp[tmM,snap]
def eN(S:List Int)(l:List Pt3):Bool:=l.all fun p=>decide (p.1∈S)
def iT(l:List De)(rc no:Int):Option De:=l.find? fun d=>(d.rc == rc) && ((d.no == no) && d.ye)
def GH:Option De->AV
 | some d=> .tup [.agg [d.pv],.bool true]
 | none=> .tup [.agg [dw],.bool false]
attribute [local irreducible] bB cX cZ aB bS dE
attribute [local go_sem] bi and_self kY dS eW bd bC bp mB nY gp lJ pP
def usesSM{pv:AV}{l:List Pt3}(S:List Int)(hv:bq 3 (l.map kY) pv)(hl:l.length<=1048576):aB CX 30 [.agg [pv],tmM S] (· = .bool (eN S l)):=by
 have c1:=hv.cell;have L1:=@au _ _ _ hv;have Jd:l.length<9223372036854775807:=by omega
 refine aL fx30 ?_;refine wk ?_;refine iD [4,6,11,12,13,14,15,16,17,18,19] 10 l (fun _ post=>eN S l=eN S post) hv Jd ty107 ty164 rfl ?_ ?_
 .intro g G h2;rw[h2];clear h2;exact wf
 .intro g G pre x post IW lt1 w1 i1 h2;by_cases k:x.1∈S
  .have hP:ac (eN S l=eN S post):=⟨by rw[h2,eN];simp[k,eN]⟩;clear h2;exact wf
  .have e:eN S l=false:=by rw[h2,eN];simp[k]
   rw[e];clear h2 e;exact wf
theorem pickM{v:AV}{l:List De}(rc no:Int)(hv:bq 4 (l.map dS) v)(h:∀d∈l,d.ok)(hl:l.length<=1048576):aB CX 65 [v,.agg [.int .i64 rc,.int .i64 no]] (· = GH (iT l rc no)):=by
 have L1:=@au _ _ _ hv;have Jd:l.length<9223372036854775807:=by omega
 have hH:=ac.mk h;clear h hl;refine aL fx65 ?_;refine wk ?_;refine iD [5,7,11,12,13,14,15,16,17,18,19,20,21,22,23,24] 10 l (fun _ post=>iT l rc no=iT post rc no) hv Jd ty38 ty111 rfl ?_ ?_
 .intro g G h2;rw[h2];clear h2;refine wk ?_;simp only[go_sem];exact(jD (cs:=[dw]) (by intro c hc;simp at hc;subst hc;rfl)).mpr rfl
 .intro g G pre x post IW lt1 w1 i1 h2;have hx:=hH.out x (by rw[IW.out];simp);have c1:=hx.p.cell;have Kk:=hx.pt;have N3:=ac.mk Kk;clear Kk
  have hb:iT (x::post) rc no=if ((x.rc == rc) && ((x.no == no) && x.ye))=true then some x else iT post rc no:=by
   simp only[iT,V3];cases ((x.rc == rc) && ((x.no == no) && x.ye))<;>rfl
  rw[hb]at h2;clear hb hx;cases k1:(x.rc == rc) with
  | false=>
   have hP:ac (iT l rc no=iT post rc no):=⟨by rw[h2,k1];rfl⟩;clear h2;exact wf
  | true=>
  cases k2:(x.no == no) with
  | false=>
   have hP:ac (iT l rc no=iT post rc no):=⟨by rw[h2,k1,k2];rfl⟩;clear h2;exact wf
  | true=>
  cases k3:x.ye with
  | false=>
   have hP:ac (iT l rc no=iT post rc no):=⟨by rw[h2,k1,k2,k3];rfl⟩;clear h2;exact wf
  | true=>
   have e:iT l rc no=some x:=by rw[h2,k1,k2,k3];rfl
   rw[e,GH];clear h2 e;refine wk ?_;simp only[go_sem];exact(jD (cs:=[x.pv]) (by intro c hc;simp at hc;subst hc;exact bk N3.out _)).mpr rfl
end
section
variable {R:AV->Prop}{S:ab}{b n w:Nat}{g:Lg}{m:Int}{rows:List (List AV)}
def orV(g:Lg):AV := .agg [.str g.onm,g.uv,g.lv]
def Hz(g:Lg):dY := .arr [[.str g.onm,g.uv,g.lv]] 3 0 (g.uv.stab && g.lv.stab)
attribute [local irreducible] bB cX cZ aB bS dE
attribute [local go_sem] U1 Vj List.replicate UC Vp Nat.reduceMul Vg bi eF d9 bP bt ci bN cM ba aY aS aM aX and_self nQ bC bp kK Hz
def exp_si{sz:Nat}{k:IntKind}(hS:S[b]? = some (.arr rows sz w true))(hn:rows.length=n)(hw:w<=n):iw R (.tup [.sl b n 0 n sz,.int k m]) S=R (.tup [.osl sz rows,.int k m]):=by
 simp[iw,da,dR,ce,bT,dm,bI,hS,hn,hw,AV.stab]
def Et{n:Int}(h0:0<=n)(h:n<=1000000):IntKind.wrap .i64 n=n:=wrap_small (by omega) (by omega)
theorem unitsM(hg:g.ok)(hl:g.us.length<=1048576)(s:ByteArray)(hs:s.size<=10000):aB CX 240 [orV g,.str s] (fun v=> ∃(out:List Int) (at':Nat),v = .tup [.osl 1 (az out),.int .i64 (at':Int)]/\(∀i∈out,∃n:Nat,i=n/\n<g.us.length)/\out.length<=10000):=by
 have c2:=hg.u.cell;have c3:=hg.l.cell;have P8:=hg.u;have L1:=@au _ _ _ P8;have Ly:g.us.length<9223372036854775807:=by omega
 have Ke:=ac.mk hs;have JJ:=ac.mk hl;have Rr:=ac.mk hg.uo;unfold orV;clear hg hl hs;refine aL fx240 ?_;refine wk ?_;refine ct [8,18,19,20,21,22,23,24,25,26] 17 g.us (fun m:Int=>[(6,.int .i64 m)]) (fun _ G=>Hz g::G) (fun _ _ m=>0<=m) (0:Int) P8 Ly ty25 ty172 rfl ?_ ?_ ?_
 .exact Int.le_refl 0
 .intro m gg G h0;replace h0:0<=m:=h0;have h0H:=ac.mk h0;clear h0;refine wk ?_;refine aJ [11,12,13,27,28,29,30,31,32,33,34,35,36,37,38,39,40,41,42,43,44,45,46,47,48,49,50,51,52,53,54,55,56,57,58,59,60,61,62,63,64,65] (fun a:List Int×Nat=>[(9,.sl (G.length+1) a.1.length 0 a.1.length 1),(10,.int .i64 (a.2:Int))]) (fun a G2=>Hz g::(G ++ .arr (az a.1) 1 0 true::G2)) (fun a=>a.2<=s.size/\a.1.length<=a.2/\∀i∈a.1,∃n:Nat,i=n/\n<g.us.length) (fun a=>s.size-a.2) ([],0) ⟨by simp,by simp,by simp⟩ aQ dk ?_;rintro⟨out,at'⟩ g1 G1 ⟨h1,h2,h3⟩;replace h1:at'<=s.size:=h1;replace h2:out.length<=at':=h2;have Pq:=ac.mk h1;have JD:=ac.mk h2;have MM:=ac.mk h3;have Kb:ac (out.length<=10000):=⟨by have:=Ke.out;omega⟩;clear h1 h2 h3;by_cases Ja:(at':Int)<(s.size:Int)
  case neg=>
   refine wk ?_;simp only[go_sem];rw[exp_si (rows:=az out) (w:=0) (by simp) (aC _) (U9 _)];exact⟨out,at',rfl,MM.out,Kb.out⟩
  have w0:IntKind.wrap .i64 ((s.size:Int)-(at':Int))=((s.size-at':Nat):Int):=by
   have:=Ke.out;rw[Et (by omega) (by omega)];omega
  obtain⟨n0,LC,hmin⟩:∃n0:Int,(0<=n0/\n0<=((s.size-at':Nat):Int))/\(if ((s.size-at':Nat):Int)<m then ((s.size-at':Nat):Int) else m)=n0:=by
   by_cases k:((s.size-at':Nat):Int)<m
   .exact⟨((s.size-at':Nat):Int),⟨by omega,by omega⟩,by simp[k]⟩
   .have:=h0H.out;exact⟨m,⟨by omega,by omega⟩,by simp[k]⟩
  have LC:=ac.mk LC;have SZ:=ac.mk Ja;refine wk ?_;refine aJ [12,13,37,38,39,40,41,42,43,44,45,46,47,48,49,50,51,52,53,54,55,56,57,58,59,60,61,62,63,64,65] (fun n:Int=>[(9,.sl (G.length+1) out.length 0 out.length 1),(10,.int .i64 (at':Int)),(11,.int .i64 n)]) (fun _ G2=>Hz g::(G ++ .arr (az out) 1 0 true::(G1++G2))) (fun n=>0<=n/\n<=((s.size-at':Nat):Int)) (fun n=>n.toNat) n0 LC.out aQ dk ?_;intro n g2 G2 hn;have Qp:=ac.mk hn;clear hn;by_cases LC:(0:Int)<n
  case neg=>
   refine wk ?_;simp only[go_sem];rw[exp_si (rows:=az out) (w:=0) (by simp) (aC _) (U9 _)];exact⟨out,at',rfl,MM.out,Kb.out⟩
  have Mp:=ac.mk LC;refine wk ?_;refine ct [12,13,45,46,47,48,49,50,51,52,53,54,55,56,57,58,59,60,61,62,63,64,65] 44 g.us (fun _:Unit=>[(9,.sl (G.length+1) out.length 0 out.length 1),(10,.int .i64 (at':Int))]) (fun _ G3=>Hz g::(G ++ .arr (az out) 1 0 true::(G1++(G2++G3)))) (fun _ _ _=>True) () P8 Ly ty25 ty172 rfl ?_ ?_ ?_
  .exact trivial
  .intro _ g3 G3 _;have w1:IntKind.wrap .i64 (n-1)=n-1:=Et (by have:=Mp.out;omega) (by have:=Qp.out;have:=Ke.out;omega);refine wk ?_;refine ax (n-1) ?_ ?_ aQ dk
   .have:=Mp.out;omega
   .have:=Mp.out;have:=Qp.out;omega
  .intro _ g3 G3 pre x post IW lt1 w1 i1 _;have cx:=(Rr.out x (by rw[IW.out];simp)).s.cell;have IZ:pre.length<g.us.length:=by omega
   have SG:=ac.mk IZ;obtain⟨nn,Mo⟩:∃nn:Nat,n=nn:=⟨n.toNat,by have:=Mp.out;omega⟩;subst Mo;have OK:at'+nn<=s.size:=by have:=Qp.out;have:=Pq.out;omega
   have w2:IntKind.wrap .i64 ((at':Int)+(nn:Int))=((at'+nn:Nat):Int):=by
    have:=Ke.out;rw[Et (by omega) (by omega)];omega
   have sl1:∀{j j':IntKind},dW CX 9 (.str s) (some (.int j (at':Int))) (some (.int j' ((at'+nn:Nat):Int))) none=some (.str (s.extract at' (at'+nn))):=fun {j j'}=>by
    simp only[dW,ty9,dM,Ww,if_true,VS];rw[if_pos ⟨Nat.le_add_right _ _,OK⟩]
   have Oc:=ac.mk OK;have a1:(out.length+1)*8<=140737488355328:=by have:=Kb.out;omega
   have a2:out.length+1<=140737488355328:=by have:=Kb.out;omega
   clear IZ OK;obtain⟨K,hk⟩:∃K,ik .eql x.gr (s.extract at' (at'+nn))=some (.bool K):=⟨_,rfl⟩;cases K with
   | false=>
    refine wk ?_;exact aE (σ:=Unit) () IW.out trivial aQ ⟨_,rfl⟩
   | true=>
    refine wk ?_;refine ax (out++[(pre.length:Int)],at'+nn) ?_ ⟨Oc.out,?_,fun i hi=>?_⟩ aQ dk
    .have:=SZ.out;have:=Mp.out;have:=Oc.out;simp only;omega
    .have:=JD.out;have:=Mp.out;simp only[UG,W8];omega
    .rcases UU.1 hi with h|h
     .exact MM.out i h
     .simp at h;exact⟨pre.length,h,SG.out⟩
 .intro m gg G pre x post IW lt1 w1 i1 h0;replace h0:0<=m:=h0;have cx:=(Rr.out x (by rw[IW.out];simp)).s.cell
  obtain⟨m2,h2,Mq⟩:∃m2:Int,0<=m2/\(if (x.gr.size:Int) > m then (x.gr.size:Int) else m)=m2:=by
   by_cases k:(x.gr.size:Int) > m
   .exact⟨(x.gr.size:Int),by omega,by simp[k]⟩
   .exact⟨m,h0,by simp[k]⟩
  have JD:=ac.mk h2;clear h0 h2;refine wk ?_;exact aE (σ:=Int) m2 IW.out JD.out aQ ⟨_,rfl⟩
def rdV:Option (List Int)->AV->Prop
 | some w,v=>v = .tup [.osl 1 (az w),.int .i64 0,.int .i64 0]/\w.length<=24
 | none,v=> ∃a e:Int,v = .tup [.osl 1 [],.int .i64 a,.int .i64 e]/\e≠0
def xf{m':Int}(hS:S[b]? = some (.arr rows 1 w true))(hn:rows.length=n)(hw:w<=n):iw R (.tup [.sl b n 0 n 1,.int .i64 m,.int .i64 m']) S=R (.tup [.osl 1 rows,.int .i64 m,.int .i64 m']):=by
 simp[iw,da,dR,ce,bT,dm,bI,hS,hn,hw,AV.stab]
def RdOK(g:Lg)(Rd:ByteArray->Option (List Int)):Prop := ∀s:ByteArray,s.size<=10000->aB CX 203 [orV g,.str s] (rdV (Rd s))
theorem readS(hg:g.ok)(hl:g.us.length<=1048576)(Ly:∀u∈g.us,u.sl.length<=1048576)(s:ByteArray)(hs:s.size<=10000):aB CX 203 [orV g,.str s] (fun v=> ∃o,rdV o v):=by
 have c2:=hg.u.cell;have c3:=hg.l.cell;have s2:=hg.u.snap;have s3:=hg.l.snap;have P8:=hg.u;have Rr:=ac.mk hg.uo;have Sk:=ac.mk Ly;obtain⟨v,⟨out,at',rfl,ho,Kb⟩,q⟩:=(unitsM hg hl s hs).ex;have q:=q.rw;have RA:=ac.mk ho;have SK:=ac.mk Kb;have KT:out.length<9223372036854775807:=by omega
 unfold orV at q ⊢;clear hg hl Ly ho Kb;obtain⟨K,hk⟩:∃K,ik .eql s ⟨#[]⟩=some (.bool K):=⟨_,rfl⟩;cases K with
 | true=>
  refine aL fx203 ?_;refine wk ?_;simp only[go_sem];rw[xf (n:=0) (rows:=[]) (w:=0) (by simp) rfl (UJ _)];exact⟨none,_,_,rfl,by decide⟩
 | false=>
 by_cases k1:(at':Int)<(s.size:Int)
 .refine aL fx203 ?_;refine wk ?_;simp only[go_sem];rw[xf (n:=0) (rows:=[]) (w:=0) (by simp) rfl (UJ _)];exact⟨none,_,_,rfl,by decide⟩
 refine aL fx203 ?_;refine wk ?_;refine cN [11,28,29,30,31,32,33,34,35,36,37,38,39] 27 out (fun o:List Int=>[(9,.sl 3 o.length 0 o.length 1)]) (fun o G=>Hz g :: .arr [] 1 0 true :: .arr (az out) 1 0 true :: .arr (az o) 1 0 true::G) (fun pre _ o=>o.length<=pre.length*1048576) ([]:List Int) KT ?_ ?_ ?_
 .exact U9 _
 .intro o g2 G2 _;by_cases k2:(24:Int)<(o.length:Int)
  .refine wk ?_;simp only[go_sem];rw[xf (n:=0) (rows:=[]) (w:=0) (by simp) rfl (UJ _)];exact⟨none,_,_,rfl,by decide⟩
  .have hP:=ac.mk (show o.length<=24 by omega);refine wk ?_;simp only[go_sem];rw[xf (rows:=az o) (w:=0) (by simp) (aC _) (U9 _)];exact⟨some o,rfl,hP.out⟩
 .intro o g2 G2 pre x post IW lt1 w1 h2;obtain⟨n,Ou,hn⟩:=RA.out x (by rw[IW.out];simp);obtain⟨u,hu⟩:∃u,g.us[n]? = some u:=⟨_,UL hn⟩;have Sj:=Vs hu;have JM:=(Rr.out u Sj).s;have cx:=JM.cell;have r1:=JM.rowsOf;have Ly:=Sk.out u Sj;have IZ:pre.length<out.length:=by rw[IW.out];simp
  have Jq:(az out)[pre.length]? = some [.int .i64 x]:=by rw[IW.out];simp[az]
  have i1:∀{j:IntKind},aD CX 31 (.sl 2 out.length 0 out.length 1) (.int j (pre.length:Int))=some (.ptr 2 out.length 1 pre.length 0):=fun {j}=>gu ty31 ty3 rfl lt1;have i2:=ay P8 (X:=CX) ty25 ty172 rfl (n:=n) (row:=nQ u) (k := .i64) (by simp[hu]);rw[<-Ou]at i2;have Kb:o.length<=10000*1048576:=UQ h2 (VC _ (by have:=SK.out;omega));have hP:ac ((o++u.sl).length<=(pre++[x]).length*1048576):=⟨by simp only[UG,W8,VJ];omega⟩;have a1:(o.length+u.sl.length)*8<=140737488355328:=by omega
  have a2:o.length+u.sl.length<=140737488355328:=by omega
  simp only[nQ]at i2;clear h2 Ly Kb Ou hn hu Sj JM;by_cases hz:u.sl.length=0
  .have e:=UO hz;rw[e]at r1 hP;rw[UM]at hP;have b1:(o.length+0)*8<=140737488355328:=by omega
   have b2:o.length+0<=140737488355328:=by omega
   clear e hz a1 a2;refine wk ?_;exact aE (σ:=List Int) o IW.out hP.out aQ dk
  .refine wk ?_;exact aE (σ:=List Int) (o++u.sl) IW.out hP.out aQ dk
def readM(hg:g.ok)(hl:g.us.length<=1048576)(Ly:∀u∈g.us,u.sl.length<=1048576):∃Rd,RdOK g Rd:=by
 have h:∀s:ByteArray,∃o,s.size<=10000->aB CX 203 [orV g,.str s] (rdV o):=fun s=>by
  by_cases hs:s.size<=10000
  .obtain⟨v,⟨o,ho⟩,q⟩:=(readS hg hl Ly s hs).ex;exact⟨o,fun _=>(q.rw _).mpr ho⟩
  .exact⟨none,fun h=>absurd h hs⟩
 exact⟨fun s=>(h s).choose,fun s=>(h s).choose_spec⟩
end
end Go.Eng
