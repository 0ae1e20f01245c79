/- Rebuilds: what the reference's check of a document tells. -/
import Derived.Test.YtkahfcmeeloikaaGreatDoorZ17
set_option linter.all false
set_option maxHeartbeats 4000000
namespace Go.Eng
open Go.Proofs
section
attribute [local irreducible] bB cX cZ aB bS dE
attribute [local go_sem] bi and_self ck eW aZ Fo.encE
set_option maxRecDepth 20000
def mi(ns:List Nt)(kd tier:Int)(n:Nt):Prop :=
 (tZ kd=true->(lr ns tier n.pa).Pairwise jH)/\(kd=3->∀k:Nat,k<(lr ns tier n.pa).length->∃x∈lr ns tier n.pa,x.rk=k)/\(kd=4->(lr ns tier n.pa).length<=1)
def kinds4(kd:Int):(kd=1/\(kd == 1)=true/\(kd == 3)=false/\(kd == 4)=false/\tZ kd=true)\/(kd=3/\(kd == 1)=false/\(kd == 3)=true/\(kd == 4)=false/\tZ kd=false)\/(kd=4/\(kd == 1)=false/\(kd == 3)=false/\(kd == 4)=true/\tZ kd=false)\/(kd≠3/\kd≠4/\(kd == 1)=false/\(kd == 3)=false/\(kd == 4)=false):=by
 by_cases h1:kd=1
 .subst h1;exact .inl ⟨rfl,rfl,rfl,rfl,rfl⟩
 by_cases h3:kd=3
 .subst h3;exact .inr (.inl ⟨rfl,rfl,rfl,rfl,rfl⟩)
 by_cases h4:kd=4
 .subst h4;exact .inr (.inr (.inl ⟨rfl,rfl,rfl,rfl,rfl⟩))
 .refine .inr (.inr (.inr ⟨h3,h4,?_,?_,?_⟩))<;>simpa
theorem tierErrE{d:Dc}{ts:List Ti}{ns:List Nt}{j:Nat}{t:Ti}(hd:d.ok ts ns)(hl:ns.length<=1000)(hj:ts[j]? = some t) :
  ∃e,(e=0->∀n∈ns,n.ti=j->mi ns t.kd j n)/\aB CX 52 [.agg (ck d),.int .i64 j] (· = .int .i64 e):=by
 suffices h:aB CX 52 [.agg (ck d),.int .i64 j] (fun r=> ∃e,r = .int .i64 e/\(e=0->∀n∈ns,n.ti=j->mi ns t.kd j n)) by
  obtain⟨r,⟨b,rfl,hb⟩,h⟩:=h.ex;exact⟨b,hb,h⟩
 have c1:=hd.nc;have c2:=hd.tc;have c3:=hd.sc;have p1:=hd.p1;have p2:=hd.p2;have p3:=hd.p3;have s1:=hd.nsn;have s2:=hd.tsn;have s3:=hd.ss;have hn:=hd.n;have i0:=ay hd.t (X:=CX) ty71 ty180 rfl (n:=j) (row:=eW t) (k := .i64) (by rw[Vc,hj];rfl);obtain⟨J,hJ⟩:∃J:Int,(j:Int)=J:=⟨_,rfl⟩;rw[hJ]at i0 ⊢;have qa:=(Ep t.kd).rw;clear hj;refine aL fx52 ?_;refine wk ?_;refine aJ [4,8,9,10,11,18,19,20,21,22,23,24,25,26,27,28,29,30,31,32,33,34,35,36,37,38,39,40,41,42,43,44,45,46,47,48,49,50,51,52,53,54,55,56,57,58,59,60,61,62,63,64,65,66,67,68,69,70,71,72,73,74,75] (fun p:List Nt×List Nt×Int=>[(6,.int .i64 p.2.2),(7,.int .i64 (p.1.length:Int))]) (fun _ G=> .arr [ck d] 7 0 true::G) (fun p=>ns=p.1++p.2.1/\(p.2.2=0->∀n∈p.1,n.ti=J->mi ns t.kd J n)) (fun p=>p.2.1.length) ([],ns,0) ⟨rfl,fun _ n h=>by cases h⟩ ?_ ⟨[],rfl⟩ ?_
 .exact aQ
 rintro⟨pre,post,e⟩ g G ⟨h1,hP⟩;replace h1:ns=pre++post:=h1;replace hP:e=0->∀n∈pre,n.ti=J->mi ns t.kd J n:=hP;cases post with
 | nil=>
  rw[UM]at h1;have Jz:ac (e=0->∀n∈ns,n.ti=J->mi ns t.kd J n):=⟨by rw[h1]at hP ⊢;exact hP⟩;have e1:(pre.length:Int)=(ns.length:Int):=by rw[h1]
  clear h1 hP;exact fm (lk hn)
 | cons x post=>
  have Jz:ac (e=0->∀n∈pre,n.ti=J->mi ns t.kd J n):=⟨hP⟩;have IZ:pre.length<ns.length:=by rw[h1];simp
  have lt1:(pre.length:Int)<(ns.length:Int):=by omega
  have w1:=am (n:=pre.length) (by omega);have i1:=ay hn (X:=CX) ty72 ty78 rfl (n:=pre.length) (row:=aZ x) (k := .i64) (by rw[h1];exact fp aZ pre x post);have IW:ac (ns=(pre++[x])++post):=⟨by rw[h1];simp⟩;have qs:=(sibE J x.pa hd hl).rw;have NY:=CR ns J x.pa;obtain⟨L,hL⟩:∃L,lr ns J x.pa=L:=⟨_,rfl⟩;have Q5:ac (mi ns t.kd J x↔(tZ t.kd=true->L.Pairwise jH)/\(t.kd=3->∀k:Nat,k<L.length->∃x∈L,x.rk=k)/\(t.kd=4->L.length<=1)):=⟨by unfold mi;rw[hL]⟩;rw[hL]at qs NY;have R3:L.length<=1000:=by omega
  obtain⟨bo,hbo,qo⟩:=overlapE (v := .tsl false 7 (L.map aZ)) (.rows false) R3;obtain⟨br,hbr,qr⟩:=rankedE (v := .tsl false 7 (L.map aZ)) (.rows false) R3;have qo:=qo.rw;have qr:=qr.rw;obtain⟨z,b,hz⟩:∃z b,iX (cO ns x.pa) = .tup [.agg (aZ z),.bool b]:=by cases cO ns x.pa;exact⟨_,_,rfl⟩;exact⟨_,_,rfl⟩
  have qg:=(Ie x.pa hd (by omega)).rw;rw[hz]at qg;have qp:=(spansE (v := .tsl false 7 (L.map aZ)) (.rows false) R3).rw;have KJ:(L.map fun n=>(n.fr,n.en)).length=L.length:=by simp
  have qc:=(Fo.covRE (.tsl false 2 (Fo.spans (L.map fun n=>(n.fr,n.en)))) (L.map fun n=>(n.fr,n.en)) (z.fr,z.en) (.rows false) (by omega)).rw;obtain⟨bc,hbc⟩:∃bc,covR (L.map fun n=>(n.fr,n.en)) (z.fr,z.en)=bc:=⟨_,rfl⟩;rw[hbc]at qc;simp only[ck]at qs qg;simp only[aZ]at qg;simp only[Fo.encE]at qc;have tk:∀{α:Type}(f:Nt->α),(L.map f).take L.length=L.map f:=fun f=>by rw[Vm (by simp)]
  have tk2:(Fo.spans (L.map fun n=>(n.fr,n.en))).take L.length=Fo.spans (L.map fun n=>(n.fr,n.en)):=by rw[Vm (by simp[Fo.spans])]
  have sl2:(Fo.spans (L.map fun n=>(n.fr,n.en))).length=L.length:=by simp[Fo.spans]
  have more:∀{e':Int},(e'=0->e=0)->(e'=0->x.ti=J->mi ns t.kd J x)->(e'=0->∀n∈pre++[x],n.ti=J->mi ns t.kd J n):=fun h k h0 n hn hj=>by
   rcases UU.1 hn with h2|h2
   .exact Jz.out (h h0) n h2 hj
   .simp at h2;subst h2;exact k h0 hj
  have moreH:ac (∀{e':Int},(e'=0->e=0)->(e'=0->x.ti=J->mi ns t.kd J x)->(e'=0->∀n∈pre++[x],n.ti=J->mi ns t.kd J n)):=⟨more⟩;have QW:ac (bo=false->L.Pairwise jH):=⟨hbo⟩;have TN:ac (br=true->∀k:Nat,k<L.length->∃x∈L,x.rk=k):=⟨hbr⟩;have hjJ:ac ((j:Int)=J):=⟨hJ⟩;clear h1 hP IZ hL NY hbo hbr hz KJ hbc more R3 hJ;cases k0:(x.ti == J) with
  | false=>
   have I8:ac (x.ti≠J):=⟨by simpa using k0⟩;refine b8 (lk hn) ?_;refine ax (pre++[x],post,e) (UV _) ⟨IW.out,moreH.out (fun h=>h) fun _ h=>absurd h I8.out⟩ ?_ ?_
   .exact aQ
   .exact⟨_,rfl⟩
  | true=>
  rcases kinds4 t.kd with ⟨kk,k1,k3,k4,ka⟩|⟨kk,k1,k3,k4,ka⟩|⟨kk,k1,k3,k4,ka⟩|⟨kk3,kk4,k1,k3,k4⟩
  .have KE:ac (t.kd=1):=⟨kk⟩;clear kk;cases bo with
   | true=>
    simp only[aj,aq,ah,an,UC,UD];repeat' (first|refine dn ?_|refine ad rfl ?_|(refine dI fun A B a b=>?_;simp only[go_sem, *,eY,bC,bp,au hn,k1,k3,k4];(repeat' first|apply a.1|apply b.1|refine aV (fun h=>?_) fun h=>?_)<;>clear a b A B))
    all_goals simp only[go_sem]
    all_goals exact⟨_,rfl,fun h=>by cases h⟩
   | false=>
    have hP:ac (mi ns t.kd J x):=⟨Q5.out.2 ⟨fun _=>QW.out rfl,fun h=>(by rw[KE.out]at h;cases h),fun h=>(by rw[KE.out]at h;cases h)⟩⟩;cases bc with
    | true=>
     simp only[aj,aq,ah,an,UC,UD];repeat' (first|refine dn ?_|refine ad rfl ?_|(refine dI fun A B a b=>?_;simp only[go_sem, *,eY,bC,bp,au hn,k1,k3,k4,sl2];(repeat' first|apply a.1|apply b.1|refine aV (fun h=>?_) fun h=>?_)<;>clear a b A B))
     refine ax (pre++[x],post,e) (UV _) ⟨IW.out,moreH.out (fun h=>h) fun _ _=>hP.out⟩ ?_ ?_
     .exact aQ
     .exact⟨_,rfl⟩
    | false=>
     simp only[aj,aq,ah,an,UC,UD];repeat' (first|refine dn ?_|refine ad rfl ?_|(refine dI fun A B a b=>?_;simp only[go_sem, *,eY,bC,bp,au hn,k1,k3,k4,sl2];(repeat' first|apply a.1|apply b.1|refine aV (fun h=>?_) fun h=>?_)<;>clear a b A B))
     refine ax (pre++[x],post,16) (UV _) ⟨IW.out,moreH.out (fun h=>by cases h) fun _ _=>hP.out⟩ ?_ ?_
     .exact aQ
     .exact⟨_,rfl⟩
  .have KE:ac (t.kd=3):=⟨kk⟩;have MH:ac (tZ t.kd=false):=⟨ka⟩;clear kk;cases br with
   | true=>
    have hP:ac (mi ns t.kd J x):=⟨Q5.out.2 ⟨fun h=>(by rw[MH.out]at h;cases h),fun _=>TN.out rfl,fun h=>by rw[KE.out]at h;cases h⟩⟩;simp only[aj,aq,ah,an,UC,UD];repeat' (first|refine dn ?_|refine ad rfl ?_|(refine dI fun A B a b=>?_;simp only[go_sem, *,eY,bC,bp,au hn,k1,k3,k4];(repeat' first|apply a.1|apply b.1|refine aV (fun h=>?_) fun h=>?_)<;>clear a b A B))
    refine ax (pre++[x],post,e) (UV _) ⟨IW.out,moreH.out (fun h=>h) fun _ _=>hP.out⟩ ?_ ?_
    .exact aQ
    .exact⟨_,rfl⟩
   | false=>
    simp only[aj,aq,ah,an,UC,UD];repeat' (first|refine dn ?_|refine ad rfl ?_|(refine dI fun A B a b=>?_;simp only[go_sem, *,eY,bC,bp,au hn,k1,k3,k4];(repeat' first|apply a.1|apply b.1|refine aV (fun h=>?_) fun h=>?_)<;>clear a b A B))
    refine ax (pre++[x],post,10) (UV _) ⟨IW.out,moreH.out (fun h=>by cases h) fun h=>by cases h⟩ ?_ ?_
    .exact aQ
    .exact⟨_,rfl⟩
  .have KE:ac (t.kd=4):=⟨kk⟩;have MH:ac (tZ t.kd=false):=⟨ka⟩;clear kk;by_cases kl:(1:Int)<(L.length:Int)
   .simp only[aj,aq,ah,an,UC,UD];repeat' (first|refine dn ?_|refine ad rfl ?_|(refine dI fun A B a b=>?_;simp only[go_sem, *,eY,bC,bp,au hn,k1,k3,k4];(repeat' first|apply a.1|apply b.1|refine aV (fun h=>?_) fun h=>?_)<;>clear a b A B))
    refine ax (pre++[x],post,8) (UV _) ⟨IW.out,moreH.out (fun h=>by cases h) fun h=>by cases h⟩ ?_ ?_
    .exact aQ
    .exact⟨_,rfl⟩
   .have hP:ac (mi ns t.kd J x):=⟨Q5.out.2 ⟨fun h=>(by rw[MH.out]at h;cases h),fun h=>(by rw[KE.out]at h;cases h),fun _=>by omega⟩⟩;simp only[aj,aq,ah,an,UC,UD];repeat' (first|refine dn ?_|refine ad rfl ?_|(refine dI fun A B a b=>?_;simp only[go_sem, *,eY,bC,bp,au hn,k1,k3,k4];(repeat' first|apply a.1|apply b.1|refine aV (fun h=>?_) fun h=>?_)<;>clear a b A B))
    refine ax (pre++[x],post,e) (UV _) ⟨IW.out,moreH.out (fun h=>h) fun _ _=>hP.out⟩ ?_ ?_
    .exact aQ
    .exact⟨_,rfl⟩
  .have KE:ac (t.kd≠3/\t.kd≠4):=⟨kk3,kk4⟩;clear kk3 kk4;cases ka:tZ t.kd with
   | false=>
    have MH:ac (tZ t.kd=false):=⟨ka⟩;have hP:ac (mi ns t.kd J x):=⟨Q5.out.2 ⟨fun h=>(by rw[MH.out]at h;cases h),fun h=>absurd h KE.out.1,fun h=>absurd h KE.out.2⟩⟩;simp only[aj,aq,ah,an,UC,UD];repeat' (first|refine dn ?_|refine ad rfl ?_|(refine dI fun A B a b=>?_;simp only[go_sem, *,eY,bC,bp,au hn,k1,k3,k4];(repeat' first|apply a.1|apply b.1|refine aV (fun h=>?_) fun h=>?_)<;>clear a b A B))
    refine ax (pre++[x],post,e) (UV _) ⟨IW.out,moreH.out (fun h=>h) fun _ _=>hP.out⟩ ?_ ?_
    .exact aQ
    .exact⟨_,rfl⟩
   | true=>
    cases bo with
    | true=>
     simp only[aj,aq,ah,an,UC,UD];repeat' (first|refine dn ?_|refine ad rfl ?_|(refine dI fun A B a b=>?_;simp only[go_sem, *,eY,bC,bp,au hn,k1,k3,k4];(repeat' first|apply a.1|apply b.1|refine aV (fun h=>?_) fun h=>?_)<;>clear a b A B))
     all_goals simp only[go_sem]
     all_goals exact⟨_,rfl,fun h=>by cases h⟩
    | false=>
     have hP:ac (mi ns t.kd J x):=⟨Q5.out.2 ⟨fun _=>QW.out rfl,fun h=>absurd h KE.out.1,fun h=>absurd h KE.out.2⟩⟩;simp only[aj,aq,ah,an,UC,UD];repeat' (first|refine dn ?_|refine ad rfl ?_|(refine dI fun A B a b=>?_;simp only[go_sem, *,eY,bC,bp,au hn,k1,k3,k4];(repeat' first|apply a.1|apply b.1|refine aV (fun h=>?_) fun h=>?_)<;>clear a b A B))
     refine ax (pre++[x],post,e) (UV _) ⟨IW.out,moreH.out (fun h=>h) fun _ _=>hP.out⟩ ?_ ?_
     .exact aQ
     .exact⟨_,rfl⟩
end
section
attribute [local irreducible] bB cX cZ aB bS dE
attribute [local go_sem] and_self ck
set_option maxRecDepth 20000
def Hh{S:ab}{b:Nat}{x:dY}(h:S[b]? = some x):∀X,(S++X)[b]? = some x:=fun X=>by
 rw[UN (UK.1 h).1];exact h
def pw_snoc{pre:List Nt}{x:Nt}(h:pre.Pairwise fun a b=>a.id<b.id)(hx:∀y,pre.getLast? = some y->y.id<x.id):(pre++[x]).Pairwise fun a b=>a.id<b.id:=by
 rw[V6];refine⟨h,by simp,fun a ha b hb=>?_⟩;simp at hb;subst hb;rcases fA pre with rfl|⟨p,y,rfl⟩
 .cases ha
 .have h1:=hx y (by simp);rw[V6]at h;rcases UU.1 ha with h2|h2
  .have:=h.2.2 a h2 y (by simp);omega
  .simp at h2;subst h2;exact h1
theorem checkDE{d:Dc}{ts:List Ti}{ns:List Nt}(hd:d.ok ts ns)(hl:ns.length<=300)(Mj:ts.length<=12)(hn:∀x∈ts,x.nm.size<=9223372036854775807)(hx:∀n∈ns,n.tx.size<=9223372036854775807) :
  ∃e,(e=0->lj TX d.len ts ns)/\aB CX 20 [.agg (ck d)] (· = .int .i64 e):=by
 suffices h:aB CX 20 [.agg (ck d)] (fun r=> ∃e,r = .int .i64 e/\(e=0->lj TX d.len ts ns)) by
  obtain⟨r,⟨b,rfl,hb⟩,h⟩:=h.ex;exact⟨b,hb,h⟩
 have c1:=hd.nc;have c2:=hd.tc;have c3:=hd.sc;have p1:=hd.p1;have p2:=hd.p2;have p3:=hd.p3;have s1:=hd.nsn;have s2:=hd.tsn;have s3:=hd.ss;have Mo:=hd.n;have Mi:=hd.t;obtain⟨e1,Oi,q1⟩:=checkE hd.t (by omega) hn;have q1:=q1.rw;cases k1:(e1 == 0) with
 | false=>
  have hz:ac (e1≠0):=⟨by simpa using k1⟩;refine aL fx20 ?_;refine wk ?_;simp only[go_sem];exact⟨_,rfl,fun h=>absurd h hz.out⟩
 | true=>
 have hT:ac (∀(i:Nat) t,ts[i]? = some t->ow i t):=⟨Oi (by simpa using k1)⟩;clear Oi;by_cases k2:d.len<0
 .refine aL fx20 ?_;exact wf
 by_cases k3:86400000<d.len
 .refine aL fx20 ?_;exact wf
 have k4:¬(300:Int)<(ns.length:Int):=by omega
 have hNE:ac (∀(pre:List Nt) (n:Nt) (post:List Nt),ns=pre++n::post->∃e,(e=0->lp TX d.len ts ns n/\(∀y,pre.getLast? = some y->y.id<n.id))/\aB CX 51 [.agg (ck d),.int .i64 pre.length] (· = .int .i64 e)) :=
  ⟨fun pre n post h=>noteE hd h (by omega) (hx n (by rw[h];simp)) (by omega)⟩
 have hTE:ac (∀(j:Nat) (t:Ti),ts[j]? = some t->∃e,(e=0->∀n∈ns,n.ti=j->mi ns t.kd j n)/\aB CX 52 [.agg (ck d),.int .i64 j] (· = .int .i64 e)):=⟨fun j t h=>tierErrE hd (by omega) h⟩;have hb:ac (ns.length<=300/\ts.length<=12):=⟨hl,Mj⟩;clear hn hx hl Mj;refine aL fx20 ?_;refine b8 (lk Mo) ?_;refine aF [2,5,28,29,30,31,32,33,34,35,36,37,38,39,40] 4 ns (fun pre _=>(pre.Pairwise fun a b=>a.id<b.id)/\∀n∈pre,lp TX d.len ts ns n) ?_ ?_ ?_ ?_
 .exact⟨.nil,fun n h=>by cases h⟩
 .exact aQ
 .intro g G hP;have Jz:ac ((ns.Pairwise fun a b=>a.id<b.id)/\∀n∈ns,lp TX d.len ts ns n):=⟨hP⟩;clear hP;obtain⟨GG,NZ⟩:∃GG:ab,[dY.arr [ck d] 7 0 true]++G=GG:=⟨_,rfl⟩;have PJ:GG[0]? = some (.arr [ck d] 7 0 true):=by rw[<-NZ];rfl
  simp only[ck]at NZ PJ;try rw[NZ]
  have hGH:ac (GG[0]? = some (.arr [ck d] 7 0 true)):=⟨by simp only[ck];exact PJ⟩;refine b8 (lk Mo) ?_;clear NZ PJ;refine aF [2,7,41,42,43,44,45,46,47,48,49,50,51,52,53] 6 ts (fun pre _=> ∀(j:Nat) (t:Ti),j<pre.length->ts[j]? = some t->∀n∈ns,n.ti=j->mi ns t.kd j n) ?_ ?_ ?_ ?_
  .intro j t h;simp at h
  .exact aQ
  .intro g2 G2 hQ;have PJ:GG[0]? = some (.arr [ck d] 7 0 true):=hGH.out;have Uq:=Hh PJ;simp only[ck]at Uq
   have hR:ac (lj TX d.len ts ns):=⟨by
    refine⟨hb.out.1,hb.out.2,hT.out,Jz.out.1,Jz.out.2,?_,?_,?_⟩
    all_goals
     intro n hn hk;have ok:=Jz.out.2 n hn;have h0:=ok.ti0;have h1:=ok.tiL
     have ht:ts[n.ti.toNat]? = some (ch ts n.ti):=by
      unfold ch;rw[Ve,UL (by omega)];rfl
     have hq:=hQ n.ti.toNat _ (by omega) ht n hn (by omega);rw[show ((n.ti.toNat:Nat):Int)=n.ti by omega]at hq
    .exact hq.1 hk
    .exact hq.2.1 hk
    .exact hq.2.2 hk⟩
   clear PJ hQ;exact fm (lk Mi)
  .intro g2 G2 pre x post h1 hQ;have ML:ac (∀(j:Nat) (t:Ti),j<pre.length->ts[j]? = some t->∀n∈ns,n.ti=j->mi ns t.kd j n):=⟨hQ⟩;have IZ:pre.length<ts.length:=by rw[h1];simp
   have lt1:(pre.length:Int)<(ts.length:Int):=by omega
   have w1:=am (n:=pre.length) (by have:=hb.out.2;omega);have Kw:ts[pre.length]? = some x:=by rw[h1];simp
   obtain⟨e,he,q⟩:=hTE.out pre.length x Kw;have q:=q.rw;simp only[ck]at q;have IW:ac (ts=pre++x::post):=⟨h1⟩;have Uq:=Hh hGH.out;simp only[ck]at Uq;cases k5:(e == 0) with
   | false=>
    have hz:ac (e≠0):=⟨by simpa using k5⟩;clear h1 hQ IZ he Kw;refine b8 (lk Mi) ?_;simp only[go_sem];exact⟨_,rfl,fun h=>absurd h hz.out⟩
   | true=>
    have hS:ac (∀(j:Nat) (t:Ti),j<(pre++[x]).length->ts[j]? = some t->∀n∈ns,n.ti=j->mi ns t.kd j n):=⟨by
     intro j t hj ht;rw[UG]at hj;by_cases hjp:j<pre.length
     .exact hQ j t hjp ht
     .have:j=pre.length:=by simp at hj;omega
      subst this;rw[Kw]at ht;injection ht with ht;subst ht;exact he (by simpa using k5)⟩
    clear h1 hQ IZ he Kw;refine b8 (lk Mi) ?_;refine aA IW.out hS.out ?_ ?_
    .exact aQ
    .exact dk
 .intro g G pre x post h1 hP;have IZ:pre.length<ns.length:=by rw[h1];simp
  have lt1:(pre.length:Int)<(ns.length:Int):=by omega
  have w1:=am (n:=pre.length) (by have:=hb.out.1;omega);obtain⟨e,he,q⟩:=hNE.out pre x post h1;have q:=q.rw;simp only[ck]at q;have IW:ac (ns=pre++x::post):=⟨h1⟩;cases k5:(e == 0) with
  | false=>
   have hz:ac (e≠0):=⟨by simpa using k5⟩;clear h1 hP IZ he;refine b8 (lk Mo) ?_;simp only[go_sem];exact⟨_,rfl,fun h=>absurd h hz.out⟩
  | true=>
   have hS:ac (((pre++[x]).Pairwise fun a b=>a.id<b.id)/\∀n∈pre++[x],lp TX d.len ts ns n):=⟨by
    have h2:=he (by simpa using k5);refine⟨pw_snoc hP.1 h2.2,fun n hn=>?_⟩;rcases UU.1 hn with h|h
    .exact hP.2 n h
    .simp at h;subst h;exact h2.1⟩
   clear h1 hP IZ he;refine b8 (lk Mo) ?_;refine aA IW.out hS.out ?_ ?_
   .exact aQ
   .exact dk
end
section
attribute [local irreducible] bB cX cZ aB bS dE
attribute [local go_sem] and_self ck
def check11L{v:AV}{l:List Ti}(hv:bq 4 (l.map eW) v)(k:(12:Int)<(l.length:Int)):aB CX 50 [v] (· = .int .i64 11):=by
 have s:=hv.snap;refine aL fx50 ?_;exact fm (lk hv)
theorem Ec{d:Dc}{ts:List Ti}{ns:List Nt}(hd:d.ok ts ns)(hl:ns.length<=1048576)(Mj:ts.length<=1048576)(hn:∀x∈ts,x.nm.size<=1048576)(hx:∀n∈ns,n.tx.size<=1048576) :
  ∃e,(e=0->lj TX d.len ts ns)/\aB CX 20 [.agg (ck d)] (· = .int .i64 e):=by
 have LD:∀x∈ts,x.nm.size<=9223372036854775807:=fun x h=>UQ (hn x h) (by decide);have Kd:∀n∈ns,n.tx.size<=9223372036854775807:=fun x h=>UQ (hx x h) (by decide);by_cases hs:ns.length<=300/\ts.length<=12
 .exact checkDE hd hs.1 hs.2 LD Kd
 refine aB.int ?_;have c1:=hd.nc;have c2:=hd.tc;have c3:=hd.sc;have s1:=hd.nsn;have s2:=hd.tsn;have s3:=hd.ss;have Mo:=hd.n;by_cases k0:(12:Int)<(ts.length:Int)
 .have q1:=(check11L hd.t k0).rw;clear hd;refine aL fx20 ?_;exact wf
 obtain⟨e1,Oi,q1⟩:=checkE hd.t (by omega) LD;have q1:=q1.rw;have k4:(300:Int)<(ns.length:Int):=by omega
 clear hd hn hx LD Kd Oi hs;cases k1:(e1 == 0) with
 | false=>
  have hz:ac (e1≠0):=⟨by simpa using k1⟩;refine aL fx20 ?_;refine wk ?_;simp only[go_sem];exact⟨_,rfl,fun h=>absurd h hz.out⟩
 | true=>
 by_cases k2:d.len<0
 .refine aL fx20 ?_;exact wf
 by_cases k3:86400000<d.len
 .refine aL fx20 ?_;exact wf
 refine aL fx20 ?_;exact fm (lk Mo)
end
section
variable {cs:List gw}{ps:List ij}{v w:AV}
attribute [local irreducible] bB cX cZ aB bS dE
attribute [local go_sem] bi and_self i6 fF
def wl(pre:List gw):Int:=(pre.getLast?.map gw.day).getD 0
def yy(pre:List gw)(c:gw):wl (pre++[c])=c.day:=by simp[wl]
def rP(ps:List ij)(d:Int)(c:gw):Int :=
 if oe ps c.person=true then if 0<=c.rc/\c.rc<=1099511627776 then if 1<=c.day/\c.day<=109573 then if 0<=c.kind/\c.kind<=2 then if d<=c.day then 0 else 10 else 14 else 12 else 2 else 9
def tM(ps:List ij):Int->List gw->Int
 | _,[]=>0
 | d,c::l=>if rP ps d c=0 then tM ps c.day l else rP ps d c
def qB(ps:List ij)(cs:List gw):Int:=if cs.length<=60 then tM ps 0 cs else 11
def adC1{id:Nat}{cs:List AV}:bp id (.agg cs)=(.agg cs,[]):=rfl
def adC2{id:Nat}{b:Bool}:bp id (.bool b)=(.bool b,[]):=rfl
attribute [local go_sem] bC adC1 adC2
def oneC{pre post:List gw}{x:gw}(hv:bq 4 (cs.map i6) v)(hw:bq 3 (ps.map fF) w)(JP:ps.length<=1000)(hc:cs=pre++x::post)(hl:cs.length<=1000) :
  aB CX 117 [w,v,.int .i64 pre.length] (· = .int .i64 (rP ps (wl pre) x)):=by
 have Ow:=hw.snap;have J3:=hv.snap;have i0:=ay hv (X:=CX) ty42 ty127 rfl (n:=pre.length) (row:=i6 x) (k := .i64) (by rw[hc];exact eK i6 pre x post);have q:=(sR w ps x.person hw (by omega)).rw;have IZ:pre.length<cs.length:=by rw[hc];simp
 by_cases k1:oe ps x.person=true
 rotate_left
 .have k1:oe ps x.person=false:=by simpa using k1
  rw[k1]at q;clear hc;refine aL fx117 ?_;refine wk ?_;simp only[go_sem];simp[rP,k1]
 rw[k1]at q;by_cases k2:x.rc<0
 .clear hc;refine aL fx117 ?_;refine wk ?_;simp only[go_sem];simp[rP,k1];omega
 by_cases k3:1099511627776<x.rc
 .clear hc;refine aL fx117 ?_;refine wk ?_;simp only[go_sem];simp[rP,k1];omega
 by_cases k4:x.day<1
 .clear hc;refine aL fx117 ?_;refine wk ?_;simp only[go_sem];simp[rP,k1];omega
 by_cases k5:109573<x.day
 .clear hc;refine aL fx117 ?_;refine wk ?_;simp only[go_sem];simp[rP,k1];omega
 by_cases k6:x.kind<0
 .clear hc;refine aL fx117 ?_;refine wk ?_;simp only[go_sem];simp[rP,k1];omega
 by_cases k7:2<x.kind
 .clear hc;refine aL fx117 ?_;refine wk ?_;simp only[go_sem];simp[rP,k1];omega
 rcases fA pre with rfl|⟨a,y,rfl⟩
 .have z:¬(0:Int)<(([]:List gw).length:Int):=by simp
  clear hc IZ;generalize ([]:List gw).length=n at*;refine aL fx117 ?_;refine wk ?_;simp only[go_sem];simp[rP,k1,wl];omega
 have z:(0:Int)<((a++[y]).length:Int):=by rw[UG];simp;try omega
 have w1:IntKind.wrap .i64 (((a++[y]).length:Int)-1)=(a.length:Int):=by
  rw[wrap_small (by simp at IZ ⊢;try omega) (by simp at IZ ⊢;try omega)];simp
 have i1:=ay hv (X:=CX) ty42 ty127 rfl (n:=a.length) (row:=i6 y) (k := .i64) (by rw[hc,UX];exact eK i6 a y (x::post));rw[yy];clear hc;generalize (a++[y]).length=n at*;by_cases k8:x.day<y.day
 .refine aL fx117 ?_;refine wk ?_;simp only[go_sem];simp[rP,k1];omega
 .refine aL fx117 ?_;refine wk ?_;simp only[go_sem];simp[rP,k1];omega
def cnsR(hv:bq 4 (cs.map i6) v)(hw:bq 3 (ps.map fF) w)(JP:ps.length<=1000):aB CX 59 [w,v] (· = .int .i64 (qB ps cs)):=by
 have Ow:=hw.snap;have J3:=hv.snap;by_cases k1:60<(cs.length:Int)
 .refine aL fx59 ?_;refine b8 (lk hv) ?_;simp only[go_sem];have:¬cs.length<=60:=by omega
  simp[qB,this]
 have hE:qB ps cs=tM ps 0 cs:=by rw[qB,if_pos (by omega)]
 have hl:cs.length<=1000:=by omega
 rw[hE];clear hE;refine aL fx59 ?_;refine b8 (lk hv) ?_;clear k1;refine aF [4,6,10,11,12,13,14,15,16,17,18,19,20,21,22] 5 cs (fun pre post=>tM ps 0 cs=tM ps (wl pre) post) ?_ ?_ ?_ ?_
 .rfl
 .rfl
 .intro g G hE;rw[hE];exact fm (lk hv)
 intro g G pre x post h1 hE;have IZ:pre.length<cs.length:=by rw[h1];simp
 have lt1:(pre.length:Int)<(cs.length:Int):=by omega
 have w1:=am (n:=pre.length) (by omega);have q:=(oneC hv hw JP h1 hl).rw;have IW:ac (cs=pre++x::post):=⟨h1⟩;have JL:ac (tM ps 0 cs=tM ps (wl pre) (x::post)):=⟨hE⟩;clear h1 hE IZ;obtain⟨e,he⟩:∃e,rP ps (wl pre) x=e:=⟨_,rfl⟩;rw[he]at q;have NP:ac (rP ps (wl pre) x=e):=⟨he⟩;clear he;by_cases k2:e=0
 .subst k2;refine b8 (lk hv) ?_;refine aA IW.out ?_ ?_ ?_
  .rw[JL.out,tM,if_pos NP.out,yy]
  .exact aQ
  .exact dk
 .have b1:(e == 0)=false:=beq_false_of_ne k2;refine b8 (lk hv) ?_;simp only[go_sem];rw[JL.out,tM,NP.out,if_neg k2]
theorem atR(p r d:Int)(hv:bq 4 (cs.map i6) v)(hl:cs.length<=1000):aB CX 134 [v,.int .i64 p,.int .i64 r,.int .i64 d] (· = .int .i64 (zH cs p r d)):=by
 refine aL fx134 ?_;refine b8 (lk hv) ?_;refine uk [11,12,13,14,15,16,17,18,19,20,21,22,23,24,25,26,27,28,29,30,31,32,33,34,35,36,37,38,39,40,41,42,43,44,45,46,47,48,49,50,51,52,53,54] 10 (fun pre=>[(9,.int .i64 (zH pre p r d))]) cs (fun _ _=>True) ?_ ?_ ?_ ?_
 .trivial
 .exact aQ
 .intro g G _;exact fm (lk hv)
 intro g G pre x post h1 _;have IZ:pre.length<cs.length:=by rw[h1];simp
 have lt1:(pre.length:Int)<(cs.length:Int):=by omega
 have w1:=am (n:=pre.length) (by omega);have i0:=ay hv (X:=CX) ty42 ty127 rfl (n:=pre.length) (row:=i6 x) (k := .i64) (by rw[h1];exact eK i6 pre x post);have IW:ac (cs=pre++x::post):=⟨h1⟩;have hs:=Em pre x p r d;have hc:hitC p r d x=(((x.person == p) && ((x.rc == 0) || (x.rc == r))) && decide (x.day<=d)):=rfl;clear h1 IZ;generalize zH pre p r d=A at*;cases b1:(x.person == p) with
 | false=>
  have I7:ac (zH (pre++[x]) p r d=A):=⟨by rw[hs,hc,b1];rfl⟩;clear hs hc;refine b8 (lk hv) ?_;refine aA IW.out trivial ?_ ?_
  ·((try simp only[bh,bJ,ah,an,UC,UD]);all_goals (first|rfl|(simp only[aH,aC,UI,I7.out];done)|(simp only[aH,aR,aC,UI,UG,UB,UE,UW,I7.out];first|done|rfl)))
  .exact dk
 | true=>
  by_cases b4:x.day<=d
  .cases b2:(x.rc == 0) with
   | true=>
    have I7:ac (zH (pre++[x]) p r d=x.kind):=⟨by rw[hs,hc,b1,b2];simp[b4]⟩;clear hs hc;refine b8 (lk hv) ?_;refine aA IW.out trivial ?_ ?_
    ·((try simp only[bh,bJ,ah,an,UC,UD]);all_goals (first|rfl|(simp only[aH,aC,UI,I7.out];done)|(simp only[aH,aR,aC,UI,UG,UB,UE,UW,I7.out];first|done|rfl)))
    .exact dk
   | false=>
    cases b3:(x.rc == r) with
    | true=>
     have I7:ac (zH (pre++[x]) p r d=x.kind):=⟨by rw[hs,hc,b1,b2,b3];simp[b4]⟩;clear hs hc;refine b8 (lk hv) ?_;refine aA IW.out trivial ?_ ?_
     ·((try simp only[bh,bJ,ah,an,UC,UD]);all_goals (first|rfl|(simp only[aH,aC,UI,I7.out];done)|(simp only[aH,aR,aC,UI,UG,UB,UE,UW,I7.out];first|done|rfl)))
     .exact dk
    | false=>
     have I7:ac (zH (pre++[x]) p r d=A):=⟨by rw[hs,hc,b1,b2,b3];rfl⟩;clear hs hc;refine b8 (lk hv) ?_;refine aA IW.out trivial ?_ ?_
     ·((try simp only[bh,bJ,ah,an,UC,UD]);all_goals (first|rfl|(simp only[aH,aC,UI,I7.out];done)|(simp only[aH,aR,aC,UI,UG,UB,UE,UW,I7.out];first|done|rfl)))
     .exact dk
  .have I7:ac (zH (pre++[x]) p r d=A):=⟨by rw[hs,hc];simp[b4]⟩;clear hs hc;cases b2:(x.rc == 0) with
   | true=>
    refine b8 (lk hv) ?_;refine aA IW.out trivial ?_ ?_
    ·((try simp only[bh,bJ,ah,an,UC,UD]);all_goals (first|rfl|(simp only[aH,aC,UI,I7.out];done)|(simp only[aH,aR,aC,UI,UG,UB,UE,UW,I7.out];first|done|rfl)))
    .exact dk
   | false=>
    cases b3:(x.rc == r) with
    | true=>
     refine b8 (lk hv) ?_;refine aA IW.out trivial ?_ ?_
     ·((try simp only[bh,bJ,ah,an,UC,UD]);all_goals (first|rfl|(simp only[aH,aC,UI,I7.out];done)|(simp only[aH,aR,aC,UI,UG,UB,UE,UW,I7.out];first|done|rfl)))
     .exact dk
    | false=>
     refine b8 (lk hv) ?_;refine aA IW.out trivial ?_ ?_
     ·((try simp only[bh,bJ,ah,an,UC,UD]);all_goals (first|rfl|(simp only[aH,aC,UI,I7.out];done)|(simp only[aH,aR,aC,UI,UG,UB,UE,UW,I7.out];first|done|rfl)))
     .exact dk
end
section
attribute [local irreducible] bB cX cZ aB bS dE
structure Ru where
 rc:Int
 sp:Int×Int
 lv:Int
 gv:AV
 gl:List Int
 un:Int
def fe(x:Ru):List AV:=[.int .i64 x.rc,.int .i64 x.sp.1,.int .i64 x.sp.2,.int .i64 x.lv,x.gv,.int .i64 x.un]
structure Ru.ok (x:Ru):Prop where
 sl:bq 1 (az x.gl) x.gv
 st:x.gv.stab=true
structure Hm (pv gv cv rv:AV) (ps:List ij) (gs:List eZ) (cs:List gw) (rs:List Ru):Prop where
 p:bq 3 (ps.map fF) pv
 g:bq 4 (gs.map eE) gv
 go:∀g∈gs,g.ok
 gt:∀g∈gs,g.pv.stab=true/\g.sv.stab=true
 c:bq 4 (cs.map i6) cv
 ca:Cb cv=some cs
 r:bq 6 (rs.map fe) rv
 ro:∀x∈rs,x.ok
def fewG(g:eZ):Bool:=decide (g.name.size<=1048576) && decide (g.people.length<=1048576) && decide (g.subs.length<=1048576)
def jC(ps:List ij)(gs:List eZ)(cs:List gw)(rs:List Ru):Bool :=
 decide (ps.length<=50) && decide (gs.length<=25) && decide (cs.length<=65) && decide (rs.length<=65) && ps.all (fun p=>decide (p.name.size<=1048576)) && gs.all fewG && rs.all (fun x=>decide (x.gl.length<=1048576))
end
section
attribute [local irreducible] bB cX cZ aB bS dE
attribute [local go_sem] and_self aR cY fF
def yw(pre:List ij):ij:=pre.getLastD noP
def E9(pre:List ij)(x:ij):Bool:=decide (pre = []) || decide ((yw pre).id<x.id)
def Ik(pre:List ij)(x:ij):Int:=if jA x.id=true then if E9 pre x=true then if yA x.name.data.toList=true then 0 else 7 else 10 else 2
def oX:List ij->List ij->Int
 | _,[]=>0
 | pre,x::post=>if Ik pre x=0 then oX (pre++[x]) post else Ik pre x
def qv(ps:List ij):Int:=if ps.length<=40 then oX [] ps else 11
def E8{w:AV}{ps pre post:List ij}{x:ij}(hw:bq 3 (ps.map fF) w)(hl:ps.length<9223372036854775807)(hg:ps=pre++x::post) :
  (E9 pre x=true/\¬(0:Int)<(pre.length:Int)) \/
  (E9 pre x=true/\¬x.id<=(yw pre).id/\(0:Int)<(pre.length:Int)/\aD CX 40 w (.int .i64 (IntKind.wrap .i64 ((pre.length:Int)-1)))=some (.tptr (jW w) (fF (yw pre)) 0)) \/
  (E9 pre x=false/\x.id<=(yw pre).id/\(0:Int)<(pre.length:Int)/\aD CX 40 w (.int .i64 (IntKind.wrap .i64 ((pre.length:Int)-1)))=some (.tptr (jW w) (fF (yw pre)) 0)):=by
 by_cases hp:pre = []
 .left;exact⟨by simp[E9,hp],by simp[hp]⟩
 .have z0:(0:Int)<(pre.length:Int):=by have:=List.length_pos_iff.mpr hp;omega
  have e:aD CX 40 w (.int .i64 (IntKind.wrap .i64 ((pre.length:Int)-1)))=some (.tptr (jW w) (fF (yw pre)) 0):=hG (f:=fF) (by rw[<-hg];exact hw) (by rw[<-hg];omega) ty40 ty125 rfl noP z0;by_cases hl:x.id<=(yw pre).id
  .right;right;exact⟨by simp[E9,hp];omega,hl,z0,e⟩
  .right;left;exact⟨by simp[E9,hp];omega,hl,z0,e⟩
def GJ{w:AV}{ps:List ij}(hw:bq 3 (ps.map fF) w)(hl:ps.length<9223372036854775807)(hn:∀p∈ps,p.name.size<=1048576):aB CX 56 [w] (· = .int .i64 (qv ps)):=by
 by_cases k1:40<(ps.length:Int)
 .refine aL fx56 ?_;refine b8 (lk hw) ?_;simp only[go_sem];have:¬ps.length<=40:=by omega
  simp[qv,this]
 have l40:ps.length<=40:=by omega
 have hE:qv ps=oX [] ps:=by rw[qv,if_pos l40]
 rw[hE];clear hE;refine aL fx56 ?_;refine b8 (lk hw) ?_;clear k1;refine aF [2,3,10,11,12,13,14,15,16,17,18,19,20,21,22,23,24,25,26,27,28,29,30,31,32,33,34,35,36,37,38,39,40,41,42] 9 ps (fun pre post=>oX [] ps=oX pre post) ?_ ?_ ?_ ?_
 .rfl
 .rfl
 .intro g G hE;rw[hE];exact wf
 intro g G pre x post h1 hE;have i0:=ay hw (X:=CX) ty40 ty125 rfl (n:=pre.length) (row:=fF x) (k := .i64) (by rw[h1];exact eK fF pre x post);have lt1:(pre.length:Int)<(ps.length:Int):=by rw[h1];simp;omega
 have IZ:pre.length<ps.length:=by rw[h1];simp
 have w1:=am (n:=pre.length) (by omega);have Ou:=hn x (by rw[h1];simp);have ho:=E8 hw hl h1;have IW:ac (ps=pre++x::post):=⟨h1⟩;have JL:ac (oX [] ps=oX pre (x::post)):=⟨hE⟩;have qi:=(kR x.id).rw;have ql:=(yz x.name Ou).rw;clear h1 hE l40;simp only[aj,aq,ah,an,UC,UD];by_cases k1:jA x.id=true
 rotate_left
 .have k1:jA x.id=false:=by simpa using k1
  clear ho ql;refine wk ?_;simp only[go_sem];rw[JL.out,oX];simp[Ik,k1]
 rcases ho with ⟨k2,e1⟩|⟨k2,e1,e2,e3⟩|⟨k2,e1,e2,e3⟩
 rotate_right
 .clear ql;refine wk ?_;simp only[go_sem];rw[JL.out,oX];simp[Ik,k1,k2]
 all_goals
  by_cases k3:yA x.name.data.toList=true
  .refine wk ?_;refine aA IW.out ?_ ?_ ?_
   .rw[JL.out,oX];simp[Ik,k1,k2,k3]
   .exact aQ
   .exact dk
  .have k3:yA x.name.data.toList=false:=by simpa using k3
   refine wk ?_;simp only[go_sem];rw[JL.out,oX];simp[Ik,k1,k2,k3]
end
section
attribute [local irreducible] bB cX cZ aB bS dE
attribute [local go_sem] bi and_self fF aR cY
def tV{id:Nat}{cs:List AV}{b:Bool}:dJ id (.tup [.agg cs,.bool b])=(.tup [.agg cs,.bool b],[]):=rfl
attribute [local go_sem] tV
structure lO where
 id:Int
 name:ByteArray
 len:Int
 day:Int
 sv:AV
 sp:List Int
def fE(r:lO):List AV:=[.int .i64 r.id,.str r.name,.int .i64 r.len,.int .i64 r.day,r.sv]
attribute [local go_sem] fE
structure lO.ok (r:lO):Prop where
 sv:bq 1 (az r.sp) r.sv
 st:r.sv.stab=true
def uq(r:lO):Bool:=decide (1<=r.len) && decide (r.len<=86400000)
def DT(r:lO):Bool:=decide (1<=r.day) && decide (r.day<=109573)
def HC(ps:List ij):List Int->List Int->Int
 | _,[]=>0
 | pre,x::post=>if (0:Int)<(pre.length:Int)/\x<=pre.getLastD 0 then 10 else if oe ps x=true then HC ps (pre++[x]) post else 9
def jF(ps:List ij)(r:lO):Int :=
 if jA r.id=true then if sT r.name.data.toList=true then if uq r=true then if DT r=true then if r.sp = [] then 1 else HC ps [] r.sp else 2 else 12 else 7 else 2
theorem checkRr{w:AV}{ps:List ij}(hw:bq 3 (ps.map fF) w)(hl:ps.length<9223372036854775807){r:lO}(hr:r.ok)(hs:r.name.size<=1048576)(KJ:r.sp.length<9223372036854775807) :
  aB CX 112 [w,.agg (fE r)] (· = .int .i64 (jF ps r)):=by
 have c1:=hr.sv.cell;have Ow:=hw.snap;have qi:=(kR r.id).rw;have qn:=(GM r.name (by omega)).rw;cases k1:jA r.id with
 | false=>
  rw[k1]at qi;have e:jF ps r=2:=by rw[jF,k1];rfl
  rw[e];clear e k1;refine aL fx112 ?_;exact wf
 | true=>
 rw[k1]at qi;cases k2:sT r.name.data.toList with
 | false=>
  rw[k2]at qn;have e:jF ps r=7:=by rw[jF,k1,k2];rfl
  rw[e];clear e k1 k2;refine aL fx112 ?_;exact wf
 | true=>
 rw[k2]at qn;by_cases t1:r.len<1
 .have e:jF ps r=12:=by rw[jF,k1,k2];simp[uq];omega
  rw[e];clear e k1 k2;refine aL fx112 ?_;exact wf
 by_cases t2:86400000<r.len
 .have e:jF ps r=12:=by rw[jF,k1,k2];simp[uq];omega
  rw[e];clear e k1 k2;refine aL fx112 ?_;exact wf
 have kt:uq r=true:=by simp[uq];omega
 by_cases d1:r.day<1
 .have e:jF ps r=2:=by rw[jF,k1,k2,kt];simp[DT];omega
  rw[e];clear e k1 k2 kt;refine aL fx112 ?_;exact wf
 by_cases d2:109573<r.day
 .have e:jF ps r=2:=by rw[jF,k1,k2,kt];simp[DT];omega
  rw[e];clear e k1 k2 kt;refine aL fx112 ?_;exact wf
 have kd:DT r=true:=by simp[DT];omega
 by_cases k3:r.sp = []
 .have e:jF ps r=1:=by rw[jF,k1,k2,kt,kd,if_pos k3];rfl
  have z:((r.sp.length:Int) == 0)=true:=by rw[k3];rfl
  rw[e];clear e k1 k2 kt kd k3;refine aL fx112 ?_;exact fm (lk hr.sv)
 have e:jF ps r=HC ps [] r.sp:=by rw[jF,k1,k2,kt,kd,if_neg k3];rfl
 have z:((r.sp.length:Int) == 0)=false:=by simp[k3]
 rw[e];clear e k1 k2 kt kd k3;refine aL fx112 ?_;refine b8 (lk hr.sv) ?_;refine aF [4,5,6,7,40,41,42,43,44,45,46,47,48,49,50,51,52,53,54,55,56,57,58,59,60,61,62,63,64,65,66,67,68,69,70] 39 r.sp (fun pre post=>HC ps [] r.sp=HC ps pre post) ?_ ?_ ?_ ?_
 .rfl
 .exact aQ
 .intro g G hE;rw[hE];exact wf
 intro g G pre x post h1 hE;have i1:=ay hr.sv (X:=CX) ty31 ty3 rfl (by rw[h1];exact dp pre x post) (k := .i64);have i2:=AK (v:=r.sv) (pre:=pre) (x:=x) (post:=post) (by rw[<-h1];exact hr.sv) (by rw[<-h1];exact KJ) (X:=CX) ty31 ty3 rfl (k := .i64);have lt1:(pre.length:Int)<(r.sp.length:Int):=by rw[h1];simp;omega
 have w1:=am (n:=pre.length) (by omega);have q:=(sR w ps x hw hl).rw;have IW:ac (r.sp=pre++x::post):=⟨h1⟩;rw[hE,HC];clear h1 hE;simp only[aj,aq,ah,an,UC,UD];by_cases o:(0:Int)<(pre.length:Int)/\x<=pre.getLastD 0
 .rw[if_pos o];obtain⟨o1,o2⟩:=o;have i2:=i2 o1;exact wf
 .rw[if_neg o];have hx:(¬(0:Int)<(pre.length:Int))\/((0:Int)<(pre.length:Int)/\¬x<=pre.getLastD 0):=by omega
  clear o;rcases hx with o1|⟨o1,o2⟩
  .clear i2;cases k:oe ps x with
   | true=>
    rw[k]at q;rw[if_pos rfl];clear k;repeat' (first|refine dn ?_|refine ad rfl ?_|(refine dI fun A B a b=>?_;simp only[go_sem, *,fE,tV];(repeat' first|apply a.1|apply b.1|refine aV (fun h=>?_) fun h=>?_)<;>clear a b A B))
    refine aA IW.out rfl ?_ ?_
    .exact aQ
    .exact dk
   | false=>
    rw[k]at q;rw[if_neg (by simp)];clear k;repeat' (first|refine dn ?_|refine ad rfl ?_|(refine dI fun A B a b=>?_;simp only[go_sem, *,fE,tV];(repeat' first|apply a.1|apply b.1|refine aV (fun h=>?_) fun h=>?_)<;>clear a b A B))
    simp only[go_sem]
  .have i2:=i2 o1;cases k:oe ps x with
   | true=>
    rw[k]at q;rw[if_pos rfl];clear k;repeat' (first|refine dn ?_|refine ad rfl ?_|(refine dI fun A B a b=>?_;simp only[go_sem, *,fE,tV];(repeat' first|apply a.1|apply b.1|refine aV (fun h=>?_) fun h=>?_)<;>clear a b A B))
    refine aA IW.out rfl ?_ ?_
    .exact aQ
    .exact dk
   | false=>
    rw[k]at q;rw[if_neg (by simp)];clear k;repeat' (first|refine dn ?_|refine ad rfl ?_|(refine dI fun A B a b=>?_;simp only[go_sem, *,fE,tV];(repeat' first|apply a.1|apply b.1|refine aV (fun h=>?_) fun h=>?_)<;>clear a b A B))
    simp only[go_sem]
end
section
attribute [local irreducible] bB cX cZ aB bS dE
def noR:lO:=⟨0,.empty,0,0,.flat (.slice none 0 0),[]⟩
def Di(x r:lO):Bool:=x.name.toList == r.name.toList
def rcF(ps:List ij):List lO->List lO->Int
 | _,[]=>0
 | pre,x::post=>if jF ps x=0 then if (0:Int)<(pre.length:Int)/\x.id<=(pre.getLastD noR).id then 10 else if (pre.any fun y=>Di y x)=true then 8 else rcF ps (pre++[x]) post else jF ps x
def iH(ps:List ij)(rs:List lO):Int:=if rs.length<=12 then rcF ps [] rs else 11
end
section
variable {S:ab}{b:Nat}{x:dY}
attribute [local irreducible] bB cX cZ aB bS dE
attribute [local go_sem] and_self fE aR cY ik
theorem at_app(h:S[b]? = some x):∀X,(S++X)[b]? = some x:=fun X=>by
 rw[UN (UK.1 h).1];exact h
theorem set_app(h:S[b]? = some x):∀X y,(S++X).set b y=S.set b y++X:=fun X y=>by
 rw[WA _ _ (UK.1 h).1]
theorem at_set(h:S[b]? = some x):∀y X,(S.set b y++X)[b]? = some y:=fun y X=>by
 have hl:=(UK.1 h).1;rw[UN (by simpa using hl),Wn hl]
theorem at_new{X:ab}{y:dY}:(S.set b y++X)[S.length]? = X[0]? := by
 have:=bZ (G:=S.set b y) (l:=X);rwa [WV]at this
theorem recsR{w:AV}{ps:List ij}(hw:bq 3 (ps.map fF) w)(hl:ps.length<9223372036854775807)(rs:List lO)(hok:∀x∈rs,x.ok)(hn:∀x∈rs,x.name.size<=1048576)(hs:∀x∈rs,x.sp.length<9223372036854775807)(J5:rs.length<9223372036854775807)(st:Bool) :
  aB CX 57 [w,.tsl st 5 (rs.map fE)] (· = .int .i64 (iH ps rs)):=by
 have hv:bq 5 (rs.map fE) (.tsl st 5 (rs.map fE)) := .rows st;have Ow:=hw.snap;by_cases k1:12<(rs.length:Int)
 .have e:iH ps rs=11:=by rw[iH,if_neg (by omega)]
  rw[e];clear e;refine aL fx57 ?_;exact fm (lk hv)
 have e:iH ps rs=rcF ps [] rs:=by rw[iH,if_pos (by omega)]
 rw[e];clear e;refine aL fx57 ?_;refine b8 (lk hv) ?_;refine aF [4,5,6,7,14,15,16,17,18,19,20,21,22,23,24,25,26,27,28,29,30,31,32,33,34,35,36,37,38,39,40,41,42,43,44,45,46,47,48,49,50,51,52,53,54,55,56,57] 13 rs (fun pre post=>rcF ps [] rs=rcF ps pre post) ?_ ?_ ?_ ?_
 .rfl
 .exact aQ
 .intro g G hE;rw[hE];exact wf
 intro g G pre x post h1 hE;have i1:=ay hv (X:=CX) ty85 ty70 rfl (by rw[h1];exact eK fE pre x post) (k := .i64);have i2:=hG (f:=fE) (v := .tsl st 5 (rs.map fE)) (pre:=pre) (x:=x) (post:=post) (by rw[<-h1];exact hv) (by rw[<-h1];exact J5) (X:=CX) ty85 ty70 rfl noR (k := .i64);have lt1:(pre.length:Int)<(rs.length:Int):=by rw[h1];simp;omega
 have w1:=am (n:=pre.length) (by omega);have hx:=hok x (by rw[h1];simp);have c1:=hx.sv.cell;have s1:=hx.sv.snap;have qk:=(checkRr hw hl hx (hn x (by rw[h1];simp)) (hs x (by rw[h1];simp))).rw
 have LB:(0:Int)<(pre.length:Int)->(pre.getLastD noR).sv.cell=true:=fun h=>by
  rcases fA pre with rfl|⟨p',z,rfl⟩
  .simp at h
  .simp only[List.getLastD_concat];exact(hok z (by rw[h1];simp)).sv.cell
 have IW:ac (rs=pre++x::post):=⟨h1⟩;rw[hE,rcF];clear hE h1;simp only[fE]at qk i2 i1;simp only[aj,aq,ah,an,UC,UD];by_cases k2:jF ps x=0
 .rw[if_pos k2];rw[k2]at qk;clear k2;by_cases o:(0:Int)<(pre.length:Int)/\x.id<=(pre.getLastD noR).id
  .rw[if_pos o];obtain⟨o1,o2⟩:=o;have i2:=i2 o1;have LB:=LB o1;exact wf
  .rw[if_neg o];have hx:(¬(0:Int)<(pre.length:Int))\/((0:Int)<(pre.length:Int)/\¬x.id<=(pre.getLastD noR).id):=by omega
   clear o;rcases hx with o1|⟨o1,o2⟩
   .clear i2 LB;refine wk ?_;refine aJ [4,41,42,43,44,45,46,47,48,49,50,51,52,53,54,55,56] (fun p:List lO×List lO=>[(7,.int .i64 p.1.length)]) (fun _ H=>H) (fun p=>pre=p.1++p.2/\(pre.any fun y=>Di y x)=(p.2.any fun y=>Di y x)) (fun p=>p.2.length) ([],pre) ⟨rfl,rfl⟩ ?_ ⟨_,rfl⟩ ?_
    .exact aQ
    rintro⟨pr,po⟩ g2 G2 ⟨j1,j2⟩;simp only at j1 j2;simp only[aj,aq,ah,an,UC,UD];cases po with
    | nil=>
     have ltn:¬(pr.length:Int)<(pre.length:Int):=by rw[j1,UM];omega
     have ea:(pre.any fun y=>Di y x)=false:=by rw[j2];rfl
     rw[if_neg (by rw[ea];simp)];clear j1 j2 ea;refine wk ?_;refine aA IW.out rfl ?_ ?_
     .exact aQ
     .exact dk
    | cons y po=>
     have lt2:(pr.length:Int)<(pre.length:Int):=by rw[j1];simp;omega
     have hy:=hok y (by rw[IW.out,j1];simp);have cy:=hy.sv.cell;have iy:=ay hv (X:=CX) ty85 ty70 rfl (n:=pr.length) (row:=fE y) (by rw[IW.out,j1];simp) (k := .i64);have w3:=am (n:=pr.length) (by(have:pre.length<rs.length:=by omega);omega);have hj:ac (pre=(pr++[y])++po):=⟨by rw[j1];simp⟩;rw[V4]at j2;simp only[fE]at iy;cases hn:Di y x with
     | true=>
      rw[hn,Wu]at j2;rw[if_pos j2];rw[Di]at hn;clear j1 j2;exact wf
     | false=>
      rw[hn,V9]at j2;rw[Di]at hn;have OS:ac ((pre.any fun y=>Di y x)=(po.any fun y=>Di y x)):=⟨j2⟩;clear j1 j2;refine wk ?_;refine ax (pr++[y],po) (UV _) ⟨hj.out,OS.out⟩ ?_ ⟨_,rfl⟩;exact aQ
   .have i2:=i2 o1;have LB:=LB o1;refine wk ?_;refine aJ [4,41,42,43,44,45,46,47,48,49,50,51,52,53,54,55,56] (fun p:List lO×List lO=>[(7,.int .i64 p.1.length)]) (fun _ H=>H) (fun p=>pre=p.1++p.2/\(pre.any fun y=>Di y x)=(p.2.any fun y=>Di y x)) (fun p=>p.2.length) ([],pre) ⟨rfl,rfl⟩ ?_ ⟨_,rfl⟩ ?_
    .exact aQ
    rintro⟨pr,po⟩ g2 G2 ⟨j1,j2⟩;simp only at j1 j2;simp only[aj,aq,ah,an,UC,UD];cases po with
    | nil=>
     have ltn:¬(pr.length:Int)<(pre.length:Int):=by rw[j1,UM];omega
     have ea:(pre.any fun y=>Di y x)=false:=by rw[j2];rfl
     rw[if_neg (by rw[ea];simp)];clear j1 j2 ea;refine wk ?_;refine aA IW.out rfl ?_ ?_
     .exact aQ
     .exact dk
    | cons y po=>
     have lt2:(pr.length:Int)<(pre.length:Int):=by rw[j1];simp;omega
     have hy:=hok y (by rw[IW.out,j1];simp);have cy:=hy.sv.cell;have iy:=ay hv (X:=CX) ty85 ty70 rfl (n:=pr.length) (row:=fE y) (by rw[IW.out,j1];simp) (k := .i64);have w3:=am (n:=pr.length) (by(have:pre.length<rs.length:=by omega);omega);have hj:ac (pre=(pr++[y])++po):=⟨by rw[j1];simp⟩;rw[V4]at j2;simp only[fE]at iy;cases hn:Di y x with
     | true=>
      rw[hn,Wu]at j2;rw[if_pos j2];rw[Di]at hn;clear j1 j2;exact wf
     | false=>
      rw[hn,V9]at j2;rw[Di]at hn;have OS:ac ((pre.any fun y=>Di y x)=(po.any fun y=>Di y x)):=⟨j2⟩;clear j1 j2;refine wk ?_;refine ax (pr++[y],po) (UV _) ⟨hj.out,OS.out⟩ ?_ ⟨_,rfl⟩;exact aQ
 .rw[if_neg k2];have kb:(jF ps x == 0)=false:=by simpa using k2
  generalize jF ps x=e at k2 kb qk;clear i2 LB k2;exact wf
def hrd(rs:List lO)(n:Int):List Int:=(rs.filter fun r=>r.sp.contains n).map (·.id)
end
section
variable {S T:ab}{X:dY}{b b0 b2:Bool}{gs:List eZ}{l m m':List Int}{n x y:Int}{v:AV}{w w0 w2:Nat}
attribute [local irreducible] bB cX cZ aB bS dE
attribute [local go_sem] U1 Vj List.replicate UC Vp Nat.reduceMul Vg bi eF d9 bP bt ci bN ba aY aS aM aX and_self
def noG:eZ:=⟨0,.empty,[],[],.flat (.slice none 0 0),.flat (.slice none 0 0)⟩
def fnd(gs:List eZ)(n:Int):eZ:=(lG gs n).getD noG
def isG(gs:List eZ)(n:Int):Bool:=(lG gs n).isSome
structure ko (v:AV) (gs:List eZ):Prop where
 sl:bq 4 (gs.map eE) v
 ok:∀g∈gs,g.ok
 st:∀g∈gs,g.pv.stab=true/\g.sv.stab=true
 len:gs.length<=100
 subs:∀g∈gs,g.subs.length<=1050000
 ppl:∀g∈gs,g.people.length<=1050000
def If{g:eZ}(h:lG gs n=some g):g∈gs:=U8 h
theorem fK(gs:List eZ)(n:Int):(isG gs n=false/\fnd gs n=noG)\/(isG gs n=true/\lG gs n=some (fnd gs n)/\fnd gs n∈gs):=by
 unfold isG fnd;cases h:lG gs n with
 | none=>exact .inl ⟨rfl,rfl⟩
 | some g=>exact .inr ⟨rfl,rfl,If h⟩
def vp(h:ko v gs)(n:Int):(fnd gs n).ok:=by
 rcases fK gs n with ⟨_,e⟩|⟨_,_,e⟩
 .rw[e];exact⟨.nil rfl,.nil rfl⟩
 .exact h.ok _ e
def B6(h:ko v gs)(n:Int):(fnd gs n).subs.length<=1050000:=by
 rcases fK gs n with ⟨_,e⟩|⟨_,_,e⟩
 .rw[e];simp[noG]
 .exact h.subs _ e
def B5(h:ko v gs)(n:Int):(fnd gs n).people.length<=1050000:=by
 rcases fK gs n with ⟨_,e⟩|⟨_,_,e⟩
 .rw[e];simp[noG]
 .exact h.ppl _ e
def findU(h:ko v gs)(n:Int):aB CX 293 [v,.int .i64 n] (· = .tup [.agg (eE (fnd gs n)),.bool (isG gs n)]):=by
 have q:=findE v gs n h.sl h.ok h.st (by have:=h.len;omega);refine q.mono fun r hr=>?_;subst hr;unfold fnd isG;cases lG gs n<;>rfl
def bj{id:Nat}{cs:List AV}{b:Bool}:dJ id (.tup [.agg cs,.bool b])=(.tup [.agg cs,.bool b],[]):=rfl
attribute [local go_sem] bj
inductive Cr (gs:List eZ) (n:Int):Int->Prop
 | one {s:Int}(h:s∈(fnd gs n).subs) (hg:isG gs s=true):Cr gs n s
 | step {y s:Int}(hy:Cr gs n y) (h:s∈(fnd gs y).subs) (hg:isG gs s=true):Cr gs n s
theorem Cr.trans(h:Cr gs n x)(h':Cr gs x y):Cr gs n y:=by
 induction h' with
 | one h1 hg=>exact .step h h1 hg
 | step _ h1 hg ih=>exact .step ih h1 hg
structure MOk (gs:List eZ) (m:List Int):Prop where
 nd:m.Nodup
 mem:∀x∈m,isG gs x=true
theorem kq:∀{l k:List Int},l.Nodup->(∀x∈l,x∈k)->l.length<=k.length
 | [],k,_,_=>U9 _
 | x::l,k,h,hs=>by
  have hx:=hs x (by simp);have hn:=List.nodup_cons.mp h;have:=kq (l:=l) (k:=k.erase x) hn.2 fun y hy=>(List.mem_erase_of_ne (by rintro rfl;exact hn.1 hy)).mpr (hs y (by simp[hy]));have e:=List.length_erase_of_mem hx;have:=List.length_pos_of_mem hx;simp only[UB];omega
def MOk.len(h:MOk gs m):m.length<=gs.length:=by
 have:m.length<=(gs.map (·.id)).length:=by
  refine kq h.nd fun x hx=>?_;have:=h.mem x hx;rcases fK gs x with ⟨e,_⟩|⟨_,e,e'⟩
  .rw[e]at this;cases this
  .refine List.mem_map.mpr ⟨_,e',?_⟩;have:=VN e;simpa using this
 simpa using this
def Hu:AV := .fn 314 [.ptr 0 1 1 0 0,.ptr 2 1 1 0 0,.ptr 3 1 1 0 0]
inductive Er (v:AV):List Int->ab->Prop
 | nil (w0 w w2:Nat) (b0 b b2:Bool) (X:dY) (T:ab) (h0:w0<=1) (h:w<=1) (h2:w2<=1):Er v [] (.arr [[v]] 1 w0 b0::X :: .arr [[.flat (.slice none 0 0)]] 1 w b :: .arr [[Hu]] 1 w2 b2::T)
 | cons (w0 w w2:Nat) (b0 b b2:Bool) (x:Int) (m:List Int) (X:dY) (T T':ab) (h0:w0<=1) (h:w<=1) (h2:w2<=1):Er v (x::m) (.arr [[v]] 1 w0 b0::X :: .arr [[.sl (T.length+4) (m.length+1) 0 (m.length+1) 1]] 1 w b :: .arr [[Hu]] 1 w2 b2::(T ++ .arr (az (x::m)) 1 0 true::T'))
theorem Er.get0(h:Er v m S):∃w b,w<=1/\S[0]? = some (.arr [[v]] 1 w b):=by
 cases h with
 | nil w0 w w2 b0 b b2 X T h0 h h2=>exact⟨w0,b0,h0,rfl⟩
 | cons w0 w w2 b0 b b2 x m X T T' h0 h h2=>exact⟨w0,b0,h0,rfl⟩
theorem Er.app(h:Er v m S)(G:ab):Er v m (S++G):=by
 cases h with
 | nil w0 w w2 b0 b b2 X T h0 h h2=>exact .nil w0 w w2 b0 b b2 X (T++G) h0 h h2
 | cons w0 w w2 b0 b b2 x m X T T' h0 h h2=>
  have:=Er.cons (v:=v) w0 w w2 b0 b b2 x m X T (T'++G) h0 h h2;simpa only[UF,UX]using this
def Er.snoc{T':ab}(h0:w0<=1)(h:w<=1)(h2:w2<=1) :
  Er v ((y::m)++[x]) (.arr [[v]] 1 w0 b0::X :: .arr [[.sl (T.length+4) (m.length+1+1) 0 (m.length+1+1) 1]] 1 w b :: .arr [[Hu]] 1 w2 b2::(T ++ .arr (az (y::m)++[[.int .i64 x]]) 1 0 true::T')):=by
 have:=Er.cons (v:=v) w0 w w2 b0 b b2 y (m++[x]) X T T' h0 h h2;rw[aH]at this;have e:az (y::m)++[[.int .i64 x]]=az (y::(m++[x])):=by simp[az]
 rw[e];exact this
def Er.snoc0{i:Nat}{g t:dY}(h0:w0<=1)(h:w<=1)(h2:w2<=1)(hi:i=T.length+6) :
  Er v ([]++[x]) (.arr [[v]] 1 w0 b0::X :: .arr [[.sl i 1 0 1 1]] 1 w b :: .arr [[Hu]] 1 w2 b2::(T++[g,t,.arr [[.int .i64 x]] 1 0 true])):=by
 subst hi;have:=Er.cons (v:=v) w0 w w2 b0 b b2 x [] X (T++[g,t]) [] h0 h h2;simp only[UG,UB,UE,UX,UF,UH]at this;exact this
structure VR (gs:List eZ) (l:List Int) (n:Int) (m m':List Int):Prop where
 ex:∃new,m'=m++new/\(∀x∈new,Cr gs n x)/\∀x∈new,∀s∈(fnd gs x).subs,isG gs s=true->s∈m'
 ok:MOk gs m'
 top:∀s∈l,isG gs s=true->s∈m'
def VR.skip(h:VR gs l n m m')(hx:isG gs x=true->x∈m'):VR gs (l++[x]) n m m' :=
 ⟨h.ex,h.ok,fun s hs hg=>by
  rcases List.mem_append.mp hs with h1|h1
  .exact h.top s h1 hg
  .have:=List.mem_singleton.mp h1;subst this;exact hx hg⟩
def VR.put{m3:List Int}(h:VR gs l n m m')(hs:x∈(fnd gs n).subs)(hg:isG gs x=true)(h':VR gs (fnd gs x).subs x (m'++[x]) m3):VR gs (l++[x]) n m m3:=by
 obtain⟨new,e1,r1,c1⟩:=h.ex;obtain⟨new2,e2,r2,c2⟩:=h'.ex;have hx:x∈m3:=by rw[e2];simp
 have hm:∀y∈m',y∈m3:=fun y hy=>by rw[e2];simp[hy]
 refine⟨⟨new++x::new2,by rw[e2,e1];simp,?_,?_⟩,h'.ok,?_⟩
 .intro y hy;rcases List.mem_append.mp hy with h1|h1
  .exact r1 y h1
  rcases List.mem_cons.mp h1 with h1|h1
  .subst h1;exact .one hs hg
  .exact Cr.trans (.one hs hg) (r2 y h1)
 .intro y hy s h2 h3;rcases List.mem_append.mp hy with h1|h1
  .exact hm _ (c1 y h1 s h2 h3)
  rcases List.mem_cons.mp h1 with h1|h1
  .subst h1;exact h'.top s h2 h3
  .exact c2 y h1 s h2 h3
 .intro s h1 h2;rcases List.mem_append.mp h1 with h1|h1
  .exact hm _ (h.top s h1 h2)
  .have:=List.mem_singleton.mp h1;subst this;exact hx
def MOk.put(h:MOk gs m)(hx:x∉m)(hg:isG gs x=true):MOk gs (m++[x]):=by
 refine⟨?_,fun y hy=>?_⟩
 .rw[Xo];refine⟨h.nd,by simp,fun a ha b hb=>?_⟩;have:=List.mem_singleton.mp hb;subst this;intro e;subst e;exact hx ha
 .rcases List.mem_append.mp hy with h1|h1
  .exact h.mem y h1
  .have:=List.mem_singleton.mp h1;subst this;exact hg
theorem visitE(h:ko v gs):∀(k:Nat) (n:Int) (m:List Int) (S:ab),gs.length<=m.length+k->MOk gs m->Er v m S ->
  bS CX 314 [.int .i64 n,.ptr 0 1 1 0 0,.ptr 2 1 1 0 0,.ptr 3 1 1 0 0] S (fun r S'=>r = .tup []/\∃m',Er v m' S'/\VR gs (fnd gs n).subs n m m'):=by
 intro k
 induction k using Nat.strongRecOn with
 | _ k ih=>
 intro n m S hk hm hS;have q:=(findU h n).rw;have hv:=h.sl.cell;have J3:=fun S=>h.sl.snap (S:=S);have g0:=vp h n;have p1:=g0.pv.cell;have p2:=g0.sv.cell;have hl:=B6 h n;have f0:=hS.get0;obtain⟨w0,b0,Pv,f0⟩:=f0;refine tY fx314 ?_;simp only[UB,UE,UF,UH,Nat.reduceAdd,Nat.reduceSub,List.replicate];repeat' (first|refine dn ?_|refine ad rfl ?_|(refine gh fun A B a b=>?_;simp only[go_sem, *,bj,eE,au g0.sv,aR,cY];(repeat' first|apply a.1|refine aV (fun h=>?_) fun h=>?_)<;>clear a b A B))
 clear q f0
 refine aJ [8,9,10,21,22,23,24,25,26,27,28,29,30,31,32,33,34,35,36,37,38,39,40,41,42,43,44] (fun p:List Int×List Int×List Int×ab=>[(20,.int .i64 p.1.length)]) (fun p _=>p.2.2.2)
  (fun p=>(fnd gs n).subs=p.1++p.2.1/\Er v p.2.2.1 p.2.2.2/\VR gs p.1 n m p.2.2.1) (fun p=>p.2.1.length) ([],(fnd gs n).subs,m,_) ⟨rfl,hS.app _,⟨[],by simp,by simp,by simp⟩,hm,by simp⟩ ?_ ⟨[],rfl⟩ ?_
 .rfl
 rintro⟨pre,post,m1,S1⟩ g G ⟨h1,h2,h3⟩;simp only at h1 h2 h3;simp only[aj,aq,ah,an,UC,UD];have l0:=h3.ok.len;have l1:m.length<=m1.length:=by obtain⟨nw,e,_⟩:=h3.ex;rw[e];simp
 have Kr:=h.len;cases post with
 | nil=>
  rw[UM]at h1;have e:((fnd gs n).subs.length:Int)=(pre.length:Int):=by rw[h1]
  have hh:ac ((fnd gs n).subs=pre):=⟨h1⟩;clear h1;refine wk ?_;simp only[go_sem];refine⟨m1,h2,?_⟩;rw[hh.out];exact h3
 | cons x post=>
  have i1:=ay g0.sv (X:=CX) ty31 ty3 rfl (by rw[h1];exact dp pre x post) (k := .i64);have lt1:(pre.length:Int)<((fnd gs n).subs.length:Int):=by rw[h1];simp;omega
  have w1:=am (n:=pre.length) (by rw[h1]at hl;simp at hl;omega);have q:=(findU h x).rw;have g1:=vp h x;have c1:=g1.pv.cell;have c2:=g1.sv.cell;have Lw:x∈(fnd gs n).subs:=by rw[h1];simp
  have hh:ac ((fnd gs n).subs=(pre++[x])++post):=⟨by rw[h1];simp⟩;clear h1;by_cases hg:isG gs x=true
  .rw[hg]at q;have Nv:ac (isG gs x=true):=⟨hg⟩;clear hg;cases h2 with
   | nil w0 w w2 b0 b b2 X T h0 hw h2=>
    have qh:=(FD (.flat (.slice none 0 0)) [] x (.nil rfl) (by simp)).rw;have ec:([]:List Int).contains x=false:=rfl;rw[ec]at qh;repeat' (first|refine dn ?_|refine ad rfl ?_|(refine gh fun A B a b=>?_;simp only[go_sem, *,bj,eE,aR,cY];(repeat' first|apply a.1|refine aV (fun h=>?_) fun h=>?_)<;>clear a b A B))
    (refine kB fun A B hA hB=>?_;simp only[go_sem, *,aR,cY];first|(refine hA.out ?_;clear hA hB A B)|(refine hB.out ?_;clear hA hB A B))
    repeat' (first|refine dn ?_|refine ad rfl ?_|(refine gh fun A B a b=>?_;simp only[go_sem, *,bj,eE,aR,cY];(repeat' first|apply a.1|refine aV (fun h=>?_) fun h=>?_)<;>clear a b A B))
    (refine kB fun A B hA hB=>?_;simp only[go_sem, *,aR,cY];first|(refine hA.out ?_;clear hA hB A B)|(refine hB.out ?_;clear hA hB A B))
    repeat' (first|refine dn ?_|refine ad rfl ?_|(refine gh fun A B a b=>?_;simp only[go_sem, *,bj,eE,aR,cY];(repeat' first|apply a.1|refine aV (fun h=>?_) fun h=>?_)<;>clear a b A B))
    simp only[UE]at l1;have lm:=(h3.ok.put (x:=x) (by simp) Nv.out).len;simp only[UG,UB,UE]at lm;refine bK fun K hK=>?_;simp only[go_sem,Hu];refine bS.mono (ih (k-1) (by omega) x ([]++[x]) _ (by simp;omega) (h3.ok.put (x:=x) (by simp) Nv.out) (.snoc0 (i:=T.length+6) h0 (UJ _) h2 rfl)) ?_;rintro r S2 ⟨rfl,m3,s3,v3⟩;refine hK.out _ _ ?_;clear hK K;refine wk ?_;refine ax (pre++[x],post,m3,_) (UV _) ⟨hh.out,s3,h3.put Lw Nv.out v3⟩ ?_ ⟨[],rfl⟩
    .exact aQ
   | cons w0 w w2 b0 b b2 y m X T T' h0 hw h2=>
    have qh:=(FD (.tsl false 1 (az (y::m))) (y::m) x (.rows false) (by omega)).rw;by_cases hc:(y::m).contains x=true
    .rw[hc]at qh;have RN:ac ((y::m).contains x=true):=⟨hc⟩;clear hc;repeat' (first|refine dn ?_|refine ad rfl ?_|(refine dI fun A B a b=>?_;simp only[go_sem, *,bj,eE,aR,cY];(repeat' first|apply a.1|apply b.1|refine aV (fun h=>?_) fun h=>?_)<;>clear a b A B))
     refine ax (pre++[x],post,y::m,_) (UV _) ⟨hh.out,.cons _ _ _ _ _ _ y m _ T _ h0 hw h2,h3.skip (fun _=>by simpa using RN.out)⟩ ?_ ⟨[],rfl⟩
     .exact aQ
    .have hc:(y::m).contains x=false:=by simpa using hc
     rw[hc]at qh;have RN:ac ((y::m).contains x=false):=⟨hc⟩;clear hc;simp only[UB]at l0;obtain⟨a1,a2⟩:=app1 (n:=m.length+1) (by omega);have a3:(az (y::m)).length=m.length+1:=by rw[aC];rfl
     repeat' (first|refine dn ?_|refine ad rfl ?_|(refine gh fun A B a b=>?_;simp only[go_sem, *,bj,eE,aR,cY];(repeat' first|apply a.1|refine aV (fun h=>?_) fun h=>?_)<;>clear a b A B))
     (refine kB fun A B hA hB=>?_;simp only[go_sem, *,aR,cY];first|(refine hA.out ?_;clear hA hB A B)|(refine hB.out ?_;clear hA hB A B))
     repeat' (first|refine dn ?_|refine ad rfl ?_|(refine gh fun A B a b=>?_;simp only[go_sem, *,bj,eE,aR,cY];(repeat' first|apply a.1|refine aV (fun h=>?_) fun h=>?_)<;>clear a b A B))
     (refine kB fun A B hA hB=>?_;simp only[go_sem, *,aR,cY];first|(refine hA.out ?_;clear hA hB A B)|(refine hB.out ?_;clear hA hB A B))
     repeat' (first|refine dn ?_|refine ad rfl ?_|(refine gh fun A B a b=>?_;simp only[go_sem, *,bj,eE,aR,cY];(repeat' first|apply a.1|refine aV (fun h=>?_) fun h=>?_)<;>clear a b A B))
     simp only[UB]at l1;have lm:=(h3.ok.put (x:=x) (by simpa using RN.out) Nv.out).len;simp only[UG,UB,UE]at lm;refine bK fun K hK=>?_;simp only[go_sem,Hu];refine bS.mono (ih (k-1) (by omega) x ((y::m)++[x]) _ (by simp;omega) (h3.ok.put (x:=x) (by simpa using RN.out) Nv.out) (.snoc h0 (UJ _) h2)) ?_;rintro r S2 ⟨rfl,m3,s3,v3⟩;refine hK.out _ _ ?_;clear hK K;refine wk ?_;refine ax (pre++[x],post,m3,_) (UV _) ⟨hh.out,s3,h3.put Lw Nv.out v3⟩ ?_ ⟨[],rfl⟩
     .exact aQ
  .have hg:isG gs x=false:=by simpa using hg
   rw[hg]at q;have Nv:ac (isG gs x=false):=⟨hg⟩;clear hg;obtain⟨w9,b9,hw9,f0⟩:=h2.get0;repeat' (first|refine dn ?_|refine ad rfl ?_|(refine dI fun A B a b=>?_;simp only[go_sem, *,bj,eE,aR,cY];(repeat' first|apply a.1|apply b.1|refine aV (fun h=>?_) fun h=>?_)<;>clear a b A B))
   refine ax (pre++[x],post,m1,_) (UV _) ⟨hh.out,h2.app _,h3.skip (fun e=>by rw[Nv.out]at e;cases e)⟩ ?_ ⟨[],rfl⟩
   .exact aQ
end
end Go.Eng
