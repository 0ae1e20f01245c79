/- What stays: the greatest set of entries that attest themselves (plain). -/
import Derived.Test.YtkahfcmeeloikaaGreatDoorZ23
set_option linter.all false
set_option maxHeartbeats 8000000
namespace Go.Eng
open Go.Proofs
section
variable {S S' T:List Int}{d:lO}{day n pe:Int}{ds Rk l:List Dq}{r:Ru}{v:AV}
def Hp(p:Pr)(Rd:ByteArray->Option (List Int))(r:Rf):Option (List Int):=match eu p.ds r.1 with
 | none=>none
 | some d=>match cO d.ns r.2 with
  | none=>none
  | some n=>if n.ti=dP 2 d.ts 0 then Rd n.tx else none
structure xg where
 rd:ByteArray->Option (List Int)
 lf:List Int->List Int
 sh:Bool
def Ek(p:Pr)(R:xg)(S:List Int)(id:Int)(r:Rf):Bool:=(fc (gB S p.g.xs) id).isSome && match Hp p R.rd r with
 | none=>false
 | some w=>jv (zR S p.g) R.lf R.sh w id
noncomputable def wR(p:Pr)(pe day:Int)(R:xg)(S:List Int)(e:En):Bool:=e.rl.any fun r=>g8 p pe day r && Ek p R S e.id r
structure CloP (p:Pr) (pe day:Int) (R:xg) (T:List Int):Prop where
 ids:∀x∈T,∃e∈p.g.xs,e.id=x
 sen:∀e∈p.g.xs,e.id∈T->e.sl≠[]\/e.ma∈T
 att:∀e∈p.g.xs,e.id∈T->wR p pe day R T e=true
structure sq (p:Pr) (pe day:Int) (R:xg) (S:List Int):Prop where
 clo:CloP p pe day R S
 top:∀T,CloP p pe day R T->∀x∈T,x∈S
def Ic(X:List En):(fc (gB S X) n).isSome=(decide (n∈S) && (fc X n).isSome):=by
 unfold fc;rw[tE];by_cases k:n∈S
 .rw[if_pos k];simp[k]
 .rw[if_neg k];simp[k]
theorem IL{p:Pr}{R:xg}(h:∀x∈S,x∈T){id:Int}{r:Rf}(h0:Ek p R S id r=true):Ek p R T id r=true:=by
 unfold Ek at h0 ⊢;rw[Ic,UT,UT,decide_eq_true_eq]at h0 ⊢;refine⟨⟨h _ h0.1.1,h0.1.2⟩,?_⟩;cases hw:Hp p R.rd r with
 | none=>rw[hw]at h0;exact h0.2
 | some w=>rw[hw]at h0;exact Hv h h0.2
def IM{p:Pr}{R:xg}(h:∀x∈S,x∈T){e:En}(h0:wR p pe day R S e=true):wR p pe day R T e=true:=by
 unfold wR at h0 ⊢;rw[VQ]at h0 ⊢;obtain⟨r,hr,h1⟩:=h0;rw[UT]at h1;exact⟨r,hr,by rw[UT];exact⟨h1.1,IL h h1.2⟩⟩
def Pr.more(p:Pr)(v:AV)(r:Ru):Pr:={ p with rv:=v,rs:=p.rs++[r] }
def CM(ps:List ij)(gs:List eZ)(cs:List gw)(rs:List Ru)(r:lO)(pe day:Int):ee (sI ps gs cs rs r pe day):=by
 unfold sI;split
 .split
  .exact fo
  .exact(oJ _ _).1
 .exact fo
def Gt{ps:List ij}{gs:List eZ}{cs:List gw}{r:lO}(a:List Ru)(x:Ru)(t:Int)(ht:Tm (sI ps gs cs (a++[x]) r pe day) t):Tm (sI ps gs cs a r pe day) t:=by
 unfold sI at ht ⊢;by_cases k1:qP ps cs r pe day=0
 case neg=>rw[if_neg k1]at ht;exact absurd ht cQ
 rw[if_pos k1]at ht ⊢
 have hm:∀y∈a.filter (iQ ps gs r pe day),y∈(a++[x]).filter (iQ ps gs r pe day):=fun y hy=>by
  rw[Va];exact V5 _ hy
 by_cases z:((a++[x]).filter (iQ ps gs r pe day)).any gZ=true
 .rw[if_pos z]at ht;exact absurd ht cQ
 rw[if_neg z]at ht
 have z2:¬(a.filter (iQ ps gs r pe day)).any gZ=true:=fun e=>z (by
  obtain⟨y,hy,hz⟩:=VQ.1 e;exact VQ.2 ⟨y,hm y hy,hz⟩)
 rw[if_neg z2];rw[(oJ _ _).2]at ht ⊢;refine⟨ht.1,fun k=>ht.2 ?_⟩;obtain⟨y,hy,h1,h2⟩:=k;obtain⟨hy1,hy2⟩:=VE.1 hy;obtain⟨u,hu,rfl⟩:=UZ.1 hy1;exact⟨_,VE.2 ⟨UZ.2 ⟨u,hm u hu,rfl⟩,hy2⟩,h1,h2⟩
def zg{p:Pr}(s:Int×Int)(h:oa (sI p.ps p.gs p.cs (p.rs++[r]) d pe day) s=true):oa (sI p.ps p.gs p.cs p.rs d pe day) s=true:=by
 rw[DV]at h ⊢;refine⟨h.1,fun t h1 h2=>?_⟩;have h3:=h.2 t h1 h2;rw[Hl (CM ..)]at h3 ⊢;exact Gt _ _ _ h3
def sp_none{p:Pr}(h:sI p.ps p.gs p.cs p.rs d pe day = []):sI p.ps p.gs p.cs (p.rs++[r]) d pe day = []:=by
 rw[yf (CM ..)]at h ⊢;exact fun t ht=>h t (Gt _ _ _ ht)
theorem AA{p:Pr}{x:Rf}(h:g8 (p.more v r) pe day x=true):g8 p pe day x=true:=by
 unfold g8 at h ⊢;have e:eu (p.more v r).ds x.1=eu p.ds x.1:=rfl;rw[e]at h;cases hd:eu p.ds x.1 with
 | none=>rw[hd]at h;exact h
 | some d=>
  rw[hd]at h;exact pE (fun s hs=>zg s hs) h
def clo_less{p:Pr}{R:xg}(h:CloP (p.more v r) pe day R T):CloP p pe day R T where
 ids:=h.ids
 sen:=h.sen
 att e he hT:=by
  have h1:=h.att e he hT;unfold wR at h1 ⊢;rw[VQ]at h1 ⊢;obtain⟨x,hx,h2⟩:=h1;rw[UT]at h2;exact⟨x,hx,by rw[UT];exact⟨AA h2.1,h2.2⟩⟩
def ut{p:Pr}{R:xg}(h':sq (p.more v r) pe day R S')(h:sq p pe day R S):∀x∈S',x∈S:=h.top S' (clo_less h'.clo)
noncomputable def gk(p:Pr)(pe day:Int)(ds:List Dq)(r:Rf):Bool:=g8 p pe day r && match eu ds r.1 with
 | none=>false
 | some d=>(cO d.ns r.2).isSome
noncomputable def nV(p:Pr)(pe day:Int)(d:Dq):List (Int×Int):=sI p.ps p.gs p.cs p.rs d.r pe day
structure VwOK (p:Pr) (pe day:Int) (R:xg) (S:List Int) (ds:List Dq):Prop where
 st:sq p pe day R S
 doc:∀d'∈ds,∃d∈p.ds,d'.r=d.r/\d'.ts=d.ts/\nV p pe day d≠[]/\zO d.ts d.ns (nV p pe day d) (nH p S d.r.id) d'.ns
 all:∀d∈p.ds,nV p pe day d≠[]->∃d'∈ds,d'.r.id=d.r.id
theorem pT{α:Type}{f g:α->Bool}(h:∀x,f x=true->g x=true):∀l:List α,(l.filter f).length<=(l.filter g).length
 | []=>UJ _
 | x::l=>by
  have ih:=pT h l;simp only[Vy];by_cases k:f x=true
  .simp[k,h x k];exact ih
  .by_cases k2:g x=true
   .simp[k,k2];omega
   .simp[k,k2];exact ih
def Am(h:∀x∈S,x∈T){l:List Pt3}(h0:eN S l=true):eN T l=true:=by
 unfold eN at h0 ⊢;rw[Vb]at h0 ⊢;exact fun x hx=>by have:=h0 x hx;simp only[decide_eq_true_eq]at this ⊢;exact h _ this
theorem dq_eq(h:l.Pairwise fun a b=>a.r.id<b.r.id){a b:Dq}(ha:a∈l)(hb:b∈l)(e:a.r.id=b.r.id):a=b:=by
 induction l with
 | nil=>cases ha
 | cons x l ih=>
  rw[Wx]at h;rcases U2.1 ha with ha|ha<;>rcases U2.1 hb with hb|hb
  .rw[ha,hb]
  .have:=h.1 _ hb;rw[<-ha,e]at this;omega
  .have:=h.1 _ ha;rw[<-hb,e]at this;omega
  .exact ih h.2 ha hb
def rF{d:Dq}(h:eu l n=some d):d∈l/\d.r.id=n:=⟨U8 h,by simpa using VN h⟩
theorem DD{d:Dq}(h:d∈l):∃e,eu l d.r.id=some e:=by
 cases hg:eu l d.r.id with
 | some e=>exact⟨e,rfl⟩
 | none=>
  have:=WI.1 hg d h;simp at this
theorem DQ{p:Pr}{R:xg}(hp:p.ds.Pairwise fun a b=>a.r.id<b.r.id)(hu:∀d∈p.ds,Up d.ts.length d.ns)(h:VwOK p pe day R S ds)(h':VwOK (p.more v r) pe day R S' Rk){d':Dq}(O8:d'∈Rk) :
  ∃d,eu ds d'.r.id=some d/\∀m'∈d'.ns,∃m,cO d.ns m'.id=some m/\(m'.tx≠.empty->m.tx=m'.tx):=by
 obtain⟨o,ho,e1,e2,e3,e4⟩:=h'.doc d' O8;have ho:o∈p.ds:=ho;have hs:nV p pe day o≠[]:=fun e=>e3 (sp_none e);obtain⟨d0,hd0,e5⟩:=h.all o ho hs;obtain⟨d,hd⟩:=DD hd0;rw[e5,<-e1]at hd;obtain⟨Nf,TF⟩:=rF hd;obtain⟨o2,Nr,f1,f2,f3,f4⟩:=h.doc d Nf;obtain rfl:=dq_eq hp ho Nr (by rw[<-f1,TF,e1]);refine⟨d,hd,fun m' RG=>?_⟩
 have hb:∀w,nH p S o.r.id w=true->nH (p.more v r) S' o.r.id w=true:=fun w hw=>by
  unfold nH at hw ⊢;have e:iT (p.more v r).es o.r.id w=iT p.es o.r.id w:=rfl;rw[e];cases K2:iT p.es o.r.id w with
  | none=>rw[K2]at hw;exact hw
  | some a=>
   rw[K2]at hw;cases JM:eN S' a.pl with
   | false=>simp[JM]
   | true=>have h9:=Am (ut h'.st h.st) JM;simp[h9]at hw
 obtain⟨m,hm,g1,g2⟩:=Is (L':=nV (p.more v r) pe day o) (L:=nV p pe day o) (hu o ho) (fun s hs=>zg (p:=p) (r:=r) s hs) hb e4 f4 m' RG;exact⟨m,by rw[<-g1];exact eQ (DR (hu o ho) f4) m hm,g2⟩
theorem C6{p:Pr}{R:xg}(hp:p.ds.Pairwise fun a b=>a.r.id<b.r.id)(hu:∀d∈p.ds,Up d.ts.length d.ns)(h:VwOK p pe day R S ds)(h':VwOK (p.more v r) pe day R S' Rk)(x:Rf)(h0:gk (p.more v r) pe day Rk x=true):gk p pe day ds x=true:=by
 unfold gk at h0 ⊢;rw[UT]at h0 ⊢;refine⟨AA h0.1,?_⟩;have h0:=h0.2;cases hd:eu Rk x.1 with
 | none=>rw[hd]at h0;cases h0
 | some d'=>
  rw[hd]at h0;obtain⟨hm,hi⟩:=rF hd;obtain⟨d,h1,h2⟩:=DQ hp hu h h' hm;rw[hi]at h1;rw[h1];have h0:(cO d'.ns x.2).isSome=true:=h0;cases hn:cO d'.ns x.2 with
  | none=>rw[hn]at h0;cases h0
  | some n=>
   obtain⟨n1,n2⟩:=xd hn;obtain⟨m,h3,_⟩:=h2 n n1;rw[n2]at h3;show (cO d.ns x.2).isSome=true;rw[h3];rfl
end
section
def zc(l:List En)(n:Int):Nat->Option Nat
 | k=>match l with
  | []=>none
  | e::l=>if e.id=n then some k else zc l n (k+1)
theorem Iq(xs:List En)(n:Int):∀k,(zc xs n k=none/\fc xs n=none)\/∃a e b,xs=a++e::b/\zc xs n k=some (k+a.length)/\fc xs n=some e:=by
 induction xs with
 | nil=>intro k;exact .inl ⟨rfl,rfl⟩
 | cons x xs ih=>
  intro k;by_cases h:x.id=n
  .refine .inr ⟨[],x,xs,rfl,?_,?_⟩
   .rw[zc,if_pos h];rfl
   .simp[fc,h]
  .have e:fc (x::xs) n=fc xs n:=by simp[fc,h]
   rw[zc,if_neg h,e];rcases ih (k+1) with ⟨h1,h2⟩|⟨a,g,b,h1,h2,h3⟩
   .exact .inl ⟨h1,h2⟩
   .exact .inr ⟨x::a,g,b,by rw[h1];rfl,by rw[h2];simp;omega,h3⟩
attribute [local irreducible] bB cX cZ aB bS dE
attribute [local go_sem] bi and_self aG
def get1M(e:En)(n:Int)(st:Bool)(h:e.ok):aB CX 202 [.agg (aG e),.tptr st [.int .i64 n] 0] (· = .bool (e.id == n)):=by
 obtain⟨c1,c2,c3,c4,c5⟩:=h.cells;refine aL fx202 ?_;exact wf
theorem idxEnM{v:AV}{xs:List En}(n:Int)(st:Bool)(hv:bq 8 (xs.map aG) v)(h:∀e∈xs,e.ok)(hl:xs.length<9223372036854775807):aB CX 201 [v,.fn 202 [.tptr st [.int .i64 n] 0]] (· = .int .i64 (eX (zc xs n 0))):=by
 have hs:∀S,snap S (.tptr st [.int .i64 n] 0)=some (.tptr st [.int .i64 n] 0):=fun S=>by simp only[snap]
 have b1:CX.byRef 202=false:=br202;have L1:=@au _ _ _ hv;have hh:ac (∀e∈xs,e.ok):=⟨h⟩;clear h;refine aL fx201 ?_;refine wk ?_;refine iD [4,5,9,10,11,12,13,14,15,16,17,18] 8 xs (fun pre post=>zc xs n 0=zc post n pre.length) hv hl ty34 ty66 rfl ?_ ?_
 .intro g G h2;rw[h2];clear h2;exact wf
 .intro g G pre x post IW lt1 w1 i1 h2;have hx:=hh.out x (by rw[IW.out];simp);obtain⟨c1,c2,c3,c4,c5⟩:=hx.cells;have s1:=hx.f.snap;have s2:=hx.a.snap;have s3:=hx.s.snap;have s4:=hx.l.snap;have s5:=hx.r.snap;have q:=(get1M x n st hx).rw;simp only[aG]at q;rw[zc]at h2;cases hk:(x.id == n) with
  | true=>
   rw[hk]at q;rw[if_pos (by simpa using hk)]at h2;rw[h2];clear h2 hx;exact wf
  | false=>
   rw[hk]at q;rw[if_neg (by simpa using hk)]at h2;have hP:ac (zc xs n 0=zc post n (pre++[x]).length):=⟨by rw[h2];simp⟩;clear h2 hx;exact wf
def getEnM{v:AV}{xs:List En}(n:Int)(hv:bq 8 (xs.map aG) v)(h:∀e∈xs,e.ok)(hl:xs.length<9223372036854775807):aB CX 166 [v,.int .i64 n] (· = jM (fc xs n)):=by
 have q:=(idxEnM n false hv h hl).rw
 have hs:∀(C:ab),snap (.arr [[.int .i64 n]] 1 0 true::C) (.ptr 0 1 1 0 0)=some (.tptr false [.int .i64 n] 0):=fun C=>by
  simp[snap,g9,jP,AV.clean]
 have s0:=hv.snap;rcases Iq xs n 0 with ⟨h1,h2⟩|⟨a,x,b,h1,h2,h3⟩
 .rw[h2];rw[h1]at q;have z:(-1:Int)<0:=by omega
  have e:eX none = -1:=rfl;rw[e]at q;clear h1 h2 h;refine aL fx166 ?_;refine wk ?_;simp only[go_sem];exact(jD (Gf _)).mpr rfl
 .rw[h3];rw[h2]at q;have K7:a.length<xs.length:=by rw[h1];simp
  have z:¬((a.length:Nat):Int)<0:=by omega
  have e:eX (some (0+a.length))=((a.length:Nat):Int):=by simp[eX]
  rw[e]at q;have hx:=h x (by rw[h1];simp);obtain⟨c1,c2,c3,c4,c5⟩:=hx.cells;have i1:=ay hv (X:=CX) ty34 ty66 rfl (n:=a.length) (row:=aG x) (k := .i64) (by rw[h1];simp);clear h1 h2 h e;refine aL fx166 ?_;refine wk ?_;simp only[go_sem];exact(jD (hx.exp _)).mpr rfl
end
section
variable {R:xg}{S:ab}{x:AV}
structure Lg.uok (g:Lg) (R:xg):Prop where
 ok:g.ok
 stb:g.stb
 rd:RdOK g R.rd
 use:∀w id,w.length<=24->aB CX 342 [.agg (fU g),.tsl true 1 (az w),.int .i64 id] (· = .bool (jv g R.lf R.sh w id))
 x:g.xs.length<=1000000
structure Pr.vok (p:Pr) (R:xg):Prop where
 ok:p.ok
 few:jC p.ps p.gs p.cs p.rs=true
 docs:DocsOK p
 dl:p.ds.length<=12
 sp:∀d∈p.ds,∀pe day,(sI p.ps p.gs p.cs p.rs d.r pe day).length<=1000000
 up:∀d∈p.ds,Up d.ts.length d.ns
 n:∀d∈p.ds,d.ns.length<=14/\d.ts.length<=6/\∀n∈d.ns,n.tx.size<=10000
 ids:p.ds.Pairwise fun a b=>a.r.id<b.r.id
 g:∀S,(zR S p.g).uok R
 gok:p.g.ok
 gst:p.g.stb
 sts:p.dv.stab=true/\p.ev.stab=true/\p.ov.stab=true/\p.pv.stab=true/\p.gv.stab=true/\p.cv.stab=true/\p.rv.stab=true
 x:p.g.xs.length<=1000
 xl:∀e∈p.g.xs,e.ll.length<=1048576/\e.rl.length<=1048576
 xi:p.g.xs.Pairwise fun a b=>a.id<b.id
 tier:∀d∈p.ds,∀(i:Nat) t,d.ts[i]? = some t->t.kd≠0->0<=t.pa/\t.pa<i
 el:p.es.length<=1048576
 epl:∀e∈p.es,e.pl.length<=1048576
 pl:p.os.length<=1048576
 pr:∀o∈p.os,o.rl.length<=1048576/\o.el.length<=1048576
def adopt_if{id:Nat}{t:TypeId}:dJ id (.iface t x)=(.iface t x,[]):=rfl
def rmJ:CX.refM "langdoc/provenance.uses" = false:=by kernel_rfl
def asgIf{X:dV}{d:Bool}{dst:Option Tmp}{ty:TypeId}{pos:String}{after:Array Edge}{g:Option (Nat×Bool)}{K:List AV->ab->Prop}{fr:List AV}:em X d ⟨dst,.assign (.const .nilIface),ty,pos,after,g⟩ dst K fr S=K (cj fr dst (.flat .nilIface)) S:=(dL _ rfl rfl rfl rfl rfl).trans im
def tK{R:AV->Prop}{t:TypeId}(h:x.stab=true):iw R (.iface t x) S=R (.iface t x):=by
 simp[iw,da,dR,ce,bI,AV.stab,h]
attribute [local irreducible] bB cX cZ aB bS dE
attribute [local go_sem] bi and_self bd fU cK aZ IR dw bC bp Eu methF recvA mt340 mt341 sA mkIfA TD.solid asgIf adopt_if rmJ br340 br341
def muteM(id:Int):aB CX 340 [.agg [],.int .i64 id] (· = .bool false):=by
 refine aL fx340 ?_;exact wf
def wrdM{g:Lg}(hg:g.uok R){w:List Int}(hw:w.length<=24)(id:Int):aB CX 341 [.agg [g.sgv,.str g.onm,g.uv,g.lv,g.rv,.int .i64 g.nst,g.pv,g.fv,g.xv,.tsl true 1 (az w)],.int .i64 id] (· = .bool (jv g R.lf R.sh w id)):=by
 obtain⟨c1,c2,c3,c4,c5,c6,c7⟩:=hg.ok.cells;obtain⟨p1,p2,p3,p4,p5,p6,p7⟩:=hg.ok.snaps;have q:=(hg.use w id hw).rw;simp only[fU]at q;clear hg;refine aL fx341 ?_;exact wf
theorem callM{p:Pr}(h:p.vok R)(S:List Int)(r:Rf):aB CX 167 [p.dv,.agg (fU (zR S p.g)),.agg (cK r)] (fun v=>(Hp p R.rd r=none/\v = .iface 303 (.agg []))\/∃w,Hp p R.rd r=some w/\w.length<=24/\v = .iface 307 (.agg [p.g.sgv,.str p.g.onm,p.g.uv,p.g.lv,p.g.rv,.int .i64 p.g.nst,p.g.pv,p.g.fv,.tsl true 8 ((gB S p.g.xs).map aG),.tsl true 1 (az w)])):=by
 obtain⟨c1,c2,c3,c4,c5,c6,c7⟩:=h.gok.cells;obtain⟨p1,p2,p3,p4,p5,p6,p7⟩:=h.gok.snaps;obtain⟨t1,t2,t3,t4,t5,t6,t7⟩:=h.gst;have d1:=h.ok.d.cell;have s1:=h.ok.d.snap;have hm:(AV.agg []).stab=true:=rfl;have hw:∀w:List Int,(AV.agg [p.g.sgv,.str p.g.onm,p.g.uv,p.g.lv,p.g.rv,.int .i64 p.g.nst,p.g.pv,p.g.fv,.tsl true 8 ((gB S p.g.xs).map aG),.tsl true 1 (az w)]).stab=true:=fun w=>by simp[AV.stab,cq,t1,t2,t3,t4,t5,t6]
 have q1:=(docM r.1 h.ok.d h.ok.di (by have:=h.dl;omega)).rw;have hrd:=h.g S;unfold Hp;simp only[zR,fU];cases hd:eu p.ds r.1 with
 | none=>
  rw[hd,iY]at q1;clear hd h hrd;refine aL fx167 ?_;refine wk ?_;simp only[go_sem];rw[tK hm];exact .inl rfl
 | some d=>
  rw[hd,iY]at q1;have Nf:=kw hd;have JB:=h.ok.di d Nf;have hn:=h.n d Nf;have x1:=JB.r.sv.cell;have x2:=JB.t.cell;have x3:=JB.n.cell;have y1:=JB.r.sv.snap;have y2:=JB.t.snap;have y3:=JB.n.snap;have q2:∀Q,aB CX 70 [.agg (bd d),.int .i64 r.2] Q=Q (iX (cO d.ns r.2)):=(Ib (d:=d.dc) r.2 JB.dc (by omega)).rw;have q3:=(C4 2 JB.t (by omega)).rw;simp only[bd]at q2;dsimp only;cases hg:cO d.ns r.2 with
  | none=>
   rw[hg,iX]at q2;simp only[aZ,zN]at q2;clear hd h hrd JB Nf hn hg q3;refine aL fx167 ?_;refine wk ?_;simp only[go_sem];rw[tK hm];exact .inl rfl
  | some n=>
   rw[hg,iX]at q2;simp only[aZ]at q2;have MT:=hn.2.2 n (mG hg);obtain⟨v,hR,q4⟩:=(hrd.rd n.tx MT).ex;have q4:=q4.rw;simp only[orV,zR]at q4;dsimp only;clear hd h hrd JB Nf hn hg MT;generalize dP 2 d.ts 0=k at*;by_cases hk:n.ti=k
   case neg=>
    rw[if_neg hk];clear q4 hR;refine aL fx167 ?_;refine wk ?_;simp only[go_sem];rw[tK hm];exact .inl rfl
   rw[if_pos hk];cases ho:R.rd n.tx with
   | none=>
    rw[ho]at hR;obtain⟨a,e,rfl,he⟩:=hR;clear ho;refine aL fx167 ?_;refine wk ?_;simp only[go_sem];rw[tK hm];exact .inl rfl
   | some w=>
    rw[ho]at hR;obtain⟨rfl,hl⟩:=hR;have PY:=ac.mk (And.intro (hw w) hl);clear ho hl hw;refine aL fx167 ?_;refine wk ?_;simp only[go_sem];rw[tK PY.out.1];exact .inr ⟨w,rfl,PY.out.2,rfl⟩
theorem attestsM{p:Pr}(h:p.vok R)(S:List Int)(id:Int)(r:Rf):aB CX 121 [p.dv,.agg (fU (zR S p.g)),.int .i64 id,.agg (cK r)] (· = .bool (Ek p R S id r)):=by
 obtain⟨c1,c2,c3,c4,c5,c6,c7⟩:=h.gok.cells;obtain⟨p1,p2,p3,p4,p5,p6,p7⟩:=h.gok.snaps;have d1:=h.ok.d.cell;have s1:=h.ok.d.snap;have RQ:=(h.g S).ok;have JZ:=ac.mk RQ.xo;have q1:=(getEnM id RQ.x RQ.xo (by have:=(h.g S).x;omega)).rw;obtain⟨v,hR,q2⟩:=(callM h S r).ex;have q2:=q2.rw;have q3:=(muteM id).rw;have q4:=fun w hw=>(wrdM (h.g S) (w:=w) hw id).rw;have hlg:(zR S p.g).xv = .tsl true 8 ((gB S p.g.xs).map aG):=rfl;have Lw:(zR S p.g).xs=gB S p.g.xs:=rfl;rw[Lw]at JZ;have hE:Ek p R S id r=((fc (gB S p.g.xs) id).isSome && match Hp p R.rd r with|none=>false|some w=>jv (zR S p.g) R.lf R.sh w id):=rfl;obtain⟨U,hU⟩:∃U:List Int->Bool,∀w,jv (zR S p.g) R.lf R.sh w id=U w:=⟨_,fun _=>rfl⟩;simp only[hU]at q4 hE;rw[hlg,Lw]at q1;simp only[zR,fU,cK]at q2 q4 ⊢;rw[hE];clear h hE hlg Lw RQ hU;cases hg:fc (gB S p.g.xs) id with
 | none=>
  rw[hg,jM]at q1;simp only[zEn,dw]at q1;rw[Option.isSome_none,VM];clear hg hR q2 q3 q4;refine aL fx121 ?_;exact wf
 | some e=>
  rw[hg,jM]at q1;rw[Wy,VB];have Tz:=(JZ.out e (U8 hg)).exp;simp only[aG]at q1;obtain⟨c8,c9,c10,c11,c12⟩:=(JZ.out e (U8 hg)).cells;clear hg JZ Tz;rcases hR with ⟨hw,rfl⟩|⟨w,hw,hl,rfl⟩
  .rw[hw];clear hw q4;refine aL fx121 ?_;exact wf
  .rw[hw];replace q4:=q4 w hl;dsimp only;clear hw hl q3;refine aL fx121 ?_;exact wf
end
section
attribute [local irreducible] bB cX cZ aB bS dE
attribute [local go_sem] bi and_self cd fU aG cK bC bp zR zU
def sees{p:Pr}{R:xg}(h:p.vok R)(r:Rf)(pe day:Int):aB CX 120 [.agg (cd p),.agg [.int .i64 pe,.int .i64 day],.agg (cK r)] (· = .bool (g8 p pe day r)):=seesM h.ok h.few h.docs (by have:=h.dl;omega) h.sp r pe day
theorem IK{p:Pr}{R:xg}(h:p.vok R)(S:List Int){e:En}(he:e∈p.g.xs)(pe day:Int) :
  aB CX 61 [.agg (cd p),.agg [.int .i64 pe,.int .i64 day],.agg (fU (zR S p.g)),.agg (aG (zU S e))] (· = .bool (wR p pe day R S e)):=by
 obtain⟨d1,d2,d3,d4,d5,d6,d7⟩:=h.ok.cells;obtain⟨e1,e2,e3,e4,e5,e6,e7⟩:=h.ok.g.cells;obtain⟨p1,p2,p3,p4,p5,p6,p7⟩:=h.ok.snaps;obtain⟨g1,g2,g3,g4,g5,g6,g7⟩:=h.ok.g.snaps;have hx:=h.ok.g.xo e he;obtain⟨c1,c2,c3,c4,c5⟩:=hx.cells;have hrv:=hx.r;have L1:=@au _ _ _ hrv;have Jd:e.rl.length<9223372036854775807:=by have:=(h.xl e he).2;omega
 have q1:=fun r=>(sees h r pe day).rw;have q2:=fun r=>(attestsM h S e.id r).rw;simp only[cd,fU,zR,cK]at q1 q2;clear h hx he;refine aL fx61 ?_;refine wk ?_;refine iD [8,10,15,16,17,18,19,20,21,22,23,24,25,26,27,28,29,30,31] 14 e.rl (fun _ post=>wR p pe day R S e=post.any fun r=>g8 p pe day r && Ek p R S e.id r) hrv Jd ty64 ty90 rfl ?_ ?_
 .intro g G h2;rw[h2];clear h2;exact wf
 .intro g G pre x post IW lt1 w1 i1 h2;have q1:=q1 x;have q2:=q2 x;rw[V4]at h2;cases k1:g8 p pe day x with
  | false=>
   rw[k1]at q1 h2;have hP:=ac.mk h2;simp only[VM,V9]at hP;clear h2;exact wf
  | true=>
   rw[k1]at q1 h2;cases k2:Ek p R S e.id x with
   | false=>
    rw[k2]at q2 h2;have hP:=ac.mk h2;simp only[WF,V9]at hP;clear h2;exact wf
   | true=>
    rw[k2]at h2 q2;rw[show wR p pe day R S e=true by rw[h2];rfl];clear h2;exact wf
end
section
variable {M:List Int}{n:Int}{rows:List (List AV)}{sz:Nat}
def dc24:CX.deco 24=cW [(19,12)]:=rfl
theorem del_mk{n:Int}:∀{M:List Int},nZ (.int .i64 n) (we M)=we (M.erase n)
 | []=>rfl
 | m::M=>by
  have ih:=del_mk (n:=n) (M:=M);simp only[we,Vk]at ih ⊢;simp only[nZ,iK,if_true];by_cases k:n=m
  .subst k;simp
  .have k1:(n == m)=false:=by simpa using k
   have k2:(m == n)=false:=by simpa using fun e=>k e.symm
   rw[k1,List.erase_cons,k2];simp[ih]
theorem Gu{S:ab}{b:Nat}(h:S[b]? = some (.map (we M))):snap S (.mp b)=some (tmM M):=by
 have e:cq ((we M).map (·.2))=true:=by
  clear h
  induction M with
  | nil=>rfl
  | cons m M ih=>simpa[we,cq,AV.stab]using ih
 simp only[snap,h,e,if_true,tmM]
def Co{id:Nat}{k:IntKind}:bp id (.int k n)=(.int k n,[]):=rfl
def Cm{id:Nat}{s:ByteArray}:bp id (.str s)=(.str s,[]):=rfl
def Cn{id:Nat}:bp id (.osl sz rows)=(.sl id rows.length 0 rows.length sz,[.arr rows sz 0 true]):=rfl
def db{v:AV}(h:bq sz rows v)(id:Nat):bp id v=(v,[]):=by cases h<;>rfl
def mk_len(M:List Int):(we M).length=M.length:=by simp[we]
def As{T:List Int}(h:∀x∈T,x∈M)(hn:n∉T):∀x∈T,x∈M.erase n:=fun x hx=>(List.mem_erase_of_ne fun e=>hn (by rw[<-e];exact hx)).2 (h x hx)
def Top(p:Pr)(pe day:Int)(R:xg)(M:List Int):Prop := ∀T,CloP p pe day R T->∀x∈T,x∈M
def bare(M:List Int)(e:En):Prop:=e.sl = []/\e.ma∉M
def vT(p:Pr)(pe day:Int)(M:List Int)(B0 B1 B2:dY)(G:ab):ab:=B0::B1::B2 :: .arr [cd p] 16 0 true :: .arr [[.int .i64 pe,.int .i64 day]] 2 0 true :: .map (we M)::G
attribute [local irreducible] bB cX cZ aB bS dE
attribute [local go_sem] bi and_self cd aG bC Co Cm Cn mB nY gp Fi delK lJ pP Wy Option.isSome_none nr lI lH nu tu tq xe yP vT fD mk_len asgMap lenK_mp del_mk Wj tp to zU
theorem stayS(B0 B1 B2:dY){p:Pr}{R:xg}(h:p.vok R)(pe day:Int) :
  bS CX 24 [.agg (cd p),.agg [.int .i64 pe,.int .i64 day]] [B0,B1,B2] (fun v S'=>v = .mp 5/\∃M G,sq p pe day R M/\S'=vT p pe day M B0 B1 B2 G):=by
 obtain⟨d1,d2,d3,d4,d5,d6,d7⟩:=h.ok.cells;obtain⟨e1,e2,e3,e4,e5,e6,e7⟩:=h.ok.g.cells;obtain⟨p1,p2,p3,p4,p5,p6,p7⟩:=h.ok.snaps;obtain⟨g1,g2,g3,g4,g5,g6,g7⟩:=h.ok.g.snaps;obtain⟨t1,t2,t3,t4,t5,t6,t7⟩:=h.gst;obtain⟨u1,u2,u3,u4,u5,u6,u7⟩:=h.sts;have n1:=db h.ok.g.sg;have n2:=db h.ok.g.u;have n3:=db h.ok.g.l;have n4:=db h.ok.g.r;have n5:=db h.ok.g.p;have n6:=db h.ok.g.f;have NB:=h.ok.g.x;have L1:=@au _ _ _ NB;have JQ:p.g.xs.length<9223372036854775807:=by have:=h.x;omega
 have JZ:=ac.mk h.ok.g.xo;have hxi:=ac.mk h.xi;have qla:=ac.mk fun M=>(langM M h.gok h.gst h.x fun e he=>(h.xl e he).1).rw;have qtd:=ac.mk fun M x hx=>(IK h M (e:=x) hx pe day).rw;simp only[cd,fU,zR,aG,zU]at qla qtd;clear h;refine bS.walkD rfl fx24.f rfl fx24.n rfl rfl ?_;simp only[dc24,o8,mK,kZ,mI,mH,o9,mJ,pc,Nat.reduceBEq,U3,if_false,if_true];refine wk ?_;refine ct [7,21,22,23,24,25,26,27] 20 p.g.xs (fun _:List Int=>[]) (fun M G=>vT p pe day M B0 B1 B2 G) (fun pre _ M=>M=pre.map (·.id)) ([]:List Int) NB JQ ty34 ty66 rfl ?_ ?_ ?_
 .rfl
 rotate_left
 .intro M g G pre x post IW lt1 w1 i1 h2;replace h2:M=pre.map (·.id):=h2;have hx:=JZ.out x (by rw[IW.out];simp);obtain⟨c1,c2,c3,c4,c5⟩:=hx.cells
  have KF:x.id∉M:=fun hm=>by
   rw[h2]at hm;obtain⟨y,hy,e⟩:=UZ.1 hm;have:=hxi.out;rw[IW.out,V6]at this;have:=this.2.2 y hy x (by simp);omega
  have hu:=upd_mk KF;have hP:ac (M++[x.id]=(pre++[x]).map (·.id)):=⟨by rw[h2];simp⟩;clear h2 hx;refine wk ?_;exact aE (σ:=List Int) (M++[x.id]) IW.out hP.out aQ dk
 intro M0 g G NW;replace NW:M0=p.g.xs.map (·.id):=NW
 have Oq:ac (M0.Sublist (p.g.xs.map (·.id))/\Top p pe day R M0):=⟨by rw[NW];exact WY _,fun T hT x hx=>by
  obtain⟨e,he,hi⟩:=hT.ids x hx;rw[NW,<-hi];exact UZ.2 ⟨e,he,rfl⟩⟩
 clear NW;refine wk ?_;refine aJ [4,8,9,11,12,14,28,29,30,31,32,33,34,35,36,37,38,39,40,41,42,43,44,45,46,47,48,49,50,51,52,53,54,55,56,57,58,59,60,61,62,63,64,65,66,67,68,69,70,71,72,73,74,75,76,77,78,79,80,81,82,83,84,85] (fun _:List Int=>[]) (fun M G=>vT p pe day M B0 B1 B2 G) (fun M=>M.Sublist (p.g.xs.map (·.id))/\Top p pe day R M) (fun M=>M.length) M0 Oq.out aQ dk ?_;intro M g1 G1 hM;have NV:=ac.mk hM;clear hM Oq;refine wk ?_;refine aJ [11,30,31,32,33,34,35,36,37,38,39,40,41,42,43,44,45,46,47,48,49,50,51,52,53,54,55,56,57,58,59] (fun s:List Int×Bool=>[(9,.bool s.2)]) (fun s G=>vT p pe day s.1 B0 B1 B2 G) (fun s=>s.1.Sublist M/\Top p pe day R s.1/\(s.2=false->∀e∈p.g.xs,e.id∈s.1->¬bare s.1 e)) (fun s=>2*s.1.length+if s.2=true then 1 else 0) (M,true) ⟨WY _,NV.out.2,fun h=>by cases h⟩ aQ dk ?_;rintro⟨M2,more⟩ g2 G2 ⟨h1,h2,h3⟩;have JD:=ac.mk (And.intro h1 (And.intro h2 h3));clear h1 h2 h3;cases more with
 | true=>
  refine wk ?_;refine ct [11,36,37,38,39,40,41,42,43,44,45,46,47,48,49,50,51,52,53,54,55,56,57,58,59] 35 p.g.xs (fun s:List Int×Bool=>[(9,.bool s.2)]) (fun s G=>vT p pe day s.1 B0 B1 B2 G) (fun pre _ s=>s.1.Sublist M2/\Top p pe day R s.1/\(s.2=false->s.1=M2/\∀e∈pre,e.id∈M2->¬bare M2 e)/\(s.2=true->s.1.length<M2.length)) (M2,false) NB JQ ty34 ty66 rfl ?_ ?_ ?_
  .exact⟨WY _,JD.out.2.1,fun _=>⟨rfl,fun e he=>(by cases he)⟩,fun h=>by cases h⟩
  .rintro⟨M3,m3⟩ g3 G3 hQ;have hH:=ac.mk hQ;clear hQ;cases m3 with
   | true=>
    refine wk ?_;refine ax (M3,true) ?_ ⟨hH.out.1.trans JD.out.1,hH.out.2.1,fun h=>by cases h⟩ aQ dk;have:=hH.out.2.2.2 rfl;simp only[if_true]at this ⊢;omega
   | false=>
    refine wk ?_;refine ax (M3,false) ?_ ⟨hH.out.1.trans JD.out.1,hH.out.2.1,fun _=>?_⟩ aQ dk
    .have:=(hH.out.2.2.1 rfl).1;simp only at this;subst this;simp
    .obtain⟨e,h9⟩:=hH.out.2.2.1 rfl;simp only at e;subst e;exact h9
  .rintro⟨M3,m3⟩ g3 G3 pre x post IW lt1 w1 i1 hQ;obtain⟨q1,q2,q3,q4⟩:=hQ;replace q1:M3.Sublist M2:=q1;replace q2:Top p pe day R M3:=q2;replace q3:m3=false->M3=M2/\∀e∈pre,e.id∈M2->¬bare M2 e:=q3;replace q4:m3=true->M3.length<M2.length:=q4;have Jg:x∈p.g.xs:=by rw[IW.out];simp
   have hx:=JZ.out x Jg;obtain⟨c1,c2,c3,c4,c5⟩:=hx.cells;have L2:=@au _ _ _ hx.s
   have keep:(m3=false->x.id∈M2->¬bare M2 x)->ac (M3.Sublist M2/\Top p pe day R M3/\(m3=false->M3=M2/\∀e∈pre++[x],e.id∈M2->¬bare M2 e)/\(m3=true->M3.length<M2.length)):=fun hb=>⟨⟨q1,q2,fun h=>⟨(q3 h).1,fun e he hi=>by
    rcases UU.1 he with he|he
    .exact(q3 h).2 e he hi
    .simp at he;subst he;exact hb h hi⟩,q4⟩⟩
   by_cases k1:x.id∈M3
   case neg=>
    have hP:=keep fun h hi=>absurd (by rw[(q3 h).1];exact hi) k1;clear keep q1 q2 q3 q4 hx Jg;refine wk ?_;exact aE (σ:=List Int×Bool) (M3,m3) IW.out hP.out aQ dk
   cases kb:((x.sl.length:Int) == 0) with
   | false=>
    have hP:=keep fun h hi hb=>by rw[hb.1]at kb;cases kb
    clear keep q1 q2 q3 q4 hx Jg;refine wk ?_;exact aE (σ:=List Int×Bool) (M3,m3) IW.out hP.out aQ dk
   | true=>
   have KJ:x.sl = []:=UO (by simpa using kb);by_cases k2:x.ma∈M3
   .have hP:=keep fun h hi hb=>hb.2 (by rw[<-(q3 h).1];exact k2);clear keep q1 q2 q3 q4 hx Jg KJ;refine wk ?_;exact aE (σ:=List Int×Bool) (M3,m3) IW.out hP.out aQ dk
   .have Ja:(M3.erase x.id).length<M2.length:=by
     have:=List.length_erase_of_mem k1;have h8:=q1.length_le;have h7:=List.length_pos_of_mem k1;omega
    have hP:ac ((M3.erase x.id).Sublist M2/\Top p pe day R (M3.erase x.id)/\(true=false->M3.erase x.id=M2/\∀e∈pre++[x],e.id∈M2->¬bare M2 e)/\(true=true->(M3.erase x.id).length<M2.length)):=⟨⟨List.erase_sublist.trans q1,fun T hT=>As (q2 T hT) fun hi=>by
      rcases hT.sen x Jg hi with h9|h9
      .exact h9 KJ
      .exact k2 (q2 T hT _ h9),fun h=>((by cases h)),fun _=>Ja⟩⟩
    clear keep q1 q2 q3 q4 hx Jg KJ Ja;refine wk ?_;exact aE (σ:=List Int×Bool) (M3.erase x.id,true) IW.out hP.out aQ dk
 | false=>
  have qN:=qla.out M2;have I8:¬G2.length+1+1+1+1+1+1=G2.length+1+1+1+1+1+1+1:=by omega
  have KP:=fun G=>Gu (S:=B0::B1::B2 :: .arr [cd p] 16 0 true :: .arr [[.int .i64 pe,.int .i64 day]] 2 0 true :: .map (we M2)::G) (b:=5) (M:=M2) rfl;simp only[cd]at KP;have hsv:bq 8 ((gB M2 p.g.xs).map aG) (.tsl true 8 ((gB M2 p.g.xs).map aG)) := .rows true
  have KJ:(gB M2 p.g.xs).length<9223372036854775807:=by
   rw[gB,UI];exact Vu (U0 _ _) JQ
  have hnd:ac (M2.Nodup):=⟨((List.pairwise_map.2 (hxi.out.imp fun h=>Int.ne_of_lt h):(p.g.xs.map (·.id)).Nodup).sublist NV.out.1).sublist JD.out.1⟩;refine wk ?_;refine ct [14,68,69,70,71,72,73,74,75,76,77,78,79,80] 67 (gB M2 p.g.xs) (fun _:List Int=>[]) (fun M3 G4=>vT p pe day M3 B0 B1 B2 (G2 ++ .dead (gB M2 p.g.xs).length :: .arr [[p.g.sgv,.str p.g.onm,p.g.uv,p.g.lv,p.g.rv,.int .i64 p.g.nst,p.g.pv,p.g.fv,.tsl true 8 ((gB M2 p.g.xs).map aG)]] 9 1 false::G4)) (fun pre _ M3=>M3.Sublist M2/\Top p pe day R M3/\∀y∈pre,y.id∈M3->wR p pe day R M2 y=true) M2 hsv KJ ty34 ty66 rfl ?_ ?_ ?_
  .exact⟨WY _,JD.out.2.1,fun y hy=>(by cases hy)⟩
  .intro M3 g4 G4 hQ;have hH:=ac.mk hQ;clear hQ;cases kb:((M3.length:Int) == (M.length:Int)) with
   | true=>
    have e0:M3.length=M.length:=by have:=beq_iff_eq.1 kb;omega
    have e1:=(hH.out.1.trans JD.out.1).eq_of_length e0;have e2:=hH.out.1.eq_of_length (Nat.le_antisymm hH.out.1.length_le (by rw[e0];exact JD.out.1.length_le))
    have hP:ac (sq p pe day R M3):=by
     refine⟨⟨⟨fun x hx=>?_,fun e he hi=>?_,fun e he hi=>?_⟩,hH.out.2.1⟩⟩
     .rw[e1]at hx;obtain⟨e,he,hi⟩:=UZ.1 (NV.out.1.subset hx);exact⟨e,he,hi⟩
     .have h9:=JD.out.2.2 rfl e he (by rw[<-e2];exact hi);refine VG fun h8=>h9 ⟨VG fun h7=>h8 (.inl h7),fun h7=>h8 (.inr (by rw[e2];exact h7))⟩
     .have h9:=hH.out.2.2 (zU M2 e) (UZ.2 ⟨e,VE.2 ⟨he,by simpa using(by rw[<-e2];exact hi:e.id∈M2)⟩,rfl⟩) hi;rw[e2];exact h9
    clear e0 e1 e2;refine wk ?_;simp only[aO,aP,bg,aN,bH,bz];exact⟨trivial,M3,_,hP.out,rfl⟩
   | false=>
    refine wk ?_;refine ax M3 ?_ ⟨(hH.out.1.trans JD.out.1).trans NV.out.1,hH.out.2.1⟩ aQ dk;have h9:=(hH.out.1.trans JD.out.1).length_le;have h8:M3.length≠M.length:=fun e=>by rw[e]at kb;simp at kb
    omega
  .intro M3 g4 G4 pre y post IW lt1 w1 i1 hQ;have hy:y∈gB M2 p.g.xs:=by rw[IW.out];simp
   obtain⟨x,hx,rfl⟩:=UZ.1 hy;have Jg:=(VE.1 hx).1;have N3:=JZ.out x Jg;obtain⟨c1,c2,c3,c4,c5⟩:=N3.cells;have s1:=N3.f.snap;have s2:=N3.a.snap;have s3:=N3.s.snap;have s4:=N3.r.snap;have qT:=qtd.out M2 x Jg;have hH:=ac.mk hQ;clear hQ hy hx N3;cases hk:wR p pe day R M2 x with
   | true=>
    rw[hk]at qT
    have hP:ac (M3.Sublist M2/\Top p pe day R M3/\∀y∈pre++[zU M2 x],y.id∈M3->wR p pe day R M2 y=true):=⟨hH.out.1,hH.out.2.1,fun y hy hi=>by
     rcases UU.1 hy with hy|hy
     .exact hH.out.2.2 y hy hi
     .simp only[VI]at hy;subst hy;exact hk⟩
    clear hk Jg;refine wk ?_;exact aE (σ:=List Int) M3 IW.out hP.out aQ dk
   | false=>
    rw[hk]at qT
    have hP:ac ((M3.erase x.id).Sublist M2/\Top p pe day R (M3.erase x.id)/\∀y∈pre++[zU M2 x],y.id∈M3.erase x.id->wR p pe day R M2 y=true):=⟨List.erase_sublist.trans hH.out.1,fun T hT=>As (hH.out.2.1 T hT) fun hi=>(by
     have:=IM (JD.out.2.1 T hT) (hT.att x Jg hi);rw[hk]at this;cases this),fun y hy hi=>by
     rcases UU.1 hy with hy|hy
     .exact hH.out.2.2 y hy (List.mem_of_mem_erase hi)
     .simp only[VI]at hy;subst hy;exact absurd hi (hnd.out.sublist hH.out.1).not_mem_erase⟩
    clear hk Jg;refine wk ?_;exact aE (σ:=List Int) (M3.erase x.id) IW.out hP.out aQ dk
end
section
variable {R:xg}{p:Pr}{rl:List Rf}{rv:AV}
attribute [local irreducible] bB cX cZ aB bS dE
attribute [local go_sem] U1 Vj List.replicate UC Vp Nat.reduceMul Vg bi eF d9 bP bt ci bN cM ba aY aS aM aX and_self cd bd cK aZ IR zN dw bC bp
theorem shownM(h:p.vok R)(pe day:Int)(hv:bq 2 (rl.map cK) rv)(hl:rl.length<=1048576) :
  aB CX 69 [.agg (cd p),.agg [.int .i64 pe,.int .i64 day],rv] (· = .osl 2 ((rl.filter fun r=>g8 p pe day r).map cK)):=by
 obtain⟨d1,d2,d3,d4,d5,d6,d7⟩:=h.ok.cells;obtain⟨e1,e2,e3,e4,e5,e6,e7⟩:=h.ok.g.cells;obtain⟨p1,p2,p3,p4,p5,p6,p7⟩:=h.ok.snaps;obtain⟨g1,g2,g3,g4,g5,g6,g7⟩:=h.ok.g.snaps;obtain⟨t1,t2,t3,t4,t5,t6,t7⟩:=h.gst;obtain⟨u1,u2,u3,u4,u5,u6,u7⟩:=h.sts;have L1:=@au _ _ _ hv;have Jd:rl.length<9223372036854775807:=by omega
 have JJ:=ac.mk hl;have qs:=fun r=>(sees h r pe day).rw;simp only[cd,cK]at qs;clear h hl;refine aL fx69 ?_;refine wk ?_;refine ct [9,13,14,15,16,17,18,19,20,21,22,23,24] 12 rl (fun l:List Rf=>[(7,.sl 3 l.length 0 l.length 2)]) (fun l G=> .arr [cd p] 16 0 true :: .arr [[.int .i64 pe,.int .i64 day]] 2 0 true :: .arr [] 2 0 true :: .arr (l.map cK) 2 0 true::G) (fun pre _ l=>l=pre.filter fun r=>g8 p pe day r) ([]:List Rf) hv Jd ty64 ty90 rfl ?_ ?_ ?_
 .rfl
 .intro l g G h2;replace h2:l=rl.filter fun r=>g8 p pe day r:=h2;rw[<-h2];clear h2;refine wk ?_;simp only[go_sem]
 .intro l g G pre x post IW lt1 w1 i1 h2;replace h2:l=pre.filter fun r=>g8 p pe day r:=h2
  have KT:l.length<=1048576:=by
   rw[h2];exact UQ (U0 _ _) (by have:=JJ.out;omega)
  have a1:(l.length+1)*16<=140737488355328:=by omega
  have a2:l.length+1<=140737488355328:=by omega
  replace qs:=qs x;cases hk:g8 p pe day x with
  | false=>
   rw[hk]at qs;have hP:ac (l=(pre++[x]).filter fun r=>g8 p pe day r):=⟨by rw[Va,<-h2];simp[hk]⟩;clear h2 KT hk;refine wk ?_;exact aE (σ:=List Rf) l IW.out hP.out aQ dk
  | true=>
   rw[hk]at qs;have hP:ac (l++[x]=(pre++[x]).filter fun r=>g8 p pe day r):=⟨by rw[Va,<-h2];simp[hk]⟩;clear h2 KT hk;refine wk ?_;exact aE (σ:=List Rf) (l++[x]) IW.out hP.out aQ dk
def wP(ds:List Dq)(r:Rf):Bool:=match eu ds r.1 with
 | none=>false
 | some d=>(cO d.ns r.2).isSome
def remB_eq(p:Pr)(pe day:Int)(ds:List Dq)(r:Rf):gk p pe day ds r=(g8 p pe day r && wP ds r):=rfl
theorem ET(h:p.vok R)(pe day:Int){dv:AV}{ds:List Dq}(hd:bq 7 (ds.map bd) dv)(JB:∀d∈ds,d.ok)(LU:ds.length<=12)(hdn:∀d∈ds,d.ns.length<=14)(hv:bq 2 (rl.map cK) rv)(hl:rl.length<=1048576) :
  aB CX 29 [.agg (cd p),.agg [.int .i64 pe,.int .i64 day],dv,rv] (· = .osl 2 ((rl.filter fun r=>gk p pe day ds r).map cK)):=by
 obtain⟨d1,d2,d3,d4,d5,d6,d7⟩:=h.ok.cells;obtain⟨e1,e2,e3,e4,e5,e6,e7⟩:=h.ok.g.cells;obtain⟨p1,p2,p3,p4,p5,p6,p7⟩:=h.ok.snaps;obtain⟨g1,g2,g3,g4,g5,g6,g7⟩:=h.ok.g.snaps;obtain⟨t1,t2,t3,t4,t5,t6,t7⟩:=h.gst;obtain⟨u1,u2,u3,u4,u5,u6,u7⟩:=h.sts;have c1:=hd.cell;have c2:=hv.cell;have s1:=hd.snap;have s2:=hv.snap;have qs:=(shownM h pe day hv hl).rw;have hf:ac ((rl.filter fun r=>g8 p pe day r).filter (wP ds)=rl.filter fun r=>gk p pe day ds r):=⟨by rw[List.filter_filter];congr 1;funext r;rw[remB_eq,Bool.and_comm]⟩;have JY:(rl.filter fun r=>g8 p pe day r).length<=1048576:=UQ (U0 _ _) hl;generalize (rl.filter fun r=>g8 p pe day r)=K at*;have Td:=ac.mk JY;have Jd:K.length<9223372036854775807:=by omega
 have qd:=ac.mk fun n=>(docM n hd JB (by omega)).rw;have qn:=ac.mk fun (d:Dq) (hm:d∈ds) (n:Int)=>(show ∀Q,aB CX 70 [.agg (bd d),.int .i64 n] Q=Q (iX (cO d.ns n)) from(Ib (d:=d.dc) n (JB d hm).dc (by have:=hdn d hm;omega)).rw);have O6:=ac.mk JB;rw[<-hf.out];simp only[cd]at qs;clear h hl hd JB LU hdn hv JY hf;refine aL fx29 ?_;refine wk ?_;refine cN [11,12,13,14,15,22,23,24,25,26,27,28,29,30,31,32,33,34,35,36,37,38,39,40,41,42,43,44,45,46] 21 K (fun l:List Rf=>[(9,.sl 3 l.length 0 l.length 2)]) (fun l G=> .arr [cd p] 16 0 true :: .arr [[.int .i64 pe,.int .i64 day]] 2 0 true :: .arr [] 2 0 true :: .arr (l.map cK) 2 0 true :: .arr (K.map cK) 2 0 true::G) (fun pre _ l=>l=pre.filter (wP ds)) ([]:List Rf) Jd ?_ ?_ ?_
 .rfl
 .intro l g G h2;replace h2:l=K.filter (wP ds):=h2;rw[<-h2];clear h2;refine wk ?_;simp only[go_sem]
 .intro l g G pre x post IW lt1 w1 h2;replace h2:l=pre.filter (wP ds):=h2;have Jq:(K.map cK)[pre.length]? = some (cK x):=by rw[IW.out];simp
  have IZ:pre.length<K.length:=by omega
  have i1:∀{j:IntKind},aD CX 64 (.sl 4 K.length 0 K.length 2) (.int j (pre.length:Int))=some (.ptr 4 K.length 2 pre.length 0):=fun {j}=>gu ty64 ty90 rfl lt1
  have KT:l.length<=1048576:=by
   rw[h2];exact UQ (U0 _ _) (by have:=Td.out;omega)
  have a1:(l.length+1)*16<=140737488355328:=by omega
  have a2:l.length+1<=140737488355328:=by omega
  have q1:=qd.out x.1;have no:wP ds x=false->ac (l=(pre++[x]).filter (wP ds)):=fun hk=>⟨by rw[Va,<-h2];simp[hk]⟩;have ye:wP ds x=true->ac (l++[x]=(pre++[x]).filter (wP ds)):=fun hk=>⟨by rw[Va,<-h2];simp[hk]⟩;simp only[cK]at Jq;cases hg:eu ds x.1 with
  | none=>
   rw[hg,iY]at q1;have hP:=no (by rw[wP,hg]);clear h2 KT hg no ye;refine wk ?_;exact aE (σ:=List Rf) l IW.out hP.out aQ dk
  | some d=>
   rw[hg,iY]at q1;have hm:=kw hg;have JB:=O6.out d hm;have x1:=JB.r.sv.cell;have x2:=JB.t.cell;have x3:=JB.n.cell;have y1:=JB.r.sv.snap;have y2:=JB.t.snap;have y3:=JB.n.snap;have q2:=qn.out d hm x.2;simp only[bd]at q2;cases hn:cO d.ns x.2 with
   | none=>
    rw[hn,iX]at q2;have hP:=no (by rw[wP,hg];dsimp only;rw[hn];rfl);clear h2 KT hg no ye JB hm hn;refine wk ?_;exact aE (σ:=List Rf) l IW.out hP.out aQ dk
   | some n=>
    rw[hn,iX]at q2;have hP:=ye (by rw[wP,hg];dsimp only;rw[hn];rfl);clear h2 KT hg no ye JB hm hn;refine wk ?_;exact aE (σ:=List Rf) (l++[x]) IW.out hP.out aQ dk
end
section
variable {G1 X Z:ab}{S:List Int}{a0 a1 a2 a3 a4 a5 b6 b7:dY}{day pe:Int}{ds pre:List Dq}{p:Pr}{rows:List (List AV)}{sz:Nat}
def dc7:CX.deco 7=cW [(34,14)]:=rfl
def fL(sz k:Nat):List (List AV)->AV
 | []=> .flat (.slice none 0 0)
 | _::l=> .sl k (l.length+1) 0 (l.length+1) sz
def i7(sz:Nat):List (List AV)->ab
 | []=>[]
 | r::l=>[.arr (r::l) sz 0 true]
def ID(sz k:Nat):fL sz k [] = .flat (.slice none 0 0):=rfl
def FY(sz k:Nat)(r:List AV)(l:List (List AV)):fL sz k (r::l) = .sl k (l.length+1) 0 (l.length+1) sz:=rfl
def blkL_nil(sz:Nat):i7 sz [] = []:=rfl
def IH(sz:Nat)(r:List AV)(l:List (List AV)):i7 sz (r::l) = [.arr (r::l) sz 0 true]:=rfl
section
variable {G l:ab}{a b c x:dY}
def gl2:(G++a::b::l)[G.length+1+1]? = l[0]? := by rw[VY,cr];rfl
def sl2:(G++a::b::l).set (G.length+1+1) x=G++a::b::l.set 0 x:=by rw[VY,jf];rfl
end
def lw(p:Pr)(xv dv ev ov:AV):List AV:=[p.g.sgv,.str p.g.onm,p.g.uv,p.g.lv,p.g.rv,.int .i64 p.g.nst,p.g.pv,p.g.fv,xv,dv,ev,ov,p.pv,p.gv,p.cv,p.rv]
def zPr:List AV:=[dw,.str .empty,dw,dw,dw,.int .i64 0,dw,dw,dw,dw,dw,dw,dw,dw,dw,dw]
def Gl(p:Pr)(pe day:Int)(S:List Int)(G:ab)(n:Nat)(xr:List (List AV))(w:Nat)(dv ev ov:AV)(Y:ab):ab :=
 .arr [cd p] 16 0 true :: .arr [[.int .i64 pe,.int .i64 day]] 2 0 true :: .arr [zPr] 16 0 true :: .arr [cd p] 16 0 true :: .arr [[.int .i64 pe,.int .i64 day]] 2 0 true :: .map (we S)::(G ++ .arr xr 8 w true :: .arr [lw p (.sl (G.length+1+1+1+1+1+1) n 0 n 8) dv ev ov] 16 1 false::Y)
def B8(st:Bool)(sz:Nat):List (List AV)->AV
 | []=> .flat (.slice none 0 0)
 | r::l=> .tsl st sz (r::l)
theorem nC(st:Bool)(sz:Nat)(rows:List (List AV)):bq sz rows (B8 st sz rows):=by
 cases rows with
 | nil=>exact .nil rfl
 | cons r l=>exact .rows st
theorem Dt{G:ab}(h:rows≠[]):(a0::a1::a2::a3::a4::a5::(G++b6::b7::((X++(i7 sz rows++G1))++Z)))[G.length+(X.length+1+1)+1+1+1+1+1+1]? = some (.arr rows sz 0 true):=by
 cases rows with
 | nil=>exact absurd rfl h
 | cons r l=>simp only[i7,UX,UF,UH,Vx,cr,bZ,VL]
theorem EL{G:ab}:snap (a0::a1::a2::a3::a4::a5::(G++b6::b7::((X++(i7 sz rows++G1))++Z))) (fL sz (G.length+(X.length+1+1)+1+1+1+1+1+1) rows)=some (B8 false sz rows):=by
 cases rows with
 | nil=>simp only[fL,B8,snap]
 | cons r l=>
  have:=Dt (a0:=a0) (a1:=a1) (a2:=a2) (a3:=a3) (a4:=a4) (a5:=a5) (b6:=b6) (b7:=b7) (G:=G) (X:=X) (G1:=G1) (Z:=Z) (sz:=sz) (rows:=r::l) (by simp);simp only[fL,jX,aM,this,B8];simp
theorem Ih{G:ab}:aW (a0::a1::a2::a3::a4::a5::(G++b6::b7::((X++(i7 sz rows++G1))++Z))) (fL sz (G.length+(X.length+1+1)+1+1+1+1+1+1) rows)=some (B8 true sz rows):=by
 cases rows with
 | nil=>rfl
 | cons r l=>
  have:=Dt (a0:=a0) (a1:=a1) (a2:=a2) (a3:=a3) (a4:=a4) (a5:=a5) (b6:=b6) (b7:=b7) (G:=G) (X:=X) (G1:=G1) (Z:=Z) (sz:=sz) (rows:=r::l) (by simp);simp only[fL,aW,aM,this,B8];simp
def rW(sz k:Nat)(rows:List (List AV)):(fL sz k rows).cell=true:=by cases rows<;>rfl
def EI{e:En}(h:e.ok):(zU S e).ok:={ h with l := .rows true,lt:=rfl }
theorem BQ(l:List Nt):bq 7 (l.map aZ) (nvR l):=by
 cases l with
 | nil=>exact .nil rfl
 | cons n l=>exact .rows true
def nvR_stb(l:List Nt):(nvR l).stab=true:=by cases l<;>rfl
def up_red{T:Nat}{ts:List Ti}{ns:List Nt}{L:List (Int×Int)}{M:List Int}(h:Up T ns):Up T (jK ts ns L M ns):=by
 have h1:=h.sub (l:=G9 M ns) Xi;rw[gN];refine⟨?_,fun n hn=>?_,fun n hn m hm e=>?_⟩
 .rw[List.pairwise_map];exact h1.ids.imp fun h=>by rw[fg,fg];exact h
 .obtain⟨a,ha,rfl⟩:=UZ.1 hn;rw[oP];exact h1.rng a ha
 .obtain⟨a,ha,rfl⟩:=UZ.1 hn;obtain⟨b,hb,rfl⟩:=UZ.1 hm;rw[kS,fg]at e;rw[oP,oP];exact h1.par a ha b hb e
def GB(ts:List Ti)(ns:List Nt)(L:List (Int×Int))(M:List Int):(jK ts ns L M ns).length<=ns.length:=by
 rw[jK,UI];exact U0 _ _
def dB(x:De):ab:=[.arr [dS x] 4 1 true,.arr [cK (x.rc,x.no)] 2 0 true,.arr [cK (x.rc,x.no)] 2 0 true,.arr [dS x] 4 0 true]
theorem A2{S:ab}{k:Nat}(h:rows≠[]->S[k]? = some (.arr rows sz 0 true)):aW S (fL sz k rows)=some (B8 true sz rows):=by
 cases rows with
 | nil=>rfl
 | cons r l=>
  have:=h (by simp);simp only[fL,aW,aM,this,B8];simp
def pB(x:Po)(K:List Rf)(o:List Int)(G5:ab):ab := .arr [[.int .i64 x.id,.str x.ti,.str x.tx,.tsl true 1 (az o),.tsl true 2 (K.map cK)]] 5 1 false :: .dead K.length :: .dead o.length::(G5++[.arr [[.int .i64 x.id,.str x.ti,.str x.tx,.tsl true 1 (az o),.tsl true 2 (K.map cK)]] 5 0 true])
def exp_own{S:ab}{b n w:Nat}(hS:S[b]? = some (.arr rows sz w true))(hn:rows.length=n)(hw:w<=n):aW S (.sl b n 0 n sz)=some (.tsl true sz rows):=by
 subst hn;simp[aW,aM,hS,hw]
def exp_pr{S:ab}(hg:p.g.stb)(hp:p.dv.stab=true/\p.ev.stab=true/\p.ov.stab=true/\p.pv.stab=true/\p.gv.stab=true/\p.cv.stab=true/\p.rv.stab=true){xv dv ev ov xv' dv' ev' ov':AV}(h1:aW S xv=some xv')(h2:aW S dv=some dv')(h3:aW S ev=some ev')(h4:aW S ov=some ov'):dq S [p.g.sgv,.str p.g.onm,p.g.uv,p.g.lv,p.g.rv,.int .i64 p.g.nst,p.g.pv,p.g.fv,xv,dv,ev,ov,p.pv,p.gv,p.cv,p.rv]=some (lw p xv' dv' ev' ov'):=by
 have k3:∀(m:Int),aW S (.int .i64 m)=some (.int .i64 m):=fun _=>rfl;have k4:∀(m:ByteArray),aW S (.str m)=some (.str m):=fun _=>rfl;obtain⟨-,-,-,u4,u5,u6,u7⟩:=hp;simp only[lw,dq,k3,k4,h1,h2,h3,h4,bk hg.sg,bk hg.u,bk hg.l,bk hg.r,bk hg.p,bk hg.f,bk u4,bk u5,bk u6,bk u7]
structure jU (p:Pr) (pe day:Int) (S:List Int) (pre ds:List Dq):Prop where
 ok:∀d∈ds,d.ok/\d.ns.length<=14
 len:ds.length<=pre.length
 doc:∀d'∈ds,∃d∈pre,d'.r=d.r/\d'.ts=d.ts/\nV p pe day d≠[]/\zO d.ts d.ns (nV p pe day d) (nH p S d.r.id) d'.ns
 all:∀d∈pre,nV p pe day d≠[]->∃d'∈ds,d'.r.id=d.r.id
def jU.nil(p:Pr)(pe day:Int)(S:List Int):jU p pe day S [] []:=⟨fun _ h=>((by cases h)),UJ _,fun _ h=>((by cases h)),fun _ h=>((by cases h))⟩
def jU.skip{x:Dq}(h:jU p pe day S pre ds)(hx:nV p pe day x = []):jU p pe day S (pre++[x]) ds :=
 ⟨h.ok,by have:=h.len;simp;omega,fun d' O8=>by obtain⟨d,hd,r⟩:=h.doc d' O8;exact⟨d,V5 _ hd,r⟩,fun d hd hs=>by
  rcases UU.1 hd with hd|hd
  .exact h.all d hd hs
  .simp only[VI]at hd;subst hd;exact absurd hx hs⟩
def jU.add{x x':Dq}(h:jU p pe day S pre ds)(h1:x'.r=x.r)(h2:x'.ts=x.ts)(h3:nV p pe day x≠[])(h4:zO x.ts x.ns (nV p pe day x) (nH p S x.r.id) x'.ns)(h5:x'.ok)(h6:x'.ns.length<=14):jU p pe day S (pre++[x]) (ds++[x']) :=
 ⟨fun d hd=>by
  rcases UU.1 hd with hd|hd
  .exact h.ok d hd
  .simp only[VI]at hd;subst hd;exact⟨h5,h6⟩,by have:=h.len;simp;omega,fun d' O8=>by
  rcases UU.1 O8 with hd|hd
  .obtain⟨d,hd,r⟩:=h.doc d' hd;exact⟨d,V5 _ hd,r⟩
  .simp only[VI]at hd;subst hd;exact⟨x,by simp,h1,h2,h3,h4⟩,fun d hd hs=>by
  rcases UU.1 hd with hd|hd
  .obtain⟨d',O8,r⟩:=h.all d hd hs;exact⟨d',V5 _ O8,r⟩
  .simp only[VI]at hd;subst hd;exact⟨x',by simp,by rw[h1]⟩⟩
def VwRes(p:Pr)(pe day:Int)(R:xg)(u:AV):Prop := ∃(S:List Int) (ds:List Dq) (a:List En) (rw:List (List AV)),
 u = .agg (lw p (.tsl true 8 (a.map aG)) (B8 true 7 (ds.map bd)) (B8 true 4 ((p.es.filter fun d=>gk p pe day ds (d.rc,d.no) && eN S d.pl).map dS)) (B8 true 5 rw)) /\
 sq p pe day R S/\jU p pe day S p.ds ds/\a.map (·.id)=(gB S p.g.xs).map (·.id)/\(∀e∈a,e.ok)/\rw.length=(p.os.filter fun o=> !(o.rl.filter fun r=>gk p pe day ds r).isEmpty).length
attribute [local irreducible] bB cX cZ aB bS dE
attribute [local go_sem] U1 Vj List.replicate UC Vp Nat.reduceMul Vg bi eF d9 bP bt ci bN cM ba aY aS aM aX and_self ID FY blkL_nil IH cd bd dw zPr lw bC Co Cm Cn mB nY gp lJ pP fD tp to nr lI lH nu tu tq xe yP CN Wj vT Gl Fo.spans_len dS cK nR aG gl2 sl2
set_option maxRecDepth 20000
theorem viewM{R:xg}(h:p.vok R)(pe day:Int):aB CX 7 [.agg (cd p),.agg [.int .i64 pe,.int .i64 day]] (VwRes p pe day R):=by
 obtain⟨d1,d2,d3,d4,d5,d6,d7⟩:=h.ok.cells;obtain⟨e1,e2,e3,e4,e5,e6,e7⟩:=h.ok.g.cells;obtain⟨p1,p2,p3,p4,p5,p6,p7⟩:=h.ok.snaps;obtain⟨g1,g2,g3,g4,g5,g6,g7⟩:=h.ok.g.snaps;obtain⟨t1,t2,t3,t4,t5,t6,t7⟩:=h.gst;obtain⟨u1,u2,u3,u4,u5,u6,u7⟩:=h.sts;have n1:=db h.ok.g.sg;have n2:=db h.ok.g.u;have n3:=db h.ok.g.l;have n4:=db h.ok.g.r;have n5:=db h.ok.g.p;have n6:=db h.ok.g.f;have hdv:=h.ok.d;have L1:=@au _ _ _ hdv;have LU:p.ds.length<9223372036854775807:=by have:=h.dl;omega
 have hH:=ac.mk h;have qst:=fun B0 B1 B2=>stayS B0 B1 B2 h pe day;have qla:=ac.mk fun M=>(langM M h.gok h.gst h.x fun e he=>(h.xl e he).1).rw;simp only[cd,fU]at qst qla;clear h;refine aB.walkD rfl fx7.f rfl fx7.n rfl rfl ?_;simp only[dc7,o8,mK,kZ,mI,mH,o9,mJ,pc,Nat.reduceBEq,U3,if_false,if_true];refine wk ?_;refine wr (qst _ _ _) ?_;rintro v S' ⟨rfl,S,G,hS,rfl⟩;have hSH:=ac.mk hS;have qN:=qla.out S;have KP:=fun B0 B1 B2 B3 B4 G=>Gu (S:=B0::B1::B2::B3::B4 :: .map (we S)::G) (b:=5) (M:=S) rfl;clear qst hS qla;refine wk ?_;refine ct [8,9,32,33,34,35,36,37,38,39,40,41,42,43,44,45,46,47,48,49,50,51,52,53] 31 p.ds (fun _:List Dq×ab=>[]) (fun s G'=>Gl p pe day S G (gB S p.g.xs).length ((gB S p.g.xs).map aG) 0 (fL 7 (G.length+(s.2.length+1+1)+1+1+1+1+1+1) (s.1.map bd)) dw dw (s.2++(i7 7 (s.1.map bd)++G'))) (fun pre _ s=>jU p pe day S pre s.1) ([],[]) hdv LU ty37 ty74 rfl ?_ ?_ ?_
 .exact jU.nil _ _ _ _
 .rintro⟨ds,X⟩ g1 G1 hQ;have ML:=ac.mk hQ;clear hQ
  have KJ:(gB S p.g.xs).length<9223372036854775807:=by
   rw[gB,UI];exact Vu (U0 _ _) (by have:=hH.out.x;omega)
  have hD:=ac.mk (nC false 7 (ds.map bd));have qrm:=ac.mk fun {rv:AV}{rl:List Rf}(hv:bq 2 (rl.map cK) rv) (hl:rl.length<=1048576)=>(ET hH.out pe day hD.out (fun d hd=>(ML.out.ok d hd).1) (UQ ML.out.len hH.out.dl) (fun d hd=>(ML.out.ok d hd).2) hv hl).rw;have hsd:=fun a0 a1 a2 a3 a4 b6 b7 Z=>EL (a0:=a0) (a1:=a1) (a2:=a2) (a3:=a3) (a4:=a4) (a5 := .map (we S)) (b6:=b6) (b7:=b7) (G:=G) (X:=X) (G1:=G1) (Z:=Z) (sz:=7) (rows:=ds.map bd);have hed:=ac.mk fun a0 a1 a2 a3 a4 b6 b7 Z=>Ih (a0:=a0) (a1:=a1) (a2:=a2) (a3:=a3) (a4:=a4) (a5 := .map (we S)) (b6:=b6) (b7:=b7) (G:=G) (X:=X) (G1:=G1) (Z:=Z) (sz:=7) (rows:=ds.map bd);have hcd:=rW 7 (G.length+(X.length+1+1)+1+1+1+1+1+1) (ds.map bd);refine wk ?_;generalize X++(i7 7 (ds.map bd)++G1)=W at*;generalize fL 7 (G.length+(X.length+1+1)+1+1+1+1+1+1) (ds.map bd)=C at*
  have Lw:ac (∀x∈gB S p.g.xs,x.ok/\x.rl.length<=1048576):=⟨fun x hx=>by
   obtain⟨y,hy,rfl⟩:=UZ.1 hx;have hy:=(VE.1 hy).1;exact⟨EI (hH.out.ok.g.xo y hy),(hH.out.xl y hy).2⟩⟩
  generalize TU:gB S p.g.xs=xs at*;have TU:=ac.mk TU;refine cN [10,59,60,61,62,63,64,65,66,67,68,69,70,71,72,73,74,75,76,77,78,79] 58 xs (fun _:List En×List En×Nat=>[]) (fun s G2=>Gl p pe day S G xs.length ((s.1++s.2.1).map aG) s.2.2 C dw dw (W++G2)) (fun pre post s=>s.1.map (·.id)=pre.map (·.id)/\s.2.1=post/\s.2.2<=xs.length/\∀e∈s.1,e.ok) ([],xs,0) KJ ?_ ?_ ?_
  .exact⟨rfl,rfl,U9 _,fun _ h=>(by cases h)⟩
  .rintro⟨a,b,w⟩ g2 G2 hQ;obtain⟨q1,q2,q3,q4⟩:=hQ;replace q4:∀e∈a,e.ok:=q4;replace q1:a.map (·.id)=xs.map (·.id):=q1;replace q2:b = []:=q2;replace q3:w<=xs.length:=q3;subst q2;have NC:(a.map aG).length=xs.length:=by have:=congrArg List.length q1;simpa using this
   have PU:ac (a.map (·.id)=xs.map (·.id)/\∀e∈a,e.ok):=⟨⟨q1,q4⟩⟩;have RV:=hH.out.ok.e;have L2:=@au _ _ _ RV;have Tu:p.es.length<9223372036854775807:=by have:=hH.out.el;omega
   have K5:=ac.mk hH.out.ok.ei;have Tv:=ac.mk hH.out.epl;clear q1 q4;rw[UM];obtain⟨xr,ND⟩:∃xr,a.map aG=xr:=⟨_,rfl⟩;rw[ND]at NC ⊢;have NC:=ac.mk NC;have Sd:=ac.mk ND;clear ND;refine wk ?_;refine ct [12,84,85,86,87,88,89,90,91,92,93,94,95,96,97,98,99,100,101,102,103,104,105,106,107,108,109] 83 p.es (fun _:List De×ab=>[]) (fun s G3=>Gl p pe day S G xs.length xr w C (fL 4 (G.length+(W.length+(G2.length+s.2.length)+1+1)+1+1+1+1+1+1) (s.1.map dS)) dw (W++(G2++(s.2++(i7 4 (s.1.map dS)++G3))))) (fun pre _ s=>s.1=pre.filter fun d=>gk p pe day ds (d.rc,d.no) && eN S d.pl) ([],[]) RV Tu ty38 ty111 rfl ?_ ?_ ?_ (hS:=⟨[],by simp[Gl,lw,zPr,dw,fL,i7,cd]⟩)
   .rfl
   .rintro⟨l3,X3⟩ g3 G3 hQ;have hQ3:ac (l3=p.es.filter fun d=>gk p pe day ds (d.rc,d.no) && eN S d.pl):=⟨hQ⟩;clear hQ
    have Tz:ac (∀a0 a1 a2 a3 a4 a5 b6 b7 Z,aW (a0::a1::a2::a3::a4::a5::(G++b6::b7::(W++(G2++(X3++(i7 4 (l3.map dS)++Z)))))) (fL 4 (G.length+(W.length+(G2.length+X3.length)+1+1)+1+1+1+1+1+1) (l3.map dS))=some (B8 true 4 (l3.map dS))):=⟨fun a0 a1 a2 a3 a4 a5 b6 b7 Z=>A2 fun h=>by
     cases hl:l3.map dS with
     | nil=>exact absurd hl h
     | cons r l=>simp only[i7,UF,UH,Vx,cr,bZ,VL]⟩
    have hc3:=rW 4 (G.length+(W.length+(G2.length+X3.length)+1+1)+1+1+1+1+1+1) (l3.map dS);generalize i7 4 (l3.map dS)=B3 at*;generalize fL 4 (G.length+(W.length+(G2.length+X3.length)+1+1)+1+1+1+1+1+1) (l3.map dS)=C3 at*;have hos:=hH.out.ok.o;have L3:=@au _ _ _ hos;have SJ:p.os.length<9223372036854775807:=by have:=hH.out.pl;omega
    have hoo:=ac.mk hH.out.ok.oi;have LB:=ac.mk hH.out.pr;refine wk ?_;refine ct [14,15,17,114,115,116,117,118,119,120,121,122,123,124,125,126,127,128,129,130,131,132,133,134,135,136,137,138,139,140,141,142,143,144,145,146,147,148,149,150,151,152] 113 p.os (fun _:List (List AV)×ab=>[]) (fun s G4=>Gl p pe day S G xs.length xr w C C3 (fL 5 (G.length+(W.length+(G2.length+(X3.length+(B3.length+(G3.length+s.2.length))))+1+1)+1+1+1+1+1+1) s.1) (W++(G2++(X3++(B3++(G3++(s.2++(i7 5 s.1++G4)))))))) (fun pre _ s=>s.1.length=(pre.filter fun o=> !(o.rl.filter fun r=>gk p pe day ds r).isEmpty).length) ([],[]) hos SJ ty39 ty114 rfl ?_ ?_ ?_ (hS:=⟨[],by simp[Gl,lw,zPr,dw,fL,i7,cd]⟩)
    .rfl
    .rintro⟨rw,X4⟩ g4 G4 hQ;have R2:=ac.mk hQ;clear hQ;have hc4:=rW 5 (G.length+(W.length+(G2.length+(X3.length+(B3.length+(G3.length+X4.length))))+1+1)+1+1+1+1+1+1) rw;refine wk ?_;simp only[go_sem]
     rw[exp_pr hH.out.gst hH.out.sts (exp_own (rows:=xr) (w:=w) (by simp only[Vx,bZ,VL]) NC.out q3) (hed.out _ _ _ _ _ _ _ _) (Tz.out _ _ _ _ _ _ _ _ _) (A2 (rows:=rw) fun h=>by
      cases rw with
      | nil=>exact absurd rfl h
      | cons r l=>simp only[i7,UF,UH,Vx,cr,bZ,VL])]
     have ha:=Sd.out;subst ha;have hx9:=TU.out;subst hx9;refine⟨S,ds,a,rw,?_,hSH.out,ML.out,PU.out.1,PU.out.2,R2.out⟩;rw[<-hQ3.out]
    .rintro⟨rw,X4⟩ g4 G4 pre x post M7 lt4 w4 i4 hQ;replace hQ:rw.length=(pre.filter fun o=> !(o.rl.filter fun r=>gk p pe day ds r).isEmpty).length:=hQ;have hx:=hoo.out x (by rw[M7.out];simp);obtain⟨ND,N4⟩:=LB.out x (by rw[M7.out];simp);have c1:=hx.e.cell;have c2:=hx.r.cell;have s1:=hx.e.snap;have s2:=hx.r.snap;have z1:=hx.et;have z2:=hx.rt;have hev:=hx.e;have L4:=@au _ _ _ hev;have Ty:x.el.length<9223372036854775807:=by omega
     have Tx:=ac.mk N4;have qr:=qrm.out hx.r ND
     have J5:rw.length<=1048576:=by
      rw[hQ];exact UQ (U0 _ _) (by have:=hH.out.pl;have h9:pre.length<=p.os.length:=(by rw[M7.out];simp);omega)
     have a1:(rw.length+1)*88<=140737488355328:=by omega
     have a2:rw.length+1<=140737488355328:=by omega
     have JU:ac ((pre++[x]).filter (fun o:Po=> !(o.rl.filter fun r=>gk p pe day ds r).isEmpty)=pre.filter (fun o:Po=> !(o.rl.filter fun r=>gk p pe day ds r).isEmpty)++if (x.rl.filter fun r=>gk p pe day ds r).isEmpty then [] else [x]):=⟨by rw[Va];congr 1;simp only[Vy,WX];cases (x.rl.filter fun r=>gk p pe day ds r).isEmpty<;>rfl⟩;have R2:=ac.mk hQ;simp only[cd]at qr;generalize (x.rl.filter fun r=>gk p pe day ds r)=K at*;clear hQ J5 hx ND N4;refine wk ?_;refine ct [17,129,130,131,132,133,134,135,136,137,138,139] 128 x.el (fun o:List Int=>[(15,.sl (G.length+(W.length+(G2.length+(X3.length+(B3.length+(G3.length+(X4.length+((i7 5 rw).length+(G4.length+1+1)))))))+1+1)+1+1+1+1+1+1) o.length 0 o.length 1)]) (fun o G5=>Gl p pe day S G xs.length xr w C C3 (fL 5 (G.length+(W.length+(G2.length+(X3.length+(B3.length+(G3.length+X4.length))))+1+1)+1+1+1+1+1+1) rw) (W++(G2++(X3++(B3++(G3++(X4++(i7 5 rw++(G4 ++ .arr [[.int .i64 x.id,.str x.ti,.str x.tx,x.ev,.sl (G.length+(W.length+(G2.length+(X3.length+(B3.length+(G3.length+(X4.length+((i7 5 rw).length+(G4.length+1)))))))+1+1)+1+1+1+1+1+1) K.length 0 K.length 2]] 5 1 false :: .arr (K.map cK) 2 0 true :: .arr (az o) 1 0 true::G5))))))))) (fun pre _ o=>o.length<=pre.length) ([]:List Int) hev Ty ty31 ty3 rfl (UJ _) ?_ ?_
     .intro o g5 G5 ho;have OM:¬(G.length+(W.length+(G2.length+(X3.length+(B3.length+(G3.length+(X4.length+((i7 5 rw).length+(G4.length+1)))))))+1+1)+1+1+1+1+1+1)=(G.length+(W.length+(G2.length+(X3.length+(B3.length+(G3.length+(X4.length+((i7 5 rw).length+(G4.length)))))))+1+1)+1+1+1+1+1+1):=by omega
      have OL:¬(G.length+(W.length+(G2.length+(X3.length+(B3.length+(G3.length+(X4.length+((i7 5 rw).length+(G4.length+1+1)))))))+1+1)+1+1+1+1+1+1)=(G.length+(W.length+(G2.length+(X3.length+(B3.length+(G3.length+(X4.length+((i7 5 rw).length+(G4.length)))))))+1+1)+1+1+1+1+1+1):=by omega
      have ho:=ac.mk ho;by_cases hk:(0:Int)<(K.length:Int)
      case neg=>
       have hP:ac (rw.length=((pre++[x]).filter fun o=> !(o.rl.filter fun r=>gk p pe day ds r).isEmpty).length):=⟨by rw[JU.out,R2.out,UO (show K.length=0 by omega)];simp⟩;refine wk ?_;exact aE (σ:=List (List AV)×ab) (rw,X4) M7.out hP.out aQ dk
      have hP:ac (rw.length+1=((pre++[x]).filter fun o=> !(o.rl.filter fun r=>gk p pe day ds r).isEmpty).length):=⟨by
       rw[JU.out];cases K with
       | nil=>simp at hk
       | cons r l=>rw[R2.out];simp⟩
      clear OM OL;cases rw with
      | nil=>
       have OM:¬(G.length+(W.length+(G2.length+(X3.length+(B3.length+(G3.length+(X4.length+(G4.length+1))))))+1+1)+1+1+1+1+1+1)=(G.length+(W.length+(G2.length+(X3.length+(B3.length+(G3.length+(X4.length+(G4.length))))))+1+1)+1+1+1+1+1+1):=by omega
       have OL:¬(G.length+(W.length+(G2.length+(X3.length+(B3.length+(G3.length+(X4.length+(G4.length+1+1))))))+1+1)+1+1+1+1+1+1)=(G.length+(W.length+(G2.length+(X3.length+(B3.length+(G3.length+(X4.length+(G4.length))))))+1+1)+1+1+1+1+1+1):=by omega
       refine wk ?_;exact aE (σ:=List (List AV)×ab) ([[.int .i64 x.id,.str x.ti,.str x.tx,.tsl true 1 (az o),.tsl true 2 (K.map cK)]],X4++(G4++pB x K o G5)) M7.out hP.out aQ ⟨[],by simp[Gl,lw,zPr,dw,fL,i7,cd,pB]⟩
      | cons r l=>
       simp only[UB]at a1 a2;have e0:1+G4.length=G4.length+1:=Nat.add_comm _ _;have e1:1+(G4.length+1)=G4.length+1+1:=Nat.add_comm _ _;have e2:1+(G4.length+1+1)=G4.length+1+1+1:=Nat.add_comm _ _;have OM:¬(G.length+(W.length+(G2.length+(X3.length+(B3.length+(G3.length+(X4.length+(G4.length+1+1))))))+1+1)+1+1+1+1+1+1)=(G.length+(W.length+(G2.length+(X3.length+(B3.length+(G3.length+(X4.length+(G4.length+1))))))+1+1)+1+1+1+1+1+1):=by omega
       have OL:¬(G.length+(W.length+(G2.length+(X3.length+(B3.length+(G3.length+(X4.length+(G4.length+1+1+1))))))+1+1)+1+1+1+1+1+1)=(G.length+(W.length+(G2.length+(X3.length+(B3.length+(G3.length+(X4.length+(G4.length+1))))))+1+1)+1+1+1+1+1+1):=by omega
       refine wk ?_;exact aE (σ:=List (List AV)×ab) (r::(l++[[.int .i64 x.id,.str x.ti,.str x.tx,.tsl true 1 (az o),.tsl true 2 (K.map cK)]]),X4) M7.out (by rw[<-hP.out];simp) aQ ⟨G4++pB x K o G5,by simp[Gl,lw,zPr,dw,fL,i7,cd,pB]⟩
     .intro o g5 G5 pre5 y post5 OX lt5 w5 i5 ho;replace ho:o.length<=pre5.length:=ho;have Qj:pre5.length<=x.el.length:=by rw[OX.out];simp
      have a3:(o.length+1)*8<=140737488355328:=by have:=Tx.out;omega
      have a4:o.length+1<=140737488355328:=by omega
      by_cases hy:y∈S
      .have hP:ac ((o++[y]).length<=(pre5++[y]).length):=⟨by simp;omega⟩;clear ho Qj;refine wk ?_;exact aE (σ:=List Int) (o++[y]) OX.out hP.out aQ dk
      .have hP:ac (o.length<=(pre5++[y]).length):=⟨by simp;omega⟩;clear ho Qj;refine wk ?_;exact aE (σ:=List Int) o OX.out hP.out aQ dk
   .rintro⟨l3,X3⟩ g3 G3 pre x post JG lt3 w3 i3 hQ;replace hQ:l3=pre.filter fun d=>gk p pe day ds (d.rc,d.no) && eN S d.pl:=hQ;have hx:=K5.out x (by rw[JG.out];simp);have c1:=hx.p.cell;have s1:=hx.p.snap;have z1:=hx.pt;have qr:=qrm.out (rv := .tsl false 2 [cK (x.rc,x.no)]) (rl:=[(x.rc,x.no)]) (.rows false) (by simp);have qu:=(usesSM S hx.p (Tv.out x (by rw[JG.out];simp))).rw
    have S5:l3.length<=1048576:=by
     rw[hQ];exact UQ (U0 _ _) (by have:=hH.out.el;have h9:pre.length<=p.es.length:=(by rw[JG.out];simp);omega)
    have a1:(l3.length+1)*48<=140737488355328:=by omega
    have a2:l3.length+1<=140737488355328:=by omega
    have no:(gk p pe day ds (x.rc,x.no) && eN S x.pl)=false->ac (l3=(pre++[x]).filter fun d=>gk p pe day ds (d.rc,d.no) && eN S d.pl):=fun hk=>⟨by rw[Va,<-hQ];simp[hk]⟩;have ye:(gk p pe day ds (x.rc,x.no) && eN S x.pl)=true->ac (l3++[x]=(pre++[x]).filter fun d=>gk p pe day ds (d.rc,d.no) && eN S d.pl):=fun hk=>⟨by rw[Va,<-hQ];simp[hk]⟩;simp only[cd,cK]at qr;clear hQ S5 hx;cases hr:gk p pe day ds (x.rc,x.no) with
    | false=>
     have hP:=no (by rw[hr];rfl);have e:[(x.rc,x.no)].filter (fun r=>gk p pe day ds r) = []:=by simp[hr]
     rw[e]at qr;clear no ye hr e qu;refine wk ?_;exact aE (σ:=List De×ab) (l3,X3) JG.out hP.out aQ dk
    | true=>
     have e:[(x.rc,x.no)].filter (fun r=>gk p pe day ds r) = [(x.rc,x.no)]:=by simp[hr]
     rw[e]at qr;cases hu:eN S x.pl with
     | false=>
      have hP:=no (by rw[hr,hu];rfl);rw[hu]at qu;clear no ye hr e hu;refine wk ?_;exact aE (σ:=List De×ab) (l3,X3) JG.out hP.out aQ dk
     | true=>
      have hP:=ye (by rw[hr,hu];rfl);rw[hu]at qu;clear no ye hr e hu;cases l3 with
      | nil=>
       refine wk ?_;exact aE (σ:=List De×ab) ([x],X3++(G3++dB x)) JG.out hP.out aQ ⟨[],by simp[Gl,lw,zPr,dw,fL,i7,cd,dS,cK,dB]⟩
      | cons r l=>
       simp only[UB]at a1 a2;refine wk ?_;exact aE (σ:=List De×ab) (r::(l++[x]),X3) JG.out hP.out aQ ⟨G3++dB x,by simp[Gl,lw,zPr,dw,fL,i7,cd,dS,cK,dB]⟩
  .rintro⟨a,b,w⟩ g2 G2 pre x post I7 lt2 w2 hQ;obtain⟨q1,q2,q3,q4⟩:=hQ;replace q4:∀e∈a,e.ok:=q4;replace q1:a.map (·.id)=pre.map (·.id):=q1;replace q2:b=x::post:=q2;replace q3:w<=xs.length:=q3;subst q2;have K7:a.length=pre.length:=by have:=congrArg List.length q1;simpa using this
   have Jq:((a++x::post).map aG)[pre.length]? = some (aG x):=by rw[<-K7];simp
   have IZ:pre.length<xs.length:=by omega
   have i1:∀{j:IntKind},aD CX 34 (.sl (G.length+1+1+1+1+1+1) xs.length 0 xs.length 8) (.int j (pre.length:Int))=some (.ptr (G.length+1+1+1+1+1+1) xs.length 8 pre.length 0):=fun {j}=>gu ty34 ty66 rfl lt2;obtain⟨hx,JQ⟩:=Lw.out x (by rw[I7.out];simp);obtain⟨c1,c2,c3,c4,c5⟩:=hx.cells;have s1:=hx.r.snap;have qr:=qrm.out hx.r JQ;have z1:=hx.ft;have z2:=hx.at';have z3:=hx.st;have z4:=hx.lt;have z5:=hx.rt;simp only[cd]at qr;generalize (x.rl.filter fun r=>gk p pe day ds r)=K at*
   have Lh:((a++x::post).map aG).set pre.length (List.take 7 (((a++x::post).map aG).getD pre.length []) ++ .tsl true 2 (K.map cK)::List.drop 8 (((a++x::post).map aG).getD pre.length []))=((a++[{ x with rv := .tsl true 2 (K.map cK),rl:=K }])++post).map aG:=by
    rw[Ve,Jq,<-K7,Vv,Vv,Vk,Vv,List.set_append_right _ _ (by simp)];simp[aG]
   have J5:pre.length+(post.length+1)=xs.length:=by rw[I7.out];simp
   have hP:ac ((a++[({ x with rv := .tsl true 2 (K.map cK),rl:=K }:En)]).map (·.id)=(pre++[x]).map (·.id)/\post=post/\xs.length<=xs.length/\∀e∈a++[({ x with rv := .tsl true 2 (K.map cK),rl:=K }:En)],e.ok):=⟨by rw[Vv,Vv,q1];rfl,rfl,UJ _,fun e he=>by
    rcases UU.1 he with he|he
    .exact q4 e he
    .simp only[VI]at he;subst he;exact{ hx with r := .rows true,rt:=rfl }⟩
   simp only[aG]at Jq;clear q1 q4 hx JQ;refine wk ?_;exact aE (σ:=List En×List En×Nat) (a++[{ x with rv := .tsl true 2 (K.map cK),rl:=K }],post,xs.length) I7.out hP.out aQ dk
 .rintro⟨ds,X⟩ g1 G1 pre x post IW lt1 w1 i1 hQ;replace hQ:jU p pe day S pre ds:=hQ;have ML:=ac.mk hQ;have Jg:x∈p.ds:=by rw[IW.out];simp
  have JZ:=hH.out.ok.di x Jg;have x1:=JZ.r.sv.cell;have x2:=JZ.t.cell;have x3:=JZ.n.cell;have y1:=JZ.r.sv.snap;have y2:=JZ.t.snap;have y3:=JZ.n.snap;have z1:=JZ.r.st;have z2:=JZ.tt;have z3:=JZ.nt;have q1:=(Gs hH.out.ok hH.out.few JZ (hH.out.docs.sp x Jg) pe day).rw;simp only[cd,bd]at q1;have Lz:nV p pe day x=sI p.ps p.gs p.cs p.rs x.r pe day:=rfl;rw[<-Lz]at q1;clear hQ Lz;by_cases hL:(0:Int)<((nV p pe day x).length:Int)
  case neg=>
   have hP:ac (jU p pe day S (pre++[x]) ds):=⟨ML.out.skip (UO (by omega))⟩;clear Jg JZ;have hRs:∀k,fL 7 k (ds.map bd)=fL 7 k (ds.map bd):=fun _=>rfl;clear hRs;refine wk ?_;exact aE (σ:=List Dq×ab) (ds,X) IW.out hP.out aQ dk
  have hL0:=ac.mk (show nV p pe day x≠[] from fun e=>by rw[e]at hL;simp at hL);have J3:bq 2 (Fo.spans (nV p pe day x)) (.tsl false 2 (Fo.spans (nV p pe day x))) := .rows false;have htk:List.take (nV p pe day x).length (Fo.spans (nV p pe day x))=Fo.spans (nV p pe day x):=Vm (by rw[Fo.spans_len];exact UJ _);have Mo:=hH.out.n x Jg;have NE:=hH.out.up x Jg;obtain⟨v,⟨M,rfl,hM⟩,q2⟩:=(viewRM JZ (hH.out.docs.tr x Jg) (by omega) NE.ids J3 (hH.out.sp x Jg pe day)).ex;have q2:=q2.rw;obtain⟨v3,⟨nv,cur,rfl,c1,c2,W,hW,hC⟩,q3⟩:=(clearedM S hH.out.ok hH.out.gst hH.out.sts hH.out.el hH.out.epl (d:=⟨x.r,x.tv,x.ts,nvR (jK x.ts x.ns (nV p pe day x) M x.ns),jK x.ts x.ns (nV p pe day x) M x.ns⟩) ⟨JZ.r,JZ.t,JZ.tt,BQ _,nvR_stb _⟩ (up_red NE) (UQ (GB x.ts x.ns (nV p pe day x) M) (by omega)) Mo.2.1 (hH.out.tier x Jg)).ex;have q3:=q3.rw;have hDV:ac (zO x.ts x.ns (nV p pe day x) (nH p S x.r.id) cur):=⟨⟨M,W,hM,hW,hC⟩⟩;have JA:ac (cur.length<=14):=⟨by have:=hC.sub.length_le;have h9:=GB x.ts x.ns (nV p pe day x) M;simp only at this;omega⟩;have hP:ac (jU p pe day S (pre++[x]) (ds++[(⟨x.r,x.tv,x.ts,nv,cur⟩:Dq)])):=⟨ML.out.add rfl rfl hL0.out hDV.out ⟨JZ.r,JZ.t,JZ.tt,c1,c2⟩ JA.out⟩;have c3:=c1.cell;have y4:=(BQ (jK x.ts x.ns (nV p pe day x) M x.ns)).snap;have x4:=(BQ (jK x.ts x.ns (nV p pe day x) M x.ns)).cell;have IY:=ML.out.len;have TE:=hH.out.dl;have IZ:pre.length<=p.ds.length:=by rw[IW.out];simp
  have a1:(ds.length+1)*112<=140737488355328:=by omega
  have a2:ds.length+1<=140737488355328:=by omega
  simp only[cd,bd,afv]at q2 q3;clear Jg JZ Mo NE hM hW hC c1 IY TE IZ;generalize nvR (jK x.ts x.ns (nV p pe day x) M x.ns)=nw at*;cases ds with
  | nil=>
   refine wk ?_;exact aE (σ:=List Dq×ab) ([⟨x.r,x.tv,x.ts,nv,cur⟩],X++(G1++[.arr [[.int .i64 x.r.id,.str x.r.name,.int .i64 x.r.len,.int .i64 x.r.day,x.r.sv,x.tv,x.nv]] 7 1 true,.arr (Fo.spans (nV p pe day x)) 2 0 true,.arr [[.int .i64 x.r.id,.str x.r.name,.int .i64 x.r.len,.int .i64 x.r.day,x.r.sv,x.tv,nv]] 7 0 true])) IW.out hP.out aQ ⟨[],by simp[Gl,lw,zPr,dw,fL,i7,cd,bd]⟩
  | cons r l=>
   simp only[UB]at a1 a2;refine wk ?_;exact aE (σ:=List Dq×ab) (r::(l++[(⟨x.r,x.tv,x.ts,nv,cur⟩:Dq)]),X) IW.out hP.out aQ ⟨G1++[.arr [[.int .i64 x.r.id,.str x.r.name,.int .i64 x.r.len,.int .i64 x.r.day,x.r.sv,x.tv,x.nv]] 7 1 true,.arr (Fo.spans (nV p pe day x)) 2 0 true,.arr [[.int .i64 x.r.id,.str x.r.name,.int .i64 x.r.len,.int .i64 x.r.day,x.r.sv,x.tv,nv]] 7 0 true],by simp[Gl,lw,zPr,dw,fL,i7,cd,bd]⟩
end
end Go.Eng
