/- The language that stays: the entries that stay, without what leads to others (the program's withdraw.language). -/
import Derived.Test.YtkahfcmeeloikaaGreatDoorZ21
import Derived.Test.YtkahfcmeeloikaaGreatDoorZ22
set_option linter.all false
set_option maxHeartbeats 4000000
namespace Go.Eng
open Go.Proofs
section
variable {a:Code}{i:Nat}{l:List (Nat×Nat)}{pre:List En}{v:AV}{x:En}
section
variable (S:ab) (b row j:Nat) (rows:List (List AV)) (sz wep:Nat) (pr:Bool)
def frzL(c e off len Je:Nat):Option dY->ab
 | some (.arr rs sz'' LI pr')=>if c≠b/\off=0/\len=e/\sz''=Je/\rs.length=e/\LI<=e/\(pr' || rs.all cq)=true then
   (S.set c (.dead e)).set b (.arr (rows.set row ((rows.getD row []).set j (.tsl true Je rs))) sz wep pr) else S
 | _=>S
def FH:Option AV->ab
 | some (.sl c e off len Je)=>frzL S b row j rows sz wep pr c e off len Je S[c]?
 | _=>S
def frzB:Option dY->ab
 | some (.arr rows sz wep pr)=>FH S b row j rows sz wep pr (rows.getD row [])[j]?
 | _=>S
def nu:pS S b row j=frzB S b row j S[b]? := by
 unfold pS frzB FH frzL;rfl
def tu:frzB S b row j (some (.arr rows sz wep pr))=FH S b row j rows sz wep pr (rows.getD row [])[j]? := rfl
def xe(c e off len Je:Nat):FH S b row j rows sz wep pr (some (.sl c e off len Je))=frzL S b row j rows sz wep pr c e off len Je S[c]? := rfl
def tp(h:v.stab=true):FH S b row j rows sz wep pr (some v)=S:=by
 cases v<;>first|rfl|(exfalso;revert h;simp[AV.stab])
def tq(k:IntKind)(n:Int):FH S b row j rows sz wep pr (some (.int k n))=S:=rfl
def yP(x:ByteArray):FH S b row j rows sz wep pr (some (.str x))=S:=rfl
def to(c e Je:Nat)(rs:List (List AV))(LI:Nat)(h1:rs.length=e)(h2:LI<=e)(h3:c≠b):frzL S b row j rows sz wep pr c e 0 e Je (some (.arr rs Je LI true))=(S.set c (.dead e)).set b (.arr (rows.set row ((rows.getD row []).set j (.tsl true Je rs))) sz wep pr):=by
 simp[frzL,h1,h2,h3]
def lI(n:Nat):rG b row (n+1) S=rG b row n (pS S b row n):=rfl
def lH:rG b row 0 S=S:=rfl
def nr(e off:Nat):oR (.ptr b e sz row off) S=rG b row sz S:=rfl
end
def o8{b:Code}:cW l (.seq a b) = .seq (cW l a) (cW l b):=rfl
def mK{c:Operand}{b:Code}:cW l (.cond c a b) = .cond c (cW l a) (cW l b):=rfl
def kZ :cW l (.block i a) = .block i (cW l a):=rfl
def mI :cW l (.loop a) = .loop (cW l a):=rfl
def mH :cW l .skip = .skip:=rfl
def o9 :cW l .ret = .ret:=rfl
def mJ :cW l (.exit i) = .exit i:=rfl
def pc{k t:Nat}{ops:Array Oper}{d:Bool}:cW [(k,t)] (.region i ops d)=if (k == i)=true then .seq (.label t) (.region i ops d) else .region i ops d:=by
 simp only[cW,List.filter];cases (k == i)<;>rfl
def dc25:CX.deco 25=cW [(16,7)]:=rfl
def zLg:List AV:=[dw,.str .empty,dw,dw,dw,.int .i64 0,dw,dw,dw]
def zU(S:List Int)(e:En):En:={ e with ma:=if e.ma∈S then e.ma else 0,lv := .tsl true 2 ((e.ll.filter fun x=>decide (x.2∈S)).map gV),ll:=e.ll.filter fun x=>decide (x.2∈S) }
def gB(S:List Int)(xs:List En):List En:=(xs.filter fun e=>decide (e.id∈S)).map (zU S)
def stL_in{S:List Int}(h:x.id∈S):gB S (pre++[x])=gB S pre++[zU S x]:=by simp[gB,Va,h]
def stL_out{S:List Int}(h:x.id∉S):gB S (pre++[x])=gB S pre:=by simp[gB,Va,h]
def pJ{sz:Nat}{rows:List (List AV)}(h:bq sz rows v)(cs:List AV):ce (v::cs)=ce cs:=by cases h<;>rfl
def mC{sz:Nat}{rows:List (List AV)}(h:bq sz rows v)(cs:List AV):bT (v::cs)=bT cs:=by cases h<;>rfl
theorem pA{sz:Nat}{rows:List (List AV)}(h:bq sz rows v)(hs:v.stab=true)(S:ab):bI S v=some v:=by
 cases h with
 | rows st=>simp[bI,hs]
 | esl=>simp[bI,hs]
 | nil=>simp[bI,hs]
structure Lg.stb (g:Lg):Prop where
 sg:g.sgv.stab=true
 u:g.uv.stab=true
 l:g.lv.stab=true
 r:g.rv.stab=true
 p:g.pv.stab=true
 f:g.fv.stab=true
 x:g.xv.stab=true
def Ii{g:Lg}(hg:g.ok)(hs:g.stb){S:ab}{b n w:Nat}{rows:List (List AV)}{R:AV->Prop}(hn:n=rows.length)(hS:S[b]? = some (.arr rows 8 w true))(hw:w<=n) :
  expN R (.agg [g.sgv,.str g.onm,g.uv,g.lv,g.rv,.int .i64 g.nst,g.pv,g.fv,.sl b n 0 n 8]) S=R (.agg [g.sgv,.str g.onm,g.uv,g.lv,g.rv,.int .i64 g.nst,g.pv,g.fv,.osl 8 rows]):=by
 subst hn
 have e1:ce [g.sgv,.str g.onm,g.uv,g.lv,g.rv,.int .i64 g.nst,g.pv,g.fv,.sl b rows.length 0 rows.length 8] = [b]:=by
  rw[pJ hg.sg,show ∀s cs,ce (.str s::cs)=ce cs from fun _ _=>rfl,pJ hg.u,pJ hg.l,pJ hg.r,show ∀k n cs,ce (.int k n::cs)=ce cs from fun _ _ _=>rfl,pJ hg.p,pJ hg.f];simp[ce]
 have e2:bT [g.sgv,.str g.onm,g.uv,g.lv,g.rv,.int .i64 g.nst,g.pv,g.fv,.sl b rows.length 0 rows.length 8] = []:=by
  rw[mC hg.sg,show ∀s cs,bT (.str s::cs)=bT cs from fun _ _=>rfl,mC hg.u,mC hg.l,mC hg.r,show ∀k n cs,bT (.int k n::cs)=bT cs from fun _ _ _=>rfl,mC hg.p,mC hg.f];simp[bT]
 have e3:bI S (.sl b rows.length 0 rows.length 8)=some (.osl 8 rows):=by simp[bI,hS,hw]
 have e4:∀s,bI S (.str s)=some (.str s):=fun _=>rfl;have e5:∀k n,bI S (.int k n)=some (.int k n):=fun _ _=>rfl;simp[expN,pU,dR,e1,e2,dm,pA hg.sg hs.sg,pA hg.u hs.u,pA hg.l hs.l,pA hg.r hs.r,pA hg.p hs.p,pA hg.f hs.f,e3,e4,e5]
def maS(S:List Int)(m:Int):Int:=if m∈S then m else 0
def EH(l:List Lk):(l.map gV).all cq=true:=by
 rw[Vb];intro r hr;obtain⟨x,_,rfl⟩:=UZ.1 hr;rfl
attribute [local irreducible] bB cX cZ aB bS dE
attribute [local go_sem] U1 Vj List.replicate UC Vp Nat.reduceMul Vg bi eF d9 bP bt ci bN cM ba aY aS aM aX and_self fU aG gV bC bp mB nY gp lJ pP nr lI lH nu tu tq xe tp to
def langM{g:Lg}(S:List Int)(hg:g.ok)(hs:g.stb)(hl:g.xs.length<=1000)(Jd:∀e∈g.xs,e.ll.length<=1048576) :
  Ho CX 25 [.agg (fU g),tmM S] (· = .agg [g.sgv,.str g.onm,g.uv,g.lv,g.rv,.int .i64 g.nst,g.pv,g.fv,.osl 8 ((gB S g.xs).map aG)]):=by
 obtain⟨c1,c2,c3,c4,c5,c6,c7⟩:=hg.cells;have NB:=hg.x;have L1:=@au _ _ _ NB;have JQ:g.xs.length<9223372036854775807:=by omega
 have JJ:=ac.mk hl;have JZ:=ac.mk hg.xo;have S4:=ac.mk Jd;have Lq:=ac.mk hg;have Ke:=ac.mk hs;clear hg hs hl Jd;refine Ho.walkD rfl fx25.f rfl fx25.n rfl rfl ?_;simp only[dc25,o8,mK,kZ,mI,mH,o9,mJ,pc,Nat.reduceBEq,U3,if_false,if_true];refine wk ?_;refine ct [7,8,10,15,16,17,18,19,20,21,22,23,24,25,26,27,28,29,30,31,32,33,34,35,36,37,38,39,40,41,42,43,44,45,46,47,48,49,50,51] 14 g.xs (fun l:List En=>[(5,.sl 2 l.length 0 l.length 8)]) (fun l G=> .arr [[g.sgv,.str g.onm,g.uv,g.lv,g.rv,.int .i64 g.nst,g.pv,g.fv,g.xv]] 9 0 (g.sgv.stab && (g.uv.stab && (g.lv.stab && (g.rv.stab && (g.pv.stab && (g.fv.stab && g.xv.stab)))))) :: .arr [zLg] 9 0 true :: .arr (l.map aG) 8 0 true::G) (fun pre _ l=>l=gB S pre) ([]:List En) NB JQ ty34 ty66 rfl ?_ ?_ ?_
 .rfl
 .intro l g1 G h2;replace h2:l=gB S g.xs:=h2;have JD:=ac.mk h2;clear h2;refine wk ?_;simp only[go_sem];rw[Ii Lq.out Ke.out (rows:=l.map aG) (w:=0) (by simp) (by simp) (U9 _)];rw[JD.out]
 .intro l g1 G pre x post IW lt1 w1 i1 h2;replace h2:l=gB S pre:=h2;have hx:=JZ.out x (by rw[IW.out];simp);have PW:=S4.out x (by rw[IW.out];simp);obtain⟨d1,d2,d3,d4,d5⟩:=hx.cells;have t1:=hx.ft;have t2:=hx.at';have t3:=hx.st;have t5:=hx.rt;have LF:=hx.l;have L2:=@au _ _ _ LF;have SX:x.ll.length<9223372036854775807:=by omega
  have Mr:l.length<=1000:=by
   rw[h2,gB,UI];exact UQ (U0 _ _) (by have h7:=JJ.out;have h8:pre.length<=g.xs.length:=(by rw[IW.out];simp);omega)
  have a1:(l.length+1)*144<=140737488355328:=by omega
  have a2:l.length+1<=140737488355328:=by omega
  by_cases k:x.id∈S
  case neg=>
   have hP:ac (l=gB S (pre++[x])):=⟨by rw[stL_out k];exact h2⟩;clear h2 hx;exact wf
  have hP:ac (l++[zU S x]=gB S (pre++[x])):=⟨by rw[stL_in k,h2]⟩;have Pu:=ac.mk hx;have Qx:=ac.mk PW;have t4:=hx.lt;clear h2 hx PW Mr
  obtain⟨m',e,hk⟩:∃m',maS S x.ma=m'/\((x.ma∈S/\m'=x.ma)\/(x.ma∉S/\m'=0)):=by
   by_cases k2:x.ma∈S
   .exact⟨x.ma,by rw[maS,if_pos k2],.inl ⟨k2,rfl⟩⟩
   .exact⟨0,by rw[maS,if_neg k2],.inr ⟨k2,rfl⟩⟩
  replace e:=ac.mk e;have I8:¬G.length+1+1+1+1=G.length+1+1+1:=by omega
  rcases hk with ⟨k2,rfl⟩|⟨k2,rfl⟩ <;>
  (refine wk ?_
   refine ct [10,33,34,35,36,37,38,39,40,41,42,43,44] 32 x.ll (fun l2:List Lk=>[(8,.sl (G.length+1+1+1+1) l2.length 0 l2.length 2)]) (fun l2 G2=> .arr [[g.sgv,.str g.onm,g.uv,g.lv,g.rv,.int .i64 g.nst,g.pv,g.fv,g.xv]] 9 0 (g.sgv.stab && (g.uv.stab && (g.lv.stab && (g.rv.stab && (g.pv.stab && (g.fv.stab && g.xv.stab)))))) :: .arr [zLg] 9 0 true :: .arr (l.map aG) 8 0 true::(G ++ .arr [[.int .i64 x.id,x.fv,.int .i64 x.cl,x.av,.int .i64 (maS S x.ma),x.sv,x.lv,x.rv]] 8 1 true :: .arr (l2.map gV) 2 0 true::G2)) (fun pre2 _ l2=>l2=pre2.filter fun y=>decide (y.2∈S)) [] LF SX ty63 ty153 rfl rfl ?_ ?_ (hS:=⟨[],by rw[e.out];simp⟩)
   .intro l2 g2 G2 h3;replace h3:l2=x.ll.filter fun y=>decide (y.2∈S):=h3;have MM:=ac.mk h3;have Kk:=EH l2;clear h3;refine wk ?_;obtain⟨rfl⟩:=MM;exact aE (σ:=List En) (l++[zU S x]) IW.out hP.out aQ dk
   .intro l2 g2 G2 pre2 y post2 I7 lt2 w2 i2 h3;replace h3:l2=pre2.filter fun y=>decide (y.2∈S):=h3
    have KX:l2.length<=1048576:=by
     rw[h3];exact UQ (U0 _ _) (by have:=Qx.out;omega)
    have a3:(l2.length+1)*16<=140737488355328:=by omega
    have a4:l2.length+1<=140737488355328:=by omega
    by_cases k3:y.2∈S
    .have Q7:ac (l2++[y]=(pre2++[y]).filter fun y=>decide (y.2∈S)):=⟨by rw[Va,<-h3];simp[k3]⟩;clear h3 KX;refine wk ?_;exact aE (σ:=List Lk) (l2++[y]) I7.out Q7.out aQ dk
    .have Q7:ac (l2=(pre2++[y]).filter fun y=>decide (y.2∈S)):=⟨by rw[Va,<-h3];simp[k3]⟩;clear h3 KX;refine wk ?_;exact aE (σ:=List Lk) l2 I7.out Q7.out aQ dk)
end
section
variable {Lf:List Int->List Int}{S T:List Int}
theorem xC{s s':mQ}(hw:s'.w=s.w)(MB:s'.sh=s.sh){W W':List Pa->Int->List Int->Bool}(h:∀ps st b,W ps st b=true->W' ps st b=true){id:Int}{ps:List Pa}{st:Int}{b:List Int}:∀(l:List (AV×List Int)) (i:Nat),stepG s W id ps st b l i=true->stepG s' W' id ps st b l i=true
 | [],_,h0=>h0
 | x::l,i,h0=>by
  have e:qI s' b x.2=qI s b x.2:=by simp only[qI,hw,MB]
  simp only[stepG,V1,UT]at h0 ⊢;rcases h0 with ⟨h1,h2⟩|h1
  .exact .inl ⟨by rw[e];exact h1,h _ _ _ h2⟩
  .exact .inr (xC hw MB h l (i+1) h1)
def xt{s s':mQ}(hw:s'.w=s.w)(hf:s'.fi=s.fi)(hi:s'.id=s.id)(hp:s'.g.ps=s.g.ps){Fs Fs':En->List Pa->Int->List Int->Bool}
  (h:∀e∈s.g.xs,∃e'∈s'.g.xs,e'.cl=e.cl/\∀ps st b,Fs e ps st b=true->Fs' e' ps st b=true) (ps:List Pa) (st:Int) (b:List Int) (h0:ot s Lf Fs ps st b=true):ot s' Lf Fs' ps st b=true:=by
 have e1:qz s' Lf ps st b=qz s Lf ps st b:=by simp only[qz,nh,hw,hf,hi]
 simp only[ot,V1,UT,VQ]at h0 ⊢;rcases h0 with h0|⟨h1,e,he,h2,h3⟩
 .exact .inl (by rw[e1];exact h0)
 .obtain⟨e',LS,hc,h4⟩:=h e he;refine .inr ⟨h1,e',LS,?_,?_⟩
  .rw[hp,hc];exact h2
  .rw[hp,hc];exact h4 _ _ _ h3
theorem sL{s s':mQ}{Lf:List Int->List Int}(hw:s'.w=s.w)(MB:s'.sh=s.sh)(hf:s'.fi=s.fi)(hi:s'.id=s.id)(hp:s'.g.ps=s.g.ps)
  (h:∀e∈s.g.xs,∃e'∈s'.g.xs,e'.id=e.id/\e'.cl=e.cl/\fh e'=fh e/\(wL s.g.xs e.id=true->wL s'.g.xs e.id=true)):∀(n:Nat) (ps:List Pa) (st:Int) (b:List Int),mV s Lf n ps st b=true->mV s' Lf n ps st b=true
 | 0,ps,st,b,h0=>xt hw hf hi hp (fun e he=>by obtain⟨e',h1,h2,h3,_⟩:=h e he;exact⟨e',h1,h3,fun _ _ _ h=>h⟩) ps st b h0
 | n+1,ps,st,b,h0=>xt hw hf hi hp (fun e he=>by
   obtain⟨e',h1,h2,h3,h4,h5⟩:=h e he;refine⟨e',h1,h3,fun ps st b hh=>?_⟩;simp only[stepW,UT]at hh ⊢;exact⟨by rw[h2];exact h5 hh.1,by rw[h2,h4];exact xC hw MB (sL hw MB hf hi hp h n) _ _ hh.2⟩) ps st b h0
theorem tE{S:List Int}{n:Int}:∀X:List En,(gB S X).find? (fun e=>e.id == n)=if n∈S then (X.find? fun e=>e.id == n).map (zU S) else none
 | []=>by simp[gB]
 | x::X=>by
  have ih:=tE (S:=S) (n:=n) X;by_cases k:x.id∈S
  .have e:gB S (x::X)=zU S x::gB S X:=by simp[gB,k]
   rw[e,V3,V3];by_cases k2:x.id=n
   .subst k2;rw[if_pos k];simp[zU]
   .have k3:(x.id == n)=false:=by simpa using k2
    rw[show ((zU S x).id == n)=false from k3,k3];exact ih
  .have e:gB S (x::X)=gB S X:=by simp[gB,k]
   rw[e,V3,ih];by_cases k2:x.id=n
   .subst k2;rw[if_neg k,if_neg k]
   .have k3:(x.id == n)=false:=by simpa using k2
    rw[k3]
theorem Cz{S T:List Int}(h:∀x∈S,x∈T){X:List En}:∀(k k':Nat) (n:Int),k<=k'->wK (gB S X) k n≠[]->wK (gB T X) k' n≠[]
 | 0,_,_,_,h0=>absurd rfl h0
 | k+1,0,_,hk,_=>absurd hk (by omega)
 | k+1,k'+1,n,hk,h0=>by
  rw[wK,tE]at h0;rw[wK,tE];by_cases k1:n∈S
  case neg=>rw[if_neg k1]at h0;exact absurd rfl h0
  rw[if_pos k1]at h0;rw[if_pos (h n k1)];cases hf:X.find? fun e=>e.id == n with
  | none=>rw[hf]at h0;exact absurd rfl h0
  | some e=>
   rw[hf]at h0;simp only[Vf,zU]at h0 ⊢;by_cases k2:e.sl = []
   .rw[if_pos k2]at h0 ⊢;by_cases k3:e.ma∈S
    .rw[if_pos k3]at h0;rw[if_pos (h _ k3)];by_cases k4:e.ma=0
     .rw[if_pos k4]at h0;exact absurd rfl h0
     .rw[if_neg k4]at h0 ⊢;exact Cz h k k' _ (by omega) h0
    .rw[if_neg k3,if_pos rfl]at h0;exact absurd rfl h0
   .rw[if_neg k2];exact k2
theorem Gq{S T:List Int}(h:∀x∈S,x∈T):∀X:List En,(gB S X).length<=(gB T X).length
 | []=>UJ _
 | x::X=>by
  have ih:=Gq h X;simp only[gB,UI,Vy]at ih ⊢;by_cases k:x.id∈S
  .simp[k,h _ k];exact ih
  .by_cases k2:x.id∈T
   .simp[k,k2];omega
   .simp[k,k2];exact ih
theorem HH(h:∀x∈S,x∈T){X:List En}{n:Int}(h0:wL (gB S X) n=true):wL (gB T X) n=true:=by
 unfold wL at h0 ⊢
 have:=Cz h (X:=X) ((gB S X).length+1) ((gB T X).length+1) n (by have:=Gq h X;omega) (by
  intro e;rw[e]at h0;cases h0)
 cases hw:wK (gB T X) ((gB T X).length+1) n with
 | nil=>exact absurd hw this
 | cons a l=>rfl
def zR(S:List Int)(g:Lg):Lg:={ g with xv := .tsl true 8 ((gB S g.xs).map aG),xs:=gB S g.xs }
def Hv(h:∀x∈S,x∈T){g:Lg}{sh:Bool}{w:List Int}{id:Int}(h0:jv (zR S g) Lf sh w id=true):jv (zR T g) Lf sh w id=true:=by
 unfold jv at h0 ⊢;simp only[UT]at h0 ⊢;refine⟨h0.1,h0.2.1,?_⟩;refine sL (s:=mkS (zR S g) sh w id) (s':=mkS (zR T g) sh w id) rfl rfl rfl rfl rfl (fun e he=>?_) 4 [] 1 [] h0.2.2;have LS:e∈gB S g.xs:=he;simp only[gB,UZ,VE,decide_eq_true_eq]at LS;obtain⟨x,⟨hx,hxS⟩,rfl⟩:=LS;refine⟨zU T x,?_,rfl,rfl,rfl,fun hs=>HH h hs⟩;show zU T x∈gB T g.xs;exact UZ.2 ⟨x,VE.2 ⟨hx,by simpa using h _ hxS⟩,rfl⟩
end
section
variable {d:Dc}{ns:List Nt}{ts:List Ti}
def mZ(ts:List Ti):Bool:=decide (0<=dP 2 ts 0) && (decide (0<=dP 3 ts 0) && decide (0<=dP 4 ts 0))
attribute [local irreducible] bB cX cZ aB bS dE
attribute [local go_sem] bi and_self ck aZ bC bp
def FN(hd:d.ok ts ns)(hl:ts.length<=1048576):aB CX 126 [.agg (ck d)] (· = .agg [.int .i64 (dP 2 ts 0),.int .i64 (dP 3 ts 0),.int .i64 (dP 4 ts 0)]):=by
 have c1:=hd.nc;have c2:=hd.tc;have c3:=hd.sc;have s2:=hd.tsn;have q2:=(C4 2 hd.t hl).rw;have q3:=(C4 3 hd.t hl).rw;have q4:=(C4 4 hd.t hl).rw;clear hd hl;refine aL fx126 ?_;exact wf
def readyM(hd:d.ok ts ns)(hl:ts.length<=1048576):aB CX 124 [.agg (ck d)] (· = .bool (mZ ts)):=by
 have c1:=hd.nc;have c2:=hd.tc;have c3:=hd.sc;have s1:=hd.n.snap;have s2:=hd.tsn;have s3:=hd.ss;have q:=(FN hd hl).rw;simp only[ck]at q;unfold mZ;clear hd hl;generalize dP 2 ts 0=a at*;generalize dP 3 ts 0=b at*;generalize dP 4 ts 0=c at*;by_cases k1:0<=a
 case neg=>
  rw[decide_eq_false k1];refine aL fx124 ?_;exact wf
 by_cases k2:0<=b
 case neg=>
  rw[decide_eq_false k2];refine aL fx124 ?_;exact wf
 rw[decide_eq_true k1,decide_eq_true k2];refine aL fx124 ?_;exact wf
def getWM{n:Nt}(id:Int)(hg:cO ns id=some n)(hd:d.ok ts ns)(hl:ts.length<=1048576)(hn:ns.length<=1048576):aB CX 125 [.agg (ck d),.int .i64 id] (· = .tup [.agg (aZ n),.bool (n.ti == dP 2 ts 0)]):=by
 have c1:=hd.nc;have c2:=hd.tc;have c3:=hd.sc;have s1:=hd.n.snap;have s2:=hd.tsn;have s3:=hd.ss;have q:=(FN hd hl).rw;have q1:=(Ib id hd hn).rw;simp only[ck]at q q1;rw[hg]at q1;simp only[iX,aZ]at q1;clear hd hl hn hg;generalize dP 2 ts 0=a at*;generalize dP 3 ts 0=b at*;generalize dP 4 ts 0=c at*;refine aL fx125 ?_;refine wk ?_;simp only[go_sem];exact(jD (zb n _)).mpr rfl
end
section
variable {X:ab}{g:Int->Nat}{ns pre:List Nt}{rows:List (AV×AV)}
def fu(ns:List Nt)(p:Int):List Int:=(ns.filter fun n=>n.pa == p).map (·.id)
def ku(pre:List Nt)(x:Nt)(p:Int):fu (pre++[x]) p=if p=x.pa then fu pre p++[x.id] else fu pre p:=by
 by_cases k:p=x.pa
 .subst k;simp[fu,Va]
 .have k2:(x.pa == p)=false:=by simpa using fun h=>k h.symm
  simp[fu,Va,k,k2]
structure nU (pre:List Nt) (rows:List (AV×AV)) (X:ab) (g:Int->Nat):Prop where
 key:∀e∈rows,∃i:Int,e.1 = .int .i64 i
 non:∀p,fu pre p = []->ef (.int .i64 p) rows=some none
 som:∀p,fu pre p≠[]->ef (.int .i64 p) rows=some (some (.sl (g p+1+1+1+1) (fu pre p).length 0 (fu pre p).length 1))/\X[g p]? = some (.arr (az (fu pre p)) 1 0 true)
 inj:∀p q,fu pre p≠[]->fu pre q≠[]->g p=g q->p=q
theorem BW{k:Int}{v:AV}:∀{rows:List (AV×AV)},(∀e∈rows,∃i:Int,e.1 = .int .i64 i)->∀e∈jc (.int .i64 k) v rows,∃i:Int,e.1 = .int .i64 i
 | [],_,e,he=>by simp only[jc,VI]at he;subst he;exact⟨k,rfl⟩
 | r::rows,h,e,he=>by
  obtain⟨i,hi⟩:=h r (List.mem_cons_self ..);simp only[jc,hi,iK,if_true]at he;cases hb:(k == i) with
  | true=>
   rw[hb]at he;rcases U2.1 he with rfl|he
   .exact⟨k,rfl⟩
   .exact h e (Xc _ he)
  | false=>
   rw[hb]at he;rcases U2.1 he with rfl|he
   .exact⟨i,hi⟩
   .exact BW (fun e he=>h e (Xc _ he)) e he
theorem oU{k p:Int}{v:AV}:∀{rows:List (AV×AV)},(∀e∈rows,∃i:Int,e.1 = .int .i64 i)->ef (.int .i64 p) (jc (.int .i64 k) v rows)=if p=k then some (some v) else ef (.int .i64 p) rows
 | [],_=>by
  by_cases h:p=k
  .simp[jc,ef,iK,h]
  .have h':(p == k)=false:=by simpa using h
   simp[jc,ef,iK,h',h]
 | r::rows,h=>by
  obtain⟨i,hi⟩:=h r (List.mem_cons_self ..);have ih:=oU (k:=k) (p:=p) (v:=v) (fun e he=>h e (Xc _ he));simp only[jc,hi,iK,if_true];cases hb:(k == i) with
  | true=>
   have hb:k=i:=by simpa using hb
   subst hb;by_cases hp:p=k
   .simp[ef,iK,hp]
   .have h':(p == k)=false:=by simpa using hp
    simp[ef,iK,hi,h',hp]
  | false=>
   have hb:k≠i:=by simpa using hb
   by_cases hp:p=i
   .subst hp;have:p≠k:=fun e=>hb e.symm;simp[ef,iK,hi,this]
   .have h':(p == i)=false:=by simpa using hp
    simp[ef,iK,hi,h',ih]
def bel_nil:nU [] [] [] fun _=>0 where
 key _ h:=(by cases h)
 non _ _:=rfl
 som _ h:=absurd rfl h
 inj _ _ h:=absurd rfl h
def Hg(h:nU pre rows X g)(Z:ab):nU pre rows (X++Z) g where
 key:=h.key
 non:=h.non
 som p hp:=⟨(h.som p hp).1,by
  have h1:=(h.som p hp).2;rw[UN (UK.1 h1).1];exact h1⟩
 inj:=h.inj
def bel_new(x:Nt)(h:nU pre rows X g)(hx:fu pre x.pa = []) :
  nU (pre++[x]) (jc (.int .i64 x.pa) (.sl (X.length+1+1+1+1) 1 0 1 1) rows) (X++[.arr [[.int .i64 x.id]] 1 0 true]) (fun p=>if p=x.pa then X.length else g p) where
 key:=BW h.key
 non p hp:=by
  rw[ku]at hp;by_cases k:p=x.pa
  .rw[if_pos k]at hp;simp at hp
  .rw[if_neg k]at hp;rw[oU h.key,if_neg k];exact h.non p hp
 som p hp:=by
  rw[ku]at hp ⊢;rw[oU h.key];by_cases k:p=x.pa
  .subst k;simp[hx,az]
  .simp only[if_neg k]at hp ⊢;have h1:=h.som p hp;exact⟨h1.1,by rw[UN (UK.1 h1.2).1];exact h1.2⟩
 inj p q hp hq:=by
  rw[ku]at hp hq;have Ja:∀r,fu pre r≠[]->g r<X.length:=fun r hr=>(UK.1 (h.som r hr).2).1;by_cases k:p=x.pa
  .by_cases k2:q=x.pa
   .intro _;rw[k,k2]
   .simp only[if_pos k,if_neg k2]at hp hq ⊢;intro e;have:=Ja q hq;omega
  .by_cases k2:q=x.pa
   .simp only[if_pos k2,if_neg k]at hp hq ⊢;intro e;have:=Ja p hp;omega
   .simp only[if_neg k,if_neg k2]at hp hq ⊢;exact h.inj p q hp hq
def bel_upd(x:Nt)(h:nU pre rows X g)(hx:fu pre x.pa≠[]) :
  nU (pre++[x]) (jc (.int .i64 x.pa) (.sl (g x.pa+1+1+1+1) ((fu pre x.pa).length+1) 0 ((fu pre x.pa).length+1) 1) rows) (X.set (g x.pa) (.arr (az (fu pre x.pa)++[[.int .i64 x.id]]) 1 0 true)) g where
 key:=BW h.key
 non p hp:=by
  rw[ku]at hp;by_cases k:p=x.pa
  .rw[if_pos k]at hp;simp at hp
  .rw[if_neg k]at hp;rw[oU h.key,if_neg k];exact h.non p hp
 som p hp:=by
  rw[ku]at hp ⊢;rw[oU h.key];by_cases k:p=x.pa
  .subst k;have Ja:=(UK.1 (h.som _ hx).2).1;simp[az,Ja]
  .simp only[if_neg k]at hp ⊢;have h1:=h.som p hp;exact⟨h1.1,by rw[VF (fun e=>k (h.inj _ _ hp hx e.symm))];exact h1.2⟩
 inj p q hp hq:=by
  have hh:∀r,fu (pre++[x]) r≠[]->fu pre r≠[]:=fun r hr=>by
   rw[ku]at hr;by_cases k:r=x.pa
   .rw[k];exact hx
   .rwa [if_neg k]at hr
  exact h.inj p q (hh p hp) (hh q hq)
def jE(ns:List Nt):Nat->Int->List Int
 | 0,_=>[]
 | k+1,id=>(fu ns id).flatMap fun i=>i::jE ns k i
theorem colF_nil{id:Int}(h:fu ns id = []):∀k,jE ns k id = []
 | 0=>rfl
 | k+1=>by rw[jE,h];rfl
def outB(b:Nat):List Int->dY
 | []=> .arr [[.flat (.slice none 0 0)]] 1 0 true
 | _::l=> .arr [[.sl b (l.length+1) 0 (l.length+1) 1]] 1 1 false
def blkI:List Int->ab
 | []=>[]
 | i::l=>[.arr ([.int .i64 i]::az l) 1 0 true]
def H9:az [] = []:=rfl
def H8(x:Int):az [x] = [[.int .i64 x]]:=rfl
def yb(b:Nat):outB b [] = .arr [[.flat (.slice none 0 0)]] 1 0 true:=rfl
def pL(b:Nat)(i:Int)(l:List Int):outB b (i::l) = .arr [[.sl b (l.length+1) 0 (l.length+1) 1]] 1 1 false:=rfl
def zD:blkI [] = []:=rfl
def vF(i:Int)(l:List Int):blkI (i::l) = [.arr ([.int .i64 i]::az l) 1 0 true]:=rfl
def US(D0:dY)(rows:List (AV×AV))(X:ab)(o:List Int)(Y G:ab):ab :=
 D0 :: .arr [] 1 0 true :: .map rows :: .arr [[.mp 2]] 1 1 false::(X++outB (X.length+(Y.length+1+1)+1+1+1+1) o :: .arr [[.fn 173 [.ptr 3 1 1 0 0,.ptr (X.length+1+1+1+1) 1 1 0 0,.ptr (X.length+1+1+1+1+1) 1 1 0 0]]] 1 1 false::(Y++(blkI o++G)))
attribute [local irreducible] bB cX cZ aB bS dE
attribute [local go_sem] U1 Vj List.replicate UC Vp Nat.reduceMul Vg eF d9 bP bt ci bN ba aY aS aM aX and_self ck aZ bC bp mB nY gp Fi Wy p8 vz yb pL zD vF
attribute [local go_sem] US
theorem colM(D0:dY){T:Nat}(hb:nU ns rows X g)(hd:∀n∈ns,n.ti<(T:Int)/\∀m∈ns,m.pa=n.id->n.ti<m.ti)(MT:ns.length<=1000):∀(k:Nat) (id:Int) (o:List Int) (Y G:ab),(∀n∈ns,n.pa=id->(T:Int)<=n.ti+k)->o.length+(jE ns k id).length<=1000000000 ->
  bS CX 173 [.int .i64 id,.ptr 3 1 1 0 0,.ptr (X.length+1+1+1+1) 1 1 0 0,.ptr (X.length+1+1+1+1+1) 1 1 0 0] (US D0 rows X o Y G) (fun v S'=>v = .tup []/\∃Y' G',S'=US D0 rows X (o++jE ns k id) Y' G'):=by
 intro k
 induction k with
 | zero=>
  intro id o Y G h0 _
  have hK:fu ns id = []:=by
   rw[fu,List.map_eq_nil_iff,List.filter_eq_nil_iff];intro n hn hp;have h1:=h0 n hn (by simpa using hp);have h2:=(hd n hn).1;omega
  have q:=hb.non id hK;rw[jE,UM];clear hb hd h0 hK;refine tY fx173 ?_;refine wk ?_;refine cN [6,12,13,14,15,16,17,18,19,20,21,22] 11 ([]:List Int) (fun _:Unit=>[]) (fun _ G2=>US D0 rows X o Y G2) (fun _ _ _=>True) () (by simp) ?_ ?_ ?_
  .exact trivial
  .intro s g G2 _;refine wk ?_;simp only[go_sem];exact⟨Y,_,rfl⟩
  .intro s g G2 pre x post IW;have:=IW.out;simp at this
 | succ k ih=>
  intro id o Y G h0 IY;by_cases hK:fu ns id = []
  .have q:=hb.non id hK;rw[colF_nil hK,UM];clear hb hd h0 hK ih IY;refine tY fx173 ?_;refine wk ?_;refine cN [6,12,13,14,15,16,17,18,19,20,21,22] 11 ([]:List Int) (fun _:Unit=>[]) (fun _ G2=>US D0 rows X o Y G2) (fun _ _ _=>True) () (by simp) ?_ ?_ ?_
   .exact trivial
   .intro s g G2 _;refine wk ?_;simp only[go_sem];exact⟨Y,_,rfl⟩
   .intro s g G2 pre x post IW;have:=IW.out;simp at this
  .obtain⟨q,hX⟩:=hb.som id hK;have MK:=ac.mk hb;have Mx:=(UK.1 hX).1;have hXa:∀Z:ab,(X++Z)[g id]? = some (.arr (az (fu ns id)) 1 0 true):=fun Z=>by rw[UN Mx];exact hX
   have Jm:ac (∀i∈fu ns id,∀n∈ns,n.pa=i->(T:Int)<=n.ti+k):=⟨fun i hi n hn hp=>by
    simp only[fu,UZ,VE]at hi;obtain⟨m,⟨hm,SQ⟩,rfl⟩:=hi;have h1:=h0 m hm (by simpa using SQ);have h2:=(hd m hm).2 n hn hp;omega⟩
   have hlk:(fu ns id).length<9223372036854775807:=by
    rw[fu,UI];exact Vu (U0 _ _) (by omega)
   rw[jE]at IY ⊢;have QA:=ac.mk IY;have ihH:=ac.mk ih;generalize fu ns id=K at*;clear hb hd h0 hK ih IY hX Mx MT;refine tY fx173 ?_;refine wk ?_;refine cN [6,12,13,14,15,16,17,18,19,20,21,22] 11 K (fun _:List Int×ab=>[]) (fun s G2=>US D0 rows X s.1 s.2 G2) (fun pre _ s=>s.1=o++pre.flatMap fun i=>i::jE ns k i) (o,Y) hlk ?_ ?_ ?_
   .simp
   .rintro⟨o',Y'⟩ g2 G2 h2;replace h2:o'=o++K.flatMap fun i=>i::jE ns k i:=h2;rw[<-h2];clear h2;refine wk ?_;simp only[go_sem];exact⟨Y',G2,rfl⟩
   .rintro⟨o',Y'⟩ g2 G2 pre x post IW lt1 w1 h2;replace h2:o'=o++pre.flatMap fun i=>i::jE ns k i:=h2;have Jq:(az K)[pre.length]? = some [.int .i64 x]:=by rw[IW.out];simp[az]
    have IZ:pre.length<K.length:=by omega
    have i2:∀{j:IntKind},aD CX 31 (.sl (g id+1+1+1+1) K.length 0 K.length 1) (.int j (pre.length:Int))=some (.ptr (g id+1+1+1+1) K.length 1 pre.length 0):=fun {j}=>gu ty31 ty3 rfl lt1
    have Kn:o'.length+1+(jE ns k x).length<=1000000000:=by
     have:=QA.out;rw[IW.out]at this;rw[h2];simp only[UG,Xh,VX,UB]at this ⊢;omega
    have hP:ac (o'++[x]++jE ns k x=o++(pre++[x]).flatMap fun i=>i::jE ns k i):=⟨by rw[h2,Xh];simp⟩;have ihx:=fun Y3 G3=>ihH.out x (o'++[x]) Y3 G3 (Jm.out x (by rw[IW.out];simp)) (by simpa using Kn);have a1:(o'.length+1)*8<=140737488355328:=by omega
    have a2:o'.length+1<=140737488355328:=by omega
    have a3:(1:Nat)*8<=140737488355328:=by omega
    have a4:(1:Nat)<=140737488355328:=by omega
    clear h2 Kn;cases o' with
    | nil=>
     have qx:=ihx (Y'++(G2++[.arr [[.int .i64 x]] 1 0 true])) [];simp only[US,UH,pL,vF,UG,UB,UE,UX,UF,UW,H9,UM]at qx;refine wk ?_;refine wr qx ?_;rintro v S' ⟨rfl,Y3,G3,rfl⟩;refine wk ?_;exact aE (σ:=List Int×ab) ([]++[x]++jE ns k x,Y3) IW.out hP.out aQ ⟨G3,rfl⟩
    | cons i l=>
     have qx:=ihx Y' (G2++[.arr [[.int .i64 x]] 1 0 true]);simp only[US,UF,pL,vF,UG,UB,UE,UH,UX,UW,gH,H8]at qx;simp only[UB]at a1 a2;refine wk ?_;refine wr qx ?_;rintro v S' ⟨rfl,Y3,G3,rfl⟩;refine wk ?_;exact aE (σ:=List Int×ab) (i::l++[x]++jE ns k x,Y3) IW.out hP.out aQ ⟨G3,by simp[US,outB,blkI,az]⟩
end
section
structure Up (T:Nat) (ns:List Nt):Prop where
 ids:ns.Pairwise fun a b=>a.id<b.id
 rng:∀n∈ns,0<=n.ti/\n.ti<(T:Int)
 par:∀n∈ns,∀m∈ns,m.pa=n.id->n.ti<m.ti
def Up.sub{T:Nat}{ns l:List Nt}(h:Up T ns)(hl:l.Sublist ns):Up T l where
 ids:=h.ids.sublist hl
 rng n hn:=h.rng n (hl.subset hn)
 par n hn m hm:=h.par n (hl.subset hn) m (hl.subset hm)
theorem DW{ns:List Nt}(h:ns.length<=19):∀(k:Nat) (id:Int),(jE ns k id).length+1<=20 ^ k
 | 0,_=>by simp[jE]
 | k+1,id=>by
  have hk:(fu ns id).length<=19:=by rw[fu,UI];exact UQ (U0 _ _) h
  have h1:∀l:List Int,(l.flatMap fun i=>i::jE ns k i).length<=l.length*20 ^ k:=by
   intro l
   induction l with
   | nil=>simp
   | cons a l ih=>
    have:=DW h k a;simp only[VX,UG,UB,Nat.succ_mul];omega
  have h2:=h1 (fu ns id);have h3:(fu ns id).length*20 ^ k<=19*20 ^ k:=VC _ hk;have h4:0<20 ^ k:=Nat.pow_pos (by omega);rw[jE,Nat.pow_succ];omega
def um(T:Nat)(ns:List Nt)(id:Int):List Int:=if (cO ns id).isSome=true then jE ns T id else []
attribute [local irreducible] bB cX cZ aB bS dE
attribute [local go_sem] U1 Vj List.replicate UC Vp Nat.reduceMul Vg bi eF d9 bP bt ci bN cM ba aY aS aM aX and_self vr ck aZ bC bp mB nY gp Fi Wy p8 vz
theorem underM{d:Dc}{ts:List Ti}{ns:List Nt}(id:Int)(hd:d.ok ts ns)(hu:Up ts.length ns)(hl:ns.length<=19)(ht:ts.length<=6):∃l v,(∀x,x∈l↔x∈um ts.length ns id)/\l.length<=64000000/\Ag l v/\∀Q,aB CX 127 [.agg (ck d),.int .i64 id] Q=Q v:=by
 suffices hh:aB CX 127 [.agg (ck d),.int .i64 id] (fun v=> ∃l,(∀x,x∈l↔x∈um ts.length ns id)/\l.length<=64000000/\Ag l v) by
  obtain⟨x,⟨l,h1,h2,h3⟩,hx⟩:=hh.ex;exact⟨l,x,h1,h2,h3,hx.rw⟩
 have c1:=hd.nc;have c2:=hd.tc;have c3:=hd.sc;have s1:=hd.n.snap;have s2:=hd.tsn;have s3:=hd.ss;have LN:=hd.n;have L1:=@au _ _ _ LN;have Jd:ns.length<9223372036854775807:=by omega
 have JJ:=ac.mk hl;have hp6:20 ^ ts.length<=64000000:=UQ (Xd (by omega) ht) (by decide);have JA:ac ((jE ns ts.length id).length<=64000000):=⟨by have:=DW hl ts.length id;omega⟩;have qg:=(Ib id hd (by omega)).rw;have LA:=ac.mk fun (D0:dY) (rows:List (AV×AV)) (X:ab) (g:Int->Nat) (hb:nU ns rows X g)=>colM D0 hb (fun n hn=>⟨(hu.rng n hn).2,hu.par n hn⟩) (by omega) ts.length id [] [] [] (fun n hn _=>by have:=(hu.rng n hn).1;omega) (by have:=JA.out;simp only[UE];omega);simp only[ck]at qg;have RS:ac (∀x,x∈um ts.length ns id↔x∈um ts.length ns id):=⟨fun _=> .rfl⟩;clear hd hu hl ht hp6;refine aL fx127 ?_;refine wk ?_;refine ct [7,17,18,19,20,21,22,23,24,25,26,27,28,29,30,31] 16 ns (fun _:List (AV×AV)×ab×(Int->Nat)=>[]) (fun s G=> .arr [[.int .i64 d.id,.str d.nm,.int .i64 d.len,.int .i64 d.day,d.sp,d.tv,d.nv]] 7 0 (d.sp.stab && (d.tv.stab && d.nv.stab)) :: .arr [] 1 0 true :: .map s.1 :: .arr [[.mp 2]] 1 1 false::(s.2.1++G)) (fun pre _ s=>nU pre s.1 s.2.1 s.2.2) ([],[],fun _=>0) LN Jd ty72 ty78 rfl ?_ ?_ ?_
 .exact bel_nil
 .rintro⟨rows,X,g⟩ g1 G hb;replace hb:nU ns rows X g:=hb;cases hg:cO ns id with
  | none=>
   rw[hg,iX]at qg;simp only[aZ,zN]at qg;have e:um ts.length ns id = []:=by rw[um,hg];rfl
   rw[e];clear hg e hb LA JA RS;refine wk ?_;simp only[go_sem];exact⟨[],fun _=> .rfl,by simp,.own⟩
  | some n=>
   rw[hg,iX]at qg;simp only[aZ]at qg;have e:um ts.length ns id=jE ns ts.length id:=by rw[um,hg];rfl
   rw[e];have qc:=LA.out (.arr [[.int .i64 d.id,.str d.nm,.int .i64 d.len,.int .i64 d.day,d.sp,d.tv,d.nv]] 7 0 (d.sp.stab && (d.tv.stab && d.nv.stab))) rows (X++(G++[.arr [[.int .i64 n.id,.int .i64 n.ti,.int .i64 n.pa,.int .i64 n.fr,.int .i64 n.en,.int .i64 n.rk,.str n.tx]] 7 1 true])) g (Hg hb _);simp only[US,yb,zD,UH,UM,UX,UF,UG,UB,UE,UW,Nat.reduceAdd]at qc;clear hg e hb LA RS;refine wk ?_;refine wr qc ?_;rintro v S' ⟨rfl,Y3,G3,rfl⟩;generalize jE ns ts.length id=o at*;have hm:ac (∀x,x∈bU o↔x∈o):=⟨fun x=>mem_sorted x o⟩;have KJ:ac ((bU o).length<=64000000):=⟨UQ (mU o) JA.out⟩;cases o with
   | nil=>
    simp only[yb,zD,UH];obtain⟨r,ho,qs⟩:=sJ (.flat (.slice none 0 0)) [] (.nil rfl) (by decide);have qs:=qs.rw;cases ho<;>(refine wk ?_;simp only[go_sem];exact⟨bU [],hm.out,KJ.out,by first|exact .own|exact .part|(exact .nil (by assumption))⟩)
   | cons i o=>
    have hb:blkI (i::o) = [.arr (az (i::o)) 1 0 true]:=rfl;have htk:List.take (o.length+1) (i::o)=i::o:=Vn (l:=i::o);have e3:X.length+(G.length+1)+(Y3.length+1+1)=X.length+(G.length+(Y3.length+1+1+1)):=by omega
    simp only[pL,hb,UF,UH,e3];clear hb e3;obtain⟨r,ho,qs⟩:=sJ (.tsl false 1 (az (i::o))) (i::o) (.rows false) (by have:=JA.out;omega);have qs:=qs.rw;cases ho<;>(refine wk ?_;simp only[go_sem];exact⟨bU (i::o),hm.out,KJ.out,by first|exact .own|exact .part|(exact .nil (by assumption))⟩)
 .rintro⟨rows,X,g⟩ g1 G pre x post IW lt1 w1 i1 hb;replace hb:nU pre rows X g:=hb
  have JY:(fu pre x.pa).length<=19:=by
   rw[fu,UI];exact UQ (U0 _ _) (by have:=JJ.out;omega)
  by_cases hk:fu pre x.pa = []
  .have q:=hb.non x.pa hk;have hP:=ac.mk (bel_new x (Hg hb (G++[.arr [[.int .i64 x.id,.int .i64 x.ti,.int .i64 x.pa,.int .i64 x.fr,.int .i64 x.en,.int .i64 x.rk,.str x.tx]] 7 1 true,.arr [[.int .i64 x.id]] 1 0 true])) hk);have a3:(1:Nat)*8<=140737488355328:=by omega
   have a4:(1:Nat)<=140737488355328:=by omega
   clear hk hb JY LA JA RS;refine wk ?_;exact aE (σ:=List (AV×AV)×ab×(Int->Nat)) (_,_,_) IW.out hP.out aQ ⟨[],by simp⟩
  .obtain⟨q,hX⟩:=hb.som x.pa hk;have Mx:=(UK.1 hX).1;have hXa:∀Z:ab,(X++Z)[g x.pa]? = some (.arr (az (fu pre x.pa)) 1 0 true):=fun Z=>by rw[UN Mx];exact hX
   have hXs:∀(Z:ab) (b:dY),(X++Z).set (g x.pa) b=X.set (g x.pa) b++Z:=fun Z b=>WA _ _ Mx;have hP:=ac.mk (bel_upd x hb hk);have a1:((fu pre x.pa).length+1)*8<=140737488355328:=by omega
   have a2:(fu pre x.pa).length+1<=140737488355328:=by omega
   generalize fu pre x.pa=K at*;clear hk hb JY LA JA RS hX Mx;refine wk ?_;exact aE (σ:=List (AV×AV)×ab×(Int->Nat)) (_,_,g) IW.out hP.out aQ dk
end
section
def Gone(ts:List Ti)(ns:List Nt)(id:Int)(g:List Int):Prop := ∀x,x∈g↔∃m∈fq ts ns id (dP 3 ts 0),x=m.id\/x∈um ts.length ns m.id
def jb(g:List Int)(ns:List Nt):List Nt:=ns.filter fun n=> !g.contains n.id
attribute [local irreducible] bB cX cZ aB bS dE
attribute [local go_sem] U1 Vj List.replicate UC Vp Nat.reduceMul Vg bi eF d9 bP bt ci bN cM ba aY aS aM aX and_self ck aZ bC bp
def expDI{cs cs':List AV}{e:Int}{R:AV->Prop}{S:ab}(h:dq S cs=some cs'):iw R (.tup [.agg cs,.int .i64 e]) S=R (.tup [.agg cs',.int .i64 e]):=by
 have e3:ce [AV.agg cs,.int .i64 e] = []:=rfl;have k5:∀(S:ab) (m:Int),bI S (.int .i64 m)=some (.int .i64 m):=fun _ _=>rfl;simp only[iw,da,dR,e3,if_true,dm,bI,h];rfl
theorem clearM{d:Dc}{ts:List Ti}{ns:List Nt}{z:Nt}(id:Int)(hz:cO ns id=some z)(PP:z.ti=dP 2 ts 0)(hd:d.ok ts ns)(hu:Up ts.length ns)(hl:ns.length<=19)(ht:ts.length<=6):aB CX 66 [.agg (ck d),.int .i64 id] (fun v=>
  (mZ ts=false/\v = .tup [.agg IR,.int .i64 14]) \/
  (mZ ts=true/\∃g,Gone ts ns id g/\v = .tup [.agg [.int .i64 d.id,.str d.nm,.int .i64 d.len,.int .i64 d.day,d.sp,d.tv,.tsl true 7 ((jb g ns).map aZ)],.int .i64 0])):=by
 have c1:=hd.nc;have c2:=hd.tc;have c3:=hd.sc;have s1:=hd.n.snap;have s2:=hd.tsn;have s3:=hd.ss;have p1:=hd.p1;have p2:=hd.p2;have p3:=hd.p3;have LN:=hd.n;have L1:=@au _ _ _ LN;have Jd:ns.length<9223372036854775807:=by omega
 have JJ:=ac.mk hl;have qr:=(readyM hd (by omega)).rw;have qf:=(FN hd (by omega)).rw;have qg:=(getWM id hz hd (by omega) (by omega)).rw;rw[PP,beq_self_eq_true]at qg;have Ry:=ac.mk (kidsM id (dP 3 ts 0) hd hl);have Rv:=ac.mk fun m=>underM m hd hu hl ht;simp only[ck]at qr qf qg Ry Rv;clear hd hu hl ht hz PP;cases hr:mZ ts with
 | false=>
  rw[hr]at qr;clear Ry Rv hr;refine aL fx66 ?_;refine wk ?_;simp only[go_sem];rw[expDI (cs':=IR) (by rfl)];exact .inl rfl
 | true=>
 rw[hr]at qr;simp only[aZ]at qg;clear hr;obtain⟨ids,hp,qk⟩:=Ry.out;have qk:=qk.rw;have QH:ids.length<=19:=by rw[hp.length_eq,UI];exact UQ (U0 _ _) JJ.out
 have Ll:=ac.mk hp;have QI:=ac.mk QH;have M4:ids.length<9223372036854775807:=by omega
 clear Ry hp QH;refine aL fx66 ?_;refine wk ?_;refine cN [10,35,36,37,38,39,40,41,42,43,44,45,46] 34 ids (fun o:List Int=>[(8,.sl 3 o.length 0 o.length 1)]) (fun o G=> .arr [[.int .i64 d.id,.str d.nm,.int .i64 d.len,.int .i64 d.day,d.sp,d.tv,d.nv]] 7 0 true :: .arr [IR] 7 0 true :: .arr [[.int .i64 z.id,.int .i64 z.ti,.int .i64 z.pa,.int .i64 z.fr,.int .i64 z.en,.int .i64 z.rk,.str z.tx]] 7 1 true :: .arr (az o) 1 0 true :: .arr (az ids) 1 0 true::G) (fun pre _ o=>(∀x,x∈o↔∃i∈pre,x=i\/x∈um ts.length ns i)/\o.length<=pre.length*64000001) ([]:List Int) M4 ?_ ?_ ?_
 .exact⟨fun x=>by simp,by simp⟩
 .intro o g G h2;have Kb:o.length<=19*64000001:=UQ h2.2 (VC _ QI.out)
  have hgo:ac (Gone ts ns id o):=⟨fun x=>by
   rw[h2.1 x];constructor
   .rintro⟨i,hi,h⟩;obtain⟨m,hm,rfl⟩:=UZ.1 (Ll.out.mem_iff.1 hi);exact⟨m,hm,h⟩
   .rintro⟨m,hm,h⟩;exact⟨m.id,Ll.out.mem_iff.2 (UZ.2 ⟨m,hm,rfl⟩),h⟩⟩
  have qh:=fun n=>(FD (.tsl false 1 (az o)) o n (.rows false) (by omega)).rw;clear h2 Kb Rv;refine wk ?_;refine ct [13,51,52,53,54,55,56,57,58,59,60,61,62,63] 50 ns (fun l:List Nt=>[(11,.sl (G.length+1+1+1+1+1) l.length 0 l.length 7)]) (fun l G2=> .arr [[.int .i64 d.id,.str d.nm,.int .i64 d.len,.int .i64 d.day,d.sp,d.tv,d.nv]] 7 0 true :: .arr [IR] 7 0 true :: .arr [[.int .i64 z.id,.int .i64 z.ti,.int .i64 z.pa,.int .i64 z.fr,.int .i64 z.en,.int .i64 z.rk,.str z.tx]] 7 1 true :: .arr (az o) 1 0 true :: .arr (az ids) 1 0 true::(G ++ .arr (l.map aZ) 7 0 true::G2)) (fun pre _ l=>l=jb o pre) ([]:List Nt) LN Jd ty72 ty78 rfl ?_ ?_ ?_
  .rfl
  .intro l g2 G2 h2;replace h2:l=jb o ns:=h2;have JD:=ac.mk h2;have x1:=bk p1;have x2:=bk p2;clear h2 qh;refine wk ?_;simp only[go_sem];rw[expDI (exp7 (nv' := .tsl true 7 (l.map aZ)) (x1 _) (x2 _) (by simp[aW,aM,Vm]))];exact .inr ⟨o,hgo.out,by rw[<-JD.out]⟩
  .intro l g2 G2 pre x post IW lt1 w1 i1 h2;replace h2:l=jb o pre:=h2;have q1:=qh x.id
   have KT:l.length<=19:=by
    rw[h2];exact UQ (U0 _ _) (by have:=JJ.out;omega)
   have a1:(l.length+1)*64<=140737488355328:=by omega
   have a2:l.length+1<=140737488355328:=by omega
   have Qw:(l.map aZ).length=l.length:=by simp
   cases hc:o.contains x.id with
   | true=>
    rw[hc]at q1;have J0:x.id∈o:=by simpa using hc
    have hP:ac (l=jb o (pre++[x])):=⟨by rw[h2,jb,jb,Va];simp[J0]⟩;clear h2 KT qh hc J0;exact wf
   | false=>
    rw[hc]at q1;have J0:x.id∉o:=by simpa using hc
    have hP:ac (l++[x]=jb o (pre++[x])):=⟨by rw[h2,jb,jb,Va];simp[J0]⟩;clear h2 KT qh hc J0;exact wf
 .intro o g G pre x post IW lt1 w1 h2;have Jq:(az ids)[pre.length]? = some [.int .i64 x]:=by rw[IW.out];simp[az]
  have IZ:pre.length<ids.length:=by omega
  have i2:∀{j:IntKind},aD CX 31 (.sl 4 ids.length 0 ids.length 1) (.int j (pre.length:Int))=some (.ptr 4 ids.length 1 pre.length 0):=fun {j}=>gu ty31 ty3 rfl lt1;obtain⟨l,v,hm,S8,hv,qu⟩:=Rv.out x
  have hP:ac ((∀y,y∈o++[x]++l↔∃i∈pre++[x],y=i\/y∈um ts.length ns i)/\(o++[x]++l).length<=(pre++[x]).length*64000001):=by
   refine⟨⟨fun y=>?_,?_⟩⟩
   .simp only[UU,VI,h2.1 y,hm y];constructor
    .rintro ((⟨i,hi,h⟩|rfl)|h)
     .exact⟨i,.inl hi,h⟩
     .exact⟨_,.inr rfl,.inl rfl⟩
     .exact⟨x,.inr rfl,.inr h⟩
    .rintro⟨i,hi|rfl,h⟩
     .exact .inl (.inl ⟨i,hi,h⟩)
     .rcases h with rfl|h
      .exact .inl (.inr rfl)
      .exact .inr h
   .have:=h2.2;simp only[UG,W8,VJ];omega
  have Kb:o.length<=19*64000001:=UQ h2.2 (VC _ (by have:=QI.out;omega));have a1:(o.length+1)*8<=140737488355328:=by omega
  have a2:o.length+1<=140737488355328:=by omega
  have a3:(o.length+1+l.length)*8<=140737488355328:=by omega
  have a4:o.length+1+l.length<=140737488355328:=by omega
  clear h2 hm S8 Kb;cases hv with
  | own=>
   by_cases hz:l.length=0
   .have hz:=UO hz;subst hz;simp only[UM]at hP;exact wf
   .exact wf
  | part=>
   by_cases hz:l.length=0
   .have hz:=UO hz;subst hz;simp only[UM]at hP;exact wf
   .exact wf
  | nil he=>
   subst he;simp only[UM]at hP;exact wf
end
section
variable {T:Nat}{a t w x:Int}{cur ns:List Nt}{m n:Nt}{ts:List Ti}
inductive wU (ns:List Nt) (a:Int):Int->Prop where
 | kid {n:Nt}:n∈ns->n.pa=a->wU ns a n.id
 | step {b:Int}{n:Nt}:wU ns a b->n∈ns->n.pa=b->wU ns a n.id
theorem wU.note(h:wU ns a x):∃n∈ns,n.id=x:=by
 cases h with
 | kid h1=>exact⟨_,h1,rfl⟩
 | step _ h1=>exact⟨_,h1,rfl⟩
theorem wU.top(hn:n∈ns)(hp:n.pa=a)(h:wU ns n.id x):wU ns a x:=by
 induction h with
 | kid h1 h2=>exact .step (.kid hn hp) h1 h2
 | step _ h1 h2 ih=>exact .step ih h1 h2
theorem wU.split(h:wU ns a x):∃n∈ns,n.pa=a/\(x=n.id\/wU ns n.id x):=by
 induction h with
 | kid h1 h2=>exact⟨_,h1,h2,.inl rfl⟩
 | step _ h1 h2 ih=>
  obtain⟨n,hn,hp,h⟩:=ih;rcases h with rfl|h
  .exact⟨n,hn,hp,.inr (.kid h1 h2)⟩
  .exact⟨n,hn,hp,.inr (.step h h1 h2)⟩
theorem wU.mono{l:List Nt}(hl:∀n∈l,n∈ns)(h:wU l a x):wU ns a x:=by
 induction h with
 | kid h1 h2=>exact .kid (hl _ h1) h2
 | step _ h1 h2 ih=>exact .step ih (hl _ h1) h2
theorem yr{T:Nat}{ns:List Nt}(hu:Up T ns)(x:Int):∀(k:Nat) (id:Int),(∀n∈ns,n.pa=id->(T:Int)<=n.ti+k)->(x∈jE ns k id↔wU ns id x)
 | 0,id,h0=>by
  simp only[jE,VA,false_iff];intro h;obtain⟨n,hn,hp,_⟩:=h.split;have:=h0 n hn hp;have:=(hu.rng n hn).2;omega
 | k+1,id,h0=>by
  have hi:∀n∈ns,n.pa=id->∀m∈ns,m.pa=n.id->(T:Int)<=m.ti+k:=fun n hn hp m hm SQ=>by
   have:=h0 n hn hp;have:=hu.par n hn m hm SQ;omega
  simp only[jE,Wp,U2];constructor
  .rintro⟨i,hm,h⟩;simp only[fu,UZ,VE,beq_iff_eq]at hm;obtain⟨n,⟨hn,hp⟩,rfl⟩:=hm;rcases h with rfl|h
   .exact .kid hn hp
   .exact .top hn hp ((yr hu x k n.id (hi n hn hp)).1 h)
  .intro h;obtain⟨n,hn,hp,h⟩:=h.split;refine⟨n.id,?_,?_⟩
   .simp only[fu,UZ,VE,beq_iff_eq];exact⟨n,⟨hn,hp⟩,rfl⟩
   .rcases h with h|h
    .exact .inl h
    .exact .inr ((yr hu x k n.id (hi n hn hp)).2 h)
def Dr(hu:Up T ns)(x:Int)(hm:m∈ns):x∈um T ns m.id↔wU ns m.id x:=by
 rw[um,eQ hu.ids m hm];exact yr hu x T m.id fun n hn _=>by have:=(hu.rng n hn).1;omega
def kh(hu:Up T ns)(hn:n∈ns)(hm:m∈ns)(h:n.id=m.id):n=m:=by
 have h1:=eQ hu.ids n hn;have h2:=eQ hu.ids m hm;rw[h,h2]at h1;exact(Option.some.inj h1).symm
theorem Gn(hu:Up T ns)(hs:∀n∈cur,n∈ns)(NE:∀n∈cur,∀p∈ns,n.pa=p.id->p∈cur)(h:wU ns a x):∀n∈cur,n.id=x->wU cur a x/\∀p∈ns,p.id=a->p∈cur:=by
 induction h with
 | @kid n0 h1 h2=>
  intro n hn he;have e:=kh hu (hs n hn) h1 he;subst e;exact⟨.kid hn h2,fun p hp NI=>NE n hn p hp (by rw[h2,NI])⟩
 | @step b n0 h0 h1 h2 ih=>
  intro n hn he;have e:=kh hu (hs n hn) h1 he;subst e;obtain⟨q,hq,Qi⟩:=h0.note;have LA:=NE n hn q hq (by rw[h2,Qi]);obtain⟨i1,i2⟩:=ih q LA Qi;exact⟨.step i1 hn h2,i2⟩
def eP(h:m∈fq ts ns w t):m∈ns/\m.pa=w:=by
 simp only[fq,VE,qw,UT,beq_iff_eq]at h;exact⟨h.1,h.2.2.1⟩
def mD(h:m∈fq ts ns w t)(hc:m∈cur):m∈fq ts cur w t:=by
 simp only[fq,VE]at h ⊢;exact⟨hc,h.2⟩
theorem und_lt(hu:Up T ns)(hm:m∈ns)(h:wU ns m.id x):∀n∈ns,n.id=x->m.ti<n.ti:=by
 induction h with
 | @kid n0 h1 h2=>
  intro n hn he;have e:=kh hu hn h1 he;subst e;exact hu.par m hm n hn h2
 | @step b n0 h0 h1 h2 ih=>
  intro n hn he;have e:=kh hu hn h1 he;subst e;obtain⟨q,hq,Qi⟩:=h0.note;have h3:=ih q hq Qi;have h4:=hu.par q hq n hn (by rw[h2,Qi]);omega
structure pq (ts:List Ti) (ns:List Nt) (bad:Int->Bool) (W:List Int) (cur:List Nt):Prop where
 sub:cur.Sublist ns
 up:∀n∈cur,∀p∈ns,n.pa=p.id->p∈cur
 word:∀n∈ns,n.ti=dP 2 ts 0->n∈cur
 why:∀n∈ns,n∉cur->mZ ts=true/\∃w∈W,bad w=true/\∃m∈fq ts ns w (dP 3 ts 0),n.id=m.id\/wU ns m.id n.id
 all:mZ ts=true->∀w∈W,bad w=true->∀m∈fq ts ns w (dP 3 ts 0),∀n∈cur,n.id≠m.id/\¬wU ns m.id n.id
def pq.nil(ts:List Ti)(ns:List Nt)(bad:Int->Bool):pq ts ns bad [] ns where
 sub:=WY _
 up _ _ _ hp _:=hp
 word _ hn _:=hn
 why _ hn h:=absurd hn h
 all _ w hw:=(by cases hw)
def pq.skip{bad:Int->Bool}{W:List Int}(h:pq ts ns bad W cur)(hw:bad w=false\/mZ ts=false):pq ts ns bad (W++[w]) cur where
 sub:=h.sub
 up:=h.up
 word:=h.word
 why n hn hc:=by
  obtain⟨h1,w',h2,h3⟩:=h.why n hn hc;exact⟨h1,w',V5 _ h2,h3⟩
 all hr w' Lx hb:=by
  rcases UU.1 Lx with h1|h1
  .exact h.all hr w' h1 hb
  .simp at h1;subst h1;rcases hw with hw|hw
   .rw[hw]at hb;cases hb
   .rw[hw]at hr;cases hr
def pq.bad{ts:List Ti}{ns:List Nt}{bad:Int->Bool}{W:List Int}{cur:List Nt}(hu:Up ts.length ns)(h:pq ts ns bad W cur){w:Int}{g:List Int}{z:Nt}(hz:z∈cur)(hzw:z.id=w)(PP:z.ti=dP 2 ts 0)(hr:mZ ts=true)(hb:bad w=true)(hg:Gone ts cur w g):pq ts ns bad (W++[w]) (jb g cur):=by
 have J4:∀n∈cur,n∈ns:=fun n hn=>h.sub.subset hn;have Qa:=hu.sub h.sub
 have NQ:∀n∈cur,n.id∈g↔∃m∈fq ts cur w (dP 3 ts 0),n.id=m.id\/wU cur m.id n.id:=fun n hn=>by
  rw[hg n.id];constructor
  .rintro⟨m,hm,e|e⟩
   .exact⟨m,hm,.inl e⟩
   .exact⟨m,hm,.inr ((Dr Qa _ (eP hm).1).1 e)⟩
  .rintro⟨m,hm,e|e⟩
   .exact⟨m,hm,.inl e⟩
   .exact⟨m,hm,.inr ((Dr Qa _ (eP hm).1).2 e)⟩
 have NL:∀n,n∈jb g cur↔n∈cur/\n.id∉g:=fun n=>by simp[jb]
 refine⟨(Xi).trans h.sub,fun n hn p hp NI=>?_,fun n hn hnt=>?_,fun n hn LO=>?_,fun hr w' Lx JC m hm n hn=>?_⟩
 .rw[NL]at hn ⊢;have Qk:=h.up n hn.1 p hp NI;refine⟨Qk,fun SH=>hn.2 ?_⟩;obtain⟨m,hm,e⟩:=(NQ p Qk).1 SH;refine(NQ n hn.1).2 ⟨m,hm,.inr ?_⟩;rcases e with e|e
  .exact .kid hn.1 (by rw[NI,e])
  .exact .step e hn.1 NI
 .have LO:=h.word n hn hnt;refine(NL n).2 ⟨LO,fun SL=>?_⟩;obtain⟨m,hm,e⟩:=(NQ n LO).1 SL;obtain⟨K3,MW⟩:=eP hm;have h1:=Qa.par z hz m K3 (by rw[MW,hzw]);rcases e with e|e
  .have e2:=kh Qa LO K3 e;subst e2;omega
  .have:=und_lt Qa K3 e n LO rfl;omega
 .by_cases k:n∈cur
  .have SL:n.id∈g:=by
    by_cases kk:n.id∈g
    .exact kk
    .exact absurd ((NL n).2 ⟨k,kk⟩) LO
   obtain⟨m,hm,e⟩:=(NQ n k).1 SL;refine⟨hr,w,by simp,hb,m,mD hm (J4 m (eP hm).1),?_⟩;rcases e with e|e
   .exact .inl e
   .exact .inr (e.mono J4)
  .obtain⟨h1,w',h2,h3⟩:=h.why n hn k;exact⟨h1,w',V5 _ h2,h3⟩
 .rw[NL]at hn;rcases UU.1 Lx with h1|h1
  .exact h.all hr w' h1 JC m hm n hn.1
  .simp at h1;subst h1;obtain⟨K3,MW⟩:=eP hm;constructor
   .intro e;have e2:=kh hu (J4 n hn.1) K3 e;subst e2;exact hn.2 ((NQ n hn.1).2 ⟨n,mD hm hn.1,.inl rfl⟩)
   .intro P9;obtain⟨u1,u2⟩:=Gn hu J4 h.up P9 n hn.1 rfl;exact hn.2 ((NQ n hn.1).2 ⟨m,mD hm (u2 m K3 rfl),.inr u1⟩)
end
section
def nH(p:Pr)(S:List Int)(rc w:Int):Bool:=match iT p.es rc w with
 | some a=> !eN S a.pl
 | none=>false
def afv(d:Dq)(nv:AV):AV := .agg [.int .i64 d.r.id,.str d.r.name,.int .i64 d.r.len,.int .i64 d.r.day,d.r.sv,d.tv,nv]
attribute [local irreducible] bB cX cZ aB bS dE
attribute [local go_sem] bi and_self cd bd bC bp CN
theorem C5(ro:Int):∀(ts:List Ti) (k:Nat),dP ro ts k<((k+ts.length:Nat):Int)
 | [],k=>by simp only[dP,UE];omega
 | t::ts,k=>by
  have:=C5 ro ts (k+1);rw[dP];split<;>simp only[UB]<;>omega
theorem of_tier{ts:List Ti}{l:List Nt}:∀{k:Nat}{t x:Int},x∈BN ts l k t->∃n∈l,n.id=x/\n.ti=t
 | 0,_,_,h=>(by cases h)
 | k+1,t,x,h=>by
  have hk:∀{w n},n∈fq ts l w t->n∈l/\n.ti=t:=fun {w n} h=>by
   simp only[fq,VE,qw,UT,beq_iff_eq]at h;exact⟨h.1,h.2.1⟩
  rw[BN]at h;split at h
  .split at h
   .obtain⟨n,hn,rfl⟩:=UZ.1 h;exact⟨n,(hk hn).1,rfl,(hk hn).2⟩
   .obtain⟨a,_,h⟩:=Wp.1 h;obtain⟨n,hn,rfl⟩:=UZ.1 h;exact⟨n,(hk hn).1,rfl,(hk hn).2⟩
  .cases h
theorem clearedM{p:Pr}(S:List Int)(hp:p.ok)(MJ:p.g.stb)(JP:p.dv.stab=true/\p.ev.stab=true/\p.ov.stab=true/\p.pv.stab=true/\p.gv.stab=true/\p.cv.stab=true/\p.rv.stab=true)(hpe:p.es.length<=1048576)(IZ:∀e∈p.es,e.pl.length<=1048576){d:Dq}(hd:d.ok)(hu:Up d.ts.length d.ns)(hl:d.ns.length<=19)(ht:d.ts.length<=6)(hT:∀(i:Nat) t,d.ts[i]? = some t->t.kd≠0->0<=t.pa/\t.pa<i) :
  aB CX 27 [.agg (cd p),.agg (bd d),tmM S] (fun v=> ∃nv cur,v=afv d nv/\bq 7 (cur.map aZ) nv/\nv.stab=true/\∃W,(∀x,x∈W↔x∈BN d.ts d.ns 6 (dP 2 d.ts 0))/\pq d.ts d.ns (nH p S d.r.id) W cur):=by
 have c1:=hd.r.sv.cell;have c2:=hd.t.cell;have c3:=hd.n.cell;have s1:=hd.r.sv.snap;have s2:=hd.t.snap;have s3:=hd.n.snap;have st1:=hd.r.st;have st2:=hd.tt;have st3:=hd.nt;obtain⟨d1,d2,d3,d4,d5,d6,d7⟩:=hp.cells;obtain⟨e1,e2,e3,e4,e5,e6,e7⟩:=hp.g.cells;obtain⟨p1,p2,p3,p4,p5,p6,p7⟩:=hp.snaps;obtain⟨t1,t2,t3,t4,t5,t6,t7⟩:=MJ;obtain⟨u1,u2,u3,u4,u5,u6,u7⟩:=JP;have ht6:=C5 2 d.ts 0;obtain⟨W,hW,TY,qo⟩:=ofM hd.dc hl hT 6 (UJ _) (dP 2 d.ts 0) (by omega);have qr:=(C4 2 hd.t (by omega)).rw;have qp:=fun w=>(pickM d.r.id w hp.e hp.ei hpe).rw;have SE:ac (∀w a,iT p.es d.r.id w=some a->bq 3 (a.pl.map kY) a.pv/\a.pl.length<=1048576):=⟨fun w a h=>⟨(hp.ei a (U8 h)).p,IZ a (U8 h)⟩⟩;have hWn:ac (∀x∈W,∃n∈d.ns,n.id=x/\n.ti=dP 2 d.ts 0):=⟨fun x hx=>of_tier ((hW x).1 hx)⟩;have LA:=ac.mk fun (w:Int) (nv:AV) (cur:List Nt) (z:Nt) (h1:bq 7 (cur.map aZ) nv) (h2:nv.stab=true) (h3:cur.Sublist d.ns) (hz:cO cur w=some z) (PP:z.ti=dP 2 d.ts 0)=>clearM (d:=⟨d.r.id,d.r.name,d.r.len,d.r.day,d.r.sv,d.tv,nv⟩) w hz PP ⟨hd.r.sv.cell,hd.r.sv.snap,hd.t,h1,hd.r.st,hd.tt,h2⟩ (hu.sub h3) (UQ h3.length_le hl) ht;have huH:=ac.mk hu;have Q1:=ac.mk hW;have TW:W.length<9223372036854775807:=by omega
 have h0:ac (bq 7 (d.ns.map aZ) d.nv/\d.nv.stab=true/\pq d.ts d.ns (nH p S d.r.id) [] d.ns):=⟨hd.n,hd.nt,pq.nil _ _ _⟩;simp only[ck,Dq.dc]at qo LA;clear hp hpe IZ hd hu hl ht hT ht6 TY hW;refine aL fx27 ?_;refine wk ?_;refine cN [8,9,10,11,12,20,21,22,23,24,25,26,27,28,29,30,31,32,33,34,35,36,37,38,39,40,41,42,43,44,45,46,47,48,49,50] 19 W (fun _:AV×List Nt×Nat=>[]) (fun s G=> .arr [cd p] 16 0 true :: .arr [[.int .i64 d.r.id,.str d.r.name,.int .i64 d.r.len,.int .i64 d.r.day,d.r.sv,d.tv,s.1]] 7 s.2.2 true :: .arr [IR] 7 0 true :: .arr (az W) 1 0 true::G) (fun pre _ s=>(bq 7 (s.2.1.map aZ) s.1/\s.1.stab=true/\pq d.ts d.ns (nH p S d.r.id) pre s.2.1)/\s.2.2<=1) (d.nv,d.ns,0) TW ?_ ?_ ?_
 .exact⟨h0.out,by simp⟩
 .rintro⟨nv,cur,w⟩ g G ⟨⟨h1,h2,h3⟩,h4⟩;replace h1:bq 7 (cur.map aZ) nv:=h1;replace h2:nv.stab=true:=h2;have Pq:=ac.mk h1;have MM:=ac.mk h3;have x1:=bk st1;have x2:=bk st2;have x3:=bk h2;have k3:=h1.cell;clear h1 h3 qp LA;refine wk ?_;simp only[go_sem];rw[exp7 (x1 _) (x2 _) (x3 _)];exact⟨nv,cur,rfl,Pq.out,h2,W,Q1.out,MM.out⟩
 .rintro⟨nv,cur,w⟩ g G pre x post IW lt1 w1 ⟨⟨h1,h2,h3⟩,h4⟩;replace h1:bq 7 (cur.map aZ) nv:=h1;replace h2:nv.stab=true:=h2;replace h3:pq d.ts d.ns (nH p S d.r.id) pre cur:=h3;replace h4:w<=1:=h4;have k3:=h1.cell;have sn:=h1.snap;have Jq:(az W)[pre.length]? = some [.int .i64 x]:=by rw[IW.out];simp[az]
  have IZ:pre.length<W.length:=by omega
  have i2:∀{j:IntKind},aD CX 31 (.sl 3 W.length 0 W.length 1) (.int j (pre.length:Int))=some (.ptr 3 W.length 1 pre.length 0):=fun {j}=>gu ty31 ty3 rfl lt1;replace qp:=qp x;have Oq:nH p S d.r.id x=false->ac ((bq 7 (cur.map aZ) nv/\nv.stab=true/\pq d.ts d.ns (nH p S d.r.id) (pre++[x]) cur)/\w<=1):=fun e=>⟨⟨⟨h1,h2,h3.skip (.inl e)⟩,h4⟩⟩;cases K2:iT p.es d.r.id x with
  | none=>
   rw[K2,GH,dw]at qp;have hP:=Oq (by rw[nH,K2]);clear Oq h1 h3 LA K2;refine wk ?_;exact aE (σ:=AV×List Nt×Nat) (nv,cur,w) IW.out hP.out aQ dk
  | some a=>
   rw[K2,GH]at qp;obtain⟨Om,PF⟩:=SE.out x a K2;have ca:=Om.cell;have sa:=Om.snap;have hq:=(usesSM S Om PF).rw;cases JM:eN S a.pl with
   | true=>
    rw[JM]at hq;have hP:=Oq (by rw[nH,K2];simp[JM]);clear Oq h1 h3 LA K2 Om PF JM;refine wk ?_;exact aE (σ:=AV×List Nt×Nat) (nv,cur,w) IW.out hP.out aQ dk
   | false=>
    rw[JM]at hq;have hb:nH p S d.r.id x=true:=by rw[nH,K2];simp[JM]
    obtain⟨z,K0,LX,Ro⟩:=hWn.out x (by rw[IW.out];simp);have PQ:=h3.word z K0 Ro;have hzg:cO cur x=some z:=by rw[<-LX];exact eQ (huH.out.sub h3.sub).ids z PQ
    obtain⟨v,hR,qc⟩:=(LA.out x nv cur z h1 h2 h3.sub hzg Ro).ex;have qc:=qc.rw;have Pq:=ac.mk h1;have JD:=ac.mk h2;have MM:=ac.mk h3;have h4H:=ac.mk h4;have MK:=ac.mk (And.intro hb (And.intro PQ (And.intro LX Ro)));clear Oq h1 h3 LA K2 Om PF JM hb K0 LX Ro PQ hzg;rcases hR with ⟨hc,rfl⟩|⟨hc,gg,hg,rfl⟩
    .have hP:ac ((bq 7 (cur.map aZ) nv/\nv.stab=true/\pq d.ts d.ns (nH p S d.r.id) (pre++[x]) cur)/\w<=1):=⟨⟨⟨Pq.out,JD.out,MM.out.skip (.inr hc)⟩,h4H.out⟩⟩;simp only[IR,dw]at qc;clear hc;refine wk ?_;exact aE (σ:=AV×List Nt×Nat) (nv,cur,w) IW.out hP.out aQ dk
    .have hP:ac ((bq 7 ((jb gg cur).map aZ) (.tsl true 7 ((jb gg cur).map aZ))/\(AV.tsl true 7 ((jb gg cur).map aZ)).stab=true/\pq d.ts d.ns (nH p S d.r.id) (pre++[x]) (jb gg cur))/\1<=1):=⟨⟨⟨.rows true,rfl,MM.out.bad huH.out MK.out.2.1 MK.out.2.2.1 MK.out.2.2.2 hc MK.out.1 hg⟩,UJ 1⟩⟩;generalize jb gg cur=Nn at*;clear hc hg;refine wk ?_;exact aE (σ:=AV×List Nt×Nat) (.tsl true 7 (Nn.map aZ),Nn,1) IW.out hP.out aQ dk
end
section
variable {M:List Int}{f:Nt->Nt}{l:List Nt}
section
variable {ts:List Ti}{ns:List Nt}{L:List (Int×Int)}
def fg(n:Nt):(fT ts ns L n).id=n.id:=by unfold fT;split<;>rfl
def oP(n:Nt):(fT ts ns L n).ti=n.ti:=by unfold fT;split<;>rfl
def kS(n:Nt):(fT ts ns L n).pa=n.pa:=by unfold fT;split<;>rfl
def hide_f(n:Nt):(fT ts ns L n).fr=n.fr:=by unfold fT;split<;>rfl
def hide_e(n:Nt):(fT ts ns L n).en=n.en:=by unfold fT;split<;>rfl
end
def xd{ns:List Nt}{id:Int}{p:Nt}(h:cO ns id=some p):p∈ns/\p.id=id:=⟨U8 h,by simpa using VN h⟩
def G9(M:List Int)(ns:List Nt):List Nt:=ns.filter fun n=>decide (n.id∈M)
def xb{ns:List Nt}{n:Nt}:n∈G9 M ns↔n∈ns/\n.id∈M:=by simp[G9]
def gN(ts:List Ti)(ns:List Nt)(L:List (Int×Int))(M:List Int):jK ts ns L M ns=(G9 M ns).map (fT ts ns L):=rfl
theorem Gm(hf:∀n,(f n).id=n.id/\(f n).pa=n.pa){a x:Int}:wU (l.map f) a x↔wU l a x:=by
 constructor
 .intro h
  induction h with
  | kid h1 h2=>
   obtain⟨n,hn,rfl⟩:=UZ.1 h1;rw[(hf n).1];exact .kid hn (by rw[<-h2,(hf n).2])
  | step _ h1 h2 ih=>
   obtain⟨n,hn,rfl⟩:=UZ.1 h1;rw[(hf n).1];exact .step ih hn (by rw[<-h2,(hf n).2])
 .intro h
  induction h with
  | @kid n h1 h2=>rw[<-(hf n).1];exact .kid (UZ.2 ⟨_,h1,rfl⟩) (by rw[(hf _).2,h2])
  | @step b n _ h1 h2 ih=>rw[<-(hf n).1];exact .step ih (UZ.2 ⟨_,h1,rfl⟩) (by rw[(hf _).2,h2])
theorem yB(hf:∀n,(f n).ti=n.ti/\(f n).pa=n.pa){ts:List Ti}{w t:Int}:fq ts (l.map f) w t=(fq ts l w t).map f:=by
 induction l with
 | nil=>rfl
 | cons n l ih=>
  simp only[fq,Vk,Vy]at ih ⊢;have e:qw ts w t (f n)=qw ts w t n:=by simp[qw,(hf n).1,(hf n).2]
  rw[e];cases qw ts w t n
  .simpa using ih
  .simpa using ih
theorem Ff{f:Nt->Nt}(hf:∀n,(f n).ti=n.ti/\(f n).pa=n.pa)(hi:∀n,(f n).id=n.id){ts:List Ti}{l:List Nt}:∀(k:Nat) (t:Int),BN ts (l.map f) k t=BN ts l k t
 | 0,_=>rfl
 | k+1,t=>by
  have e:∀w t,(fq ts (l.map f) w t).map (·.id)=(fq ts l w t).map (·.id):=fun w t=>by
   rw[yB hf,List.map_map];exact List.map_congr_left fun n _=>hi n
  simp only[BN,e,Ff hf hi k]
theorem GL{ts:List Ti}:∀{k:Nat}{t x:Int},x∈BN ts l k t->∃n∈l,n.id=x
 | 0,_,_,h=>(by cases h)
 | k+1,t,x,h=>by
  rw[BN]at h;split at h
  .split at h
   .obtain⟨n,hn,rfl⟩:=UZ.1 h;exact⟨n,(eP hn).1,rfl⟩
   .obtain⟨a,_,h⟩:=Wp.1 h;obtain⟨n,hn,rfl⟩:=UZ.1 h;exact⟨n,(eP hn).1,rfl⟩
  .cases h
theorem of_sub{T:Nat}{ts:List Ti}{ns cur:List Nt}(hu:Up T ns)(hs:∀n∈cur,n∈ns)(NE:∀n∈cur,∀p∈ns,n.pa=p.id->p∈cur):∀(k:Nat) (t x:Int),x∈BN ts ns k t->(∃n∈cur,n.id=x)->x∈BN ts cur k t
 | 0,_,_,h,_=>(by cases h)
 | k+1,t,x,h,⟨n,hn,hx⟩=>by
  rw[BN]at h ⊢;split at h
  case isFalse=>cases h
  case isTrue h0=>
  rw[if_pos h0];split at h
  case isTrue h1=>
   rw[if_pos h1];obtain⟨m,hm,he⟩:=UZ.1 h;obtain rfl:=kh hu (hs n hn) (eP hm).1 (by rw[hx,he]);exact UZ.2 ⟨n,mD hm hn,hx⟩
  case isFalse h1=>
   rw[if_neg h1];obtain⟨a,ha,h⟩:=Wp.1 h;obtain⟨m,hm,he⟩:=UZ.1 h;obtain rfl:=kh hu (hs n hn) (eP hm).1 (by rw[hx,he]);obtain⟨q,hq,hqa⟩:=GL ha;have LA:=NE n hn q hq (by rw[(eP hm).2,hqa]);exact Wp.2 ⟨a,of_sub hu hs NE k _ a ha ⟨q,LA,hqa⟩,UZ.2 ⟨n,mD hm hn,hx⟩⟩
structure zO (ts:List Ti) (ns:List Nt) (L:List (Int×Int)) (bad:Int->Bool) (cur:List Nt):Prop where
 ex:∃M W,vO ts ns L M/\(∀x,x∈W↔x∈BN ts (jK ts ns L M ns) 6 (dP 2 ts 0))/\pq ts (jK ts ns L M ns) bad W cur
section
variable {ts:List Ti}{ns:List Nt}{L L':List (Int×Int)}{bad Rl:Int->Bool}{cur Nn:List Nt}
def GV(hu:Up ts.length ns)(h:vO ts ns L M):∀n∈G9 M ns,∀p∈ns,n.pa=p.id->p∈G9 M ns:=fun n hn p hp e=>by
 rw[xb]at hn ⊢;refine⟨hp,h.clo n.id hn.2 p.id ⟨n,eQ hu.ids n hn.1,.inl e.symm⟩ ?_⟩;rw[lX,eQ hu.ids p hp];rfl
def zd(h:zO ts ns L bad cur):∀m∈cur,∃n∈ns,m=fT ts ns L n:=fun m hm=>by
 obtain⟨M,W,_,_,hc⟩:=h.ex;have:=hc.sub.subset hm;rw[gN]at this;obtain⟨n,hn,rfl⟩:=UZ.1 this;exact⟨n,(xb.1 hn).1,rfl⟩
def DR(hu:Up ts.length ns)(h:zO ts ns L bad cur):cur.Pairwise fun a b=>a.id<b.id:=by
 obtain⟨M,W,_,_,hc⟩:=h.ex;refine List.Pairwise.sublist hc.sub ?_;rw[gN,List.pairwise_map];exact((hu.ids.sublist Xi)).imp fun h=>by rw[fg,fg];exact h
def docV_up(hu:Up ts.length ns)(h:zO ts ns L bad cur):∀m∈cur,∀p∈ns,m.pa=p.id->fT ts ns L p∈cur:=fun m hm p hp e=>by
 obtain⟨M,W,hk,_,hc⟩:=h.ex;have h1:=hc.sub.subset hm;rw[gN]at h1;obtain⟨n,hn,rfl⟩:=UZ.1 h1;rw[kS]at e;refine hc.up _ hm _ ?_ (by rw[kS,fg,e]);rw[gN];exact UZ.2 ⟨p,GV hu hk n hn p hp e,rfl⟩
def pE(hL:∀s,oa L' s=true->oa L s=true){id:Int}(h:ez ts ns L' id=true):ez ts ns L id=true:=by
 unfold ez at h ⊢;split at h
 .cases h
 .exact hL _ h
theorem H7{M':List Int}(hu:Up ts.length ns)(hL:∀s,oa L' s=true->oa L s=true)(h':vO ts ns L' M')(h:vO ts ns L M):∀x∈M',x∈M:=fun x hx=>by
 obtain⟨hn,n,Mo,hs,hr⟩:=h'.why x hx;have h0:=h.seen n Mo (pE hL hs);revert hn;clear hx
 induction hr with
 | refl=>intro _;exact h0
 | @tail b c h1 h2 ih=>
  intro hc;refine h.clo b (ih ?_) c h2 hc;obtain⟨m,hm,_⟩:=h2;rw[lX,hm];rfl
theorem Is(hu:Up ts.length ns)(hL:∀s,oa L' s=true->oa L s=true)(hb:∀w,bad w=true->Rl w=true)(h':zO ts ns L' Rl Nn)(h:zO ts ns L bad cur):∀m'∈Nn,∃m∈cur,m.id=m'.id/\(m'.tx≠.empty->m.tx=m'.tx):=fun m' RG=>by
 have hdz:=h';obtain⟨M',W',NN,TZ,J0⟩:=h'.ex;obtain⟨M,W,hk,hW,hc⟩:=h.ex;have hM:=H7 hu hL NN hk;have h1:=J0.sub.subset RG;rw[gN]at h1;obtain⟨n,hn,rfl⟩:=UZ.1 h1;have J4:∀n∈G9 M' ns,n∈G9 M ns:=fun n hn=>by rw[xb]at hn ⊢;exact⟨hn.1,hM _ hn.2⟩
 have Sh:Up ts.length (G9 M ns):=hu.sub Xi;have Oz:∀n∈G9 M' ns,∀p∈G9 M ns,n.pa=p.id->p∈G9 M' ns:=fun n hn p hp e=>GV hu NN n hn p (xb.1 hp).1 e;refine⟨fT ts ns L n,?_,by rw[fg,fg],fun ht=>?_⟩
 .refine VG fun LO=>?_;have hq:fT ts ns L n∈jK ts ns L M ns:=by rw[gN];exact UZ.2 ⟨n,J4 n hn,rfl⟩
  obtain⟨hr,w,hw,KG,m,hm,RD⟩:=hc.why _ hq LO;rw[hW,gN,Ff (fun n=>⟨oP n,kS n⟩) fun n=>fg n]at hw;rw[gN,yB fun n=>⟨oP n,kS n⟩]at hm;replace hm:=UZ.1 hm;obtain⟨m,hm,rfl⟩:=hm;rw[gN,Gm fun n=>⟨fg n,kS n⟩,fg,fg]at RD
  have SP:m∈G9 M' ns/\(n.id=m.id\/wU (G9 M' ns) m.id n.id):=by
   rcases RD with e|e
   .obtain rfl:=kh Sh (J4 n hn) (eP hm).1 e;exact⟨hn,.inl rfl⟩
   .obtain⟨u1,u2⟩:=Gn Sh J4 Oz e n hn rfl;exact⟨u2 m (eP hm).1 rfl,.inr u1⟩
  obtain⟨q,hq1,Py⟩:=GL hw;have hqz:=Oz m SP.1 q hq1 (by rw[(eP hm).2,Py])
  have hwz:w∈W':=by
   rw[TZ,gN,Ff (fun n=>⟨oP n,kS n⟩) fun n=>fg n];exact of_sub Sh J4 Oz 6 _ w hw ⟨q,hqz,Py⟩
  obtain⟨a1,a2⟩:=J0.all hr w hwz (hb w KG) (fT ts ns L' m) (by rw[gN,yB fun n=>⟨oP n,kS n⟩];exact UZ.2 ⟨m,mD hm SP.1,rfl⟩) _ RG;rw[fg,fg]at a1;rw[gN,Gm fun n=>⟨fg n,kS n⟩,fg,fg]at a2;rcases SP.2 with e|e
  .exact a1 e
  .exact a2 e
 .have hs:ez ts ns L' n.id=true:=by
   cases hs:ez ts ns L' n.id with
   | true=>rfl
   | false=>exact absurd (by rw[fT,if_neg (by rw[hs];simp)]) ht
  rw[fT,if_pos (pE hL hs),fT,if_pos hs]
theorem Aj(hu:Up ts.length ns)(h:zO ts ns L bad cur):∀(k:Nat) (m:Nt),m∈cur->fz ts cur k m.id=fz ts ns k m.id
 | 0,_,_=>rfl
 | k+1,m,hm=>by
  obtain⟨n,hn,rfl⟩:=zd h m hm;have hi:=DR hu h;rw[fz,fz,eQ hi _ hm,fg,eQ hu.ids n hn];simp only[oP,kS,hide_f,hide_e];split
  .rfl
  cases hp:cO ns n.pa with
  | none=>
   have Ql:cO cur n.pa=none:=by
    cases Ql:cO cur n.pa with
    | none=>rfl
    | some q=>
     obtain⟨q1,q2⟩:=xd Ql;obtain⟨r,hr,rfl⟩:=zd h q q1;rw[fg]at q2;rw[<-q2,eQ hu.ids r hr]at hp;cases hp
   cases k with
   | zero=>rfl
   | succ k=>rw[fz,fz,hp,Ql]
  | some p=>
   obtain⟨p1,p2⟩:=xd hp;have Qk:=docV_up hu h _ hm p p1 (by rw[kS,p2]);have:=Aj hu h k _ Qk;rw[fg,p2]at this;exact this
theorem Ir(hu:Up ts.length ns)(h:zO ts ns L bad cur){m:Nt}(hm:m∈cur)(ht:m.tx≠.empty):ez ts cur L m.id=true:=by
 obtain⟨n,hn,rfl⟩:=zd h m hm
 have hs:ez ts ns L n.id=true:=by
  cases hs:ez ts ns L n.id with
  | true=>rfl
  | false=>exact absurd (by rw[fT,if_neg (by rw[hs];simp)]) ht
 unfold ez at hs ⊢;rw[Aj hu h _ _ hm,fg];exact hs
end
end
end Go.Eng
