/- Regions: in the text's order, and in whatever order the tape picks. -/
import Derived.Test.YtkahfcmeeloikaaGreatDoorEngL
set_option linter.all false
set_option maxHeartbeats 1000000
namespace Go.Eng
open Go.RowKit
variable [aw]
variable {B T:bV}{D:Nat->Bool}{I:dK}{S:ab}{a:Act}{d:Bool}{fr:List AV}{o:Oper}{ops:Array Oper}{v:AV}{w:World}
section
variable {P:Program}{X:dV}{call:gX}
omit [aw] in
theorem BF{u:Value}(dst:Option Tmp)(h:ae w fr T B I a.tmps.toList)(hv:ap w v T B I u):ae w (cj fr dst v) T B I (a.put dst u).tmps.toList:=by
 cases dst with
 | none=>exact h
 | some d=>
  simp only[cj,Act.put,Wo];exact wj d v u h hv
omit [aw] in
def qY(a:Act)(dst:Option Tmp)(u:Value):(a.put dst u).defers=a.defers:=by cases dst<;>rfl
omit [aw] in
def pR{b:Bool}(hg:eL ops fr o=some b)(h:ae w fr T B I a.tmps.toList):Region.wanted o (yielded ops a.tmps)=b:=by
 unfold eL at hg;unfold Region.wanted;split at hg
 .rename_i e;injection hg with hg;subst hg;simp[e]
 .rename_i j want e;rw[e];simp only;split at hg
  .cases hg
  .rename_i d hd
   have key:∀v,eS fr d=v->v≠.junk->∃u,a.tmps[d]? = some u/\ap w v T B I u:=by
    intro v hv I8;by_cases ht:d<fr.length
    .obtain⟨u,h1,h2⟩:=fQ h d _ (UL ht);refine⟨u,by simpa using h1,?_⟩;rw[<-hv];unfold eS;rw[Ve,UL ht];exact h2
    .unfold eS at hv;rw[Ve,VO (Nat.le_of_not_lt ht)]at hv;exact absurd hv.symm I8
   split at hg
   .rename_i c hc;injection hg with hg;obtain⟨u,h1,h2⟩:=key _ hc (by simp);simp only[ap]at h2;subst h2;simp only[yielded,hd,Xb,h1];subst hg;simp
   .rename_i vs hc;injection hg with hg;subst hg;obtain⟨u,h1,h2⟩:=key _ hc (by simp);simp only[ap]at h2;subst h2;simp only[yielded,hd,Xb,h1];rfl
   .cases hg
omit [aw] in
def Dy :ap w (.flat undef) T B I undef:=by simp only[ap]
section text
variable (hX:eC P X) (hO:zQ P call) (hC:iO P call)
include hX hO hC
theorem uM{Q:Exit->Act->World->Prop}{base:Nat}:∀(l:List Oper){fr:List AV}{S:ab}{I5:St},nX X d call ops l ⟨fr,S⟩=some I5->∀{T B:bV}{I:dK}{w:World}{a:Act},cB base T B I (dN S) w->ae w fr T B I a.tmps.toList ->
  (∀a' w' T' B' I',bu base T B I w T' B' I' w'->cB base T' B' I' (dN I5.S) w'->ae w' I5.fr T' B' I' a'.tmps.toList->a'.defers=a.defers->Q .normal a' w')->wpList P ops Q l a w
 | [],fr,S,I5,hs,T,B,I,w,a,h,I4,hK=>by
  simp only[nX]at hs;injection hs with hs;subst hs;exact hK a w T B I bu.refl h I4 rfl
 | o::rest,fr,S,I5,hs,T,B,I,w,a,h,I4,hK=>by
  simp only[nX]at hs;split at hs
  .rename_i hg;split at hs
   .cases hs
   split at hs
   .rename_i v S1 e1;unfold wpList;rw[if_pos (pR hg I4)];refine .inl (vk hX hO hC h (oW I4) e1 fun u w' T' B' I' h1 h2 h3=>?_);refine uM rest hs h2 (BF o.dst (bW _ h1.mono h.TB I4) h3) fun a' w'' T'' B'' I'' k1 k2 k3 k4=>?_;exact hK a' w'' T'' B'' I'' (h1.trans k1) k2 k3 (by rw[k4,qY])
   .cases hs
  .rename_i hg;unfold wpList;rw[if_neg (by rw[pR hg I4];simp)];refine uM rest hs h (BF o.dst I4 Dy) fun a' w'' T'' B'' I'' k1 k2 k3 k4=>?_;exact hK a' w'' T'' B'' I'' k1 k2 k3 (by rw[k4,qY])
  .cases hs
end text
def dF(o:Oper):Bool :=
 match o.op with
 | .move _ | .assign _ | .pick .. | .nilCheck _ | .binOp .. | .unOp .. | .build .. | .field .. | .fieldAddr .. | .indexAddr .. | .index .. | .slice .. | .makeFunc .. | .makeInterface .. | .extract .. =>true
 | .call { callee := .builtin .len,.. } | .call { callee := .builtin .max,.. } | .call { callee := .builtin .min,.. }=>true
 | _=>false
def vw(o:Oper)(i:Nat):Bool:=o.after.toList.any fun e=>Region.binds .any e && e.on == i
def C7(ops:Array Oper):Nat->Oper->Nat->Bool
 | 0,_,_=>false
 | n+1,o,i=>o.after.toList.any fun e=>Region.binds .any e && (e.on == i || match ops[e.on]? with|some o'=>C7 ops n o' i|none=>false)
def DO(ops:Array Oper)(o:Oper)(i:Nat):Bool:=vw o i || C7 ops 4 o i
omit [aw] in
theorem xT(JA:∀k ok,ops[k]? = some ok->D k=true->∀e∈ok.after,Region.binds .any e=true->D e.on=true) :
  ∀(n:Nat){o:Oper}{i:Nat},(∀e∈o.after,Region.binds .any e=true->D e.on=true)->C7 ops n o i=true->D i=true
 | 0,_,_,_,h=>by simp[C7]at h
 | n+1,o,i,hr,h=>by
  rw[C7,VQ]at h;obtain⟨e,he,hb⟩:=h;rw[UT]at hb;have hd:=hr e (by simpa using he) hb.1;have Ka:=hb.2;rw[V1]at Ka;rcases Ka with h1|h1
  .rw[beq_iff_eq]at h1;rw[<-h1];exact hd
  .split at h1
   .rename_i o' ho';exact xT JA n (JA _ _ ho' hd) h1
   .cases h1
omit [aw] in
def iA(JA:∀k ok,ops[k]? = some ok->D k=true->∀e∈ok.after,Region.binds .any e=true->D e.on=true){i:Nat}(hr:∀e∈o.after,Region.binds .any e=true->D e.on=true)(h:DO ops o i=true):D i=true:=by
 rw[DO,V1]at h;rcases h with h|h
 .unfold vw at h;rw[VQ]at h;obtain⟨e,he,hb⟩:=h;simp only[UT,beq_iff_eq]at hb;rw[<-hb.2];exact hr e (by simpa using he) hb.1
 .exact xT JA 4 hr h
def oK(X:dV)(ops:Array Oper)(i:Nat)(oi oj:Oper):Bool :=
 match oi.op,oj.op with
 | .load _ (.tmp t),.store .. =>(X.late oj.pos).contains t && (List.range ops.size).all fun k=>decide (k<i) || (match ops[k]? with|some o=>decide (o.dst≠some t)|none=>true)
 | .buildSlice ..,.store .. =>oj.guard.isNone && (match oi.dst with
  | some t=>(X.late oj.pos).contains t && (List.range ops.size).all fun k=>decide (k<=i) || (match ops[k]? with|some o=>decide (o.dst≠some t)|none=>true)
  | none=>false)
 | _,_=>false
def regOK(X:dV)(ops:Array Oper):Bool :=
 (List.range ops.size).all fun j=>match ops[j]? with
  | none=>true
  | some oj=>(oj.after.all fun e=> !Region.binds .any e || decide (e.on<j)) && (List.range j).all fun i=>match ops[i]? with
   | none=>true
   | some oi=>(vw oj i || oi.apart ops oj) && (oi.dst.isNone || oi.dst != oj.dst) && (!dT X oj || dF oi || DO ops oj i || oK X ops i oi oj) && (!dT X oi || dF oj || dT X oj)
omit [aw] in
def C9{id:Nat}(hp:dF o=true):ff X true S id fr o=none:=by
 obtain⟨dst,op,ty,pos,after,guard⟩:=o;cases op<;>first|rfl|(simp only[dF]at hp;cases hp)|skip
 rename_i c;obtain⟨callee,args,ats⟩:=c;cases callee<;>first|rfl|skip
 rename_i b;cases b<;>first|rfl|skip
 simp only[ff];split<;>rfl
omit [aw] in
theorem uD{S2:ab}(hp:dF o=true)(hs:dH X true call ⟨fr,S⟩ o=some (v,S2)):S2=S:=by
 obtain⟨dst,op,ty,pos,after,guard⟩:=o;unfold dH at hs;dsimp only at hs;split at hs
 .injection hs with hs;injection hs with q1 q2;exact q2.symm
 .rename_i SC;clear SC;have nq:ff X true S S.length fr ⟨dst,op,ty,pos,after,guard⟩=none:=C9 hp
  have nc:cL X fr ⟨dst,op,ty,pos,after,guard⟩=none:=by
   cases op<;>first|rfl|skip
   rename_i c;obtain⟨callee,args,ats⟩:=c;cases callee<;>first|rfl|(simp only[dF]at hp;cases hp)
  have ne:iz X S fr ⟨dst,op,ty,pos,after,guard⟩=none:=by
   cases op<;>first|rfl|(simp only[dF]at hp;cases hp)|skip
   rename_i c;obtain⟨callee,args,ats⟩:=c;cases callee<;>first|rfl|skip
   rename_i b;cases b<;>first|rfl|(exfalso;simp[dF]at hp;done)
  rw[nq,nc]at hs;dsimp only at hs;split at hs
  .rename_i v' nb e1;injection hs with hs;injection hs with q1 q2
   have:nb = []:=by
    cases op<;>simp only[iq]at e1<;>try (cases e1;done)
    .split at e1
     .simp only[if_true]at e1;injection e1 with e1;injection e1 with _ e2;exact e2.symm
     .rename_i h0;injection h0
     .rename_i h0;cases h0
     .cases e1
    .split at e1
     .rename_i h0;cases h0
     .simp only[if_true]at e1;injection e1 with e1;injection e1 with _ e2;exact e2.symm
     .rename_i h0;cases h0
     .cases e1
    .rename_i c;obtain⟨callee,args,ats⟩:=c;cases callee with
     | builtin b=>cases b<;>first|(exfalso;simp at e1;done)|(exfalso;simp[dF]at hp;done)
     | value f=>cases e1
     | invoke r m=>cases e1
   rw[<-q2,this,UM]
  .split at hs
   .cases hs
   .rw[ne]at hs;cases hs
def iP(fr0:List AV)(dst:Nat->Option Tmp)(val:Nat->AV):Nat->(Nat->Bool)->List AV
 | 0,_=>fr0
 | n+1,D=>if D n then cj (iP fr0 dst val n D) (dst n) (val n) else iP fr0 dst val n D
section
variable {fr0:List AV}{dst:Nat->Option Tmp}{val:Nat->AV}
omit [aw] in
def putA_len(fr:List AV)(d:Option Tmp)(v:AV):(cj fr d v).length=fr.length:=by cases d<;>simp[cj]
omit [aw] in
theorem sU:∀(n:Nat) (D:Nat->Bool),(iP fr0 dst val n D).length=fr0.length
 | 0,_=>rfl
 | n+1,D=>by
  simp only[iP];split
  .rw[putA_len,sU n D]
  .exact sU n D
omit [aw] in
theorem oQ(fr:List AV)(d:Option Tmp)(v:AV)(t:Nat):eS (cj fr d v) t=if d=some t then (if t<fr.length then v else .junk) else eS fr t:=by
 cases d with
 | none=>simp[cj]
 | some d=>
  simp only[cj,eS,Ve,VK];by_cases h:d=t
  .subst h;simp only[if_true];by_cases hl:d<fr.length
   .simp[hl]
   .simp[hl]
  .rw[if_neg h,VF h]
omit [aw] in
theorem yl:∀(n:Nat){D D':Nat->Bool}{t:Nat},(∀k,k<n->dst k=some t->D k=D' k)->eS (iP fr0 dst val n D) t=eS (iP fr0 dst val n D') t
 | 0,_,_,_,_=>rfl
 | n+1,D,D',t,h=>by
  have ih:=yl n (D:=D) (D':=D') (t:=t) fun k hk=>h k (by omega);have el:=sU (fr0:=fr0) (dst:=dst) (val:=val) n D;have el':=sU (fr0:=fr0) (dst:=dst) (val:=val) n D';simp only[iP];by_cases hd:dst n=some t
  .have:=h n (by omega) hd;rw[this];split
   .rw[oQ,oQ,el,el',if_pos hd,if_pos hd]
   .exact ih
  .have e1:∀D:Nat->Bool,eS (if D n=true then cj (iP fr0 dst val n D) (dst n) (val n) else iP fr0 dst val n D) t=eS (iP fr0 dst val n D) t:=fun D=>by
    split
    .rw[oQ,if_neg hd]
    .rfl
   rw[e1,e1];exact ih
omit [aw] in
theorem sV:∀(n:Nat){D D':Nat->Bool},(∀k,k<n->D k=D' k)->iP fr0 dst val n D=iP fr0 dst val n D'
 | 0,_,_,_=>rfl
 | n+1,D,D',h=>by
  simp only[iP,sV n (fun k hk=>h k (by omega)),h n (by omega)]
omit [aw] in
theorem GO:∀(n k:Nat),k<=n->iP fr0 dst val n (fun j=>decide (j<k))=iP fr0 dst val k (fun _=>true)
 | 0,k,h=>by
  have:k=0:=by omega
  subst this;rfl
 | n+1,k,h=>by
  by_cases hk:k=n+1
  .subst hk;exact sV _ fun j hj=>by simp[hj]
  .simp only[iP];rw[if_neg (by simp;omega)];exact GO n k (by omega)
omit [aw] in
theorem HO{d d':Option Tmp}{v':AV}(h:d.isNone=true\/d≠d'):cj (cj fr d v) d' v'=cj (cj fr d' v') d v:=by
 cases d with
 | none=>rfl
 | some d=>
  cases d' with
  | none=>rfl
  | some d'=>
   have I8:d≠d':=by rcases h with h|h;cases h;exact fun e=>h (by rw[e])
   simp only[cj];exact List.set_comm _ _ I8
omit [aw] in
theorem Dm:∀(n:Nat){D D':Nat->Bool}{i:Nat},i<n->D i=false->(∀k,D' k=(D k || decide (k=i)))->(∀k,k<n->k≠i->(dst i).isNone=true\/dst i≠dst k)->iP fr0 dst val n D'=cj (iP fr0 dst val n D) (dst i) (val i)
 | 0,_,_,_,h,_,_,_=>by omega
 | n+1,D,D',i,h,hD,KI,I8=>by
  simp only[iP];by_cases hi:i=n
  .subst hi;have e1:iP fr0 dst val i D'=iP fr0 dst val i D:=sV _ fun k hk=>by rw[KI k];simp;omega
   rw[e1,hD,KI];simp
  .have ih:=Dm n (D:=D) (D':=D') (i:=i) (by omega) hD KI fun k hk=>I8 k (by omega);have e2:D' n=D n:=by rw[KI n];simp;omega
   rw[ih,e2];split
   .exact(HO (I8 n (by omega) (fun h=>hi h.symm)))
   .rfl
end
omit [aw] in
theorem trace :∀(l:List Oper){st I5:St},nX X d call ops l st=some I5->∃(frs:Nat->List AV) (Ss:Nat->ab) (val:Nat->AV),frs 0=st.fr/\Ss 0=st.S/\frs l.length=I5.fr/\Ss l.length=I5.S /\
  ∀k o,l[k]? = some o->frs (k+1)=cj (frs k) o.dst (val k)/\((eL ops (frs k) o=some true/\dH X d call ⟨frs k,Ss k⟩ o=some (val k,Ss (k+1))/\(d=true->kL X (frs k) o=true))\/(eL ops (frs k) o=some false/\val k = .flat undef/\Ss (k+1)=Ss k))
 | [],st,I5,h=>by
  simp only[nX]at h;injection h with h;subst h;exact⟨fun _=>st.fr,fun _=>st.S,fun _=> .junk,rfl,rfl,rfl,rfl,fun k o h=>by simp at h⟩
 | o::rest,st,I5,h=>by
  simp only[nX]at h
  have go:∀(v:AV) (S1:ab),nX X d call ops rest ⟨cj st.fr o.dst v,S1⟩=some I5->((eL ops st.fr o=some true/\dH X d call ⟨st.fr,st.S⟩ o=some (v,S1)/\(d=true->kL X st.fr o=true))\/(eL ops st.fr o=some false/\v = .flat undef/\S1=st.S)) ->
    ∃(frs:Nat->List AV) (Ss:Nat->ab) (val:Nat->AV),frs 0=st.fr/\Ss 0=st.S/\frs (o::rest).length=I5.fr/\Ss (o::rest).length=I5.S /\
    ∀k o',(o::rest)[k]? = some o'->frs (k+1)=cj (frs k) o'.dst (val k)/\((eL ops (frs k) o'=some true/\dH X d call ⟨frs k,Ss k⟩ o'=some (val k,Ss (k+1))/\(d=true->kL X (frs k) o'=true))\/(eL ops (frs k) o'=some false/\val k = .flat undef/\Ss (k+1)=Ss k)):=by
   intro v S1 hr Jm;obtain⟨frs,Ss,val,h1,h2,h3,h4,h5⟩:=trace rest hr;refine⟨fun|0=>st.fr|k+1=>frs k,fun|0=>st.S|k+1=>Ss k,fun|0=>v|k+1=>val k,rfl,rfl,h3,h4,fun k o' hk=>?_⟩;cases k with
   | zero=>
    simp at hk;subst hk;refine⟨h1,?_⟩;rcases Jm with ⟨g1,g2,g4⟩|⟨g1,g2,g3⟩
    .exact .inl ⟨g1,by show _=some (v,Ss 0);rw[h2];exact g2,g4⟩
    .exact .inr ⟨g1,g2,by show Ss 0=st.S;rw[h2];exact g3⟩
   | succ k=>exact h5 k o' (by simpa using hk)
  split at h
  .rename_i hg;split at h
   .cases h
   rename_i Ja;split at h
   .rename_i v S1 e1;exact go v S1 h (.inl ⟨hg,e1,fun hd=>by subst hd;simpa using Ja⟩)
   .cases h
  .rename_i hg;exact go _ _ h (.inr ⟨hg,rfl,rfl⟩)
  .cases h
end
end Go.Eng
