/- A region that draws its order. -/
import Derived.Test.YtkahfcmeeloikaaGreatDoorEngM
set_option linter.all false
set_option maxHeartbeats 1000000
namespace Go.Eng
open Go.RowKit
variable [aw]
variable {S S2:ab}{fr:List AV}{i:Nat}{o oi oj:Oper}{ops:Array Oper}{tt:Tmp}{v:AV}
section
variable {P:Program}{X:dV}{call:gX}
omit [aw] in
theorem tP(h:dT X o=true):dF o=false:=by
 obtain⟨dst,op,ty,pos,after,guard⟩:=o;cases op<;>first|rfl|(simp[dT]at h;done)|skip
 rename_i c;obtain⟨callee,args,ats⟩:=c;cases callee with
 | builtin b=>cases b<;>first|rfl|(simp[dT]at h;done)
 | value f=>rfl
 | invoke r m=>rfl
theorem HQ(hX:eC P X)(hp:dF o=true)(hs:dH X true call ⟨fr,S⟩ o=some (v,S2)) :
  S2=S/\∀{w:World}{T B:bV}{I:dK}{a:Act},(∀g,T g->B g)->(∀x,ap w (ak fr x) T B I (a.eval x))->∃u,(∀w1,(execOp a.eval o).run P w1 = .ok (.value u) w1)/\ap w v T B I u:=by
 refine⟨uD hp hs,fun {w T B I a} Jc I4=>?_⟩;cases e:eJ X fr o with
 | some v'=>
  unfold dH at hs;simp only[e]at hs;injection hs with hs;injection hs with q1 q2;subst q1;exact uG hX Jc I4 e
 | none=>
  obtain⟨dst,op,ty,pos,after,guard⟩:=o
  have nilcase:∀(dst:Option Tmp) (op:Op) (ty:TypeId),(op = .move (.const (.slice none 0 0))\/op = .assign (.const (.slice none 0 0)))->dH X true call ⟨fr,S⟩ ⟨dst,op,ty,pos,after,guard⟩=some (v,S2) ->
    ∃u,(∀w1,(execOp a.eval ⟨dst,op,ty,pos,after,guard⟩).run P w1 = .ok (.value u) w1)/\ap w v T B I u:=by
   intro dst op ty Lm hs;rcases Lm with rfl|rfl <;>
   .simp only[dH,eJ,ff,iq,if_true]at hs;injection hs with hs;injection hs with q1 q2;subst q1;exact⟨.slice none 0 0,fun w1=>by simp[execOp,Act.eval],by simp only[ap]⟩
  have other:iq X true S S.length fr ⟨dst,op,ty,pos,after,guard⟩=none->∃u,(∀w1,(execOp a.eval ⟨dst,op,ty,pos,after,guard⟩).run P w1 = .ok (.value u) w1)/\ap w v T B I u:=by
   intro hn;exfalso;unfold dH at hs;dsimp only at hs;rw[e,hn]at hs;clear e hn
   have nq:ff X true S S.length fr ⟨dst,op,ty,pos,after,guard⟩=none:=by
    exact C9 hp
   have nc:cL X fr ⟨dst,op,ty,pos,after,guard⟩=none:=by
    cases op<;>first|rfl|skip
    rename_i c;obtain⟨callee,args,ats⟩:=c;cases callee<;>first|rfl|(exfalso;simp[dF]at hp;done)
   have ne:iz X S fr ⟨dst,op,ty,pos,after,guard⟩=none:=by
    cases op<;>first|rfl|(exfalso;simp[dF]at hp;done)|skip
    rename_i c;obtain⟨callee,args,ats⟩:=c;cases callee<;>first|rfl|skip
    rename_i b;cases b<;>first|rfl|(exfalso;simp[dF]at hp;done)
   rw[nq,nc]at hs;dsimp only at hs;split at hs
   .cases hs
   .rw[ne]at hs;cases hs
  by_cases h1:op = .move (.const (.slice none 0 0))\/op = .assign (.const (.slice none 0 0))
  .exact nilcase dst op ty h1 hs
  .refine other ?_;clear hs nilcase other e;cases op<;>first|rfl|skip
   .unfold iq;split<;>first|rfl|(rename_i h0;cases h0;done)|(rename_i h0;exact absurd (.inl h0) h1)
   .unfold iq;split<;>first|rfl|(rename_i h0;cases h0;done)|(rename_i h0;exact absurd (.inr h0) h1)
   .rename_i c;obtain⟨callee,args,ats⟩:=c;cases callee with
    | builtin b=>cases b<;>first|rfl|(exfalso;simp[dF]at hp;done)
    | value f=>rfl
    | invoke r m=>rfl
omit [aw] in
theorem countP_set{l:List Nat}{p p':Nat->Bool}(hn:l.Nodup)(hi:i∈l)(hp:p i=true)(KK:p' i=false)(h:∀k,k≠i->p' k=p k):l.countP p=l.countP p'+1:=by
 induction l with
 | nil=>simp at hi
 | cons x xs ih=>
  rw[List.nodup_cons]at hn;rcases U2.1 hi with rfl|hi
  .have:xs.countP p=xs.countP p':=List.countP_congr fun k hk=>by
    have:k≠i:=fun e=>hn.1 (e ▸ hk);rw[h k this]
   rw[Xs,Xs,this,hp,KK];simp
  .have hx:x≠i:=fun e=>hn.1 (e ▸ hi);rw[Xs,Xs,ih hn.2 hi,h x hx];omega
omit [aw] in
def Ac(h:oK X ops i oi oj=true):dT X oi=false:=by
 unfold oK at h;split at h
 .rename_i t tt t' p x h1 h2;unfold dT;rw[h1]
 .rename_i h1 h2;unfold dT;rw[h1]
 .cases h
omit [aw] in
def Fv(h:oK X ops i oi oj=true):(∃t tt,oi.op = .load t (.tmp tt)/\∀q oq,i<=q->ops[q]? = some oq->oq.dst≠some tt) \/
  ∃t1 n1 es tt t2 p x,oi.op = .buildSlice t1 n1 es/\oj.op = .store t2 p x/\oj.guard=none/\oi.dst=some tt/\tt∈X.late oj.pos/\∀q oq,i<q->ops[q]? = some oq->oq.dst≠some tt:=by
 unfold oK at h;split at h
 .rename_i t tt t' p x h1 h2;refine .inl ⟨t,tt,h1,fun q oq hq ho=>?_⟩;simp only[UT]at h;have:=Vb.1 h.2 q (Wz.2 (UP.1 ho).1);simp only[ho,V1,decide_eq_true_eq]at this;rcases this with h3|h3
  .omega
  .exact h3
 .rename_i t1 n1 es t2 p x h1 h2;rw[UT]at h;obtain⟨hg,h⟩:=h;split at h
  .rename_i tt hd;simp only[UT,W6]at h;refine .inr ⟨t1,n1,es,tt,t2,p,x,h1,h2,by simpa using hg,hd,h.1,fun q oq hq ho=>?_⟩;have:=Vb.1 h.2 q (Wz.2 (UP.1 ho).1);simp only[ho,V1,decide_eq_true_eq]at this;rcases this with h3|h3
   .omega
   .exact h3
  .cases h
 .cases h
theorem bs_late{S1:ab}{t1:TypeId}{n1:Nat}{es:Array (Nat×Operand)}(ho:o.op = .buildSlice t1 n1 es)(h:dH X true call ⟨fr,S⟩ o=some (v,S2))(hv:∃p,pi v p=true):dH X true call ⟨fr,S1⟩ o=some (v,S1):=by
 have hp:eJ X fr o=none:=by unfold eJ;rw[ho]
 have hn:∀S id,iq X true S id fr o=none:=fun S id=>by unfold iq;rw[ho]
 have hc:cL X fr o=none:=by unfold cL;rw[ho]
 have he:iz X S fr o=none:=by unfold iz;rw[ho]
 have hq:∀S id,ff X true S id fr o=bsA X true id t1 n1 o.pos (es.toList.map fun p=>(p.1,ak fr p.2)):=fun S id=>by unfold ff;rw[ho]
 unfold dH at h ⊢;simp only[hp,hq]at h ⊢;cases hb:bsA X true S.length t1 n1 o.pos (es.toList.map fun p=>(p.1,ak fr p.2)) with
 | none=>
  simp only[hb,hn,hc,he]at h;split at h<;>cases h
 | some r=>
  obtain⟨v',nb⟩:=r;simp only[hb]at h;injection h with h;injection h with q1 q2;subst q1
  have key:bsA X true S1.length t1 n1 o.pos (es.toList.map fun p=>(p.1,ak fr p.2))=some (v',[]):=by
   obtain⟨p,hv⟩:=hv;unfold bsA at hb ⊢;split at hb
   .rename_i e1;split at hb
    .rename_i ei e2;simp only[e1,e2];split at hb
     .rename_i c0;rw[if_pos ⟨trivial,c0.2⟩];split at hb
      .injection hb with hb;injection hb with q3 q4;subst q3;cases p<;>simp[pi]at hv
      .cases hb
     .rename_i c0;rw[if_neg fun h=>c0 ⟨rfl,h.2⟩];split at hb
      .rename_i c1;rw[if_pos c1];split at hb
       .rename_i rows e3;split at hb
        .rename_i c2;injection hb with hb;injection hb with q3 q4;subst q3;rw[if_pos c2]
        .injection hb with hb;injection hb with q3 q4;subst q3;cases p<;>simp[pi]at hv
       .cases hb
      .cases hb
    .cases hb
   .cases hb
  simp only[key,UM]
def ldA(X:dV)(S:ab)(t:TypeId)(p:AV):Option AV :=
 match X.ty t with
 | some i=>match p with
  | .ptr b e sz row off=>match g9 S b e sz row with
   | some r=>gU i r off
   | none=>none
  | .tptr _ r off=>gU i r off
  | .flat (.pointer (some ⟨g,0,none⟩))=>match X.glob g with
   | some r=>gU i r 0
   | none=>none
  | _=>none
 | none=>none
omit [aw] in
theorem ldA_q{id:Nat}{t:TypeId}{x:Operand}{d:Bool}(ho:o.op = .load t x):ff X d S id fr o=(ldA X S t (ak fr x)).map fun v=>(v,[]):=by
 obtain⟨dst,op,ty,pos,after,guard⟩:=o;simp only at ho;subst ho;simp only[ff,ldA];cases X.ty t with
 | none=>rfl
 | some i=>
  simp only;cases ak fr x with
  | ptr b e sz row off=>
   simp only;cases g9 S b e sz row<;>rfl
  | tptr st r off=>rfl
  | flat v=>
   cases v with
   | pointer a=>
    cases a with
    | none=>rfl
    | some a=>
     obtain⟨g,o,m⟩:=a;cases o with
     | zero=>cases m with
      | none=>
       simp only;cases X.glob g<;>rfl
      | some _=>rfl
     | succ _=>cases m<;>rfl
   | _=>rfl
  | _=>rfl
omit [aw] in
theorem BV{t:TypeId}(ho:o.op = .load t (.tmp tt))(h:dH X true call ⟨fr,S⟩ o=some (v,S2)):ldA X S t (eS fr tt)=some v:=by
 have hq:=ldA_q (X:=X) (S:=S) (id:=S.length) (fr:=fr) (d:=true) ho;have hp:eJ X fr o=none:=by unfold eJ;rw[ho]
 unfold dH at h;simp only[hp,hq,ak]at h;cases hl:ldA X S t (eS fr tt) with
 | none=>
  exfalso;have hn:iq X true S S.length fr o=none:=by unfold iq;rw[ho]
  have hc:cL X fr o=none:=by unfold cL;rw[ho]
  have he:iz X S fr o=none:=by unfold iz;rw[ho]
  simp only[hl,Xg,hn,hc,he]at h;split at h<;>cases h
 | some v'=>
  simp only[hl,Vf]at h;injection h with h;injection h with h1 h2;rw[h1]
omit [aw] in
def HB{t:TypeId}(ho:o.op = .load t (.tmp tt))(h:ldA X S t (eS fr tt)=some v):dH X true call ⟨fr,S⟩ o=some (v,S):=by
 have hq:=ldA_q (X:=X) (S:=S) (id:=S.length) (fr:=fr) (d:=true) ho;have hp:eJ X fr o=none:=by unfold eJ;rw[ho]
 unfold dH;simp only[hp,hq,ak,h,Vf,UM]
omit [aw] in
def load_ext{t:TypeId}{p:AV}(h:kp S (dN S2))(hl:ldA X S t p=some v):ldA X S2 t p=some v:=by
 unfold ldA at hl ⊢;split at hl
 .rename_i i e1;split at hl
  .rename_i b e sz row off;split at hl
   .rename_i r e2
    have:g9 S2 b e sz row=some r:=by
     unfold g9 at e2;split at e2
     .rename_i rows Je wep pr e3;split at e2
      .rename_i hc;obtain⟨more,hm⟩:=(h _ _ e3).arr;simp only[dN]at hm;unfold g9;rw[hm];simp only;rw[if_pos hc,UN (UK.1 e2).1];exact e2
      .cases e2
     .cases e2
    simp only[this];exact hl
   .cases hl
  .exact hl
  .exact hl
  .cases hl
 .cases hl
omit [aw] in
def Ft{k:Nat}{ok:Oper}{t:TypeId}{frk:List AV}{v':AV}(hs:oK X ops k ok o=true)(hok:ok.op = .load t (.tmp tt))(hl:kL X fr o=true)
  (h:dH X true call ⟨fr,S⟩ o=some (v,S2)) (I4:eS fr tt=eS frk tt) (ME:ldA X S t (eS frk tt)=some v'):ldA X S2 t (eS frk tt)=some v':=by
 unfold oK at hs;rw[hok]at hs;split at hs
 .rename_i t1 tt1 t2 p x e1 e2;injection e1 with e3 e4;injection e4 with e5;subst e3 e5;simp only[UT,W6]at hs;unfold kL at hl;rw[e2]at hl;simp only at hl;have ha:=Vb.1 hl tt hs.1;rw[I4]at ha;have hp:eJ X fr o=none:=by unfold eJ;rw[e2]
  have hq:ff X true S S.length fr o=none:=by unfold ff;rw[e2]
  have hn:iq X true S S.length fr o=none:=by unfold iq;rw[e2]
  have hc:cL X fr o=none:=by unfold cL;rw[e2]
  unfold dH at h;simp only[hp,hq,hn,hc]at h;split at h
  .cases h
  .unfold iz at h;rw[e2]at h;simp only at h;split at h
   .rename_i i b e sz row off e6 e7;split at h
    .rename_i rows Je wep pr e8;split at h
     .injection h with h;injection h with h1 h2;subst h2;unfold ldA at ME ⊢;split at ME
      .rename_i i1 e11;split at ME
       .rename_i b0 e0 sz0 row0 off0 e9;rw[e7,e9]at ha;simp only[pi,decide_eq_true_eq]at ha;simp only[g9,VF (fun h=>ha h.symm)]at ME ⊢;exact ME
       .exact ME
       .exact ME
       .cases ME
      .cases ME
     .cases h
    .cases h
   .cases h
 .rename_i e1 _;cases e1
 .cases hs
variable (hX:eC P X) (hO:zQ P call) (hC:iO P call)
include hX hO hC
theorem DP{id:Nat}{Q:Exit->Act->World->Prop}{base:Nat}{fr0:List AV}{S0:ab}{I5:St}(hok:regOK X ops=true)(hs:nX X true call ops ops.toList ⟨fr0,S0⟩=some I5)
  {T0 B0:bV}{I0:dK}{w0:World}{a0:Act}(h0:cB base T0 B0 I0 (dN S0) w0) (Tq:ae w0 fr0 T0 B0 I0 a0.tmps.toList)
  (hK:∀a' w' T' B' I',bu base T0 B0 I0 w0 T' B' I' w'->cB base T' B' I' (dN I5.S) w'->ae w' I5.fr T' B' I' a'.tmps.toList->a'.defers=a0.defers->Q .normal a' w'):(Code.region id ops true).wp P Q a0 w0:=by
 obtain⟨frs,Ss,val,t1,t2,t3,t4,t5⟩:=trace ops.toList hs;simp only[VV]at t3 t4;dsimp only at t1 t2
 have Kl:∀j oj,ops[j]? = some oj->(∀e∈oj.after,Region.binds .any e=true->e.on<j)/\∀i oi,i<j->ops[i]? = some oi->(vw oj i=true\/oi.apart ops oj=true)/\(oi.dst.isNone=true\/oi.dst≠oj.dst)/\(dT X oj=true->dF oi=true\/DO ops oj i=true\/oK X ops i oi oj=true)/\(dT X oi=true->dF oj=true\/dT X oj=true):=by
  intro j oj hj;have MI:=(UP.1 hj).1;have h1:=Vb.1 hok j (Wz.2 MI);simp only[hj,UT]at h1;refine⟨fun e he hb=>?_,fun i oi M5 hi=>?_⟩
  .have:=Array.all_eq_true_iff_forall_mem.1 h1.1 e he;simpa[hb]using this
  .have h2:=Vb.1 h1.2 i (Wz.2 M5);simp only[hi,UT,V1,V8,bne_iff_ne]at h2;obtain⟨⟨⟨q1,q2⟩,q3⟩,q4⟩:=h2;refine⟨q1,q2,fun he=>?_,fun he=>?_⟩
   .rcases q3 with ((q3|q3)|q3)|q3
    .rw[he]at q3;cases q3
    .exact .inl q3
    .exact .inr (.inl q3)
    .exact .inr (.inr q3)
   .rcases q4 with (q4|q4)|q4
    .rw[he]at q4;cases q4
    .exact .inl q4
    .exact .inr q4
 have Re:∀{j oj i oi},ops[j]? = some oj->i<j->ops[i]? = some oi->dT X oj=true->dT X oi=true->DO ops oj i=true:=by
  intro j oj i oi hj M5 hi h1 h2;rcases ((Kl j oj hj).2 i oi M5 hi).2.2.1 h1 with h3|h3|h3
  .rw[tP h2]at h3;cases h3
  .exact h3
  .rw[Ac h3]at h2;cases h2
 have Oh:∀{o:Oper}{i:Nat},vw o i=true->∃e∈o.after,Region.binds .any e=true/\e.on=i:=by
  intro o i h;unfold vw at h;rw[VQ]at h;obtain⟨e,he,hb⟩:=h;simp only[UT,beq_iff_eq]at hb;exact⟨e,by simpa using he,hb⟩
 let dst:Nat->Option Tmp:=fun k=>(ops[k]?).bind (·.dst)
 let eff:Nat->Bool:=fun k=>((ops[k]?).map (dT X)).getD false
 let pur:Nat->Bool:=fun k=>((ops[k]?).map dF).getD false
 have Lm:∀k,k<ops.size->∃o,ops[k]? = some o:=fun k hk=>⟨_,WM hk⟩;have KM:∀{k o},ops[k]? = some o->eff k=dT X o:=fun {k o} h=>by simp[eff,h]
 have NG:∀{k o},ops[k]? = some o->pur k=dF o:=fun {k o} h=>by simp[pur,h]
 have Nd:∀{k o},ops[k]? = some o->dst k=o.dst:=fun {k o} h=>by simp[dst,h]
 have efflt:∀k,eff k=true->k<ops.size:=fun k hk=>by
  rcases Ws k ops.size with h|h
  .exact h
  .simp[eff,Array.getElem?_eq_none h]at hk
 have Jm:∀k o,ops[k]? = some o->frs (k+1)=cj (frs k) o.dst (val k)/\((eL ops (frs k) o=some true/\dH X true call ⟨frs k,Ss k⟩ o=some (val k,Ss (k+1))/\(true=true->kL X (frs k) o=true))\/(eL ops (frs k) o=some false/\val k = .flat undef/\Ss (k+1)=Ss k)):=fun k o hk=>t5 k o (by simpa using hk)
 have hF:∀k,k<=ops.size->frs k=iP fr0 dst val k (fun _=>true):=by
  intro k
  induction k with
  | zero=>intro _;exact t1
  | succ k ih=>
   intro hk;obtain⟨o,ho⟩:=Lm k (by omega);rw[(Jm k o ho).1,ih (by omega)];simp only[iP,if_true,Nd ho]
 have H1:∀k,k<ops.size->eff k=false->kp (Ss k) (dN (Ss (k+1))):=by
  intro k hk he;obtain⟨o,ho⟩:=Lm k hk;rcases (Jm k o ho).2 with ⟨_,h2,_⟩|⟨_,_,h2⟩
  .exact(xU hX hO hC (by rw[<-KM ho];exact he) h2).1
  .rw[h2];exact kp.refl
 have H2:∀k,k<ops.size->pur k=true->Ss (k+1)=Ss k:=by
  intro k hk he;obtain⟨o,ho⟩:=Lm k hk;rcases (Jm k o ho).2 with ⟨_,h2,_⟩|⟨_,_,h2⟩
  .exact uD (by rw[<-NG ho];exact he) h2
  .exact h2
 have behind:∀i j,i<j->j<ops.size->eff i=true->pur j=true\/eff j=true:=by
  intro i j M5 hj hi;obtain⟨oj,OJ⟩:=Lm j hj;obtain⟨oi,hoi⟩:=Lm i (by omega);rw[KM hoi]at hi;rw[NG OJ,KM OJ];exact((Kl j oj OJ).2 i oi M5 hoi).2.2.2 hi
 have H3:∀j k,j<k->k<=ops.size->eff j=true->(∀i,j<i->i<k->eff i=false)->Ss k=Ss (j+1):=by
  intro j k RL hk hj Km
  induction k with
  | zero=>omega
  | succ k ih=>
   by_cases Tg:j=k
   .subst Tg;rfl
   .rw[H2 k (by omega) ((behind j k (by omega) (by omega) hj).resolve_right (by rw[Km k (by omega) (by omega)];simp))];exact ih (by omega) (by omega) fun i h1 h2=>Km i h1 (by omega)
 have H4:∀c,c<=ops.size->(∀k,k<c->eff k=false)->∀k k',k<=k'->k'<=c->kp (Ss k) (dN (Ss k')):=by
  intro c hc Km k k' KE MG
  induction k' with
  | zero=>
   have:k=0:=by omega
   subst this;exact kp.refl
  | succ k' ih=>
   by_cases h:k=k'+1
   .subst h;exact kp.refl
   .exact(ih (by omega) (by omega)).trans (H1 k' (by omega) (Km k' (by omega)))
 have first:∃m,m<=ops.size/\(∀k,k<m->eff k=false)/\(m=ops.size\/eff m=true):=by
  have:∀n,∃m,m<=n/\(∀k,k<m->eff k=false)/\(m=n\/eff m=true):=by
   intro n
   induction n with
   | zero=>exact⟨0,UJ _,fun k hk=>by omega,.inl rfl⟩
   | succ n ih=>
    obtain⟨m,h1,h2,h3⟩:=ih;rcases h3 with h3|h3
    .subst h3;by_cases he:eff m=true
     .exact⟨m,by omega,h2,.inr he⟩
     .refine⟨m+1,UJ _,fun k hk=>?_,.inl rfl⟩;by_cases RJ:k=m
      .subst RJ;simpa using he
      .exact h2 k (by omega)
    .exact⟨m,by omega,h2,.inr h3⟩
  exact this ops.size
 obtain⟨m,K3,MW,SV⟩:=first
 let LT:Nat->Nat->Prop:=fun k c=> ∀ok,ops[k]? = some ok->eL ops (frs k) ok=some true->dH X true call ⟨frs k,Ss c⟩ ok=some (val k,Ss c)
 let Phase:(Nat->Bool)->dK->Nat->Prop:=fun D I c=>
  (c=m/\(∀k,eff k=true->D k=false)/\(∀k,k<ops.size->D k=false->eff k=false->pur k=false->∀b e,lq (Ss k) (Ss (k+1)) b e->I b e=none) /\
   ∀k,k<m->D k=true->∀b e,lq (Ss k) (Ss (k+1)) b e->0<lenOf (Ss k) b->I b (lenOf (Ss k) b)≠none) \/
  (∃j,c=j+1/\eff j=true/\D j=true/\(∀k,eff k=true->j<k->D k=false)/\∀k,k<ops.size->eff k=false->pur k=false->D k=true\/LT k (j+1))
 let Inv:(Nat->Bool)->Act->World->Prop:=fun D a w=> ∃T B I c,bu base T0 B0 I0 w0 T B I w/\cB base T B I (dN (Ss c)) w/\ae w (iP fr0 dst val ops.size D) T B I a.tmps.toList/\a.defers=a0.defers/\Phase D I c
 have qlt:∀k,k<ops.size->eff k=false->pur k=false->k<m:=by
  intro k hk h1 h2;rcases Ws k m with h|h
  .exact h
  .rcases SV with h3|h3
   .omega
   .rcases Nat.eq_or_lt_of_le h with h4|h4
    .subst h4;rw[h1]at h3;cases h3
    .rcases behind m k h4 hk h3 with h5|h5
     .rw[h5]at h2;cases h2
     .rw[h5]at h1;cases h1
 have writes:∀k t,(∀q oq,k<=q->ops[q]? = some oq->oq.dst≠some t)->∀n,k<=n->n<=ops.size->eS (frs n) t=eS (frs k) t:=by
  intro k t Km n MF hn
  induction n with
  | zero=>
   have:k=0:=by omega
   subst this;rfl
  | succ n ih=>
   by_cases h:k=n+1
   .subst h;rfl
   .obtain⟨o,ho⟩:=Lm n (by omega);rw[(Jm n o ho).1,oQ,if_neg (Km n o (by omega) ho)];exact ih (by omega) (by omega)
 have chain:∀k ok,ops[k]? = some ok->k<m->eL ops (frs k) ok=some true->(∃(j:Nat) (oj:Oper),k<j/\ops[j]? = some oj/\dT X oj=true/\oK X ops k ok oj=true)->∀n,k<=n->n<=ops.size ->
   (∀(j:Nat) (oj:Oper),m<=j->j<n->ops[j]? = some oj->dT X oj=true->oK X ops k ok oj=true)->dH X true call ⟨frs k,Ss n⟩ ok=some (val k,Ss n):=by
  intro k ok hk RJ hg ⟨j0,oj0,hkj0,hj0,_,K4⟩ n MF hn Ji;have Kk:=(Jm k ok hk).2.resolve_right (fun h=>by rw[hg]at h;exact absurd h.1 (by simp));rcases Fv K4 with ⟨t,tt,Ju,Km⟩|⟨t1,n1,es,tt,t2,p,x,Ju,hsj,hgj,QT,OR,Km⟩
  rotate_left
  .refine bs_late Ju Kk.2.1 ⟨ak (frs j0) p,?_⟩;have hj:=(Jm j0 oj0 hj0).2.resolve_right (fun h=>by simp[eL,hgj]at h);have MI:=(UP.1 hj0).1;have h3:=hj.2.2 rfl;unfold kL at h3;rw[hsj]at h3;have ha:=Vb.1 h3 tt OR;rw[writes (k+1) tt (fun q oq h1 h2=>Km q oq (by omega) h2) j0 (by omega) (by omega),(Jm k ok hk).1,QT,oQ,if_pos rfl]at ha;split at ha
   .exact ha
   .simp[pi]at ha
  refine HB Ju ?_;have ME:=BV Ju Kk.2.1
  induction n with
  | zero=>
   have:k=0:=by omega
   subst this;exact ME
  | succ n ih=>
   by_cases h:k=n+1
   .subst h;exact ME
   .have ih:=ih (by omega) (by omega) fun j oj h1 h2=>Ji j oj h1 (by omega);obtain⟨o,ho⟩:=Lm n (by omega);by_cases he:eff n=true
    .have RD:m<=n:=by
      rcases Ws n m with h|h
      .rw[MW n h]at he;cases he
      .exact h
     rw[KM ho]at he;have hl:=Ji n o RD (by omega) ho he;rcases (Jm n o ho).2 with ⟨_,h2,h3⟩|⟨_,_,h2⟩
     .refine Ft hl Ju (h3 rfl) h2 (writes k tt (fun q oq h1 h2=>Km q oq h1 h2) n (by omega) (by omega)) ih
     .rw[h2];exact ih
    .exact load_ext (H1 n (by omega) (by simpa using he)) ih
 have disj:∀k k',k<m->k'<m->k≠k'->∀b e,lq (Ss k) (Ss (k+1)) b e->lq (Ss k') (Ss (k'+1)) b e->False:=by
  have key:∀k k',k<k'->k'<m->∀b e,lq (Ss k) (Ss (k+1)) b e->lq (Ss k') (Ss (k'+1)) b e->False:=fun k k' h1 h2 b e n1 n2=>
   n2.2 ((H4 m K3 MW (k+1) k' (by omega) (by omega)).cov n1.1)
  intro k k' h1 h2 I8 b e n1 n2;rcases Ws k k' with h|h
  .exact key k k' h h2 b e n1 n2
  .exact key k' k (by omega) h1 b e n2 n1
 have firstCov:∀i n b e,i<=n->¬Gd (Ss i) b e->Gd (Ss n) b e->∃k,i<=k/\k<n/\lq (Ss k) (Ss (k+1)) b e:=by
  intro i n b e KF hi
  induction n with
  | zero=>
   intro hn;have:i=0:=by omega
   subst this;exact absurd hn hi
  | succ n ih=>
   intro hn;by_cases h:i=n+1
   .subst h;exact absurd hn hi
   .by_cases h2:Gd (Ss n) b e
    .obtain⟨k,k1,k2,k3⟩:=ih (by omega) h2;exact⟨k,k1,by omega,k3⟩
    .exact⟨n,by omega,by omega,hn,h2⟩
 have beyond:∀(D:Nat->Bool) (T B:bV) (I:dK) (w:World) (i:Nat),cB base T B I (dN (Ss m)) w->i<m->D i=false ->
   (∀k,k<ops.size->D k=false->eff k=false->pur k=false->∀b e,lq (Ss k) (Ss (k+1)) b e->I b e=none)->(∀k,k<m->D k=true->∀b e,lq (Ss k) (Ss (k+1)) b e->0<lenOf (Ss k) b->I b (lenOf (Ss k) b)≠none) ->
   ∀e b e0,lq (Ss i) (Ss (i+1)) b e0->0<e0->¬Gd (Ss i) b e->I b e=none:=by
  intro D T B I w i rel Th Nm hA hC' e
  induction e using Nat.strongRecOn with
  | _ e ih=>
   intro b e0 hv Js LO;cases hi:I b e with
   | none=>rfl
   | some p=>
    exfalso;obtain⟨k,k1,k2,k3⟩:=firstCov i m b e (by omega) LO (rel.cov hi);have RW:=MW k k2
    have K2:pur k=false:=by
     cases h:pur k with
     | false=>rfl
     | true=>rw[H2 k (by omega) h]at k3;exact absurd k3 my
    have Pn:D k=true:=by
     cases h:D k with
     | true=>rfl
     | false=>rw[hA k (by omega) h RW K2 b e k3]at hi;cases hi
    have Mu:k≠i:=fun h=>by rw[h,Nm]at Pn;cases Pn
    obtain⟨c1,c2⟩:=H6 ((H4 m K3 MW (i+1) k (by omega) (by omega)).cov hv.1)
    have Ja:lenOf (Ss k) b<e:=by
     rcases Ws (lenOf (Ss k) b) e with h|h
     .exact h
     .exact absurd (c1.le h) k3.2
    exact hC' k k2 Pn b e k3 (by omega) (ih _ Ja b e0 hv Js fun h=>hv.2 (h.le c2))
 have step:∀(D D':Nat->Bool) (a:Act) (w:World) (i:Nat) (o:Oper),ops[i]? = some o->D i=false->(∀k,D' k=(D k || decide (k=i)))->(∀e∈o.after,Region.binds .any e=true->D e.on=true) ->
   (∀k ok,ops[k]? = some ok->D k=true->∀e∈ok.after,Region.binds .any e=true->D e.on=true)->Inv D a w->wpOp P ops Q i (fun a' w'=>Inv D' a' w') a w:=by
  intro D D' a w i o ho Nm KI Ky Jp ⟨T,B,I,c,st,rel,hl,O7,Pz⟩;have KF:=(UP.1 ho).1
  have OI:∀k,k<ops.size->k≠i->(dst i).isNone=true\/dst i≠dst k:=by
   intro k hk I8;obtain⟨ok,Ju⟩:=Lm k hk;rw[Nd ho,Nd Ju];rcases Ws k i with h|h
   .rcases ((Kl i o ho).2 k ok h Ju).2.1 with h1|h1
    .by_cases h2:o.dst.isNone=true
     .exact .inl h2
     .right;intro e;rw[e]at h2;exact h2 h1
    .exact .inr fun e=>h1 e.symm
   .exact((Kl k ok Ju).2 i o (by omega) ho).2.1
  have SB:=Dm (fr0:=fr0) (val:=val) ops.size KF Nm KI OI
  have Ma:∀t,t∈o.looksAt ops->eS (iP fr0 dst val ops.size D) t=eS (frs i) t:=by
   intro t ht;rw[hF i (by omega),<-GO ops.size i (by omega)];refine yl ops.size fun k hk S9=>?_;obtain⟨ok,Ju⟩:=Lm k hk;rw[Nd Ju]at S9;rcases Nat.lt_trichotomy k i with h|h|h
   .rcases ((Kl i o ho).2 k ok h Ju).1 with h1|h1
    .obtain⟨e,Oi,QQ,TA⟩:=Oh h1;have:=Ky e Oi QQ;rw[TA]at this;simp[this,h]
    .exact absurd ht ((Oper.apart_spec h1).1 t S9)
   .subst h;simp[Nm]
   .rcases ((Kl k ok Ju).2 i o h ho).1 with h1|h1
    .have:D k=false:=by
      cases QT:D k with
      | false=>rfl
      | true=>
       obtain⟨e,Oi,QQ,TA⟩:=Oh h1;have:=Jp k ok Ju QT e Oi QQ;rw[TA,Nm]at this;cases this
     simp[this];omega
    .exact absurd ht ((Oper.apart_spec h1).2.2 t S9)
  have Og:∀x∈o.op.operands.toList,ak (frs i) x=ak (iP fr0 dst val ops.size D) x:=by
   intro x hx;cases x with
   | tmp t=>
    simp only[ak];refine(Ma t ?_).symm;simp only[Oper.looksAt,UU,List.mem_filterMap];exact .inl ⟨_,hx,rfl⟩
   | _=>rfl
  have M8:eL ops (iP fr0 dst val ops.size D) o=eL ops (frs i) o:=by
   unfold eL;cases hg:o.guard with
   | none=>rfl
   | some g=>
    obtain⟨j,want⟩:=g;simp only;cases hd:(ops[j]?).bind (·.dst) with
    | none=>rfl
    | some d=>
     simp only;rw[Ma d (by simp only[Oper.looksAt,hg,hd,UU];right;simp)]
  obtain⟨hfrs,J9⟩:=Jm i o ho
  have fin:∀{T' B':bV}{I':dK}{w':World}{u:Value}{c':Nat},bu base T B I w T' B' I' w'->cB base T' B' I' (dN (Ss c')) w'->ap w' (val i) T' B' I' u->Phase D' I' c'->Inv D' (a.put o.dst u) w':=by
   intro T' B' I' w' u c' h1 h2 h3 h4;refine⟨T',B',I',c',st.trans h1,h2,?_,by rw[qY];exact O7,h4⟩;rw[SB,Nd ho];exact BF o.dst (bW _ h1.mono rel.TB hl) h3
  have I4:=oW hl
  have keep:eff i=false->∀I':dK,(∀b e p,I b e=some p->I' b e=some p)->(∀k,k<ops.size->D' k=false->eff k=false->pur k=false->∀b e,lq (Ss k) (Ss (k+1)) b e->I b e=none->I' b e=none) ->
    (∀b e,lq (Ss i) (Ss (i+1)) b e->0<lenOf (Ss i) b->I b (lenOf (Ss i) b)≠none)->Phase D' I' c:=by
   intro he I' L7 hI' hCi;rcases Pz with ⟨p1,p2,p3,p6⟩|⟨j,p1,p2,p3,p4,p5⟩
   .refine .inl ⟨p1,fun k hk=>?_,fun k hk hd h1 h2 b e hv=>?_,fun k hk hd b e hv Js hn=>?_⟩
    .rw[KI k,p2 k hk];have:k≠i:=fun e=>by rw[e,he]at hk;cases hk
     simp[this]
    .have hd2:D k=false:=by rw[KI k]at hd;simp at hd;exact hd.1
     exact hI' k hk hd h1 h2 b e hv (p3 k hk hd2 h1 h2 b e hv)
    .have I8:I b (lenOf (Ss k) b)≠none:=by
      by_cases Mu:k=i
      .subst Mu;exact hCi b e hv Js
      .rw[KI k]at hd;simp[Mu]at hd;exact p6 k hk hd b e hv Js
     cases hi:I b (lenOf (Ss k) b) with
     | none=>exact I8 hi
     | some p=>rw[L7 _ _ _ hi]at hn;cases hn
   .refine .inr ⟨j,p1,p2,by rw[KI j,p3];rfl,fun k hk RL=>?_,fun k hk h1 h2=>(p5 k hk h1 h2).imp_left fun h=>by rw[KI k,h];rfl⟩;rw[KI k,p4 k hk RL];have:k≠i:=fun e=>by rw[e,he]at hk;cases hk
    simp[this]
  have wr:eff i=true->Ss c=Ss i/\∀I',Phase D' I' (i+1):=by
   intro he;have K5:dT X o=true:=by rw[<-KM ho];exact he
   have hnp:dF o=false:=tP K5;constructor
   .rcases Pz with ⟨p1,p2,p3,_⟩|⟨j,p1,p2,p3,p4,p5⟩
    .subst p1
     have hci:c<=i:=by
      rcases Ws i c with h|h
      .rw[MW i h]at he;cases he
      .exact h
     rcases Nat.eq_or_lt_of_le hci with h|h
     .rw[h]
     .exfalso;have hec:eff c=true:=SV.resolve_left (by omega);obtain⟨oc,hoc⟩:=Lm c (by omega);have:=iA Jp Ky (Re ho h hoc K5 (by rw[<-KM hoc];exact hec));rw[p2 c hec]at this;cases this
    .subst p1;have MI:=efflt j p2;obtain⟨oj,OJ⟩:=Lm j MI
     have QF:j<i:=by
      rcases Nat.lt_trichotomy j i with h|h|h
      .exact h
      .subst h;rw[Nm]at p3;cases p3
      .exfalso;have:=iA Jp (Jp j oj OJ p3) (Re OJ h ho (by rw[<-KM OJ];exact p2) K5);rw[Nm]at this;cases this
     refine(H3 j i QF (by omega) p2 fun k h1 h2=>?_).symm;cases RW:eff k with
     | false=>rfl
     | true=>
      exfalso;obtain⟨ok,Ju⟩:=Lm k (by omega);have:=iA Jp Ky (Re ho h2 Ju K5 (by rw[<-KM Ju];exact RW));rw[p4 k RW h1]at this;cases this
   .intro I';refine .inr ⟨i,rfl,he,by rw[KI i];simp,fun k hk Tj=>?_,fun k hk h1 h2=>?_⟩
    .obtain⟨ok,Ju⟩:=Lm k (efflt k hk)
     have:D k=false:=by
      cases QT:D k with
      | false=>rfl
      | true=>
       exfalso;have:=iA Jp (Jp k ok Ju QT) (Re Ju Tj ho (by rw[<-KM Ju];exact hk) K5);rw[Nm]at this;cases this
     rw[KI k,this];simp;omega
    .have Mu:k<i:=by
      rcases Nat.lt_trichotomy k i with h|h|h
      .exact h
      .subst h;rw[he]at h1;cases h1
      .rcases behind i k h hk he with h3|h3
       .rw[h3]at h2;cases h2
       .rw[h3]at h1;cases h1
     obtain⟨ok,Ju⟩:=Lm k hk;cases Pn:D k with
     | true=>exact .inl (by rw[KI k,Pn];rfl)
     | false=>
      right
      have N1:∀j oj,k<j->j<=i->ops[j]? = some oj->dT X oj=true->oK X ops k ok oj=true:=by
       intro j oj hkj QF hj hej;rcases ((Kl j oj hj).2 k ok hkj Ju).2.2.1 hej with h3|h3|h3
       .rw[NG Ju]at h2;rw[h3]at h2;cases h2
       .exfalso;rcases Nat.eq_or_lt_of_le QF with h4|h4
        .subst h4;rw[ho]at hj;injection hj with hj;subst hj;have:=iA Jp Ky h3;rw[Pn]at this;cases this
        .have h5:=iA Jp Ky (Re ho h4 hj K5 hej);have:=iA Jp (Jp j oj hj h5) h3;rw[Pn]at this;cases this
       .exact h3
      intro ok2 NK hg;rw[Ju]at NK;injection NK with NK;subst NK;have RJ:=qlt k hk h1 h2;exact chain k ok Ju RJ hg ⟨i,o,Mu,ho,K5,N1 i o Mu (UJ _) ho K5⟩ (i+1) (by omega) (by omega) fun j oj h3 h4 h5 h6=>N1 j oj (by omega) (by omega) h5 h6
  unfold wpOp;rw[ho];simp only;rcases J9 with ⟨g1,g2,_⟩|⟨g1,g2,g3⟩
  .rw[if_pos (pR (M8.trans g1) hl)];left;rw[vR Og]at g2;by_cases he:eff i=true
   .obtain⟨e1,e2⟩:=wr he;rw[e1]at rel;exact vk hX hO hC rel I4 g2 fun u w' T' B' I' h1 h2 h3=>fin h1 h2 h3 (e2 I')
   .have LS:eff i=false:=by simpa using he
    by_cases hp:pur i=true
    .have hpo:dF o=true:=by rw[<-NG ho];exact hp
     obtain⟨_,JP⟩:=HQ hX hpo g2;obtain⟨u,u1,u2⟩:=JP rel.TB I4;unfold Oper.wp;rw[u1];have Li:=uD hpo g2;exact fin bu.refl rel u2 (keep LS I (fun _ _ _ h=>h) (fun _ _ _ _ _ _ _ _ h=>h) (fun b e hv=>by rw[Li]at hv;exact absurd hv my))
    .have KK:pur i=false:=by simpa using hp
     have Th:=qlt i KF LS KK;by_cases Ja:c≠m\/¬(∀k,eff k=true->D k=false)
     .obtain⟨j,p1,p2,p3,p4,p5⟩:=Pz.resolve_left fun h=>by rcases Ja with h1|h1;exact h1 h.1;exact h1 h.2.1
      have hL:=(p5 i KF LS KK).resolve_left (by rw[Nm];simp) o ho g1;rw[vR Og,<-p1]at hL;refine vk hX hO hC rel I4 hL fun u w' T' B' I' h1 h2 h3=>fin h1 h2 h3 (.inr ⟨j,p1,p2,by rw[KI j,p3];rfl,fun k hk RL=>?_,fun k hk h1 h2=>(p5 k hk h1 h2).imp_left fun h=>by rw[KI k,h];rfl⟩);rw[KI k,p4 k hk RL];have:k≠i:=fun e=>by rw[e,LS]at hk;cases hk
      simp[this]
     obtain⟨p1,p2,p3,p6⟩:c=m/\(∀k,eff k=true->D k=false)/\(∀k,k<ops.size->D k=false->eff k=false->pur k=false->∀b e,lq (Ss k) (Ss (k+1)) b e->I b e=none)/\∀k,k<m->D k=true->∀b e,lq (Ss k) (Ss (k+1)) b e->0<lenOf (Ss k) b->I b (lenOf (Ss k) b)≠none:=by
      rcases Pz with h|⟨j,_,p2,p3,_,_⟩
      .exact h
      .exact absurd (fun h=>by rw[h j p2]at p3;cases p3) (fun h=>Ja (.inr h))
     have hrel:=rel;rw[p1]at hrel;refine(xU hX hO hC (by rw[<-KM ho];exact LS) g2).2 rel (by rw[p1];exact H4 m K3 MW (i+1) m (by omega) (UJ _)) (p3 i KF Nm LS KK) (fun b e0 e hv Js LO=>beyond D T B I w i hrel Th Nm p3 p6 e b e0 hv Js LO) I4 fun u w' T' B' I' h1 h2 h3 h4 h5=>fin h1 h2 h3 (keep LS I' h1.mono.tI (fun k hk hd k1 k2 b e hv hn=>?_) h5);cases Jk:I' b e with
     | none=>rfl
     | some p=>
      rcases h4 b e p Jk with h6|h6
      .rw[hn]at h6;cases h6
      .exact(disj k i (qlt k hk k1 k2) Th (fun e=>by subst e;rw[KI k]at hd;simp at hd) b e hv h6).elim
  .rw[if_neg (by rw[pR (M8.trans g1) hl];simp)];have hv:ap w (val i) T B I undef:=by rw[g2];exact Dy
   by_cases he:eff i=true
   .obtain⟨e1,e2⟩:=wr he;exact fin (c':=i+1) bu.refl (by rw[g3,<-e1];exact rel) hv (e2 I)
   .exact fin bu.refl rel hv (keep (by simpa using he) I (fun _ _ _ h=>h) (fun _ _ _ _ _ _ _ _ h=>h) (fun b e hv=>by rw[g3]at hv;exact absurd hv my))
 have done:∀(D:Nat->Bool) (a:Act) (w:World),(∀k,k<ops.size->D k=true)->Inv D a w->Q .normal a w:=by
  intro D a w Ji ⟨T,B,I,c,st,rel,hl,O7,Pz⟩
  have hc:Ss c=Ss ops.size:=by
   rcases Pz with ⟨p1,p2,p3,_⟩|⟨j,p1,p2,p3,p4,p5⟩
   .subst p1;rcases SV with h|h
    .rw[h]
    .have:=p2 c h;rw[Ji c (efflt c h)]at this;cases this
   .subst p1;have MI:=efflt j p2;refine(H3 j ops.size MI (UJ _) p2 fun i h1 h2=>?_).symm;cases hei:eff i with
    | false=>rfl
    | true=>have:=p4 i hei h1;rw[Ji i h2]at this;cases this
  refine hK a w T B I st (by rw[<-t4,<-hc];exact rel) ?_ O7;rw[<-t3,hF ops.size (UJ _),sV ops.size (D:=fun _=>true) (D':=D) fun k hk=>(Ji k hk).symm];exact hl
 have go:∀(fuel:Nat) (listed:Array Bool) (a:Act) (w:World),listed.size=ops.size->(List.range ops.size).countP (fun k=> !listed.getD k true)=fuel ->
   (∀k ok,ops[k]? = some ok->listed.getD k false=true->∀e∈ok.after,Region.binds .any e=true->listed.getD e.on false=true)->Inv (fun k=>listed.getD k false) a w->wpAny P .any ops Q fuel listed a w:=by
  intro fuel
  have same:∀{listed:Array Bool}{k:Nat},listed.size=ops.size->k<ops.size->listed.getD k true=listed.getD k false:=fun {listed k} Jl hk=>by
   simp[show k<listed.size by omega]
  have allready:∀{listed:Array Bool},listed.size=ops.size->Region.ready .any ops listed = []->∀k,k<ops.size->listed.getD k false=true:=by
   intro listed Jl hr k
   induction k using Nat.strongRecOn with
   | _ k ih=>
    intro hk;cases KE:listed.getD k false with
    | true=>rfl
    | false=>
     exfalso;obtain⟨o,ho⟩:=Lm k hk
     have:k∈Region.ready .any ops listed:=mem_ready.2 ⟨by rw[same Jl hk];exact KE,o,ho,fun e he hb=>by
      have:=(Kl k o ho).1 e he hb;exact ih e.on this (by omega)⟩
     rw[hr]at this;simp at this
  induction fuel with
  | zero=>
   intro listed a w Jl Pb JA NO
   have Ji:∀k,k<ops.size->listed.getD k false=true:=fun k hk=>by
    rw[List.countP_eq_zero]at Pb;have:=Pb k (Wz.2 hk);rw[same Jl hk]at this;simpa using this
   refine⟨?_,done _ a w Ji NO⟩;rw[List.eq_nil_iff_forall_not_mem];intro k hk;obtain⟨h1,o,ho,_⟩:=mem_ready.1 hk;have MF:=(UP.1 ho).1;rw[same Jl MF,Ji k MF]at h1;cases h1
  | succ fuel ih=>
   intro listed a w Jl Pb JA NO;refine⟨fun hr=>done _ a w (allready Jl hr) NO,fun i hi=>?_⟩;obtain⟨h1,o,ho,h2⟩:=mem_ready.1 hi;have KF:=(UP.1 ho).1
   have KI:∀k,(listed.setIfInBounds i true).getD k false=(listed.getD k false || decide (k=i)):=by
    intro k;by_cases Mu:k=i
    .subst Mu;simp[show k<listed.size by omega]
    .rw[getD_set_ne false (fun e=>Mu e.symm)];simp[Mu]
   refine wpOp_mono (fun a' w' QG=>ih (listed.setIfInBounds i true) a' w' (by simpa using Jl) ?_ ?_ QG) (step _ _ a w i o ho (by rw[<-same Jl KF];exact h1) KI h2 JA NO)
   .have hc:=countP_set (l:=List.range ops.size) (p:=fun k=> !listed.getD k true) (p':=fun k=> !(listed.setIfInBounds i true).getD k true) (i:=i) List.nodup_range (Wz.2 KF) (by simp only[h1];rfl) (by
     have:(listed.setIfInBounds i true).getD i true=true:=by
      simp[show i<listed.size by omega]
     rw[this];rfl) (fun k hk=>by rw[getD_set_ne true (fun e=>hk e.symm)])
    omega
   .intro k ok hk hd e he hb;rw[KI]at hd ⊢;by_cases Mu:k=i
    .subst Mu;rw[ho]at hk;injection hk with hk;subst hk;rw[h2 e he hb];rfl
    .simp[Mu]at hd;rw[JA k ok hk (by simpa using hd) e he hb];rfl
 refine wp_region_any hX.mixed (go ops.size _ a0 _ (by simp) ?_ ?_ ?_)
 .rw[List.countP_eq_length.2]
  .simp
  .intro k hk;have:=Wz.1 hk;simp[this]
 .intro k ok hk hd;have MF:=(UP.1 hk).1;simp[MF]at hd
 .have Qf:cB base T0 B0 I0 (dN S0) { w0 with drawn:=w0.drawn+1 }:=h0.heap rfl
  have O4:(fun k=>(Array.replicate ops.size false).getD k false)=fun _=>false:=by
   funext k
   by_cases hk:k<ops.size<;>simp[hk]
  rw[O4];refine⟨T0,B0,I0,m,?_,?_,?_,rfl,.inl ⟨rfl,fun _ _=>rfl,fun k hk _ LS KK b e hv=>?_,fun k _ hd=>by cases hd⟩⟩
  .exact⟨⟨fun _ h=>h,fun _ h=>h,fun _ _ _ h=>h,fun _ _=>rfl⟩,(Vh _ _).drew,fun _ h=> .inl h,fun _ h=> .inl h⟩
  .have h1:=H4 m K3 MW 0 m (by omega) (UJ _);rw[t2]at h1;exact Qf.grow fun b e p hp blk hb=>h1 b blk hb
  .have e1:iP fr0 dst val ops.size (fun _=>false)=fr0:=by
    have:∀n,iP fr0 dst val n (fun _=>false)=fr0:=fun n=>by
     induction n with
     | zero=>rfl
     | succ n ih=>simp only[iP,ih];rfl
    exact this _
   rw[e1];exact bW (w:=w0) _ ⟨fun _ h=>h,fun _ h=>h,fun _ _ _ h=>h,fun _ _=>rfl⟩ h0.TB Tq
  .cases hi:I0 b e with
   | none=>rfl
   | some p=>
    have h1:=H4 m K3 MW 0 k (by omega) (Nat.le_of_lt (qlt k hk LS KK));rw[t2]at h1;exact absurd (h1.cov (h0.cov hi)) hv.2
end
end Go.Eng
