/- An operation that writes, as a whole. -/
import Derived.Test.YtkahfcmeeloikaaGreatDoorEngH
set_option linter.all false
set_option maxHeartbeats 1000000
namespace Go.Eng
open Go.RowKit
variable [aw]
variable {S':zS}{a:Act}{b clock e g:Nat}{fr:List AV}{ms:Array MapEntry}{o:Obj}{v:AV}
section
variable {P:Program}{X:dV}(hX:eC P X){base:Nat}{T B:bV}{I:dK}{S:ab}{w:World}
def dN(S:ab):zS:=fun b=>S[b]?
omit [aw] in
def fH{blk blk':dY}(h:S[b]? = some blk):dN (S.set b blk') b=some blk'/\∀x,x≠b->dN (S.set b blk') x=dN S x:=by
 have hb:=(UK.1 h).1;refine⟨by simp[dN,hb],fun x hx=>?_⟩;simp only[dN];rw[VF (fun e=>hx e.symm)]
theorem cB.fresh(h:cB base T B I (dN S) w)(hb:S.length<=b):∀e,I b e=none:=by
 intro e;cases hi:I b e with
 | none=>rfl
 | some p=>
  have q1:=h.blk b e p.1 p.2 hi;simp[dN,VO hb,i9]at q1
def Gd(S:ab)(b e:Nat):Prop := ∃blk,S[b]? = some blk/\e<=blk.len
def cB.cov(h:cB base T B I (dN S) w){p:Nat×Nat}(hi:I b e=some p):Gd S b e:=by
 have q1:=h.blk b e p.1 p.2 hi;unfold i9 at q1;split at q1
 .rename_i hs;exact⟨_,hs,q1.1⟩
 .rename_i hs;exact⟨_,hs,by rw[q1.1];exact U9 _⟩
 .rename_i hs;exact⟨_,hs,q1⟩
 .exact q1.elim
def uB(w:World)(g:Nat)(o:Obj):World:={ w with heap:=w.heap.setIfInBounds g o }
omit [aw] in
def m8{g':Nat}(h:g'≠g):(uB w g o).heap[g']? = w.heap[g']? := by
 simp only[uB,Array.getElem?_setIfInBounds];rw[if_neg (fun e=>h e.symm)]
omit [aw] in
def HN(h:g<w.heap.size):(uB w g o).heap[g]? = some o:=by
 simp[uB,h]
omit [aw] in
def pI :(uB w g o).heap.size=w.heap.size:=by simp[uB]
omit [aw] in
def jY(o:Obj)(h:w.heap[g]? = some (.map ms clock)):(setObj g o).run P w = .ok () (uB w g o):=by
 simp[setObj,Sem.run,h,uB]
def cB.putMap(h:cB base T B I (dN S) w){gs:Nat}{es UA:List (AV×AV)}(hi:I b 0=some (g,gs))(hS:dN S b=some (.map es))(J1:S' b=some (.map UA))(KN:∀x,x≠b->S' x=dN S x)(J7:cf w T B I UA ms.toList) :
  cB base T B I S' (uB w g (.map ms clock))/\bu base T B I w T B I (uB w g (.map ms clock)):=by
 obtain⟨o1,o2,o3⟩:=h.ownM hi hS;have hm:jG w T B I (uB w g (.map ms clock)) T B I:=⟨fun _ h=>h,fun _ h=>h,fun _ _ _ h=>h,fun g' JN=>m8 (fun e=>o2 (e ▸ JN))⟩
 refine⟨⟨by rw[pI];exact h.base_le,h.TB,fun g' JN=>by rw[pI];exact h.Blt g' JN,fun b' e' g' KW Jk=>by
  obtain⟨p1,p2,p3⟩:=h.own _ _ _ _ Jk;refine⟨p1,fun hB=>?_,by rw[pI];exact p3⟩;obtain⟨n,hn⟩:=p2 hB;by_cases hb:b'=b
  .subst hb;rw[hS]at hn;cases hn
  .exact⟨n,by rw[KN _ hb];exact hn⟩,h.excl,fun b' e' g' KW Jk=>?_,fun g' o k=>⟨(h.known g' o k).1,(m8 (fun e:g'=g=>o2 (e ▸ (h.known g' o k).1))).trans (h.known g' o k).2⟩⟩,hm,
  ⟨rfl,rfl,rfl,by rw[pI];exact UJ _,fun k hk=>m8 (by omega)⟩,fun _ h=> .inl h,fun _ h=> .inl h⟩
 by_cases hb:b'=b
 .subst hb;have NT:=h.blk _ _ _ _ Jk;rw[hS]at NT;have he:e'=0:=NT.1;subst he;rw[hi]at Jk;injection Jk with Jk;injection Jk with q1 q2;subst q1 q2;rw[J1];exact⟨rfl,ms,clock,HN o3,oZ hm h.TB J7⟩
 .have hg:g'≠g:=fun hg=>hb (h.excl _ _ _ _ _ _ _ (hg ▸ Jk) hi);rw[KN _ hb];exact(h.blk _ _ _ _ Jk).mono hm h.TB (m8 hg)
theorem sl_frz(h:cB base T B I (dN S) w){T' B':bV}{c sz:Nat}{rows:List (List AV)}{wep:Nat}{pr:Bool}{I0:dK}{u:Value}(Rc:∀b e p,I0 b e=some p->I b e=some p)(hS:S[c]? = some (.arr rows sz wep pr))(he:rows.length=e)(hw:wep<=e)
  (Kk:(pr || rows.all cq)=true) (hm:jG w T B I w T' B' I) (Jc:∀g,T' g->B' g) (hT:∀g gs,I c e=some (g,gs)->T' g) (hu:ap w (.sl c e 0 e sz) T B I0 u) (T2 B2:bV) (I2:dK) (T8:∀g,T' g->T2 g):ap w (.tsl true sz rows) T2 B2 I2 u:=by
 simp only[ap]at hu ⊢;rcases hu with ⟨q1,_,_,ao,q2⟩|⟨g,gs,aK,q1,q2,q3,q4,q5⟩
 .subst q1;have:rows = []:=V0.1 he;subst this;exact⟨ao,0,q2,UJ _,U9 _,fun _=>rfl,fun hn=>absurd rfl hn⟩
 .have q1':=Rc _ _ _ q1;refine⟨some ⟨g,0,none⟩,aK,by rw[q2,he,Vg],by omega,q4,by simp,fun _=>⟨g,0,rfl,?_,?_⟩⟩
  .simp only[pick,if_true];exact T8 _ (hT _ _ q1')
  .obtain⟨k1,k2,k3⟩:=h.blkA q1' (show dN S c=_ from hS);have k4:=k3 hw;rw[<-he,Vn]at k4;have hmm:jG w T T aT w T2 T2 aT:=⟨fun g hg=>T8 g (hm.tT g hg),fun g hg=>T8 g (hm.tT g hg),fun _ _ _ h=>h,fun _ _=>rfl⟩;cases pr with
   | true=>exact eh _ hmm (fun _ h=>h) (fun _=>rfl) k4
   | false=>
    simp only[V9,Vb]at Kk;simp only[U3,if_false]at k4;rw[df]at k4 ⊢;intro i r hr;obtain⟨p1,p2⟩:=k4 i r hr;refine⟨p1,?_⟩;obtain⟨us,l1,l2,l3,l4⟩:=jr p2;exact eT (bW _ hmm (fun _ h=>h) (je h.TB _ (Kk r (List.mem_iff_getElem?.2 ⟨i,hr⟩)) l1)) l3 l4
theorem Ad(h:cB base T B I (dN S) w)(b row j:Nat):∃T' B',bu base T B I w T' B' I w/\cB base T' B' I (dN (pS S b row j)) w:=by
 have same:∃T' B',bu base T B I w T' B' I w/\cB base T' B' I (dN S) w:=⟨T,B,bu.refl,h⟩;unfold pS;split
 .rename_i rows sz wep pr e1;split
  .rename_i c e off len Je e2;split
   .rename_i rs sz'' LI pr' e3;split
    .rename_i hc;obtain⟨c1,c2,c3,c4,c5,c6,c7⟩:=hc;subst c2 c3 c4;refine⟨fun g=>T g\/∃gs,I c len=some (g,gs),fun g=>B g\/∃gs,I c len=some (g,gs),?_,?_⟩
     .refine⟨⟨fun g hg=> .inl hg,fun g hg=> .inl hg,fun _ _ _ h=>h,fun _ _=>rfl⟩,Vh _ _,fun g hg=>hg.imp id fun ⟨gs,hi⟩=>(h.own _ _ _ _ hi).1,fun g hg=>hg.imp id fun ⟨gs,hi⟩=>(h.own _ _ _ _ hi).1⟩
     .have hm:jG w T B I w (fun g=>T g\/∃gs,I c len=some (g,gs)) (fun g=>B g\/∃gs,I c len=some (g,gs)) I:=⟨fun g hg=> .inl hg,fun g hg=> .inl hg,fun _ _ _ h=>h,fun _ _=>rfl⟩;have Pk:∀g,(T g\/∃gs,I c len=some (g,gs))->(B g\/∃gs,I c len=some (g,gs)):=fun g hg=>hg.imp (h.TB g) id;have JV:=(UK.1 e1).1;have JA:=(UK.1 e3).1;have hSb:dN ((S.set c (.dead len)).set b (.arr (rows.set row ((rows.getD row []).set j (.tsl true sz'' rs))) sz wep pr)) b=some (.arr (rows.set row ((rows.getD row []).set j (.tsl true sz'' rs))) sz wep pr):=by simp[dN,JV]
      have Ub:dN ((S.set c (.dead len)).set b (.arr (rows.set row ((rows.getD row []).set j (.tsl true sz'' rs))) sz wep pr)) c=some (.dead len):=by
       simp only[dN];rw[VF (fun e=>c1 e.symm)];simp[JA]
      have T9:∀x,x≠b->x≠c->dN ((S.set c (.dead len)).set b (.arr (rows.set row ((rows.getD row []).set j (.tsl true sz'' rs))) sz wep pr)) x=dN S x:=fun x h1 h2=>by
       simp only[dN];rw[VF (fun e=>h1 e.symm),VF (fun e=>h2 e.symm)]
      generalize (S.set c (.dead len)).set b (.arr (rows.set row ((rows.getD row []).set j (.tsl true sz'' rs))) sz wep pr)=S2 at hSb Ub T9;refine⟨h.base_le,Pk,fun g hg=>?_,fun b' e' g' KW Jk=>?_,h.excl,fun b' e' g' KW Jk=>?_,fun g o k=>⟨.inl (h.known g o k).1,(h.known g o k).2⟩⟩
      .rcases hg with hg|⟨gs,hi⟩
       .exact h.Blt g hg
       .exact h.lt hi
      .obtain⟨p1,p2,p3⟩:=h.own _ _ _ _ Jk;refine⟨p1,fun hB=>?_,p3⟩;rcases hB with hB|⟨gs,hi⟩
       .obtain⟨n,hn⟩:=p2 hB;by_cases hb:b'=b
        .subst hb;rw[show dN S b'=S[b']? from rfl,e1]at hn;cases hn
        .by_cases K6:b'=c
         .subst K6;rw[show dN S b'=S[b']? from rfl,e3]at hn;cases hn
         .exact⟨n,by rw[T9 _ hb K6];exact hn⟩
       .have:=h.excl _ _ _ _ _ _ _ Jk hi;subst this;exact⟨_,Ub⟩
      .by_cases hb:b'=b
       .subst hb;obtain⟨k2,k3,k4⟩:=h.blkA Jk (show dN S b'=_ from e1);obtain⟨_,_,k5⟩:=h.ownA Jk (show dN S b'=_ from e1);rw[hSb];refine⟨by simpa using k2,k3,k5,fun hle=>?_⟩;have k6:=eh _ (lC pr hm h.TB) (wG pr h.TB) (fun _=>rfl) (k4 hle);have k7:=k4 hle;rw[df]at k6 k7 ⊢;intro i r hr;rw[VZ]at hr;split at hr
        .rename_i hie;rw[List.getElem?_set]at hr;split at hr
         .rename_i hri;subst hri;split at hr
          .rename_i J5;injection hr with hr;subst hr;have hgd:rows[row]? = some (rows.getD row []):=by rw[Ve,UL J5];rfl
           have ht:(rows.take e')[row]? = some (rows.getD row []):=by rw[VZ,if_pos hie];exact hgd
           obtain⟨m1,m2⟩:=k6 row _ ht;obtain⟨_,n2⟩:=k7 row _ ht;refine⟨by simpa using m1,?_⟩;rw[dG]at m2 n2 ⊢;intro i2 c2 Kc;rw[List.getElem?_set]at Kc;split at Kc
           .rename_i QF;subst QF;split at Kc
            .injection Kc with Kc;subst Kc;obtain⟨u,u1,u2,u3⟩:=n2 j _ e2;refine⟨u,u1,u2,?_⟩;cases pr with
             | true=>exact sl_frz (I0:=aT) h (fun _ _ _ h=>by simp[aT]at h) e3 c5 c6 c7 hm Pk (fun g gs hi=> .inr ⟨gs,hi⟩) (T:=T) (B:=B) u3 _ _ _ (fun _ h=>h)
             | false=>exact sl_frz (I0:=I) h (fun _ _ _ h=>h) e3 c5 c6 c7 hm Pk (fun g gs hi=> .inr ⟨gs,hi⟩) u3 _ _ _ (fun _ h=>h)
            .cases Kc
           .exact m2 i2 c2 Kc
          .cases hr
         .exact k6 i r (by rw[VZ,if_pos hie];exact hr)
        .cases hr
       .by_cases K6:b'=c
        .subst K6;obtain⟨k2,_⟩:=h.blkA Jk (show dN S b'=_ from e3);rw[Ub];simp only[i9];omega
        .rw[T9 _ hb K6];exact(h.blk _ _ _ _ Jk).mono hm h.TB rfl
    .exact same
   .exact same
  .exact same
 .exact same
theorem tn{row:Nat}:∀(n:Nat){T B:bV}{S:ab},cB base T B I (dN S) w->∃T' B',bu base T B I w T' B' I w/\cB base T' B' I (dN (rG b row n S)) w
 | 0,_,_,_,h=>⟨_,_,bu.refl,h⟩
 | n+1,T,B,S,h=>by
  obtain⟨T1,B1,s1,r1⟩:=Ad h b row n;obtain⟨T2,B2,s2,r2⟩:=tn n r1;exact⟨T2,B2,s1.trans s2,r2⟩
def tm(v:AV)(h:cB base T B I (dN S) w):∃T' B',bu base T B I w T' B' I w/\cB base T' B' I (dN (oR v S)) w:=by
 unfold oR;split
 .exact tn _ h
 .exact⟨_,_,bu.refl,h⟩
include hX in
def Il{o:Oper}{S2:ab}(h:cB base T B I (dN S) w)(I4:∀x,ap w (ak fr x) T B I (a.eval x))(hq:iz X S fr o=some (v,S2)) :
  EOut P base T B I (dN S2) w v (execOp a.eval o):=by
 unfold iz at hq;split at hq
 .rename_i t p x ho;split at hq
  .rename_i i b e sz row off e1 e2;split at hq
   .rename_i rows Je wep pr e3;dsimp only at hq;split at hq
    .rename_i hc;obtain⟨c1,c2,c3,c4,c5,c6,c7⟩:=hc;subst c1;injection hq with hq;injection hq with q1 q2;subst q1 q2;have hp:=I4 p;rw[e2]at hp;obtain⟨w',s1,s2,s3⟩:=CJ hX (S':=dN (S.set b _)) h e1 hp (I4 x) e3 c2 c3 c4 c5 c6 c7 (fH e3).1 (fH e3).2;exact⟨T,B,I,w',undef,.skip,by simp[execOp,ho,s1],.inr ⟨rfl,rfl⟩,s2,s3,by simp only[ap]⟩
    .cases hq
   .cases hq
  .cases hq
 .rename_i t m k x ho;split at hq
  .rename_i kt _ b e1 e2;obtain⟨_,d,_,_,k2,_,_,_,_,_,k8,r1,_⟩:=bm (hX.ty _ _ e1);simp only[cg]at k8;subst k8;split at hq
   .rename_i es ki e3 e4;split at hq
    .rename_i hc;obtain⟨LP,Tt⟩:=hc;injection hq with hq;injection hq with q1 q2;subst q1 q2;have hx:=I4 m;rw[e2]at hx;simp only[ap]at hx;obtain⟨g,gs,hi,hu⟩:=hx;have hb:=h.blk _ _ _ _ hi;rw[show dN S b=S[b]? from rfl,e3]at hb;obtain⟨_,ms,clock,hm,J7⟩:=hb;have hk:=yD hX e4 LP (I4 k);have QC:ap w (ak fr k) T T aT (a.eval k):=hk.stands;have PT:=I4 x;have Li:=hk.same;obtain⟨r,hr⟩:=WS.1 Tt;have Lh:=fH (S:=S) (blk' := .map (jc (ak fr k) (ak fr x) es)) e3
     have fin:∀(K8:Array MapEntry) (clock':Nat),(Instr.mapUpdate t (a.eval m) (a.eval k) (a.eval x)).run P w = .ok () (uB w g (.map K8 clock'))->cf w T B I (jc (ak fr k) (ak fr x) es) K8.toList ->
       EOut P base T B I (dN (S.set b (.map (jc (ak fr k) (ak fr x) es)))) w (.flat undef) (execOp a.eval o):=fun K8 clock' I6 Nc=>by
      obtain⟨s1,s2⟩:=h.putMap (S':=dN (S.set b (.map (jc (ak fr k) (ak fr x) es)))) (clock:=clock') hi e3 Lh.1 Lh.2 Nc;exact⟨T,B,I,_,undef,.skip,by simp[execOp,ho,I6],.inr ⟨rfl,rfl⟩,s2,s1,by simp only[ap]⟩
     rcases lK hX hk hr J7 with ⟨q1,q2⟩|⟨v',n,me,q1,q2,q3,q4,q5,q6⟩
     .subst q1;refine fin (ms.push { key:=a.eval k,val:=a.eval x,born:=clock }) (clock+1) ?_ ?_
      .simp only[Instr.mapUpdate,UY,r1,UR,hu,fW hm,Vo,gT hX hk,q2,jY _ hm]
      .rw[nA hr,Array.toList_push];exact wv QC PT J7
     .refine fin (ms.modify n fun e=>{ e with key:=a.eval k,val:=a.eval x }) clock ?_ ?_
      .have KE:((ms[n]?).map (·.key)).getD (a.eval k)=a.eval k:=by
        rw[<-W5,q3];simp[q5]
       simp only[Instr.mapUpdate,UY,r1,UR,hu,fW hm,Vo,gT hX hk,q2,KE,Instr.keyThatStays,Li,if_true,jY _ hm]
      .have:=q6.1 (ak fr x) (a.eval x) PT QC;simpa using this
    .cases hq
   .cases hq
  .cases hq
 .rename_i args argTypes ho;split at hq
  .rename_i s x t u ea et;have LW:args = #[s,x]:=by rw[<-Vw];exact ea
   have LV:argTypes = #[t,u]:=by rw[<-Vw];exact et
   subst LW LV;split at hq
   .rename_i el e1;obtain⟨_,d,_,_,ht,_,_,_,_,_,k8,_⟩:=bm (hX.ty _ _ e1);simp only[cg]at k8;subst k8;split at hq
    .rename_i ei e2;split at hq
     .rename_i hc;obtain⟨c1,c2,c3⟩:=hc;subst c1;split at hq
      .rename_i news prn e3;obtain⟨xo,xc,MO,Se,Rq,hx3,MP⟩:=dO h (S:=S) (fun b blk hb=>Holds.of hb) e3 (I4 x)
       have Ov:news≠[]->∃g off,xo=some ⟨g,off,none⟩/\bn w news T (if prn then T else B) (if prn then aT else I) g off ei.size:=fun I8=>
        let ⟨g,off,q1,q2,_⟩:=MP I8
        ⟨g,off,q1,q2⟩
       have hs:=I4 s
       have exec:∀r w',(Builtin.append_ #[t,t] o.type #[a.eval s,a.eval x]).run P w = .ok r w'->(execOp a.eval o).run P w = .ok (.value r) w':=fun r w' hr=>by
        simp[execOp,ho,resolve,invoke,builtin,hr]
       obtain⟨tei,_,_,ke1,_⟩:=(hX.ty _ _ e2).ok
       have zero:∀(ao:Option Addr) (n aK:Nat),a.eval s = .slice ao n aK->n<=aK->news.length=0->(execOp a.eval o).run P w = .ok (.value (a.eval s)) w:=fun ao n aK hu hn h0=>by
        refine exec _ _ ?_;rw[MO,hu,h0];exact jJ (P:=P) w t o.type el _ ht ke1 ao xo n aK xc hn
       split at hq
       .rename_i b e off len sz e4;rw[e4]at hs;split at hq
        .rename_i rows Je wep pr e5;split at hq
         .rename_i hc;obtain⟨d1,d2,d3,d4,d5,d6,d7,d8⟩:=hc;subst d1 d2 d5 d6;subst d3;split at hq
          .rename_i h0;injection hq with hq;injection hq with q1 q2;subst q1 q2;have KQ:=hs;simp only[ap]at KQ;rcases KQ with ⟨_,_,R8,ao,hu⟩|⟨g,gs,aK,_,hu,hle,_⟩
           .exact⟨T,B,I,w,_,_,zero _ _ _ hu (UJ _) h0,.inl rfl,bu.refl,h,hs⟩
           .exact⟨T,B,I,w,_,_,zero _ _ _ hu hle h0,.inl rfl,bu.refl,h,hs⟩
          .rename_i h0;injection hq with hq;injection hq with q1 q2;subst q1 q2;obtain⟨I',w',r,r1,r2,r3,r4⟩:=F9 hX (ty:=o.type) (xc:=xc) (S':=dN (S.set b _)) h ht e2 Ov c3 h0 d7 d8 hs e5 d4 (fH e5).1 (fH e5).2;exact⟨T,B,I',w',r,_,exec _ _ (by rw[MO];exact r1),.inl rfl,r2,r3,r4⟩
         .cases hq
        .cases hq
       .cases hq
      .cases hq
     .cases hq
    .cases hq
   .cases hq
  .cases hq
 .rename_i args argTypes ho;split at hq
  .rename_i m k t t2 ea et;have LW:args = #[m,k]:=by rw[<-Vw];exact ea
   have LV:argTypes = #[t,t2]:=by rw[<-Vw];exact et
   subst LW LV;split at hq
   .rename_i kt _ b e1 e2;obtain⟨_,d,_,_,k2,_,_,_,_,_,k8,r1,_⟩:=bm (hX.ty _ _ e1);simp only[cg]at k8;subst k8;split at hq
    .rename_i es ki e3 e4;split at hq
     .rename_i hc;obtain⟨LP,Tt⟩:=hc;injection hq with hq;injection hq with q1 q2;subst q1 q2;have hx:=I4 m;rw[e2]at hx;simp only[ap]at hx;obtain⟨g,gs,hi,hu⟩:=hx;have hb:=h.blk _ _ _ _ hi;rw[show dN S b=S[b]? from rfl,e3]at hb;obtain⟨_,ms,clock,hm,J7⟩:=hb;have hk:=yD hX e4 LP (I4 k);obtain⟨r,hr⟩:=WS.1 Tt;have Lh:=fH (S:=S) (blk' := .map (nZ (ak fr k) es)) e3
      have fin:∀(K8:Array MapEntry),(Builtin.delete_ #[t,t2] o.type #[a.eval m,a.eval k]).run P w = .ok (.tuple #[]) (uB w g (.map K8 clock))->cf w T B I (nZ (ak fr k) es) K8.toList ->
        EOut P base T B I (dN (S.set b (.map (nZ (ak fr k) es)))) w (.tup []) (execOp a.eval o):=fun K8 I6 Nc=>by
       obtain⟨s1,s2⟩:=h.putMap (S':=dN (S.set b (.map (nZ (ak fr k) es)))) (clock:=clock) hi e3 Lh.1 Lh.2 Nc;exact⟨T,B,I,_,.tuple #[],_,by simp[execOp,ho,resolve,invoke,builtin,I6],.inl rfl,s2,s1,by simp[ap,ae]⟩
      rcases lK hX hk hr J7 with ⟨q1,q2⟩|⟨v',n,me,q1,q2,q3,q4,q5,q6,q7⟩
      .subst q1;refine fin ms ?_ ?_
       .simp[Builtin.delete_,r1,hu,fW hm,gT hX hk,q2,jY _ hm]
       .rw[A4 hr];exact J7
      .refine fin (ms.eraseIdxIfInBounds n) ?_ ?_
       .simp[Builtin.delete_,r1,hu,fW hm,gT hX hk,q2,jY _ hm]
       .simpa using q7
     .cases hq
    .cases hq
   .cases hq
  .cases hq
 .rename_i args argTypes ho;split at hq
  .rename_i s t ea et;have LW:args = #[s]:=by rw[<-Vw];exact ea
   have LV:argTypes = #[t]:=by rw[<-Vw];exact et
   subst LW LV
   have exec:∀r w',(Builtin.clear_ #[t] o.type #[a.eval s]).run P w = .ok r w'->(execOp a.eval o).run P w = .ok (.value r) w':=fun r w' hr=>by
    simp[execOp,ho,resolve,invoke,builtin,hr]
   have hs:=I4 s;have tup0:∀{w T B I},ap w (.tup []) T B I (.tuple #[]):=by simp[ap,ae]
   split at hq
   .rename_i el b e off len sz e1 e2;obtain⟨_,d,_,_,ht,_,_,_,_,_,k8,_⟩:=bm (hX.ty _ _ e1);simp only[cg]at k8;subst k8;rw[e2]at hs;split at hq
    .rename_i ei rows Je wep pr e3 e4;split at hq
     .rename_i hc;obtain⟨d1,d2,d3,d4,d5,d6⟩:=hc;split at hq
      .rename_i h0;injection hq with hq;injection hq with q1 q2;subst q1 q2;refine⟨T,B,I,w,_,_,exec (.tuple #[]) w ?_,.inl rfl,bu.refl,h,tup0⟩;simp only[ap]at hs;subst h0;rcases hs with ⟨_,_,_,ao,hu⟩|⟨g,gs,aK,_,hu,_⟩
       .cases ao<;>simp[hu,Builtin.clear_,run_underlying ht]
       .simp[hu,Builtin.clear_,run_underlying ht]
      .rename_i h0;injection hq with hq;injection hq with q1 q2;subst q1 q2;subst d4;obtain⟨w',r1,r2,r3⟩:=DZ hX (ty:=o.type) (S':=dN (S.set b _)) h ht e3 hs e4 d1 d2 d3 d5 d6 h0 (fH e4).1 (fH e4).2;exact⟨T,B,I,w',_,_,exec _ _ r1,.inl rfl,r2,r3,tup0⟩
     .cases hq
    .cases hq
   .rename_i el st sz e1 e2;obtain⟨_,d,_,_,ht,_,_,_,_,_,k8,_⟩:=bm (hX.ty _ _ e1);simp only[cg]at k8;subst k8;rw[e2]at hs;injection hq with hq;injection hq with q1 q2;subst q1 q2;refine⟨T,B,I,w,_,_,exec (.tuple #[]) w ?_,.inl rfl,bu.refl,h,tup0⟩;simp only[ap]at hs;obtain⟨ao,aK,hu,_⟩:=hs;cases ao<;>simp[hu,Builtin.clear_,run_underlying ht]
   .cases hq
  .cases hq
 .rename_i args argTypes ho;split at hq
  .rename_i s x t u ea et;have LW:args = #[s,x]:=by rw[<-Vw];exact ea
   have LV:argTypes = #[t,u]:=by rw[<-Vw];exact et
   subst LW LV;split at hq
   .rename_i el e1;obtain⟨_,d,_,_,ht,_,_,_,_,_,k8,_⟩:=bm (hX.ty _ _ e1);simp only[cg]at k8;subst k8;split at hq
    .rename_i ei e2;obtain⟨tei,_,_,ke1,_⟩:=(hX.ty _ _ e2).ok;split at hq
     .rename_i news prn e3;obtain⟨xo,xc,MO,_,_,_,Ov⟩:=dO h (S:=S) (fun b blk hb=>Holds.of hb) e3 (I4 x);have hs:=I4 s
      have exec:∀r w',(Builtin.copy_ #[t,u] o.type #[a.eval s,a.eval x]).run P w = .ok r w'->(execOp a.eval o).run P w = .ok (.value r) w':=fun r w' hr=>by
       simp[execOp,ho,resolve,invoke,builtin,hr]
      have zero:∀(ao:Option Addr) (n aK:Nat),a.eval s = .slice ao n aK->min news.length n=0->(execOp a.eval o).run P w = .ok (.value (.int .i64 0)) w:=fun ao n aK hu h0=>by
       refine exec _ _ ?_;rw[MO,hu];exact zV (P:=P) w t u o.type el _ ht ke1 ao xo n aK news.length xc h0
      split at hq
      .rename_i b e off len sz e4;rw[e4]at hs;split at hq
       .rename_i rows Je wep pr e5;split at hq
        .rename_i hc;obtain⟨d1,d2,d3,d4,d5⟩:=hc;split at hq
         .rename_i h0;injection hq with hq;injection hq with q1 q2;subst q1 q2;refine⟨T,B,I,w,.int .i64 0,_,?_,.inl rfl,bu.refl,h,by simp only[ap]⟩;simp only[ap]at hs;rcases hs with ⟨_,_,h1,ao,hu⟩|⟨g,gs,aK,_,hu,_⟩
          .exact zero ao 0 0 hu (by simp)
          .exact zero _ _ _ hu h0
         .rename_i h0;injection hq with hq;injection hq with q1 q2;subst q1 q2;subst d4;have I8:news≠[]:=fun h1=>h0 (by simp[h1]);obtain⟨w',r1,r2,r3⟩:=FT hX (u:=u) (ty:=o.type) (S':=dN (S.set b _)) (xc:=xc) (prn:=prn) h ht e2 hs e5 d1 d2 d3 d5 h0 (let ⟨g,off,q1,q2,_⟩:=Ov I8;⟨g,off,q1,q2⟩) (fH e5).1 (fH e5).2;rw[<-MO]at r1;exact⟨T,B,I,w',.int .i64 _,_,exec _ _ r1,.inl rfl,r2,r3,by simp only[ap]⟩
        .cases hq
       .cases hq
      .rename_i st sz e4;rw[e4]at hs;injection hq with hq;injection hq with q1 q2;subst q1 q2;simp only[ap]at hs;obtain⟨ao,aK,hu,_⟩:=hs;exact⟨T,B,I,w,.int .i64 0,_,zero ao _ aK hu (by simp),.inl rfl,bu.refl,h,by simp only[ap]⟩
      .cases hq
     .cases hq
    .cases hq
   .cases hq
  .cases hq
 .cases hq
include hX in
theorem AM{dr:Bool}{id:Nat}{o:Oper}{nb:List dY}(h:cB base T B I S' w)(hS:kp S S')(I4:∀x,ap w (ak fr x) T B I (a.eval x))
  (hq:iq X dr S id fr o=some (v,nb)) (IX:∀b e,fG id nb b e->I b e=none) (MU:∀k blk,nb[k]? = some blk->Holds S' (id+k) blk) :
  ∃x:Sem Value,execOp a.eval o=(do let u <- x;pure (.value u))/\mj P base T B I S' w id nb v x:=by
 have nilcase:(execOp a.eval o=pure (.value (.slice none 0 0)))->(if dr=true then some (AV.flat (.slice none 0 0),[]) else match X.ty o.type with
   | some ⟨_,_,_,_,.slice el⟩=>match X.ty el with
    | some ei=>some (AV.sl id 0 0 0 ei.size,[dY.arr [] ei.size 0 true])
    | none=>none
   | _=>none)=some (v,nb)->∃x:Sem Value,execOp a.eval o=(do let u <- x;pure (.value u))/\mj P base T B I S' w id nb v x:=by
  intro he hq;refine⟨pure (.slice none 0 0),by rw[he];rfl,?_⟩;split at hq
  .injection hq with hq;injection hq with q1 q2;subst q1 q2;exact mj.same h ⟨_,rfl,by simp only[ap]⟩
  .split at hq
   .split at hq
    .injection hq with hq;injection hq with q1 q2;subst q1 q2;exact mj.same h ⟨_,rfl,by simp only[ap];exact .inl ⟨trivial,trivial,trivial,_,rfl⟩⟩
    .cases hq
   .cases hq
 unfold iq at hq;split at hq
 .rename_i ho;exact nilcase (by simp only[execOp,ho];rfl) hq
 .rename_i ho;exact nilcase (by simp only[execOp,ho];rfl) hq
 .rename_i args argTypes ho;split at hq
  .rename_i s x t u ea et;have LW:args = #[s,x]:=by rw[<-Vw];exact ea
   have LV:argTypes = #[t,u]:=by rw[<-Vw];exact et
   subst LW LV;split at hq
   .rename_i el e1;obtain⟨_,d,_,_,ht,_,_,_,_,_,k8,_⟩:=bm (hX.ty _ _ e1);simp only[cg]at k8;subst k8;split at hq
    .rename_i ei e2;split at hq
     .rename_i hc;obtain⟨c1,c2,c3⟩:=hc;subst c1;split at hq
      .rename_i news prn e3;obtain⟨xo,xc,MO,Se,Rq,hx3,MP⟩:=dO h hS e3 (I4 x)
       have Ov:news≠[]->∃g off,xo=some ⟨g,off,none⟩/\bn w news T (if prn then T else B) (if prn then aT else I) g off ei.size:=fun I8=>
        let ⟨g,off,q1,q2,_⟩:=MP I8
        ⟨g,off,q1,q2⟩
       have hs:=I4 s;refine⟨Builtin.append_ #[t,t] o.type #[a.eval s,a.eval x],by simp[execOp,ho,resolve,invoke,builtin],?_⟩;obtain⟨tei,_,_,ke1,_⟩:=(hX.ty _ _ e2).ok
       have zero:∀(ao:Option Addr),a.eval s = .slice ao 0 0->news.length=0->(Builtin.append_ #[t,t] o.type #[a.eval s,a.eval x]).run P w = .ok (a.eval s) w:=fun ao hu h0=>by
        rw[MO,hu,h0];exact jJ (P:=P) w t o.type el _ ht ke1 ao xo 0 0 xc (UJ _)
       have more:∀(ao:Option Addr),a.eval s = .slice ao 0 0->news.length≠0->news.length*ei.bytes<=140737488355328->news.length<=140737488355328->nb = [.arr news ei.size 0 prn]->v = .sl id news.length 0 news.length ei.size ->
         mj P base T B I S' w id nb v (Builtin.append_ #[t,t] o.type #[a.eval s,a.eval x]):=fun ao hu h0 KH Ka hn hv=>by
        obtain⟨I',w',r,r1,r2,r3,r4,r5⟩:=Ci hX (ty:=o.type) (ao:=ao) (xc:=xc) (b:=id) h ht e2 Ov c3 h0 KH Ka (IX _ _ (by rw[hn];exact fG.one rfl (by simp[dY.len]))) (MU 0 _ (by rw[hn];rfl));rw[MO,hu,hv];exact⟨T,B,I',w',r,r1,r2,r3,r4,fun b e p hp=>(r5 b e p hp).imp (fun h=>h) (fun h=>by rw[hn];exact fG.one h.1 (by rw[h.2];simp[dY.len]))⟩
       split at hq
       .rename_i e4;rw[e4]at hs;simp only[ap]at hs;obtain⟨ao,hu⟩:=hs;split at hq
        .rename_i h0;injection hq with hq;injection hq with q1 q2;subst q1 q2;exact mj.same h ⟨_,zero ao hu h0,by simp only[ap];exact⟨ao,hu⟩⟩
        .rename_i h0;split at hq
         .rename_i hb;injection hq with hq;injection hq with q1 q2;exact more ao hu h0 hb.1 hb.2 q2.symm q1.symm
         .cases hq
       .rename_i e4;rw[e4]at hs;simp only[ap]at hs;split at hq
        .rename_i h0;injection hq with hq;injection hq with q1 q2;subst q1 q2;exact mj.same h ⟨_,zero none hs h0,by simp only[ap];exact hs⟩
        .rename_i h0;split at hq
         .rename_i hb;injection hq with hq;injection hq with q1 q2;exact more none hs h0 hb.1 hb.2 q2.symm q1.symm
         .cases hq
       .cases hq
      .cases hq
     .cases hq
    .cases hq
   .cases hq
  .cases hq
 .cases hq
end
end Go.Eng
