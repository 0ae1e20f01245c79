/- The rest of the operations that only compute. -/
import Derived.Test.YtkahfcmeeloikaaGreatDoorEngC
set_option linter.all false
set_option maxHeartbeats 1000000
namespace Go.Eng
open Go.RowKit
variable [aw]
variable {hi lo:Option AV}{Jk No:Option Value}{l:Nat}{v x:AV}
section
variable {P:Program}{X:dV}(hX:eC P X){w:World}{T B:bV}{I:dK}
theorem wn(off:Nat):∀(l:List Value) (k:Nat) (cs:Array Value),off+k+l.length<=cs.size ->
  (l.zipIdx k).foldl (fun cs (p:Value×Nat)=>cs.setIfInBounds (off+p.2) p.1) cs=(cs.toList.take (off+k)++l++cs.toList.drop (off+k+l.length)).toArray
 | [],k,cs,_=>by simp
 | v::l,k,cs,h=>by
  simp only[UB]at h;rw[List.zipIdx_cons,VD,wn off l (k+1) _ (by simp;omega)]
  congr 1
  simp only[Wo,UB];have hl:off+k<cs.toList.length:=by simp;omega
  rw[show off+(k+1)=off+k+1 by omega,List.take_set,List.drop_set,if_pos (by omega),List.take_succ_eq_append_getElem hl,List.set_append,if_neg (by simp;omega)];rw[show off+k+(l.length+1)=off+k+1+l.length by omega];simp[show min (off+k) cs.size=off+k by simp at hl;omega]
def tA(off:Nat)(vs cs:Array Value)(h:off+vs.size<=cs.size) :
  vs.zipIdx.foldl (fun cs (c,j)=>cs.setIfInBounds (off+j) c) cs=(cs.toList.take off++vs.toList++cs.toList.drop (off+vs.size)).toArray:=by
 rw[<-Array.foldl_toList,Array.toList_zipIdx];have:=wn off vs.toList 0 cs (by simpa using h);simpa using this
def dQ(w:World)(T B:bV)(I:dK):List (Nat×AV)->List (Nat×Value)->Prop
 | [],qs=>qs = []
 | p::ps,qs=> ∃u Ps,qs=(p.1,u)::Ps/\ap w p.2 T B I u/\dQ w T B I ps Ps
theorem vq{fs:List (Nat×TypeId)}{pl:Nat->Option (Nat×Nat)}(IZ:∀i off t ti,fs[i]? = some (off,t)->X.ty t=some ti->pl i=some (off,ti.size)) :
  ∀{parts:List (Nat×AV)}{qs:List (Nat×Value)}{cells out:List AV}{us:List Value},tH X fs cells parts=some out->ae w cells T B I us->dQ w T B I parts qs ->
   ∃Jf,Instr.fill pl us.toArray qs=some Jf/\ae w out T B I Jf.toList
 | [],qs,cells,out,us,h,h1,h2=>by
  simp only[dQ]at h2;subst h2;simp only[tH]at h;injection h with h;subst h;exact⟨_,rfl,by simpa using h1⟩
 |(i,v)::rest,qs,cells,out,us,h,h1,h2=>by
  simp only[dQ]at h2;obtain⟨u,Ps,rfl,hu,Qg⟩:=h2;simp only[tH]at h;split at h
  .cases h
  .rename_i off t e1;split at h
   .cases h
   .rename_i ti e2;split at h
    .rename_i hc;obtain⟨c1,c2,c3⟩:=hc;obtain⟨k1,k2⟩:=pZ c3 hu;have l1:=dC k1;have l2:=dC h1;simp only[VV]at l1
     have Jj:ae w (gE cells off v.cells) T B I (us.take off++u.cells.toList++us.drop (off+u.cells.size)):=by
      unfold gE;rw[l1];exact cw (cw (gO _ h1) k1) (gP _ h1)
     obtain⟨Jf,f1,f2⟩:=vq IZ h Jj Qg;refine⟨Jf,?_,f2⟩;simp only[Instr.fill,IZ i off t ti e1 e2];rw[if_neg (by simp[l1,c1,l2];omega),tA off u.cells us.toArray (by simp[l1,l2];omega)];exact f1
    .cases h
include hX in
theorem EQ{t:TypeId}{parts:List (Nat×AV)}{qs:Array (Nat×Value)}(h:sd X t parts=some v)(hq:dQ w T B I parts qs.toList) :
  ∃u,(∀w1,(Instr.build t qs).run P w1 = .ok u w1)/\ap w v T B I u:=by
 unfold sd at h;split at h
 .rename_i z0 fs e1;obtain⟨ti,d,z,k1,k2,k3,_,_,k6,_,k8⟩:=(hX.ty _ _ e1).ok;simp only[cg]at k8;obtain⟨fields,rfl,QJ,hm⟩:=k8;rw[Vl]at h;obtain⟨out,h,rfl⟩:=h
  .obtain⟨places,IZ⟩:=WS.1 hm
   have OG:∀(i off:Nat) (ft:TypeId) (fi:mN),fs[i]? = some (off,ft)->X.ty ft=some fi->places.toArray[i]? = some (off,fi.size):=by
    intro i off ft fi e2 e3;obtain⟨fti,_,_,q1,_,_,q4,_⟩:=(hX.ty _ _ e3).ok;rw[<-QJ,Vc]at e2;cases Py:fields.toList[i]? with
    | none=>rw[Py]at e2;simp at e2
    | some fd=>
     rw[Py]at e2;simp at e2;obtain⟨rfl,rfl⟩:=e2
     have key:∀(l:List Field) (pl:List (Nat×Nat)),l.mapM (fun f=>(P.info? f.type).map fun i=>(f.offset,i.size))=some pl->∀(i:Nat) (fd:Field),l[i]? = some fd->pl[i]? = (P.info? fd.type).map fun i=>(fd.offset,i.size):=by
      intro l
      induction l with
      | nil=>intro pl _ i fd h;simp at h
      | cons x xs ih=>
       intro pl hp i fd h;simp only[List.mapM_cons,Option.bind_eq_bind,Option.pure_def]at hp;cases hi:P.info? x.type with
       | none=>simp[hi]at hp
       | some ix=>
        cases hr:xs.mapM (fun f=>(P.info? f.type).map fun i=>(f.offset,i.size)) with
        | none=>simp[hi,hr]at hp
        | some rest=>
         simp[hi,hr]at hp;subst hp;cases i with
         | zero=>simp at h;subst h;simp[hi]
         | succ i=>simpa using ih rest hr i fd (by simpa using h)
     have:=key _ _ IZ i fd Py;rw[q1]at this;simpa[q4]using this
   obtain⟨Jf,f1,f2⟩:=vq (pl:=(places.toArray[·]?)) OG h (kA k6) hq;refine⟨.agg Jf,fun w1=>run_build w1 t qs Jf ?_,?_⟩
   .unfold Program.built;rw[k1,k2];simp only[k3,IZ];simpa using f1
   .simp only[ap];exact⟨Jf.toList,by simp,f2⟩
 .rename_i z0 len el e1;obtain⟨ti,d,z,k1,k2,k3,_,_,k6,_,k8⟩:=(hX.ty _ _ e1).ok;simp only[cg]at k8;subst k8;split at h
  .rename_i ei e2;obtain⟨ie,_,_,j1,_,_,j4,_⟩:=(hX.ty _ _ e2).ok;rw[Vl]at h;obtain⟨out,h,rfl⟩:=h
   obtain⟨Jf,f1,f2⟩:=vq (pl:=fun i=>some (i*ie.size,ie.size)) (fun i off ft fi q1 q2=>by
    rw[Vc]at q1;cases hi:(List.range len)[i]? with
    | none=>rw[hi]at q1;cases q1
    | some k=>
     rw[hi]at q1;obtain⟨hk1,JK⟩:=UK.1 hi;simp at JK;subst JK;simp only[Vf,VK,Prod.mk.injEq]at q1;obtain⟨rfl,rfl⟩:=q1;rw[e2]at q2;injection q2 with q2;subst q2;simp only[j4]) h (kA k6) hq
   refine⟨.agg Jf,fun w1=>run_build w1 t qs Jf ?_,?_⟩
   .unfold Program.built;rw[k1,k2];simp only[k3,j1];simpa using f1
   .simp only[ap];exact⟨Jf.toList,by simp,f2⟩
  .cases h
 .cases h
def gm(w:World)(T B:bV)(I:dK):Option AV->Option Value->Prop
 | none,u=>u=none
 | some v,u=> ∃x,u=some x/\ap w v T B I x
def iN{d y:Nat}(code:BoundsCode)(h:dM lo d=some l)(hr:gm w T B I lo No)(hy:l<=y) :
  (No=none/\lo=none/\l=d)\/∃x,No=some x/\∀w1,(Instr.sliceBound x y code).run P w1 = .ok l w1:=by
 unfold dM at h;split at h
 .injection h with h;simp only[gm]at hr;exact .inl ⟨hr,rfl,h.symm⟩
 .simp only[gm]at hr;obtain⟨x,rfl,hr⟩:=hr;simp only[ap]at hr;subst hr;split at h
  .rename_i n hn;injection h with h;subst h;refine .inr ⟨_,rfl,fun w1=>?_⟩;have:n<=(y:Int):=by omega
   simp[Instr.sliceBound,asIntOf,hn,this]
  .cases h
 .cases h
def jo{tf:Bool}{len aK h:Nat}(e1:dM lo 0=some l)(e2:dM hi len=some h)(r1:gm w T B I lo No)(r2:gm w T B I hi Jk)(RH:l<=h)(hhl:h<=len)(QB:len<=aK) :
  ∀w1,(Instr.sliceBounds tf len aK No Jk none).run P w1 = .ok (l,h,aK) w1:=by
 intro w1;have hh:=iN (P:=P) (if tf then .sliceAcap else .sliceAlen) e2 r2 (y:=aK) (by omega);have hl:=iN (P:=P) .sliceB e1 r1 (y:=h) RH;unfold Instr.sliceBounds;rcases hh with ⟨rfl,_,rfl⟩|⟨x,rfl,hx⟩<;>rcases hl with ⟨rfl,_,rfl⟩|⟨y,rfl,hy⟩
 .simp
 .simp[hy]
 .simp[hx]
 .simp[hx,hy]
include hX in
theorem EN{t:TypeId}{mx:Option AV}{u1:Value}{mx':Option Value}(h:dW X t x lo hi mx=some v)(h1:ap w x T B I u1)(r1:gm w T B I lo No)(r2:gm w T B I hi Jk)(r3:gm w T B I mx mx') :
  ∃u,(∀w1,(Instr.sliceAt t u1 No Jk mx').run P w1 = .ok u w1)/\ap w v T B I u:=by
 have addz:∀(g o l sz:Nat),({ block:=g,off:=o,spot:=none }:Addr).add (l*sz)=⟨g,o+l*sz,none⟩:=fun g o l sz=>by
  unfold Addr.add;split
  .rename_i h0;simp[h0]
  .rfl
 unfold dW at h;split at h
 .rename_i s e1;obtain⟨ti,d,z,_,_,_,_,_,_,_,k8,q1,_⟩:=bm (hX.ty _ _ e1);simp only[cg]at k8;subst k8;simp only[ap]at h1;subst h1;simp only[gm]at r3;subst r3;split at h
  .rename_i l hh b1 b2;split at h
   .rename_i hc;injection h with h;subst h;exact⟨_,fun w1=>by simp[Instr.sliceAt,Instr.slice,q1,jo (P:=P) b1 b2 r1 r2 hc.1 hc.2 (UJ _)];rfl,by simp only[ap]⟩
   .cases h
  .cases h
 .rename_i el b e off len sz e1;obtain⟨ti,d,z,_,_,_,_,_,_,_,k8,q1,_⟩:=bm (hX.ty _ _ e1);simp only[cg]at k8;subst k8;simp only[gm]at r3;subst r3;split at h
  .rename_i l hh ei b1 b2 e2;obtain⟨_,_,_,_,_,_,_,_,_,_,_,_,q2,_⟩:=bm (hX.ty _ _ e2);split at h
   .rename_i hc;obtain⟨c1,c2,c3⟩:=hc;simp only[ap]at h1;rcases h1 with ⟨rfl,rfl,rfl,ao,rfl⟩|⟨g,gs,aK,hi,rfl,c4,c5,c6⟩
    .obtain rfl:hh=0:=by omega
     obtain rfl:l=0:=by omega
     simp only[if_true]at h;injection h with h;subst h;exact⟨.slice ao 0 0,fun w1=>by simp[Instr.sliceAt,Instr.slice,q1,q2,jo (P:=P) b1 b2 r1 r2 c1 c2 (UJ _)],by simp[ap]⟩
    .have I6:∀w1,(Instr.sliceAt t (.slice (some ⟨g,off*sz,none⟩) len aK) No Jk none).run P w1 = .ok (.slice (if aK=l then some ⟨g,off*sz,none⟩ else some ⟨g,off*sz+l*sz,none⟩) (hh-l) (aK-l)) w1:=fun w1=>by
      simp only[Instr.sliceAt,Instr.slice,q1,q2,UY,UR,jo (P:=P) b1 b2 r1 r2 c1 c2 c4,Vo,Vf];rw[<-c3,addz]
     refine⟨_,I6,?_⟩;split at h
     .rename_i K4;subst K4;injection h with h;subst h;simp only[ap];refine .inr ⟨g,gs,aK,hi,?_,by omega,c5,c6⟩;split<;>simp
     .split at h
      .rename_i K4 RH;subst RH;injection h with h;subst h;simp only[ap,UE];exact⟨_,aK-l,by simp;rfl,by omega,by omega,by split<;>simp,by simp⟩
      .rename_i K4 RH;injection h with h;subst h;simp only[ap];refine .inr ⟨g,gs,aK-l,hi,?_,by omega,by omega,?_⟩
       .rw[if_neg (by omega),VJ]
       .rwa [show off+l+(aK-l)=off+aK by omega]
   .cases h
  .cases h
 .rename_i el st sz rows e1;obtain⟨ti,d,z,_,_,_,_,_,_,_,k8,q1,_⟩:=bm (hX.ty _ _ e1);simp only[cg]at k8;subst k8;simp only[gm]at r3;subst r3;split at h
  .rename_i l hh ei b1 b2 e2;obtain⟨_,_,_,_,_,_,_,_,_,_,_,_,q2,_⟩:=bm (hX.ty _ _ e2);split at h
   .rename_i hc;obtain⟨c1,c2,c3⟩:=hc;injection h with h;subst h;simp only[ap]at h1;obtain⟨ao,aK,rfl,c4,c5,c6,c7⟩:=h1;have IY:((rows.drop l).take (hh-l)).length=hh-l:=by simp;omega
    by_cases he:hh=l
    .subst he;refine⟨.slice (if aK=hh then ao else ao.map (·.add (hh*ei.size))) (hh-hh) (aK-hh),fun w1=>?_,?_⟩
     .simp only[Instr.sliceAt,Instr.slice,q1,q2,UY,UR,jo (P:=P) b1 b2 r1 r2 c1 c2 c4,Vo]
     .simp only[ap,IY];refine⟨_,aK-hh,rfl,by omega,by omega,?_,fun h0=>absurd (by simp) h0⟩;split
      .intro h0;omega
      .intro h0;have:=c6 (by cases ao<;>simp_all);omega
    .obtain⟨g,off,rfl,p1,p2⟩:=c7 (by intro h0;subst h0;simp at c2;omega);refine⟨.slice (some ⟨g,off+l*sz,none⟩) (hh-l) (aK-l),fun w1=>?_,?_⟩
     .simp only[Instr.sliceAt,Instr.slice,q1,q2,UY,UR,jo (P:=P) b1 b2 r1 r2 c1 c2 c4,Vo,Vf];rw[if_neg (by omega),<-c3,addz]
     .simp only[ap,IY];exact⟨_,aK-l,rfl,by omega,by omega,by simp,fun _=>⟨g,_,rfl,p1,jZ _ (mW _ p2)⟩⟩
   .cases h
  .cases h
 .rename_i el e1;obtain⟨ti,d,z,_,_,_,_,_,_,_,k8,q1,_⟩:=bm (hX.ty _ _ e1);simp only[cg]at k8;subst k8;simp only[gm]at r3;subst r3;split at h
  .rename_i ei b1 b2 e2;obtain⟨_,_,_,_,_,_,_,_,_,_,_,_,q2,_⟩:=bm (hX.ty _ _ e2);injection h with h;subst h;simp only[ap]at h1;subst h1;refine⟨.slice none 0 0,fun w1=>by simp[Instr.sliceAt,Instr.slice,q1,q2,jo (P:=P) b1 b2 r1 r2 (UJ 0) (UJ 0) (UJ 0)],?_⟩;simp only[ap];exact⟨none,0,rfl,UJ _,U9 _,fun _=>rfl,fun h=>absurd rfl h⟩
  .cases h
 all_goals (try (cases h;done))
 rotate_left 4
 .rename_i el st sz rows k m _ e1;obtain⟨ti,d,z,_,_,_,_,_,_,_,k8,q1,_⟩:=bm (hX.ty _ _ e1);simp only[cg]at k8;subst k8;simp only[gm]at r3;obtain⟨m',rfl,r3⟩:=r3;simp only[ap]at r3;subst r3;split at h
  .rename_i l hh ei b1 b2 e2;obtain⟨_,_,_,_,_,_,_,_,_,_,_,_,q2,_⟩:=bm (hX.ty _ _ e2);split at h
   .rename_i hc;obtain⟨c1,c2,c3,c0,c5⟩:=hc;injection h with h;subst h;simp only[ap]at h1;obtain⟨ao,aK,rfl,d1,d2,d3,d4⟩:=h1;have hl:=iN (P:=P) .slice3C b1 r1 (y:=hh) c1;have hx:=iN (P:=P) .slice3B b2 r2 (y:=m.toNat) c2
    have hm:∀w1,(Instr.sliceBound (.int k m) aK .slice3Acap).run P w1 = .ok m.toNat w1:=fun w1=>by
     have:m<=(aK:Int):=by omega
     simp[Instr.sliceBound,asIntOf,c0,this]
    rcases hx with ⟨_,_,h0⟩|⟨x,rfl,hx⟩
    .omega
    have hb:∀w1,(Instr.sliceBounds true rows.length aK No (some x) (some (.int k m))).run P w1 = .ok (l,hh,m.toNat) w1:=fun w1=>by
     rcases hl with ⟨rfl,_,rfl⟩|⟨y,rfl,hy⟩
     .simp[Instr.sliceBounds,hm,hx]
     .simp[Instr.sliceBounds,hm,hx,hy]
    have IY:((rows.drop l).take (hh-l)).length=hh-l:=by simp;omega
    refine⟨.slice (if m.toNat=l then ao else ao.map (·.add (l*ei.size))) (hh-l) (m.toNat-l),fun w1=>?_,?_⟩
    .simp only[Instr.sliceAt,Instr.slice,q1,q2,UY,UR,hb,Vo]
    .by_cases he:hh=l
     .subst he;simp only[ap,IY];refine⟨_,m.toNat-hh,rfl,by omega,by omega,?_,fun h0=>absurd (by simp) h0⟩;split
      .intro h0;omega
      .intro h0;have:=d3 (by cases ao<;>simp_all);omega
     .obtain⟨g,off,rfl,p1,p2⟩:=d4 (by intro h0;subst h0;simp at c3;omega);rw[if_neg (by omega)];simp only[Vf];rw[<-c5,addz];simp only[ap,IY];exact⟨_,m.toNat-l,rfl,by omega,by omega,by simp,fun _=>⟨g,_,rfl,p1,jZ _ (mW _ p2)⟩⟩
   .cases h
  .cases h
 .rename_i el b e off len sz k m _ e1;obtain⟨ti,d,z,_,_,_,_,_,_,_,k8,q1,_⟩:=bm (hX.ty _ _ e1);simp only[cg]at k8;subst k8;simp only[gm]at r3;obtain⟨m',rfl,r3⟩:=r3;simp only[ap]at r3;subst r3;split at h
  .rename_i hh ei b1 b2 e2;obtain⟨_,_,_,_,_,_,_,_,_,_,_,_,q2,_⟩:=bm (hX.ty _ _ e2);split at h
   .rename_i hc;obtain⟨c2,c3,c0,c5⟩:=hc;injection h with h;subst h;have hl:=iN (P:=P) .slice3C b1 r1 (y:=hh) (U9 _);have hx:=iN (P:=P) .slice3B b2 r2 (y:=m.toNat) c2;rcases hx with ⟨_,_,h0⟩|⟨x,rfl,hx⟩
    .omega
    have hb:∀aK,len<=aK->∀w1,(Instr.sliceBounds true len aK No (some x) (some (.int k m))).run P w1 = .ok (0,hh,m.toNat) w1:=fun aK KB w1=>by
     have hm:∀w1,(Instr.sliceBound (.int k m) aK .slice3Acap).run P w1 = .ok m.toNat w1:=fun w1=>by
      have:m<=(aK:Int):=by omega
      simp[Instr.sliceBound,asIntOf,c0,this]
     rcases hl with ⟨rfl,_,_⟩|⟨y,rfl,hy⟩
     .simp[Instr.sliceBounds,hm,hx]
     .simp[Instr.sliceBounds,hm,hx,hy]
    simp only[ap]at h1;rcases h1 with ⟨rfl,rfl,rfl,ao,rfl⟩|⟨g,gs,aK,hi,rfl,d1,d2,d3⟩
    .obtain rfl:hh=0:=by omega
     refine⟨.slice ao 0 0,fun w1=>?_,by simp[ap]⟩;have hm0:m.toNat=0:=by omega
     simp only[Instr.sliceAt,Instr.slice,q1,q2,UY,UR,hb 0 (UJ _),Vo,hm0,if_true]
    .refine⟨.slice (some ⟨g,off*sz,none⟩) hh m.toNat,fun w1=>?_,?_⟩
     .simp only[Instr.sliceAt,Instr.slice,q1,q2,UY,UR,hb aK d1,Vo,Vf,Vg,Nat.sub_zero];have:=addz g (off*sz) 0 0;simp only[Vg,Wj]at this;rw[this,ite_self]
     .simp only[ap];exact .inr ⟨g,gs,m.toNat,hi,rfl,c2,by omega,UQ (VC _ (by omega)) d3⟩
   .cases h
  .cases h
 all_goals
  have KJ:∃ao n aK,u1 = .slice ao n aK:=by
   first
    |(simp only[ap]at h1;subst h1;exact⟨_,_,_,rfl⟩)
    |(simp only[ap]at h1;obtain⟨ao,rfl⟩:=h1;exact⟨_,_,_,rfl⟩)
    |(simp only[ap]at h1;obtain⟨ao,aK,rfl,_⟩:=h1;exact⟨_,_,_,rfl⟩)
    |(simp only[ap]at h1;rcases h1 with ⟨_,_,_,_,rfl⟩|⟨_,_,_,_,rfl,_⟩<;>exact⟨_,_,_,rfl⟩)
  obtain⟨ao,n,aK,rfl⟩:=KJ;split at h
  .injection h with h;subst h;have b1:dM lo 0=some 0:=by assumption
   have b2:dM hi 1=some 0:=by assumption
   obtain⟨ti,d,z,_,_,_,_,_,_,_,k8,q1,_⟩:=bm (hX.ty t _ (by assumption));simp only[cg]at k8;subst k8;simp only[gm]at r3;obtain⟨m',rfl,r3⟩:=r3;simp only[ap]at r3;subst r3;have hl:=iN (P:=P) .slice3C b1 r1 (y:=0) (UJ _);have hh:=iN (P:=P) .slice3B b2 r2 (y:=0) (UJ _);rcases hh with ⟨_,_,h0⟩|⟨x,rfl,hx⟩
   .omega
   have hm:∀k w1,(Instr.sliceBound (.int k 0) aK .slice3Acap).run P w1 = .ok 0 w1:=fun k w1=>by simp[Instr.sliceBound,asIntOf]
   refine⟨.slice ao 0 0,fun w1=>?_,by simp only[ap];exact⟨ao,rfl⟩⟩;obtain⟨_,_,_,_,_,_,_,_,_,_,_,_,Jl,_⟩:=bm (hX.ty _ _ (show X.ty _=some _ by assumption));rcases hl with ⟨rfl,_,_⟩|⟨y,rfl,hy⟩
   .simp[Instr.sliceAt,Instr.slice,Instr.sliceBounds,q1,hm,hx,Jl]
   .simp[Instr.sliceAt,Instr.slice,Instr.sliceBounds,q1,hm,hx,hy,Jl]
  .cases h
def GS{u:Value}{n:Nat}(h:lenA x=some n)(h1:ap w x T B I u):(∃s,x = .str s/\u = .string s/\n=s.size)\/((∀s,x≠.str s)/\∃ao aK,u = .slice ao n aK):=by
 unfold lenA at h;split at h;all_goals (try (cases h;done))
 all_goals
  injection h with h;subst h;simp only[ap]at h1
 .exact .inl ⟨_,rfl,h1,rfl⟩
 .refine .inr ⟨by simp,?_⟩;rcases h1 with ⟨_,_,rfl,_,rfl⟩|⟨g,gs,aK,_,rfl,_⟩
  .exact⟨_,_,rfl⟩
  .exact⟨_,_,rfl⟩
 .obtain⟨ao,aK,rfl,_⟩:=h1;exact .inr ⟨by simp,_,_,rfl⟩
 .obtain⟨ao,rfl⟩:=h1;exact .inr ⟨by simp,_,_,rfl⟩
 .subst h1;exact .inr ⟨by simp,_,_,rfl⟩
theorem sW(mx:Bool):∀{ys:List AV}{vs:List Value}{x v:AV}{u:Value},kJ mx x ys=some v->ap w x T B I u->ae w ys T B I vs ->
  ∃r,(∀w1,(vs.foldlM (if mx then Builtin.max2 else Builtin.min2) u).run P w1 = .ok r w1)/\ap w v T B I r
 | [],vs,x,v,u,h,hu,J3=>by
  simp only[ae]at J3;subst J3;have:some x=some v:=by cases x<;>exact h
  injection this with h;subst h;exact⟨u,fun w1=>by simp,hu⟩
 | y::ys,vs,x,v,u,h,hu,J3=>by
  simp only[ae]at J3;obtain⟨u2,vs',rfl,Sm,J3⟩:=J3;unfold kJ at h;split at h
  .rename_i JS;cases JS
  .rename_i k a k' b rest JS;injection JS with e1 e2;subst e1 e2;simp only[ap]at hu Sm;subst hu Sm;obtain⟨r,hr,hv⟩:=sW (u := .int k (if mx then (if b > a then b else a) else (if b<a then b else a))) mx h (by simp only[ap]) J3;refine⟨r,fun w1=>?_,hv⟩;cases mx<;>simpa[Builtin.max2,Builtin.min2]using hr w1
  .cases h
theorem yo(mx:Bool){xs:List AV}{us:List Value}(at_:Array TypeId)(ty:TypeId)(h:kj mx xs=some v)(h1:ae w xs T B I us) :
  ∃u,(∀w1,(if mx then Builtin.max_ at_ ty us.toArray else Builtin.min_ at_ ty us.toArray).run P w1 = .ok u w1)/\ap w v T B I u:=by
 cases xs with
 | nil=>simp[kj]at h
 | cons x xs=>
  simp only[ae]at h1;obtain⟨u,Jf,rfl,hu,JM⟩:=h1;obtain⟨r,hr,hv⟩:=sW (P:=P) mx h hu JM;refine⟨r,fun w1=>?_,hv⟩;cases mx<;>simp[Builtin.max_,Builtin.min_]at hr ⊢<;>exact hr w1
end
end Go.Eng
