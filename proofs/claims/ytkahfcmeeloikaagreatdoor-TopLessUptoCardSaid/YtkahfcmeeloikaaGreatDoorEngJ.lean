/- What a callee sees of the caller's values, and what the caller gets back. -/
import Derived.Test.YtkahfcmeeloikaaGreatDoorEngI
set_option linter.all false
set_option maxHeartbeats 1000000
namespace Go.Eng
open Go.RowKit
variable [aw]
variable {F:List Nat}{c v v':AV}{cs:List AV}{u:Value}
section
variable {P:Program}{X:dV}(hX:eC P X){base:Nat}{T B:bV}{I:dK}{S:ab}{S':zS}{w:World}
theorem vS:∀{r:List AV}{g off:Nat},(∀g,T g->B g)->cq r=true->aU w r T B I g off->aU w r T T aT g off
 | [],_,_,_,_,_=>by simp only[aU]
 | c::cs,_,_,Jc,hc,h=>by
  simp only[cq,UT]at hc;simp only[aU]at h ⊢;obtain⟨⟨u,h1,h2,h3⟩,h4⟩:=h;exact⟨⟨u,h1,h2,kE Jc c hc.1 h3⟩,vS Jc hc.2 h4⟩
omit [aw] in
theorem tQ:∀{r:List AV}{g off:Nat},jP r=true->aU w r T B I g off->aU w r T B aT g off
 | [],_,_,_,_=>by simp only[aU]
 | c::cs,_,_,hc,h=>by
  simp only[jP,UT]at hc;simp only[aU]at h ⊢;obtain⟨⟨u,h1,h2,h3⟩,h4⟩:=h;exact⟨⟨u,h1,h2,gS c hc.1 h3⟩,tQ hc.2 h4⟩
theorem Au:∀{rs:List (List AV)}{g off sz:Nat},(∀g,T g->B g)->rs.all cq=true->bn w rs T B I g off sz->bn w rs T T aT g off sz
 | [],_,_,_,_,_,_=>by simp only[bn]
 | r::rs,_,_,_,Jc,hc,h=>by
  simp only[U1,UT]at hc;simp only[bn]at h ⊢;exact⟨h.1,vS Jc hc.1 h.2.1,Au Jc hc.2 h.2.2⟩
theorem pF{rs:List (List AV)}{g off sz:Nat}{pr:Bool}(Jc:∀g,T g->B g)(hp:(pr || rs.all cq)=true)(h:bn w rs T (if pr then T else B) (if pr then aT else I) g off sz):bn w rs T T aT g off sz:=by
 cases pr with
 | true=>exact h
 | false=>exact Au Jc (by simpa using hp) h
def CP(h:cB base T B I S' w)(hS:kp S S')(hu:ap w c T B I u):ap w (Gv S c) T (fun g=>g<w.heap.size) aT u:=by
 unfold Gv;split
 .rename_i hc;exact cu _ ⟨fun _ h=>h,fun g hg=>h.Blt g hg,fun _ _ _ h=>h,fun _ _=>rfl⟩ h.TB (gS _ hc hu)
 .split
  .rename_i b e off len sz;split
   .rename_i rows pr e1;split
    .rename_i hp;obtain⟨ao,aK,rfl,h1,h2,h3,h4⟩:=dO h hS e1 hu;simp only[ap];refine⟨ao,aK,rfl,h2,h3,h1,fun I8=>?_⟩;obtain⟨g,o,rfl,k1,k2⟩:=h4 I8;refine⟨g,o,rfl,?_,pF h.TB hp k1⟩;simp only[pick,U3,if_false];rcases k2 with k2|⟨_,_,_,k2,_⟩
     .exact h.Blt g k2
     .exact h.lt k2
    .simp only[ap]
   .simp only[ap]
  .simp only[ap]
theorem vU(h:cB base T B I S' w)(hS:kp S S'):∀{r:List AV}{g off:Nat},aU w r T B I g off->aU w (r.map (Gv S)) T (fun g=>g<w.heap.size) aT g off
 | [],_,_,_=>by simp only[Wb,aU]
 | c::cs,_,_,hr=>by
  simp only[Vk,aU]at hr ⊢;obtain⟨⟨u,h1,h2,h3⟩,h4⟩:=hr;exact⟨⟨u,h1,h2,CP h hS h3⟩,vU h hS h4⟩
omit [aw] in
theorem ww(Jc:∀g,T g->B g):∀{es:List (AV×AV)}{ms:List MapEntry},cq (es.map (·.2))=true->cf w T B I es ms->ae w (es.map (·.1)) T T aT (ms.map (·.key))/\ae w (es.map (·.2)) T T aT (ms.map (·.val))
 | [],_,_,h=>by simp only[cf]at h;subst h;simp[ae]
 | e::es,_,hp,h=>by
  simp only[cf]at h;obtain⟨m,K8,rfl,h1,h2,h3⟩:=h;simp only[Vk,cq,UT]at hp;obtain⟨k1,k2⟩:=ww Jc hp.2 h3;simp only[Vk,ae];exact⟨⟨_,_,rfl,h1,k1⟩,_,_,rfl,kE Jc _ hp.1 h2,k2⟩
mutual
theorem xJ(h:cB base T B I S' w)(hS:kp S S'):∀(v:AV){v':AV}{u:Value},snap S v=some v'->ap w v T B I u->ap w v' T (fun g=>g<w.heap.size) aT u
 | .agg cs,v',u,hs,hu=>by
  simp only[snap]at hs;split at hs
  .rename_i l e1;injection hs with hs;subst hs;simp only[ap]at hu ⊢;obtain⟨us,h1,h2⟩:=hu;exact⟨us,h1,gC h hS cs e1 h2⟩
  .cases hs
 | .tup cs,v',u,hs,hu=>by
  simp only[snap]at hs;split at hs
  .rename_i l e1;injection hs with hs;subst hs;simp only[ap]at hu ⊢;obtain⟨us,h1,h2⟩:=hu;exact⟨us,h1,gC h hS cs e1 h2⟩
  .cases hs
 | .fn f cs,v',u,hs,hu=>by
  simp only[snap]at hs;split at hs
  .rename_i l e1;injection hs with hs;subst hs;simp only[ap]at hu ⊢;obtain⟨us,h1,h2⟩:=hu;exact⟨us,h1,gC h hS cs e1 h2⟩
  .cases hs
 | .iface t x,v',u,hs,hu=>by
  simp only[snap]at hs;split at hs
  .rename_i l e1;injection hs with hs;subst hs;simp only[ap]at hu ⊢;obtain⟨us,h1,h2⟩:=hu;exact⟨us,h1,xJ h hS x e1 h2⟩
  .cases hs
 | .sl b e off len sz,v',u,hs,hu=>by
  simp only[snap]at hs;split at hs
  .rename_i rows pr e1;split at hs
   .rename_i hp;injection hs with hs;subst hs;obtain⟨ao,aK,rfl,h1,h2,h3,h4⟩:=dO h hS e1 hu;simp only[ap];refine⟨ao,aK,rfl,h2,h3,h1,fun I8=>?_⟩;obtain⟨g,o,rfl,k1,k2⟩:=h4 I8;refine⟨g,o,rfl,?_,pF h.TB hp k1⟩;simp only[pick,U3,if_false];rcases k2 with k2|⟨_,_,_,k2,_⟩
    .exact h.Blt g k2
    .exact h.lt k2
   .cases hs
  .cases hs
 | .ptr b e sz row off,v',u,hs,hu=>by
  simp only[snap]at hs;split at hs
  .rename_i r e1;split at hs
   .rename_i hp;injection hs with hs;subst hs;simp only[ap]at hu ⊢;obtain⟨g,gs,hi,rfl⟩:=hu;obtain⟨c1,c2⟩:=pH h hS e1 hi;refine⟨g,row*sz,rfl,by simp only[pick,U3,if_false];exact h.lt hi,?_⟩;exact gj _ ⟨fun _ h=>h,fun g hg=>by simp only[pick,U3,if_false];exact h.Blt g hg,fun _ _ _ h=>h,fun _ _=>rfl⟩ h.TB (fun _=>rfl) (tQ hp c1)
   .injection hs with hs;subst hs;simp only[ap]at hu ⊢;obtain⟨g,gs,hi,rfl⟩:=hu;obtain⟨c1,c2⟩:=pH h hS e1 hi;have K2:pick false T (fun g=>g<w.heap.size)=fun g=>g<w.heap.size:=by funext g;simp[pick]
    refine⟨g,row*sz,rfl,by simp only[pick,U3,if_false];exact h.lt hi,?_⟩;rw[K2];exact vU h hS c1
  .cases hs
 | .osl ..,_,_,hs,_=>by simp[snap]at hs
 | .mp b,v',u,hs,hu=>by
  simp only[snap]at hs;split at hs
  .rename_i es e1;split at hs
   .rename_i hp;injection hs with hs;subst hs;simp only[ap]at hu ⊢;obtain⟨g,gs,hi,rfl⟩:=hu;have hb:=(hS b _ e1).map;obtain⟨h1,ms,clock,h2,h3⟩:=by have:=h.blk _ _ _ _ hi;unfold i9 at this;rw[hb]at this;exact this
    obtain⟨k1,k2⟩:=ww h.TB hp h3;refine⟨g,ms,clock,rfl,h.lt hi,h2,by simp,k1,k2⟩
   .cases hs
  .cases hs
 | .tmap ..,v',u,hs,hu=>by
  simp only[snap]at hs;injection hs with hs;subst hs;exact cu _ ⟨fun _ h=>h,fun g hg=>h.Blt g hg,fun _ _ _ h=>h,fun _ _=>rfl⟩ h.TB (gS _ rfl hu)
 | .junk,v',u,hs,hu=>by
  simp only[snap]at hs;injection hs with hs;subst hs;simp only[ap]
 | .int ..,v',u,hs,hu=>by
  simp only[snap]at hs;injection hs with hs;subst hs;exact hu
 | .bool ..,v',u,hs,hu=>by
  simp only[snap]at hs;injection hs with hs;subst hs;exact hu
 | .str ..,v',u,hs,hu=>by
  simp only[snap]at hs;injection hs with hs;subst hs;exact hu
 | .flat ..,v',u,hs,hu=>by
  simp only[snap]at hs;injection hs with hs;subst hs;exact hu
 | .esl,v',u,hs,hu=>by
  simp only[snap]at hs;injection hs with hs;subst hs;simp only[ap]at hu ⊢;exact hu
 | .tsl ..,v',u,hs,hu=>by
  simp only[snap]at hs;injection hs with hs;subst hs;exact cu _ ⟨fun _ h=>h,fun g hg=>h.Blt g hg,fun _ _ _ h=>h,fun _ _=>rfl⟩ h.TB (gS _ rfl hu)
 | .tptr ..,v',u,hs,hu=>by
  simp only[snap]at hs;injection hs with hs;subst hs;exact cu _ ⟨fun _ h=>h,fun g hg=>h.Blt g hg,fun _ _ _ h=>h,fun _ _=>rfl⟩ h.TB (gS _ rfl hu)
theorem gC(h:cB base T B I S' w)(hS:kp S S'):∀(cs:List AV){cs':List AV}{us:List Value},dU S cs=some cs'->ae w cs T B I us->ae w cs' T (fun g=>g<w.heap.size) aT us
 | [],cs',us,hs,hu=>by
  simp only[dU]at hs;injection hs with hs;subst hs;simp only[ae]at hu ⊢;exact hu
 | c::cs,cs',us,hs,hu=>by
  simp only[dU]at hs;split at hs
  .rename_i c' e1;split at hs
   .rename_i cs'' e2;injection hs with hs;subst hs;simp only[ae]at hu ⊢;obtain⟨u,Jf,h1,h2,h3⟩:=hu;exact⟨u,Jf,h1,xJ h hS c e1 h2,gC h hS cs e2 h3⟩
   .cases hs
  .cases hs
end
def q8(w:World)(T:bV)(b1:Nat):AV->Value->List Nat->Prop
 | .osl sz rows,u,O=>(rows = []/\(∃ao,u = .slice ao 0 0)/\O = []) \/
   ∃g c ty aK,O = [g]/\u = .slice (some ⟨g,0,none⟩) rows.length aK/\rows.length<=aK/\aK<=maxLen/\b1<=g/\¬T g/\w.heap[g]? = some (.cells c ty (0,0))/\aK*sz<=c.size/\bn w rows T T aT g 0 sz
 | v,u,O=>O = []/\ap w v T T aT u
def iU(w:World)(T:bV)(b1:Nat):List AV->List Value->List Nat->Prop
 | [],us,O=>us = []/\O = []
 | c::cs,us,O=> ∃u Jf O1 O2,us=u::Jf/\O=O1++O2/\q8 w T b1 c u O1/\iU w T b1 cs Jf O2
def uK(w:World)(T:bV)(b1:Nat)(v:AV)(u:Value):Prop :=
 match v with
 | .tup cs=> ∃us O,u = .tuple us.toArray/\iU w T b1 cs us O/\O.Nodup
 | v=> ∃O,q8 w T b1 v u O
def ja(T:bV)(I:dK)(F:List Nat):bV:=fun g=>T g\/∃b e gs,I b e=some (g,gs)/\b∈F
def qL(h:cB base T B I (dN S) w)(hv:ap w v T B I u)(he:aW S v=some v')(hF:∀b e off len sz,v = .sl b e off len sz->b∈F):ap w v' (ja T I F) (ja T I F) aT u:=by
 have up:∀{x u},ap w x T T aT u->ap w x (ja T I F) (ja T I F) aT u:=fun {x u} hx=>
  cu x ⟨fun _ h=> .inl h,fun _ h=> .inl h,fun _ _ _ h=>h,fun _ _=>rfl⟩ (fun _ h=>h) hx
 unfold aW at he;split at he
 .rename_i b e off len sz;split at he
  .rename_i rows pr e1;split at he
   .rename_i hp;injection he with he;subst he;obtain⟨ao,aK,rfl,h1,h2,h3,h4⟩:=dO h (fun b blk hb=>Holds.of hb) e1 hv;simp only[ap];refine⟨ao,aK,rfl,h2,h3,h1,fun I8=>?_⟩;obtain⟨g,o,rfl,k1,k2⟩:=h4 I8;have JW:=pF h.TB hp k1;refine⟨g,o,rfl,?_,eh _ ⟨fun _ h=> .inl h,fun _ h=> .inl h,fun _ _ _ h=>h,fun _ _=>rfl⟩ (fun _ h=>h) (fun _=>rfl) JW⟩;simp only[pick,if_true];simp only[ap]at hv;rcases hv with ⟨_,_,_,ao',hq⟩|⟨g',gs,JI,hi,hq,_⟩
    .injection hq with _ hq _;exact absurd (UO hq) I8
    .injection hq with hq _ _;injection hq with hq;injection hq with hq _;subst hq;exact .inr ⟨b,e,gs,hi,hF _ _ _ _ _ rfl⟩
   .cases he
  .cases he
 .split at he
  .rename_i hs;injection he with he;subst he;exact up (kE h.TB _ hs hv)
  .cases he
theorem oV(h:cB base T B I (dN S) w):∀{cs cs':List AV}{us:List Value},ae w cs T B I us->dq S cs=some cs'->(∀b∈nF cs,b∈F)->ae w cs' (ja T I F) (ja T I F) aT us
 | [],cs',us,hv,he,_=>by
  simp only[dq]at he;injection he with he;subst he;simp only[ae]at hv ⊢;exact hv
 | c::cs,cs',us,hv,he,hF=>by
  simp only[dq]at he;split at he
  .rename_i c' e1;split at he
   .rename_i cs'' e2;injection he with he;subst he;simp only[ae]at hv ⊢;obtain⟨u,Jf,h1,h2,h3⟩:=hv;refine⟨u,Jf,h1,qL h h2 e1 (fun b e off len sz hc=>hF b (by subst hc;simp[nF])),oV h h3 e2 (fun b hb=>hF b ?_)⟩;cases c<;>simp only[nF]<;>first|exact hb|exact Xc _ hb
   .cases he
  .cases he
def tJ(h:cB base T B I (dN S) w)(hv:ap w v T B I u)(he:bI S v=some v')(hF:∀b∈bT [v],b∈F)(hO:∀b∈ce [v],b∉F) :
  ∃O,q8 w (ja T I F) base v' u O/\(∀g∈O,∃b e gs,I b e=some (g,gs)/\b∈ce [v])/\O.Nodup:=by
 have triv:∀{x:AV},(∀sz rows,x≠.osl sz rows)->ap w x (ja T I F) (ja T I F) aT u->∃O,q8 w (ja T I F) base x u O/\(∀g∈O,∃b e gs,I b e=some (g,gs)/\b∈ce [v])/\O.Nodup:=fun {x} hx hr=>by
  refine⟨[],?_,by simp,by simp⟩;cases x<;>first|exact⟨rfl,hr⟩|exact absurd rfl (hx _ _)
 unfold bI at he;split at he
 .rename_i b e off len sz;split at he
  .rename_i hc;obtain⟨rfl,rfl⟩:=hc;split at he
   .rename_i rows Je wep pr e1;split at he
    .rename_i hc;obtain⟨rfl,c2,c3,c4⟩:=hc;injection he with he;subst he;simp only[ap]at hv;rcases hv with ⟨h0,_,_,ao,rfl⟩|⟨g,gs,aK,hi,rfl,d1,d2,d3⟩
     .exact⟨[],.inl ⟨UO (by omega),⟨ao,rfl⟩,rfl⟩,by simp,by simp⟩
     .obtain⟨o1,o2,c,ty,o3,o4⟩:=h.ownA hi (show dN S b=_ from e1);obtain⟨q2,q3,q4⟩:=h.blkA hi (show dN S b=_ from e1);have hk:=q4 c3;rw[<-c2,Vn]at hk;have Qs:b∈ce [AV.sl b len 0 len Je]:=by simp[ce]
      refine⟨[g],.inr ⟨g,c,ty,aK,rfl,by rw[c2];simp,by omega,d2,o1,?_,o3,by rw[o4];simpa using d3,?_⟩,?_,by simp⟩
      .rintro (hT|⟨b',e',KW,Jk,JC⟩)
       .exact o2 (h.TB g hT)
       .have:=h.excl _ _ _ _ _ _ _ Jk hi;subst this;exact hO _ Qs JC
      .exact eh _ ⟨fun _ h=> .inl h,fun _ h=> .inl h,fun _ _ _ h=>h,fun _ _=>rfl⟩ (fun _ h=>h) (fun _=>rfl) (pF h.TB c4 hk)
      .intro g' JN;simp at JN;subst JN;exact⟨b,_,gs,hi,Qs⟩
    .cases he
   .cases he
  .rename_i hc
   have hr:=qL h (F:=F) hv he (fun b' e' Ny len' Je JS=>by
    injection JS with q1 q2 q3 q4 q5;subst q1 q2 q3 q4 q5;exact hF b (by simp[bT,hc]))
   refine triv (fun Je rows' h0=>?_) hr;subst h0;simp only[ap]at hr
 .rename_i cs;split at he
  .rename_i cs' e1;injection he with he;subst he;simp only[ap]at hv;obtain⟨us,rfl,hv⟩:=hv;refine triv (by simp) ?_;simp only[ap];exact⟨us,rfl,oV h hv e1 (fun b hb=>hF b (by simp[bT,hb]))⟩
  .cases he
 .split at he
  .rename_i hs;injection he with he;subst he;refine triv (fun Je rows' h0=>by subst h0;simp[AV.stab]at hs) ?_;exact cu _ ⟨fun _ h=> .inl h,fun _ h=> .inl h,fun _ _ _ h=>h,fun _ _=>rfl⟩ (fun _ h=>h) (kE h.TB _ hs hv)
  .cases he
omit [aw] in
def s9{b:Nat}:b∈bT (c::cs)↔b∈bT [c]\/b∈bT cs:=by
 cases c<;>simp[bT]
 rename_i b' e off len sz;by_cases h:off=0/\len=e
 .simp[h]
 .have h':off=0->¬len=e:=fun a b=>h ⟨a,b⟩;rw[if_neg h];simp only[bT,U2];exact⟨fun x=>x.imp (fun y=>⟨h',y⟩) (fun y=>y),fun x=>x.imp (fun y=>y.2) (fun y=>y)⟩
omit [aw] in
def lA :ce (c::cs)=ce [c]++ce cs:=by
 cases c<;>simp only[ce,UH]
 rename_i b' e off len sz;by_cases h:off=0/\len=e
 .simp[h]
 .simp only[h,if_false,UH]
theorem md(h:cB base T B I (dN S) w):∀{cs cs':List AV}{us:List Value},ae w cs T B I us->dm S cs=some cs'->(∀b∈bT cs,b∈F)->(∀b∈ce cs,b∉F)->(ce cs).Nodup ->
  ∃O,iU w (ja T I F) base cs' us O/\(∀g∈O,∃b e gs,I b e=some (g,gs)/\b∈ce cs)/\O.Nodup
 | [],cs',us,hv,he,_,_,_=>by
  simp only[dm]at he;injection he with he;subst he;simp only[ae]at hv;exact⟨[],⟨hv,rfl⟩,by simp,by simp⟩
 | c::cs,cs',us,hv,he,hF,hO,hN=>by
  simp only[dm]at he;split at he
  .rename_i c' e1;split at he
   .rename_i cs'' e2;injection he with he;subst he;simp only[ae]at hv;obtain⟨u,Jf,h1,h2,h3⟩:=hv;rw[lA,Xo]at hN;obtain⟨O1,a1,a2,a3⟩:=tJ h h2 e1 (fun b hb=>hF b (s9.2 (.inl hb))) (fun b hb=>hO b (by rw[lA];simp[hb]));obtain⟨O2,b1,b2,b3⟩:=md h h3 e2 (fun b hb=>hF b (s9.2 (.inr hb))) (fun b hb=>hO b (by rw[lA];simp[hb])) hN.2.1;refine⟨O1++O2,⟨u,Jf,O1,O2,h1,rfl,a1,b1⟩,fun g hg=>?_,?_⟩
    .rw[lA];rcases UU.1 hg with hg|hg
     .obtain⟨b,e,gs,x1,x2⟩:=a2 g hg;exact⟨b,e,gs,x1,by simp[x2]⟩
     .obtain⟨b,e,gs,x1,x2⟩:=b2 g hg;exact⟨b,e,gs,x1,by simp[x2]⟩
    .rw[Xo];refine⟨a3,b3,fun g hg g' JN JS=>?_⟩;subst JS;obtain⟨b,e,gs,x1,x2⟩:=a2 g hg;obtain⟨b',e',KW,x1',x2'⟩:=b2 g JN;have:=h.excl _ _ _ _ _ _ _ x1 x1';subst this;exact hN.2.2 b x2 b x2' rfl
   .cases he
  .cases he
omit [aw] in
def rD(h:dR cs=true):(ce cs).Nodup/\∀b∈ce cs,b∉bT cs:=by
 unfold dR at h;split at h
 .rename_i e;rw[e];simp
 .rename_i e;simp only[UT,decide_eq_true_eq]at h;refine⟨h.1,fun b hb=>?_⟩;have:=Vb.1 h.2 b hb;simpa using this
omit [aw] in
def DM(he:aW S v=some (.tup cs)):v = .tup cs:=by
 unfold aW at he;split at he
 .split at he
  .split at he
   .injection he with he;cases he
   .cases he
  .cases he
 .split at he
  .injection he with he
  .cases he
omit [aw] in
def FO(he:bI S v=some (.tup cs)):v = .tup cs:=by
 unfold bI at he;split at he
 .split at he
  .split at he
   .split at he
    .injection he with he;cases he
    .cases he
   .cases he
  .exact DM he
 .split at he
  .injection he with he;cases he
  .cases he
 .split at he
  .injection he with he
  .cases he
def qK(h:cB base T B I (dN S) w)(hv:ap w v T B I u)(he:da S v=some v'):∃F,uK w (ja T I F) base v' u:=by
 unfold da at he;split at he
 .rename_i cs;split at he
  .rename_i hid;obtain⟨q1,q2⟩:=rD hid;split at he
   .rename_i l e1;injection he with he;subst he;simp only[ap]at hv;obtain⟨us,rfl,hv⟩:=hv;obtain⟨O,o1,o2,o3⟩:=md h (F:=bT cs) hv e1 (fun b hb=>hb) q2 q1;exact⟨bT cs,us,O,rfl,o1,o3⟩
   .cases he
  .cases he
 .rename_i Km;split at he
  .rename_i hid;obtain⟨q1,q2⟩:=rD hid;obtain⟨O,o1,o2,o3⟩:=tJ h (F:=bT [v]) hv he (fun b hb=>hb) q2;refine⟨bT [v],?_⟩;unfold uK;split
   .exact absurd (FO he) (Km _)
   .exact⟨O,o1⟩
  .cases he
def BK(w:World)(T:bV)(b1:Nat)(v:AV)(u:Value):Prop :=
 match v with
 | .agg cs=> ∃us O,u = .agg us.toArray/\iU w T b1 cs us O/\O.Nodup
 | _=>False
def Ae(h:cB base T B I (dN S) w)(hv:ap w v T B I u)(he:pU S v=some v'):∃F,BK w (ja T I F) base v' u:=by
 unfold pU at he;split at he
 .rename_i cs;split at he
  .rename_i hid;obtain⟨q1,q2⟩:=rD hid;split at he
   .rename_i l e1;injection he with he;subst he;simp only[ap]at hv;obtain⟨us,rfl,hv⟩:=hv;obtain⟨O,o1,o2,o3⟩:=md h (F:=bT cs) hv e1 (fun b hb=>hb) q2 q1;exact⟨bT cs,us,O,rfl,o1,o3⟩
   .cases he
  .cases he
 .cases he
end
end Go.Eng
