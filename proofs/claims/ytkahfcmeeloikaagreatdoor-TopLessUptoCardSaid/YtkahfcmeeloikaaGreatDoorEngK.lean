/- A call by value. -/
import Derived.Test.YtkahfcmeeloikaaGreatDoorEngJ
set_option linter.all false
set_option maxHeartbeats 1000000
namespace Go.Eng
open Go.RowKit
variable [aw]
variable {B2 T2:bV}{O:List Nat}{S:ab}{args Jb:List AV}{b b1 e:Nat}{call:gX}{f:FuncId}{nb Sa:List dY}{r v:AV}{u:Value}{vs:List Value}
def iO(P:Program)(call:gX):Prop :=
 ∀f args S r S',call f args S=some (r,S')->∀base T B I w vs,cB base T B I (dN S) w->ae w args T B I vs ->
  Calls P f vs.toArray w fun e w'=> ∃u T' B' I',e = .returned u/\bu base T B I w T' B' I' w'/\cB base T' B' I' (dN S') w'/\ap w' r T' B' I' u
section
variable {P:Program}{base:Nat}{T B:bV}{I:dK}{S':zS}{w:World}
def mu(Jc:∀g,T g->g<w.heap.size)(hk:∀g o,aw.blk g=some o->w.heap[g]? = some o):cB w.heap.size T (fun g=>g<w.heap.size) aT (dN []) w :=
 ⟨UJ _,Jc,fun _ h=>h,fun _ _ _ _ h=>(by simp[aT]at h),fun _ _ _ _ _ _ _ h=>(by simp[aT]at h),fun _ _ _ _ h=>(by simp[aT]at h),fun g o k=>⟨(UP.1 (hk g o k)).1,hk g o k⟩⟩
def tW(h:cB base T B I S' w){id:Nat}(hv:q8 w T b1 v u O)(hb:base<=b1)(hB:∀g∈O,¬B g)(hI:∀g∈O,∀b e gs,I b e≠some (g,gs))
  (IX:∀b e,fG id (bp id v).2 b e->I b e=none) (hS:∀k blk,(bp id v).2[k]? = some blk->Holds S' (id+k) blk) :
  ∃I',bu base T B I w T B I' w/\cB base T B I' S' w/\ap w (bp id v).1 T B I' u/\(∀b e p,I' b e=some p->I b e=some p\/fG id (bp id v).2 b e)/\(∀b e g gs,I' b e=some (g,gs)->I b e=some (g,gs)\/g∈O):=by
 by_cases ho:∃sz rows,v = .osl sz rows
 .obtain⟨sz,rows,rfl⟩:=ho;simp only[bp]at IX hS ⊢;have Q6:Holds S' id (.arr rows sz 0 true):=hS 0 _ rfl;have hf0:I id rows.length=none:=IX id _ (fG.one rfl (UJ _));simp only[q8]at hv;rcases hv with ⟨rfl,⟨ao,rfl⟩,rfl⟩|⟨g,c,ty,aK,rfl,rfl,h1,h2,h3,h4,h5,h6,h7⟩
  .exact⟨I,bu.refl,h,by simp[ap],fun _ _ _ h=> .inl h,fun _ _ _ _ h=> .inl h⟩
  .have Jj:=h.newBlk (b:=id) (g:=g) (rows:=rows) (sz:=sz) (pr:=true) (c:=c) (ty:=ty) hf0 Q6 (UQ hb h3) (hB g (by simp)) (hI g (by simp)) h5 (UQ (VC _ h1) h6) h7;refine⟨_,bu.inj hf0,Jj,?_,mw (by simp[dY.len]),fun b e g' gs hp=>?_⟩
   .simp only[ap];exact .inr ⟨g,c.size,aK,dK.put_self,by simp,h1,h2,by simpa using h6⟩
   .unfold dK.put at hp;split at hp
    .injection hp with hp;injection hp with q1 _;subst q1;exact .inr (by simp)
    .exact .inl hp
 .have e1:bp id v=(v,[]):=by cases v<;>first|rfl|exact absurd ⟨_,_,rfl⟩ ho
  have e2:O = []/\ap w v T T aT u:=by cases v<;>first|exact hv|exact absurd ⟨_,_,rfl⟩ ho
  rw[e1];exact⟨I,bu.refl,h,cu v ⟨fun _ h=>h,h.TB,fun _ _ _ h=>(by simp[aT]at h),fun _ _=>rfl⟩ (fun _ h=>h) e2.2,fun _ _ _ h=> .inl h,fun _ _ _ _ h=> .inl h⟩
omit [aw] in
def fG.left{id:Nat}(h:fG id nb b e):fG id (nb++Sa) b e:=by
 obtain⟨k,blk,h1,h2,h3⟩:=h;exact⟨k,blk,by rw[UN (UK.1 h1).1];exact h1,h2,h3⟩
omit [aw] in
def fG.right{id:Nat}(h:fG (id+nb.length) Sa b e):fG id (nb++Sa) b e:=by
 obtain⟨k,blk,h1,h2,h3⟩:=h;exact⟨nb.length+k,blk,by rw[Vd (by omega),VP];exact h1,by omega,h3⟩
omit [aw] in
def fG.at{id:Nat}(h:fG id nb b e):id<=b/\b<id+nb.length:=by
 obtain⟨k,blk,h1,h2,h3⟩:=h;have:=(UK.1 h1).1;omega
theorem nJ:∀{cs:List AV}{us:List Value}{I:dK}{id b1:Nat}{O:List Nat},cB base T B I S' w->iU w T b1 cs us O->base<=b1->O.Nodup->(∀g∈O,¬B g)->(∀g∈O,∀b e gs,I b e≠some (g,gs)) ->
  (∀b e,fG id (bC id cs).2 b e->I b e=none)->(∀k blk,(bC id cs).2[k]? = some blk->Holds S' (id+k) blk) ->
  ∃I',bu base T B I w T B I' w/\cB base T B I' S' w/\ae w (bC id cs).1 T B I' us/\(∀b e p,I' b e=some p->I b e=some p\/fG id (bC id cs).2 b e)
 | [],us,I,id,b1,O,h,hv,_,_,_,_,_,_=>by
  simp only[iU]at hv;obtain⟨rfl,rfl⟩:=hv;exact⟨I,bu.refl,h,by simp[bC,ae],fun _ _ _ h=> .inl h⟩
 | c::cs,us,I,id,b1,O,h,hv,hb,hN,hB,hI,IX,hS=>by
  simp only[iU]at hv;obtain⟨u,Jf,O1,O2,rfl,rfl,hc,Mw⟩:=hv;simp only[bC]at IX hS ⊢;rw[Xo]at hN
  obtain⟨I1,s1,r1,v1,f1,g1⟩:=tW h hc hb (fun g hg=>hB g (by simp[hg])) (fun g hg=>hI g (by simp[hg])) (fun b e hn=>IX b e hn.left) (fun k blk hk=>hS k blk (by
   rw[UN (UK.1 hk).1];exact hk))
  obtain⟨I2,s2,r2,v2,f2⟩:=nJ (id:=id+(bp id c).2.length) r1 Mw hb hN.2.1 (fun g hg=>hB g (by simp[hg])) (fun g hg b e gs hi=>by
    rcases g1 b e g gs hi with h1|h1
    .exact hI g (by simp[hg]) b e gs h1
    .exact hN.2.2 g h1 g hg rfl) (fun b e hn=>by
    cases hq:I1 b e with
    | none=>rfl
    | some p=>
     rcases f1 b e p hq with h3|h3
     .rw[IX b e hn.right]at h3;cases h3
     .have:=hn.at;have:=h3.at;omega) (fun k blk hk=>by
    have:=hS ((bp id c).2.length+k) blk (by rw[Vd (by omega),VP];exact hk)
    rwa [<-VY]at this)
  refine⟨I2,s1.trans s2,r2,?_,fun b e p hp=>?_⟩
  .simp only[ae];exact⟨u,Jf,rfl,cu _ s2.mono h.TB v1,v2⟩
  .rcases f2 b e p hp with h3|h3
   .rcases f1 b e p h3 with h4|h4
    .exact .inl h4
    .exact .inr h4.left
   .exact .inr h3.right
theorem Cl(h:cB base T B I S' w){id:Nat}(hv:uK w T b1 v u)(hb:base<=b1)(hB:∀g,b1<=g->¬T g->¬B g)(hI:∀g,b1<=g->∀b e gs,I b e≠some (g,gs))
  (IX:∀b e,fG id (dJ id v).2 b e->I b e=none) (hS:∀k blk,(dJ id v).2[k]? = some blk->Holds S' (id+k) blk) :
  ∃I',bu base T B I w T B I' w/\cB base T B I' S' w/\ap w (dJ id v).1 T B I' u/\(∀b e p,I' b e=some p->I b e=some p\/fG id (dJ id v).2 b e):=by
 have own:∀{v:AV}{u:Value}{O:List Nat},q8 w T b1 v u O->∀g∈O,b1<=g/\¬T g:=fun {v u O} ho g hg=>by
  cases v<;>simp only[q8]at ho<;>first
   |(rw[ho.1]at hg;simp at hg;done)
   | skip
  rcases ho with ⟨_,_,rfl⟩|⟨g',c,ty,aK,rfl,_,_,_,h5,h6,_⟩
  .simp at hg
  .simp at hg;subst hg;exact⟨h5,h6⟩
 have ownL:∀{cs:List AV}{us:List Value}{O:List Nat},iU w T b1 cs us O->∀g∈O,b1<=g/\¬T g:=fun {cs}=>by
  induction cs with
  | nil=>intro us O ho g hg;simp only[iU]at ho;rw[ho.2]at hg;simp at hg
  | cons c cs ih=>
   intro us O ho g hg;simp only[iU]at ho;obtain⟨u,Jf,O1,O2,_,rfl,h1,h2⟩:=ho;rcases UU.1 hg with hg|hg
   .exact own h1 g hg
   .exact ih h2 g hg
 by_cases ht:∃cs,v = .tup cs
 .obtain⟨cs,rfl⟩:=ht;simp only[uK]at hv;obtain⟨us,O,rfl,ho,hN⟩:=hv;simp only[dJ]at IX hS ⊢;obtain⟨I',s,r,v',f⟩:=nJ h ho hb hN (fun g hg=>hB g (ownL ho g hg).1 (ownL ho g hg).2) (fun g hg=>hI g (ownL ho g hg).1) IX hS;exact⟨I',s,r,by simp only[ap];exact⟨us,rfl,v'⟩,f⟩
 .have e1:dJ id v=bp id v:=by cases v<;>first|rfl|exact absurd ⟨_,rfl⟩ ht
  have e2:∃O,q8 w T b1 v u O:=by cases v<;>first|exact hv|exact absurd ⟨_,rfl⟩ ht
  obtain⟨O,ho⟩:=e2;rw[e1]at IX hS ⊢;obtain⟨I',s,r,v',f,_⟩:=tW h ho hb (fun g hg=>hB g (own ho g hg).1 (own ho g hg).2) (fun g hg=>hI g (own ho g hg).1) IX hS;exact⟨I',s,r,v',f⟩
def wC(hC:iO P call)(h:cB base T B I S' w)(PG:kp S S'){id:Nat}(I3:ae w args T B I vs)
  (KP:dU S args=some Jb) (KA:iL call f Jb=some r) (IX:∀b e,fG id (dJ id r).2 b e->I b e=none) (hS:∀k blk,(dJ id r).2[k]? = some blk->Holds S' (id+k) blk) :
  Calls P f vs.toArray w fun e w'=> ∃u T' B' I',e = .returned u/\bu base T B I w T' B' I' w'/\cB base T' B' I' S' w'/\ap w' (dJ id r).1 T' B' I' u /\
   ∀b e p,I' b e=some p->I b e=some p\/fG id (dJ id r).2 b e:=by
 unfold iL at KA;split at KA
 .rename_i r0 S0 e1;have ha:=gC h PG args KP I3;refine(hC f Jb [] r0 S0 e1 _ _ _ _ _ _ (mu (fun g hg=>h.Blt g (h.TB g hg)) (fun g o k=>(h.known g o k).2)) ha).mono ?_;rintro e w' ⟨u,T1,B1,I1,rfl,st,rl,hr⟩;obtain⟨F,ho⟩:=qK rl hr KA;have Jl:=st.below.size
  have hT:∀g,ja T1 I1 F g->T g\/(w.heap.size<=g/\g<w'.heap.size):=fun g hg=>by
   rcases hg with hg|⟨b,e,gs,hi,_⟩
   .rcases st.newT g hg with h1|h1
    .exact .inl h1
    .exact .inr ⟨h1,rl.Blt g (rl.TB g hg)⟩
   .exact .inr ⟨(rl.own _ _ _ _ hi).1,rl.lt hi⟩
  have Kz:cB base (ja T1 I1 F) (fun g=>B g\/ja T1 I1 F g) I S' w':=h.quiet st.below (fun g hg=> .inl (st.mono.tT g hg)) (fun g hg=> .inl hg) (fun g hg=> .inr hg) (fun g hg=>by
   rcases hg with h1|h1
   .exact .inl h1
   .rcases hT g h1 with h2|h2
    .exact .inl (h.TB g h2)
    .exact .inr h2)
  have Jm:bu base T B I w (ja T1 I1 F) (fun g=>B g\/ja T1 I1 F g) I w':=bu.quiet h st.below (fun g hg=> .inl (st.mono.tT g hg)) (fun g hg=> .inl hg) (fun g hg=>(hT g hg).imp (fun h=>h) (fun h=>h.1)) (fun g hg=>by
   rcases hg with h1|h1
   .exact .inl h1
   .rcases hT g h1 with h2|h2
    .exact .inl (h.TB g h2)
    .exact .inr h2.1)
  obtain⟨I',s2,r2,v2,f2⟩:=Cl Kz (id:=id) ho h.base_le (fun g hg hn=>by
   rintro (h1|h1)
   .have:=h.Blt g h1;omega
   .exact hn h1) (fun g hg b e gs hi=>by have:=h.lt hi;omega) IX hS
  exact⟨u,_,_,I',rfl,Jm.trans s2,r2,v2,f2⟩
 .cases KA
omit [aw] in
theorem pM{w:World}{T:bV}:∀{cs:List AV}{us:List Value}{O:List Nat},iU w T b1 cs us O->∀g∈O,b1<=g/\¬T g
 | [],_,_,ho,g,hg=>by simp only[iU]at ho;rw[ho.2]at hg;simp at hg
 | c::cs,us,O,ho,g,hg=>by
  simp only[iU]at ho;obtain⟨u,Jf,O1,O2,_,rfl,h1,h2⟩:=ho;rcases UU.1 hg with hg|hg
  .cases c<;>simp only[q8]at h1<;>first
    |(rw[h1.1]at hg;simp at hg;done)
    | skip
   rcases h1 with ⟨_,_,rfl⟩|⟨g',c,ty,aK,rfl,_,_,_,h5,h6,_⟩
   .simp at hg
   .simp at hg;subst hg;exact⟨h5,h6⟩
  .exact pM h2 g hg
def Ck(h:cB base T B I S' w){id:Nat}(hv:BK w T b1 v u)(hb:base<=b1)(hB:∀g,b1<=g->¬T g->¬B g)(hI:∀g,b1<=g->∀b e gs,I b e≠some (g,gs))
  (IX:∀b e,fG id (fD id v).2 b e->I b e=none) (hS:∀k blk,(fD id v).2[k]? = some blk->Holds S' (id+k) blk) :
  ∃I',bu base T B I w T B I' w/\cB base T B I' S' w/\ap w (fD id v).1 T B I' u/\(∀b e p,I' b e=some p->I b e=some p\/fG id (fD id v).2 b e):=by
 unfold BK at hv;split at hv
 .rename_i cs;obtain⟨us,O,rfl,ho,hN⟩:=hv;simp only[fD]at IX hS ⊢;obtain⟨I',s,r,v',f⟩:=nJ h ho hb hN (fun g hg=>hB g (pM ho g hg).1 (pM ho g hg).2) (fun g hg=>hI g (pM ho g hg).1) IX hS;exact⟨I',s,r,by simp only[ap];exact⟨us,rfl,v'⟩,f⟩
 .exact hv.elim
def tS(hC:iO P call)(h:cB base T B I S' w)(PG:kp S S'){id:Nat}(I3:ae w args T B I vs)
  (KP:dU S args=some Jb) (KA:jQ call f Jb=some r) (IX:∀b e,fG id (fD id r).2 b e->I b e=none) (hS:∀k blk,(fD id r).2[k]? = some blk->Holds S' (id+k) blk) :
  Calls P f vs.toArray w fun e w'=> ∃u T' B' I',e = .returned u/\bu base T B I w T' B' I' w'/\cB base T' B' I' S' w'/\ap w' (fD id r).1 T' B' I' u /\
   ∀b e p,I' b e=some p->I b e=some p\/fG id (fD id r).2 b e:=by
 unfold jQ at KA;split at KA
 .rename_i r0 S0 e1;have ha:=gC h PG args KP I3;refine(hC f Jb [] r0 S0 e1 _ _ _ _ _ _ (mu (fun g hg=>h.Blt g (h.TB g hg)) (fun g o k=>(h.known g o k).2)) ha).mono ?_;rintro e w' ⟨u,T1,B1,I1,rfl,st,rl,hr⟩;obtain⟨F,ho⟩:=Ae rl hr KA;have Jl:=st.below.size
  have hT:∀g,ja T1 I1 F g->T g\/(w.heap.size<=g/\g<w'.heap.size):=fun g hg=>by
   rcases hg with hg|⟨b,e,gs,hi,_⟩
   .rcases st.newT g hg with h1|h1
    .exact .inl h1
    .exact .inr ⟨h1,rl.Blt g (rl.TB g hg)⟩
   .exact .inr ⟨(rl.own _ _ _ _ hi).1,rl.lt hi⟩
  have Kz:cB base (ja T1 I1 F) (fun g=>B g\/ja T1 I1 F g) I S' w':=h.quiet st.below (fun g hg=> .inl (st.mono.tT g hg)) (fun g hg=> .inl hg) (fun g hg=> .inr hg) (fun g hg=>by
   rcases hg with h1|h1
   .exact .inl h1
   .rcases hT g h1 with h2|h2
    .exact .inl (h.TB g h2)
    .exact .inr h2)
  have Jm:bu base T B I w (ja T1 I1 F) (fun g=>B g\/ja T1 I1 F g) I w':=bu.quiet h st.below (fun g hg=> .inl (st.mono.tT g hg)) (fun g hg=> .inl hg) (fun g hg=>(hT g hg).imp (fun h=>h) (fun h=>h.1)) (fun g hg=>by
   rcases hg with h1|h1
   .exact .inl h1
   .rcases hT g h1 with h2|h2
    .exact .inl (h.TB g h2)
    .exact .inr h2.1)
  obtain⟨I',s2,r2,v2,f2⟩:=Ck Kz (id:=id) ho h.base_le (fun g hg hn=>by
   rintro (h1|h1)
   .have:=h.Blt g h1;omega
   .exact hn h1) (fun g hg b e gs hi=>by have:=h.lt hi;omega) IX hS
  exact⟨u,_,_,I',rfl,Jm.trans s2,r2,v2,f2⟩
 .cases KA
omit [aw] in
def yS{w:World}{T:bV}{I:dK}{c:AV}(h:q8 w T b1 c u O)(hT:∀g,T g->T2 g)(hO:∀g∈O,T2 g)(Jc:∀g,T2 g->B2 g):ap w (tz c) T2 B2 I u:=by
 by_cases ho:∃sz rows,c = .osl sz rows
 .obtain⟨sz,rows,rfl⟩:=ho;simp only[q8]at h;simp only[tz,ap];rcases h with ⟨rfl,⟨ao,rfl⟩,rfl⟩|⟨g,c,ty,aK,rfl,rfl,h1,h2,h3,h4,h5,h6,h7⟩
  .exact⟨ao,0,rfl,UJ _,U9 _,fun _=>rfl,fun h=>absurd rfl h⟩
  .refine⟨_,aK,rfl,h1,h2,(fun h=>by cases h),fun _=>⟨g,0,rfl,?_,?_⟩⟩
   .simp only[pick,if_true];exact hO g (by simp)
   .exact eh _ ⟨hT,hT,fun _ _ _ h=>h,fun _ _=>rfl⟩ (fun _ h=>h) (fun _=>rfl) h7
 .have e1:tz c=c:=by cases c<;>first|rfl|exact absurd ⟨_,_,rfl⟩ ho
  have e2:ap w c T T aT u:=by cases c<;>first|exact h.2|exact absurd ⟨_,_,rfl⟩ ho
  rw[e1];exact cu c ⟨hT,fun g hg=>Jc g (hT g hg),fun _ _ _ h=>(by simp[aT]at h),fun _ _=>rfl⟩ (fun _ h=>h) e2
omit [aw] in
theorem yO{w:World}{T:bV}{I:dK}(hT:∀g,T g->T2 g)(Jc:∀g,T2 g->B2 g):∀{cs:List AV}{us:List Value}{O:List Nat},iU w T b1 cs us O->(∀g∈O,T2 g)->ae w (cs.map tz) T2 B2 I us
 | [],us,O,h,_=>by simp only[iU]at h;simp only[Wb,ae];exact h.1
 | c::cs,us,O,h,hO=>by
  simp only[iU]at h;obtain⟨u,Jf,O1,O2,rfl,rfl,h1,h2⟩:=h;simp only[Vk,ae];exact⟨u,Jf,rfl,yS h1 hT (fun g hg=>hO g (by simp[hg])) Jc,yO hT Jc h2 (fun g hg=>hO g (by simp[hg]))⟩
omit [aw] in
theorem E0{w:World}{T:bV}(h:uK w T b1 v u):∃O:List Nat,(∀g∈O,b1<=g/\∃c ty,w.heap[g]? = some (.cells c ty (0,0))) /\
  ∀{T2 B2:bV}{I:dK},(∀g,T g->T2 g)->(∀g∈O,T2 g)->(∀g,T2 g->B2 g)->ap w (gQ v) T2 B2 I u:=by
 have own:∀{v:AV}{u:Value}{O:List Nat},q8 w T b1 v u O->∀g∈O,b1<=g/\∃c ty,w.heap[g]? = some (.cells c ty (0,0)):=fun {v u O} ho g hg=>by
  cases v<;>simp only[q8]at ho<;>first
   |(rw[ho.1]at hg;simp at hg;done)
   | skip
  rcases ho with ⟨_,_,rfl⟩|⟨g',c,ty,aK,rfl,_,_,_,h5,h6,h7,_⟩
  .simp at hg
  .simp at hg;subst hg;exact⟨h5,c,ty,h7⟩
 have ownL:∀{cs:List AV}{us:List Value}{O:List Nat},iU w T b1 cs us O->∀g∈O,b1<=g/\∃c ty,w.heap[g]? = some (.cells c ty (0,0)):=fun {cs}=>by
  induction cs with
  | nil=>intro us O ho g hg;simp only[iU]at ho;rw[ho.2]at hg;simp at hg
  | cons c cs ih=>
   intro us O ho g hg;simp only[iU]at ho;obtain⟨u,Jf,O1,O2,_,rfl,h1,h2⟩:=ho;rcases UU.1 hg with hg|hg
   .exact own h1 g hg
   .exact ih h2 g hg
 by_cases ht:∃cs,v = .tup cs
 .obtain⟨cs,rfl⟩:=ht;simp only[uK]at h;obtain⟨us,O,rfl,ho,_⟩:=h;refine⟨O,ownL ho,fun hT hO Jc=>?_⟩;simp only[gQ,ap];exact⟨us,rfl,yO hT Jc ho hO⟩
 .have e1:gQ v=tz v:=by cases v<;>first|rfl|exact absurd ⟨_,rfl⟩ ht
  have e2:∃O,q8 w T b1 v u O:=by cases v<;>first|exact h|exact absurd ⟨_,rfl⟩ ht
  obtain⟨O,ho⟩:=e2;refine⟨O,own ho,fun hT hO Jc=>?_⟩;rw[e1];exact yS ho hT hO Jc
theorem wA(z:Bool)(hC:iO P call)(h:cB base T B I S' w)(PG:kp S S'){id:Nat}(I3:ae w args T B I vs)
  (KP:dU S args=some Jb) (KA:iL call f Jb=some r) (IX:∀b e,fG id (i8 z id r).2 b e->I b e=none) (hS:∀k blk,(i8 z id r).2[k]? = some blk->Holds S' (id+k) blk) :
  Calls P f vs.toArray w fun e w'=> ∃u T' B' I',e = .returned u/\bu base T B I w T' B' I' w'/\cB base T' B' I' S' w'/\ap w' (i8 z id r).1 T' B' I' u /\
   ∀b e p,I' b e=some p->I b e=some p\/fG id (i8 z id r).2 b e:=by
 cases z with
 | false=>exact wC hC h PG I3 KP KA IX hS
 | true=>
 unfold iL at KA;split at KA
 .rename_i r0 S0 e1;have ha:=gC h PG args KP I3;refine(hC f Jb [] r0 S0 e1 _ _ _ _ _ _ (mu (fun g hg=>h.Blt g (h.TB g hg)) (fun g o k=>(h.known g o k).2)) ha).mono ?_;rintro e w' ⟨u,T1,B1,I1,rfl,st,rl,hr⟩;obtain⟨F,ho⟩:=qK rl hr KA;obtain⟨O,hO,RU⟩:=E0 ho;have Jl:=st.below.size
  have hT:∀g,(ja T1 I1 F g\/g∈O)->T g\/(w.heap.size<=g/\g<w'.heap.size):=fun g hg=>by
   rcases hg with (hg|⟨b,e,gs,hi,_⟩)|hg
   .rcases st.newT g hg with h1|h1
    .exact .inl h1
    .exact .inr ⟨h1,rl.Blt g (rl.TB g hg)⟩
   .exact .inr ⟨(rl.own _ _ _ _ hi).1,rl.lt hi⟩
   .obtain⟨h1,c,ty,h2⟩:=hO g hg;exact .inr ⟨h1,(UP.1 h2).1⟩
  have Kz:cB base (fun g=>ja T1 I1 F g\/g∈O) (fun g=>B g\/(ja T1 I1 F g\/g∈O)) I S' w':=h.quiet st.below (fun g hg=> .inl (.inl (st.mono.tT g hg))) (fun g hg=> .inl hg) (fun g hg=> .inr hg) (fun g hg=>by
   rcases hg with h1|h1
   .exact .inl h1
   .rcases hT g h1 with h2|h2
    .exact .inl (h.TB g h2)
    .exact .inr h2)
  have Jm:bu base T B I w (fun g=>ja T1 I1 F g\/g∈O) (fun g=>B g\/(ja T1 I1 F g\/g∈O)) I w':=bu.quiet h st.below (fun g hg=> .inl (.inl (st.mono.tT g hg))) (fun g hg=> .inl hg) (fun g hg=>(hT g hg).imp (fun h=>h) (fun h=>h.1)) (fun g hg=>by
   rcases hg with h1|h1
   .exact .inl h1
   .rcases hT g h1 with h2|h2
    .exact .inl (h.TB g h2)
    .exact .inr h2.1)
  exact⟨u,_,_,I,rfl,Jm,Kz,RU (fun g hg=> .inl hg) (fun g hg=> .inr hg) (fun g hg=> .inr hg),fun b e p hp=> .inl hp⟩
 .cases KA
end
end Go.Eng
