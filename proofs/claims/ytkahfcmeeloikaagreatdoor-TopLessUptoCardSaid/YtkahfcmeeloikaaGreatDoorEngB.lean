/- What the trees of the small machine stand for in the model's memory, and that this goes on as long as that memory stands. -/
import Derived.Test.YtkahfcmeeloikaaGreatDoorEngA
set_option linter.all false
set_option maxHeartbeats 1000000
namespace Go.Eng
open Go.RowKit
variable {cs:List AV}{g off sz:Nat}{rs:List (List AV)}{st:Bool}{u:Value}{v:AV}
abbrev bV:=Nat->Prop
abbrev dK:=Nat->Nat->Option (Nat×Nat)
def aT:dK:=fun _ _=>none
def pick(st:Bool)(T B:bV):bV:=fun g=>if st then T g else B g
mutual
def ap(w:World):AV->bV->bV->dK->Value->Prop
 | .int k n,_,_,_,u=>u = .int k n
 | .bool b,_,_,_,u=>u = .bool b
 | .str s,_,_,_,u=>u = .string s
 | .flat v,_,_,_,u=>u=v
 | .agg cs,T,B,I,u=> ∃us:List Value,u = .agg us.toArray/\ae w cs T B I us
 | .tup cs,T,B,I,u=> ∃us:List Value,u = .tuple us.toArray/\ae w cs T B I us
 | .tsl st sz rows,T,B,_,u=> ∃ao aK,u = .slice ao rows.length aK/\rows.length<=aK/\aK<=maxLen/\(ao=none->aK=0) /\
   (rows≠[]->∃g off,ao=some ⟨g,off,none⟩/\pick st T B g/\bn w rows T T aT g off sz)
 | .tptr st row off,T,B,_,u=> ∃g o,u = .pointer (some ⟨g,o+off,none⟩)/\pick st T B g/\aU w row T (pick st T B) aT g o
 | .esl,_,_,_,u=> ∃ao,u = .slice ao 0 0
 | .sl b e off len sz,_,_,I,u=>(e=0/\off=0/\len=0/\∃ao,u = .slice ao 0 0) \/
   ∃g gs aK,I b e=some (g,gs)/\u = .slice (some ⟨g,off*sz,none⟩) len aK/\len<=aK/\aK<=maxLen/\(off+aK)*sz<=gs
 | .ptr b e sz row off,_,_,I,u=> ∃g gs,I b e=some (g,gs)/\u = .pointer (some ⟨g,row*sz+off,none⟩)
 | .osl ..,_,_,_,_=>False
 | .fn f caps,T,B,I,u=> ∃us:List Value,u = .func (.func f) #[] us.toArray/\ae w caps T B I us
 | .iface t x,T,B,I,u=> ∃v,u = .iface t v/\ap w x T B I v
 | .mp b,_,_,I,u=> ∃g gs,I b 0=some (g,gs)/\u = .map (some g)
 | .tmap ks vs,T,B,_,u=> ∃(g:Nat) (ms:Array MapEntry) (clock:Nat),u = .map (some g)/\B g/\w.heap[g]? = some (.map ms clock)/\ks.length=vs.length/\ae w ks T T aT (ms.toList.map (·.key))/\ae w vs T T aT (ms.toList.map (·.val))
 | .junk,_,_,_,_=>True
def ae(w:World):List AV->bV->bV->dK->List Value->Prop
 | [],_,_,_,us=>us = []
 | c::cs,T,B,I,us=> ∃u Jf,us=u::Jf/\ap w c T B I u/\ae w cs T B I Jf
def aU(w:World):List AV->bV->bV->dK->Nat->Nat->Prop
 | [],_,_,_,_,_=>True
 | c::cs,T,B,I,g,off=>(∃u,w.cell? ⟨g,off,none⟩=some u/\u.oneCell'=true/\ap w c T B I u)/\aU w cs T B I g (off+1)
def bn(w:World):List (List AV)->bV->bV->dK->Nat->Nat->Nat->Prop
 | [],_,_,_,_,_,_=>True
 | r::rs,T,B,I,g,off,sz=>r.length=sz/\aU w r T B I g off/\bn w rs T B I g (off+sz) sz
end
structure jG (w:World) (T B:bV) (I:dK) (w':World) (T' B':bV) (I':dK):Prop where
 tT:∀g,T g->T' g
 tB:∀g,B g->B' g
 tI:∀b e p,I b e=some p->I' b e=some p
 tw:∀g,B g->w'.heap[g]? = w.heap[g]?
def js{w w':World}{o:Nat}(h:w'.heap[g]? = w.heap[g]?):w'.cell? ⟨g,o,none⟩=w.cell? ⟨g,o,none⟩:=by
 simp[World.cell?,h]
def jy{T B:bV}(h:∀g,T g->B g):∀g,pick st T B g->B g:=by
 intro g hg;unfold pick at hg;split at hg
 .exact h g hg
 .exact hg
def sG{T B:bV}(h:∀g,T g->B g):∀g,T g->pick st T B g:=by
 intro g hg;unfold pick;split
 .exact hg
 .exact h g hg
def uH{T B T' B':bV}(h:∀g,T g->T' g)(k:∀g,B g->B' g):∀g,pick st T B g->pick st T' B' g:=by
 intro g hg;unfold pick at*;split at hg<;>simp_all
mutual
theorem cu{w w':World}:∀(v:AV){T B T' B':bV}{I I':dK}{u:Value},jG w T B I w' T' B' I'->(∀g,T g->B g)->ap w v T B I u->ap w' v T' B' I' u
 | .int ..,_,_,_,_,_,_,_,_,_,h=>h
 | .bool ..,_,_,_,_,_,_,_,_,_,h=>h
 | .str ..,_,_,_,_,_,_,_,_,_,h=>h
 | .flat ..,_,_,_,_,_,_,_,_,_,h=>h
 | .agg cs,_,_,_,_,_,_,_,m,Jc,h=>by
  simp only[ap]at h ⊢;obtain⟨us,h1,h2⟩:=h;exact⟨us,h1,bW cs m Jc h2⟩
 | .tup cs,_,_,_,_,_,_,_,m,Jc,h=>by
  simp only[ap]at h ⊢;obtain⟨us,h1,h2⟩:=h;exact⟨us,h1,bW cs m Jc h2⟩
 | .tsl st sz rows,T,B,T',B',I,I',u,m,Jc,h=>by
  simp only[ap]at h ⊢;obtain⟨ao,aK,h1,h2,h3,h4,h5⟩:=h;refine⟨ao,aK,h1,h2,h3,h4,fun I8=>?_⟩;obtain⟨g,off,h6,h7,h8⟩:=h5 I8;have hp:=jy (st:=st) Jc;exact⟨g,off,h6,uH m.tT m.tB g h7,eh rows ⟨m.tT,m.tT,fun _ _ _ h=>h,fun g hg=>m.tw g (Jc g hg)⟩ (fun _ h=>h) (fun o=>js (m.tw g (hp g h7))) h8⟩
 | .tptr st row off,T,B,T',B',I,I',u,m,Jc,h=>by
  simp only[ap]at h ⊢;obtain⟨g,o,h1,h2,h3⟩:=h;have hp:=jy (st:=st) Jc;exact⟨g,o,h1,uH m.tT m.tB g h2,gj row ⟨m.tT,uH m.tT m.tB,fun _ _ _ h=>h,fun g hg=>m.tw g (hp g hg)⟩ (sG Jc) (fun o=>js (m.tw g (hp g h2))) h3⟩
 | .esl,_,_,_,_,_,_,_,_,_,h=>by simp only[ap]at h ⊢;exact h
 | .sl b e off len sz,_,_,_,_,_,_,_,m,_,h=>by
  simp only[ap]at h ⊢;rcases h with h|⟨g,gs,aK,h1,h2⟩
  .exact .inl h
  .exact .inr ⟨g,gs,aK,m.tI _ _ _ h1,h2⟩
 | .ptr b e sz row off,_,_,_,_,_,_,_,m,_,h=>by
  simp only[ap]at h ⊢;obtain⟨g,gs,h1,h2⟩:=h;exact⟨g,gs,m.tI _ _ _ h1,h2⟩
 | .osl ..,_,_,_,_,_,_,_,_,_,h=>by simp only[ap]at h
 | .fn f cs,_,_,_,_,_,_,_,m,Jc,h=>by
  simp only[ap]at h ⊢;obtain⟨us,h1,h2⟩:=h;exact⟨us,h1,bW cs m Jc h2⟩
 | .iface t x,_,_,_,_,_,_,_,m,Jc,h=>by
  simp only[ap]at h ⊢;obtain⟨v,h1,h2⟩:=h;exact⟨v,h1,cu x m Jc h2⟩
 | .mp b,_,_,_,_,_,_,_,m,_,h=>by
  simp only[ap]at h ⊢;obtain⟨g,gs,h1,h2⟩:=h;exact⟨g,gs,m.tI _ _ _ h1,h2⟩
 | .tmap ks vs,_,_,_,_,_,_,_,m,Jc,h=>by
  simp only[ap]at h ⊢;obtain⟨g,ms,clock,h1,h2,h3,h0,h4,h5⟩:=h;have mm:jG w _ _ aT w' _ _ aT:=⟨m.tT,m.tT,fun _ _ _ h=>h,fun g hg=>m.tw g (Jc g hg)⟩;exact⟨g,ms,clock,h1,m.tB g h2,(m.tw g h2).trans h3,h0,bW ks mm (fun _ h=>h) h4,bW vs mm (fun _ h=>h) h5⟩
 | .junk,_,_,_,_,_,_,_,_,_,_=>by simp only[ap]
theorem bW{w w':World}:∀(cs:List AV){T B T' B':bV}{I I':dK}{us:List Value},jG w T B I w' T' B' I'->(∀g,T g->B g)->ae w cs T B I us->ae w' cs T' B' I' us
 | [],_,_,_,_,_,_,_,_,_,h=>by simp only[ae]at h ⊢;exact h
 | c::cs,_,_,_,_,_,_,_,m,Jc,h=>by
  simp only[ae]at h ⊢;obtain⟨u,Jf,h1,h2,h3⟩:=h;exact⟨u,Jf,h1,cu c m Jc h2,bW cs m Jc h3⟩
theorem gj{w w':World}:∀(cs:List AV){T B T' B':bV}{I I':dK}{g off:Nat},jG w T B I w' T' B' I'->(∀g,T g->B g)->(∀o,w'.cell? ⟨g,o,none⟩=w.cell? ⟨g,o,none⟩) ->
  aU w cs T B I g off->aU w' cs T' B' I' g off
 | [],_,_,_,_,_,_,_,_,_,_,_,_=>by simp only[aU]
 | c::cs,_,_,_,_,_,_,_,_,m,Jc,hg,h=>by
  simp only[aU]at h ⊢;obtain⟨⟨u,h1,h2,h3⟩,h4⟩:=h;exact⟨⟨u,(hg _).trans h1,h2,cu c m Jc h3⟩,gj cs m Jc hg h4⟩
theorem eh{w w':World}:∀(rs:List (List AV)){T B T' B':bV}{I I':dK}{g off sz:Nat},jG w T B I w' T' B' I'->(∀g,T g->B g)->(∀o,w'.cell? ⟨g,o,none⟩=w.cell? ⟨g,o,none⟩) ->
  bn w rs T B I g off sz->bn w' rs T' B' I' g off sz
 | [],_,_,_,_,_,_,_,_,_,_,_,_,_=>by simp only[bn]
 | r::rs,_,_,_,_,_,_,_,_,_,m,Jc,hg,h=>by
  simp only[bn]at h ⊢;exact⟨h.1,gj r m Jc hg h.2.1,eh rs m Jc hg h.2.2⟩
end
section
variable {w:World}{T B:bV}{I:dK}
theorem dC:∀{cs:List AV}{us:List Value},ae w cs T B I us->us.length=cs.length
 | [],_,h=>by simp only[ae]at h;subst h;rfl
 | c::cs,_,h=>by
  simp only[ae]at h;obtain⟨u,Jf,rfl,_,h3⟩:=h;simp[dC h3]
theorem fQ:∀{cs:List AV}{us:List Value},ae w cs T B I us->∀(i:Nat) (c:AV),cs[i]? = some c->∃u,us[i]? = some u/\ap w c T B I u
 | [],_,_,i,c,h=>by simp at h
 | c::cs,_,h,0,c',h'=>by
  simp only[ae]at h;obtain⟨u,Jf,rfl,h2,_⟩:=h;simp at h';subst h';exact⟨u,rfl,h2⟩
 | c::cs,_,h,i+1,c',h'=>by
  simp only[ae]at h;obtain⟨u,Jf,rfl,_,h3⟩:=h;simpa using fQ h3 i c' (by simpa using h')
theorem cw:∀{cs ds:List AV}{us vs:List Value},ae w cs T B I us->ae w ds T B I vs->ae w (cs++ds) T B I (us++vs)
 | [],_,_,_,h,k=>by simp only[ae]at h;subst h;simpa using k
 | c::cs,ds,_,_,h,k=>by
  simp only[ae]at h;obtain⟨u,Jf,rfl,h2,h3⟩:=h;simp only[UF,ae];exact⟨u,Jf++_,rfl,h2,cw h3 k⟩
theorem gO:∀{cs:List AV}{us:List Value}(n:Nat),ae w cs T B I us->ae w (cs.take n) T B I (us.take n)
 | _,_,0,_=>by simp[ae]
 | [],_,n+1,h=>by simp only[ae]at h;subst h;simp[ae]
 | c::cs,_,n+1,h=>by
  simp only[ae]at h;obtain⟨u,Jf,rfl,h2,h3⟩:=h;simp only[WQ,ae];exact⟨u,Jf.take n,rfl,h2,gO n h3⟩
theorem gP:∀{cs:List AV}{us:List Value}(n:Nat),ae w cs T B I us->ae w (cs.drop n) T B I (us.drop n)
 | _,_,0,h=>by simpa using h
 | [],_,n+1,h=>by simp only[ae]at h;subst h;simp[ae]
 | c::cs,_,n+1,h=>by
  simp only[ae]at h;obtain⟨u,Jf,rfl,h2,h3⟩:=h;simpa using gP n h3
theorem wj:∀{cs:List AV}{us:List Value}(n:Nat) (c:AV) (u:Value),ae w cs T B I us->ap w c T B I u->ae w (cs.set n c) T B I (us.set n u)
 | [],_,n,_,_,h,_=>by simp only[ae]at h;subst h;simp[ae]
 | c::cs,_,0,d,v,h,k=>by
  simp only[ae]at h;obtain⟨u,Jf,rfl,h2,h3⟩:=h;simp only[UC,ae];exact⟨v,Jf,rfl,k,h3⟩
 | c::cs,_,n+1,d,v,h,k=>by
  simp only[ae]at h;obtain⟨u,Jf,rfl,h2,h3⟩:=h;simp only[UD,ae];exact⟨u,_,rfl,h2,wj n d v h3 k⟩
theorem lE{α:Type}{f:α->AV}{g:α->Value}:∀(l:List α),(∀x∈l,ap w (f x) T B I (g x))->ae w (l.map f) T B I (l.map g)
 | [],_=>by simp[ae]
 | x::l,h=>by
  simp only[Vk,ae];exact⟨g x,l.map g,rfl,h x (by simp),lE l fun y hy=>h y (by simp[hy])⟩
theorem dG :aU w cs T B I g off↔∀(j:Nat) (c:AV),cs[j]? = some c->∃u,w.cell? ⟨g,off+j,none⟩=some u/\u.oneCell'=true/\ap w c T B I u:=by
 induction cs generalizing off with
 | nil=>simp[aU]
 | cons c cs ih=>
  simp only[aU,ih];constructor
  .rintro⟨h1,h2⟩ j d hj;cases j with
   | zero=>simp at hj;subst hj;simpa using h1
   | succ j=>
    have:=h2 j d (by simpa using hj)
    rwa [show off+1+j=off+(j+1) by omega]at this
  .intro h;refine⟨by simpa using h 0 c rfl,fun j d hj=>?_⟩;have:=h (j+1) d (by simpa using hj)
   rwa [show off+(j+1)=off+1+j by omega]at this
theorem df :bn w rs T B I g off sz↔∀(i:Nat) (r:List AV),rs[i]? = some r->r.length=sz/\aU w r T B I g (off+i*sz):=by
 induction rs generalizing off with
 | nil=>simp[bn]
 | cons r rs ih=>
  simp only[bn,ih];constructor
  .rintro⟨h1,h2,h3⟩ i d hi;cases i with
   | zero=>simp at hi;subst hi;simpa using⟨h1,h2⟩
   | succ i=>
    have:=h3 i d (by simpa using hi)
    rwa [show off+sz+i*sz=off+(i+1)*sz by rw[VJ];omega]at this
  .intro h;have h0:=h 0 r rfl;refine⟨h0.1,by simpa using h0.2,fun i d hi=>?_⟩;have:=h (i+1) d (by simpa using hi)
   rwa [show off+(i+1)*sz=off+sz+i*sz by rw[VJ];omega]at this
theorem tC{α:Type}:∀{rs:List (List α)}{sz:Nat},(∀r∈rs,r.length=sz)->∀(i j:Nat) (r:List α) (c:α),rs[i]? = some r->r[j]? = some c->rs.flatten[i*sz+j]? = some c
 | [],_,_,i,_,_,_,h,_=>by simp at h
 | r::rs,sz,hl,0,j,r',c,h,k=>by
  simp at h;subst h;have:=(UK.1 k).1;rw[Vg,UW,V7,UN this];exact k
 | r::rs,sz,hl,i+1,j,r',c,h,k=>by
  have h0:=hl r (by simp);rw[V7,Vd (by rw[h0,VJ];omega)];have:=tC (rs:=rs) (sz:=sz) (fun x hx=>hl x (by simp[hx])) i j r' c (by simpa using h) k
  rwa [show (i+1)*sz+j-r.length=i*sz+j by rw[h0,VJ];omega]
theorem fw{α:Type}:∀{rs:List (List α)}{sz:Nat},(∀r∈rs,r.length=sz)->rs.flatten.length=rs.length*sz
 | [],_,_=>by simp
 | r::rs,sz,hl=>by
  simp only[V7,UG,UB,hl r (by simp),fw (rs:=rs) (sz:=sz) (fun x hx=>hl x (by simp[hx])),VJ,Vp];omega
def FL{α:Type}{rs:List (List α)}(hl:∀r∈rs,r.length=sz)(Jl:0<sz)(p:Nat)(c:α)(h:rs.flatten[p]? = some c):∃r,rs[p / sz]? = some r/\r[p % sz]? = some c:=by
 have hp:p<rs.flatten.length:=(UK.1 h).1;rw[fw hl]at hp;have hd:p / sz<rs.length:=Nat.div_lt_of_lt_mul (by rw[Xj];exact hp);have hr:=UL hd;refine⟨_,hr,?_⟩;have IY:=hl _ (List.getElem_mem hd);have hm:p % sz<(rs[p / sz]).length:=by rw[IY];exact Nat.mod_lt _ Jl
 have:=tC hl (p / sz) (p % sz) _ _ hr (UL hm);rw[Xj,Nat.div_add_mod,h]at this;rw[UL hm,<-Option.some.inj this]
theorem DH{α:Type}:∀{rs:List (List α)}{sz:Nat},(∀r∈rs,r.length=sz)->∀(i:Nat) (r:List α),i<rs.length->(rs.set i r).flatten=rs.flatten.take (i*sz)++r++rs.flatten.drop (i*sz+sz)
 | [],_,_,i,_,h=>by simp at h
 | x::rs,sz,hl,0,r,_=>by
  have h0:=hl x (by simp);simp[<-h0]
 | x::rs,sz,hl,i+1,r,h=>by
  have h0:=hl x (by simp);have ih:=DH (rs:=rs) (sz:=sz) (fun y hy=>hl y (by simp[hy])) i r (by simpa using h);simp only[UD,V7,ih];rw[show (i+1)*sz=x.length+i*sz by rw[h0,VJ];omega,List.take_length_add_append,show x.length+i*sz+sz=x.length+(i*sz+sz) by omega,List.drop_length_add_append];simp
def cU :bn w rs T B I g off sz↔(∀r∈rs,r.length=sz)/\aU w rs.flatten T B I g off:=by
 rw[df,dG];rcases Nat.eq_zero_or_pos sz with rfl|Jl
 .constructor
  .intro h
   have hl:∀r∈rs,r.length=0:=fun r hr=>by
    obtain⟨i,hi,rfl⟩:=List.getElem_of_mem hr;exact(h i _ (UL hi)).1
   refine⟨hl,fun p c hp=>?_⟩;have:rs.flatten = []:=List.flatten_eq_nil_iff.2 fun r hr=>UO (hl r hr);rw[this]at hp;simp at hp
  .rintro⟨hl,_⟩ i r hi;have:=hl r (Vs hi);refine⟨this,?_⟩;rw[UO this];simp only[aU]
 constructor
 .intro h
  have hl:∀r∈rs,r.length=sz:=fun r hr=>by
   obtain⟨i,hi,rfl⟩:=List.getElem_of_mem hr;exact(h i _ (UL hi)).1
  refine⟨hl,fun p c hp=>?_⟩;obtain⟨r,h1,h2⟩:=FL hl Jl p c hp;obtain⟨u,k1,k2⟩:=dG.1 (h _ r h1).2 _ c h2;refine⟨u,?_,k2⟩
  rwa [VY,Xj,Nat.div_add_mod]at k1
 .rintro⟨hl,h⟩ i r hi;refine⟨hl r (Vs hi),dG.2 fun j c hj=>?_⟩;obtain⟨u,k1,k2⟩:=h _ c (tC hl i j r c hi hj);exact⟨u,by rwa [VY],k2⟩
def jZ(n:Nat)(h:bn w rs T B I g off sz):bn w (rs.take n) T B I g off sz:=by
 rw[df]at h ⊢;intro i r hi;exact h i r (by rw[VZ]at hi;split at hi<;>simp_all)
def mW(n:Nat)(h:bn w rs T B I g off sz):bn w (rs.drop n) T B I g (off+n*sz) sz:=by
 rw[df]at h ⊢;intro i r hi;have:=h (n+i) r (by rwa [List.getElem?_drop]at hi)
 rwa [VJ,<-VY]at this
theorem jr(h:aU w cs T B I g off):∃us:List Value,ae w cs T B I us/\us.length=cs.length/\(∀u∈us,u.oneCell'=true)/\∀(j:Nat) (u:Value),us[j]? = some u->w.cell? ⟨g,off+j,none⟩=some u:=by
 induction cs generalizing off with
 | nil=>exact⟨[],by simp[ae],rfl,by simp,by simp⟩
 | cons c cs ih=>
  simp only[aU]at h;obtain⟨⟨u,h1,h2,h3⟩,h4⟩:=h;obtain⟨us,k1,k2,k3,k4⟩:=ih h4;refine⟨u::us,by simp only[ae];exact⟨u,us,rfl,h3,k1⟩,by simp[k2],?_,?_⟩
  .intro v hv;simp at hv;rcases hv with rfl|hv
   .exact h2
   .exact k3 v hv
  .intro j v hj;cases j with
   | zero=>simp at hj;subst hj;simpa using h1
   | succ j=>
    have:=k4 j v (by simpa using hj)
    rwa [show off+1+j=off+(j+1) by omega]at this
def eT{us:List Value}(h:ae w cs T B I us)(h1:∀u∈us,u.oneCell'=true)(hc:∀(j:Nat) (u:Value),us[j]? = some u->w.cell? ⟨g,off+j,none⟩=some u) :
  aU w cs T B I g off:=by
 rw[dG];intro j c hj;obtain⟨u,k1,k2⟩:=fQ h j c hj;exact⟨u,hc j u k1,h1 u (Vs k1),k2⟩
def Ed(hc:v.cell=true)(h:ap w v T B I u):u.oneCell'=true:=by
 cases v<;>simp only[AV.cell,ap]at hc h
 case flat=>subst h;exact hc
 case sl=>
  rcases h with h|h
  .obtain⟨_,_,_,_,rfl⟩:=h;rfl
  .obtain⟨_,_,_,_,rfl,_⟩:=h;rfl
 case tsl=>obtain⟨_,_,rfl,_⟩:=h;rfl
 case tptr=>obtain⟨_,_,rfl,_⟩:=h;rfl
 case esl=>obtain⟨_,rfl⟩:=h;rfl
 case ptr=>obtain⟨_,_,_,rfl⟩:=h;rfl
 case fn=>obtain⟨_,rfl,_⟩:=h;rfl
 case iface=>obtain⟨_,rfl,_⟩:=h;rfl
 case mp=>obtain⟨_,_,_,rfl⟩:=h;rfl
 case tmap=>obtain⟨_,_,_,rfl,_⟩:=h;rfl
 all_goals first|(subst h;rfl)|cases hc
mutual
theorem gS:∀(v:AV){u:Value},v.clean=true->ap w v T B I u->ap w v T B aT u
 | .int ..,_,_,h=>h
 | .bool ..,_,_,h=>h
 | .str ..,_,_,h=>h
 | .flat ..,_,_,h=>h
 | .agg cs,_,hc,h=>by
  simp only[AV.clean]at hc;simp only[ap]at h ⊢;obtain⟨us,h1,h2⟩:=h;exact⟨us,h1,nE cs hc h2⟩
 | .tup cs,_,hc,h=>by
  simp only[AV.clean]at hc;simp only[ap]at h ⊢;obtain⟨us,h1,h2⟩:=h;exact⟨us,h1,nE cs hc h2⟩
 | .tsl ..,_,_,h=>by simp only[ap]at h ⊢;exact h
 | .tptr ..,_,_,h=>by simp only[ap]at h ⊢;exact h
 | .esl,_,_,h=>by simp only[ap]at h ⊢;exact h
 | .sl ..,_,hc,_=>by simp[AV.clean]at hc
 | .ptr ..,_,hc,_=>by simp[AV.clean]at hc
 | .osl ..,_,hc,_=>by simp[AV.clean]at hc
 | .fn f cs,_,hc,h=>by
  simp only[AV.clean]at hc;simp only[ap]at h ⊢;obtain⟨us,h1,h2⟩:=h;exact⟨us,h1,nE cs hc h2⟩
 | .iface t x,_,hc,h=>by
  simp only[AV.clean]at hc;simp only[ap]at h ⊢;obtain⟨v,h1,h2⟩:=h;exact⟨v,h1,gS x hc h2⟩
 | .mp _,_,hc,_=>by simp[AV.clean]at hc
 | .tmap ..,_,_,h=>by simp only[ap]at h ⊢;exact h
 | .junk,_,hc,_=>by simp[AV.clean]at hc
theorem nE:∀(cs:List AV){us:List Value},jP cs=true->ae w cs T B I us->ae w cs T B aT us
 | [],_,_,h=>by simp only[ae]at h ⊢;exact h
 | c::cs,_,hc,h=>by
  simp only[jP,UT]at hc;simp only[ae]at h ⊢;obtain⟨u,Jf,h1,h2,h3⟩:=h;exact⟨u,Jf,h1,gS c hc.1 h2,nE cs hc.2 h3⟩
end
mutual
theorem kE(Jc:∀g,T g->B g):∀(v:AV){u:Value},v.stab=true->ap w v T B I u->ap w v T T aT u
 | .int ..,_,_,h=>h
 | .bool ..,_,_,h=>h
 | .str ..,_,_,h=>h
 | .flat ..,_,_,h=>h
 | .agg cs,_,hc,h=>by
  simp only[AV.stab]at hc;simp only[ap]at h ⊢;obtain⟨us,h1,h2⟩:=h;exact⟨us,h1,je Jc cs hc h2⟩
 | .tup cs,_,hc,h=>by
  simp only[AV.stab]at hc;simp only[ap]at h ⊢;obtain⟨us,h1,h2⟩:=h;exact⟨us,h1,je Jc cs hc h2⟩
 | .tsl st sz rows,_,hc,h=>by simp only[AV.stab]at hc;subst hc;simp only[ap]at h ⊢;exact h
 | .tptr st row off,_,hc,h=>by simp only[AV.stab]at hc;subst hc;simp only[ap]at h ⊢;exact h
 | .esl,_,_,h=>by simp only[ap]at h ⊢;exact h
 | .sl ..,_,hc,_=>by simp[AV.stab]at hc
 | .ptr ..,_,hc,_=>by simp[AV.stab]at hc
 | .osl ..,_,hc,_=>by simp[AV.stab]at hc
 | .fn f cs,_,hc,h=>by
  simp only[AV.stab]at hc;simp only[ap]at h ⊢;obtain⟨us,h1,h2⟩:=h;exact⟨us,h1,je Jc cs hc h2⟩
 | .iface t x,_,hc,h=>by
  simp only[AV.stab]at hc;simp only[ap]at h ⊢;obtain⟨v,h1,h2⟩:=h;exact⟨v,h1,kE Jc x hc h2⟩
 | .mp _,_,hc,_=>by simp[AV.stab]at hc
 | .tmap ..,_,hc,_=>by simp[AV.stab]at hc
 | .junk,_,hc,_=>by simp[AV.stab]at hc
theorem je(Jc:∀g,T g->B g):∀(cs:List AV){us:List Value},cq cs=true->ae w cs T B I us->ae w cs T T aT us
 | [],_,_,h=>by simp only[ae]at h ⊢;exact h
 | c::cs,_,hc,h=>by
  simp only[cq,UT]at hc;simp only[ae]at h ⊢;obtain⟨u,Jf,h1,h2,h3⟩:=h;exact⟨u,Jf,h1,kE Jc c hc.1 h2,je Jc cs hc.2 h3⟩
end
theorem pZ(hc:v.cells.all AV.cell=true)(h:ap w v T B I u):ae w v.cells T B I u.cells.toList/\∀x∈u.cells.toList,x.oneCell'=true:=by
 have key:∀{cs:List AV}{us:List Value},cs.all AV.cell=true->ae w cs T B I us->∀x∈us,x.oneCell'=true:=by
  intro cs
  induction cs with
  | nil=>intro us _ h x hx;simp only[ae]at h;subst h;simp at hx
  | cons c cs ih=>
   intro us hc h x hx;simp only[ae]at h;obtain⟨u,Jf,rfl,h2,h3⟩:=h;simp only[U1,UT]at hc;simp at hx;rcases hx with rfl|hx
   .exact Ed hc.1 h2
   .exact ih hc.2 h3 x hx
 by_cases hv:∃cs,v = .agg cs
 .obtain⟨cs,rfl⟩:=hv;simp only[ap]at h;obtain⟨us,rfl,h2⟩:=h;simp only[AV.cells]at hc;simp only[AV.cells,Value.cells];exact⟨h2,key hc h2⟩
 .have e1:v.cells = [v]:=by cases v<;>first|rfl|exact absurd ⟨_,rfl⟩ hv
  rw[e1]at hc ⊢;have h1:u.oneCell'=true:=Ed (by simpa using hc) h;have e2:u.cells = #[u]:=by cases u<;>first|rfl|(simp[Value.oneCell']at h1)
  rw[e2];refine⟨by simp only[ae];exact⟨u,[],rfl,h,rfl⟩,?_⟩;intro x hx;simp at hx;subst hx;exact h1
end
end Go.Eng
