/- Time spans and their lists (plain): Both, Minus, Covers, Total. -/
import Derived.Test.YtkahfcmeeloikaaGreatDoorZ13
set_option linter.all false
set_option maxHeartbeats 4000000
namespace Go.Eng
section
variable {l:List fN}{s x:fN}{t:Int}
def aK(a b:fN):fN:=(max a.1 b.1,min a.2 b.2)
def eb:List fN->List fN->List fN
 | [],_=>[]
 | _::_,[]=>[]
 | a::ar,b::bs=>(if (aK a b).1<(aK a b).2 then [aK a b] else [])++(if a.2<b.2 then eb ar (b::bs) else eb (a::ar) bs)
 termination_by a b=>a.length+b.length
def Bh(h:∀y∈l,x.2<y.1)(ht:Tm l t):x.2<t:=by
 obtain⟨s,hs,h1,_⟩:=ht;have:=h s hs;omega
def BS(h:ee l)(hs:s∈l):Tm l s.1:=by
 have:=bG.mp (h.rg s hs);exact⟨s,hs,by omega,by omega⟩
theorem Eg:∀(n:Nat) (a b:List fN),a.length+b.length<=n->ee a->ee b->ee (eb a b)/\∀t,Tm (eb a b) t↔Tm a t/\Tm b t:=by
 intro n
 induction n with
 | zero=>
  intro a b h _ _;have:a = []:=UO (by omega);subst this;rw[eb];exact⟨fo,fun t=>⟨fun k=>absurd k cQ,fun k=>absurd k.1 cQ⟩⟩
 | succ n ih=>
  intro a b h ha hb;cases a with
  | nil=>rw[eb];exact⟨fo,fun t=>⟨fun k=>absurd k cQ,fun k=>absurd k.1 cQ⟩⟩
  | cons x ar=>
   cases b with
   | nil=>rw[eb];exact⟨fo,fun t=>⟨fun k=>absurd k cQ,fun k=>absurd k.2 cQ⟩⟩
   | cons y bs=>
    obtain⟨rx,sx,nx⟩:=eO.mp ha;obtain⟨ry,sy,ny⟩:=eO.mp hb;have ex:=bG.mp rx;have ey:=bG.mp ry;have JE:(aK x y).1=max x.1 y.1:=rfl;have Kc:(aK x y).2=min x.2 y.2:=rfl
    have KB:∀t,Tm (if (aK x y).1<(aK x y).2 then [aK x y] else []) t↔(x.1<=t/\t<x.2)/\(y.1<=t/\t<y.2):=by
     intro t;split
     .rw[bw,JE,Kc];constructor
      .rintro (k|k)
       .omega
       .exact absurd k cQ
      .intro k;left;omega
     .rename_i hn;rw[JE,Kc]at hn;constructor
      .intro k;exact absurd k cQ
      .intro k;omega
    have LO:ee (if (aK x y).1<(aK x y).2 then [aK x y] else []):=by
     split
     .rename_i hn;rw[JE,Kc]at hn;exact fZ.mpr (bG.mpr ⟨by rw[JE];omega,by rw[JE,Kc];omega,by rw[Kc];omega⟩)
     .exact fo
    rw[eb];by_cases Ja:x.2<y.2
    .rw[if_pos Ja];obtain⟨i1,i2⟩:=ih ar (y::bs) (by simp at h ⊢;omega) nx hb;refine⟨gF.mpr ⟨LO,i1,fun s hs z hz=>?_⟩,fun t=>?_⟩
     .have h1:=(i2 z.1).mp (BS i1 hz);have h2:=Bh sx h1.1;split at hs
      .have:=List.mem_singleton.mp hs;subst this;rw[Kc];omega
      .cases hs
     .rw[mh,KB,i2,bw (l:=ar)];constructor
      .rintro (k|k)
       .exact⟨.inl k.1,bw.mpr (.inl k.2)⟩
       .exact⟨.inr k.1,k.2⟩
      .rintro⟨k|k,k2⟩
       .rcases bw.mp k2 with k3|k3
        .exact .inl ⟨k,k3⟩
        .have:=Bh sy k3;omega
       .exact .inr ⟨k,k2⟩
    .rw[if_neg Ja];obtain⟨i1,i2⟩:=ih (x::ar) bs (by simp at h ⊢;omega) ha ny;refine⟨gF.mpr ⟨LO,i1,fun s hs z hz=>?_⟩,fun t=>?_⟩
     .have h1:=(i2 z.1).mp (BS i1 hz);have h2:=Bh sy h1.2;split at hs
      .have:=List.mem_singleton.mp hs;subst this;rw[Kc];omega
      .cases hs
     .rw[mh,KB,i2,bw (l:=bs)];constructor
      .rintro (k|k)
       .exact⟨bw.mpr (.inl k.1),.inl k.2⟩
       .exact⟨k.1,.inr k.2⟩
      .rintro⟨k2,k|k⟩
       .rcases bw.mp k2 with k3|k3
        .exact .inl ⟨k3,k⟩
        .have:=Bh sx k3;omega
       .exact .inr ⟨k2,k⟩
def Ba(a b:List fN):List fN:=eb (jw a) (jw b)
def F3(a b:List fN):ee (Ba a b)/\∀t,Tm (Ba a b) t↔Tr a t/\Tr b t:=by
 obtain⟨h1,h2⟩:=iE a;obtain⟨h3,h4⟩:=iE b;obtain⟨h5,h6⟩:=Eg _ _ _ (UJ _) h1 h3;exact⟨h5,fun t=>by unfold Ba;rw[h6,h2,h4]⟩
def zC(x:fN)(b out:List fN):List fN:=b.foldl (fun out y=>if dX x=true/\dX y=true/\dX (aK x y)=true then lY out (aK x y) else out) out
theorem wE(x:fN):∀(b out:List fN),ee out->ee (zC x b out)/\∀t,Tm (zC x b out) t↔Tm out t\/((dX x=true/\x.1<=t/\t<x.2)/\Tr b t)
 | [],out,h=>⟨h,fun t=>⟨.inl,fun k=>k.resolve_right fun k=>by
   have:=k.2;unfold Tr at this;simp at this;exact cQ this⟩⟩
 | y::b,out,h=>by
  unfold zC;rw[VD]
  have hy:∀t,Tr (y::b) t↔(dX y=true/\y.1<=t/\t<y.2)\/Tr b t:=by
   intro t;unfold Tr;rw[Vy];split
   .rename_i hr;rw[bw];constructor
    .rintro (k|k)
     .exact .inl ⟨hr,k⟩
     .exact .inr k
    .rintro (k|k)
     .exact .inl k.2
     .exact .inr k
   .rename_i hr;constructor
    .exact .inr
    .rintro (k|k)
     .exact absurd k.1 hr
     .exact k
  by_cases hc:dX x=true/\dX y=true/\dX (aK x y)=true
  .rw[if_pos hc];obtain⟨j1,j2⟩:=AU h hc.2.2;obtain⟨i1,i2⟩:=wE x b _ j1;refine⟨i1,fun t=>?_⟩;show Tm (zC x b (lY out (aK x y))) t↔_;rw[i2,j2,hy];simp only[aK];constructor
   .rintro ((k|k)|k)
    .exact .inl k
    .exact .inr ⟨⟨hc.1,by omega⟩,.inl ⟨hc.2.1,by omega⟩⟩
    .exact .inr ⟨k.1,.inr k.2⟩
   .rintro (k|⟨k,k2|k2⟩)
    .exact .inl (.inl k)
    .exact .inl (.inr (by omega))
    .exact .inr ⟨k,k2⟩
  .rw[if_neg hc];obtain⟨i1,i2⟩:=wE x b out h;refine⟨i1,fun t=>?_⟩;show Tm (zC x b out) t↔_;rw[i2,hy];constructor
   .rintro (k|k)
    .exact .inl k
    .exact .inr ⟨k.1,.inr k.2⟩
   .rintro (k|⟨k,k2|k2⟩)
    .exact .inl k
    .exfalso;apply hc;have e1:=bG.mp k.1;have e2:=bG.mp k2.1;refine⟨k.1,k2.1,bG.mpr ?_⟩;simp only[aK];omega
    .exact .inr ⟨k,k2⟩
def iu(at_:Int):List fN->List fN
 | []=>[(at_,86400000)]
 | s::l=>(at_,s.1)::iu s.2 l
def lT(a b:List fN):List fN:=Ba a (iu 0 (jw b))
theorem AX:∀(l:List fN) (at_:Int),ee l->0<=at_->(∀s∈l,at_<=s.1)->∀t,Tr (iu at_ l) t↔(at_<=t/\t<86400000)/\¬Tm l t
 | [],at_,_,h0,_,t=>by
  unfold Tr iu;rw[Vy];split
  .rw[WX,bw];constructor
   .rintro (k|k)
    .exact⟨k,cQ⟩
    .exact absurd k cQ
   .intro k;exact .inl k.1
  .rename_i hr;have JT:¬(0<=at_/\at_<86400000/\(86400000:Int)<=86400000):=fun k=>hr (bG.mpr k);rw[WX];constructor
   .intro k;exact absurd k cQ
   .intro k;exfalso;apply JT;omega
 | s::l,at_,hn,h0,hl,t=>by
  obtain⟨rs,ss,nl⟩:=eO.mp hn;have es:=bG.mp rs;have h1:=hl s (by simp);have ih:=AX l s.2 nl (by omega) (fun z hz=>by have:=ss z hz;omega) t;unfold Tr at ih ⊢;unfold iu;rw[Vy];have PA:Tm l t->s.2<t:=Bh ss;split
  .rw[bw,ih,bw];simp only;constructor
   .rintro (k|k)
    .refine⟨by omega,?_⟩;rintro (k2|k2)
     .omega
     .have:=PA k2;omega
    .refine⟨by omega,?_⟩;rintro (k2|k2)
     .omega
     .exact k.2 k2
   .rintro⟨k,k2⟩;by_cases h2:t<s.1
    .left;omega
    .right;refine⟨⟨?_,by omega⟩,fun k3=>k2 (.inr k3)⟩;apply VG;intro h3;exact k2 (.inl ⟨by omega,by omega⟩)
  .rename_i hr;have JT:¬(0<=at_/\at_<s.1/\s.1<=86400000):=fun k=>hr (bG.mpr k);rw[ih,bw];constructor
   .rintro⟨k,k2⟩;refine⟨by omega,?_⟩;rintro (k3|k3)
    .omega
    .exact k2 k3
   .rintro⟨k,k2⟩;refine⟨⟨?_,by omega⟩,fun k3=>k2 (.inr k3)⟩;apply VG;intro h3;exact k2 (.inl ⟨by omega,by omega⟩)
def Tr_range(h:Tr l t):0<=t/\t<86400000:=by
 obtain⟨s,hs,h1,h2⟩:=h;have:=bG.mp (by simpa using(List.mem_filter.mp hs).2);omega
def oJ(a b:List fN):ee (lT a b)/\∀t,Tm (lT a b) t↔Tr a t/\¬Tr b t:=by
 obtain⟨h1,h2⟩:=F3 a (iu 0 (jw b));obtain⟨h3,h4⟩:=iE b;refine⟨h1,fun t=>?_⟩;unfold lT;rw[h2,AX _ 0 h3 (by omega) (fun s hs=>by have:=bG.mp (h3.rg s hs);omega),h4];constructor
 .exact fun k=>⟨k.1,k.2.2⟩
 .exact fun k=>⟨k.1,Tr_range k.1,k.2⟩
def Gi(s x:fN):List fN:=(if dX (x.1,min x.2 s.1)=true then [(x.1,min x.2 s.1)] else [])++(if dX (max x.1 s.2,x.2)=true then [(max x.1 s.2,x.2)] else [])
def wo(l:List fN)(s:fN):List fN:=l.flatMap (Gi s)
def gn(a b:List fN):List fN:=b.foldl (fun out s=>if dX s=true then wo out s else out) (jw a)
def wo1_spec(hs:dX s=true)(hx:dX x=true):ee (Gi s x)/\(∀t,Tm (Gi s x) t↔(x.1<=t/\t<x.2)/\¬(s.1<=t/\t<s.2)):=by
 have es:=bG.mp hs;have ex:=bG.mp hx
 have h1:∀t,Tm (if dX (x.1,min x.2 s.1)=true then [(x.1,min x.2 s.1)] else []) t↔x.1<=t/\t<min x.2 s.1:=by
  intro t;split
  .rw[bw];exact⟨fun k=>k.resolve_right cQ,.inl⟩
  .rename_i hr;have JT:¬(0<=x.1/\x.1<min x.2 s.1/\min x.2 s.1<=86400000):=fun k=>hr (bG.mpr k);exact⟨fun k=>absurd k cQ,fun k=>by exfalso;apply JT;omega⟩
 have h2:∀t,Tm (if dX (max x.1 s.2,x.2)=true then [(max x.1 s.2,x.2)] else []) t↔max x.1 s.2<=t/\t<x.2:=by
  intro t;split
  .rw[bw];exact⟨fun k=>k.resolve_right cQ,.inl⟩
  .rename_i hr;have JT:¬(0<=max x.1 s.2/\max x.1 s.2<x.2/\x.2<=86400000):=fun k=>hr (bG.mpr k);exact⟨fun k=>absurd k cQ,fun k=>by exfalso;apply JT;omega⟩
 refine⟨gF.mpr ⟨?_,?_,?_⟩,fun t=>?_⟩
 .split
  .rename_i hr;exact fZ.mpr hr
  .exact fo
 .split
  .rename_i hr;exact fZ.mpr hr
  .exact fo
 .intro u hu z hz;split at hu
  .have:=List.mem_singleton.mp hu;subst this;split at hz
   .have:=List.mem_singleton.mp hz;subst this;simp only;omega
   .cases hz
  .cases hu
 .unfold Gi;rw[mh,h1,h2];omega
theorem Bq(hs:dX s=true):∀{l:List fN},ee l->ee (wo l s)/\∀t,Tm (wo l s) t↔Tm l t/\¬(s.1<=t/\t<s.2)
 | [],_=>⟨fo,fun t=>⟨fun k=>absurd k cQ,fun k=>absurd k.1 cQ⟩⟩
 | x::l,h=>by
  obtain⟨rx,sx,nl⟩:=eO.mp h;obtain⟨i1,i2⟩:=Bq hs nl;obtain⟨j1,j2⟩:=wo1_spec hs rx;have e:wo (x::l) s=Gi s x++wo l s:=rfl;rw[e];refine⟨gF.mpr ⟨j1,i1,fun u hu z hz=>?_⟩,fun t=>?_⟩
  .have K0:=Bh sx ((i2 z.1).mp (BS i1 hz)).1;have hu1:=bG.mp (j1.rg u hu);have Sm:=(j2 (u.2-1)).mp ⟨u,hu,by omega,by omega⟩;omega
  .rw[mh,i2,j2,bw];constructor
   .rintro (k|k)
    .exact⟨.inl k.1,k.2⟩
    .exact⟨.inr k.1,k.2⟩
   .rintro⟨k|k,k2⟩
    .exact .inl ⟨k,k2⟩
    .exact .inr ⟨k,k2⟩
theorem uR:∀(b out:List fN),ee out->ee (b.foldl (fun out s=>if dX s=true then wo out s else out) out)/\∀t,Tm (b.foldl (fun out s=>if dX s=true then wo out s else out) out) t↔Tm out t/\¬Tr b t
 | [],out,h=>⟨h,fun t=>⟨fun k=>⟨k,by unfold Tr;simpa using cQ⟩,fun k=>k.1⟩⟩
 | s::b,out,h=>by
  rw[VD];unfold Tr;rw[Vy];by_cases hs:dX s=true
  .rw[if_pos hs,if_pos hs];obtain⟨j1,j2⟩:=Bq hs h;obtain⟨i1,i2⟩:=uR b _ j1;refine⟨i1,fun t=>?_⟩;rw[i2,j2,bw];unfold Tr;constructor
   .rintro⟨⟨k1,k2⟩,k3⟩;exact⟨k1,fun k=>by rcases k with k|k;exact k2 k;exact k3 k⟩
   .rintro⟨k1,k2⟩;exact⟨⟨k1,fun k=>k2 (.inl k)⟩,fun k=>k2 (.inr k)⟩
  .rw[if_neg hs,if_neg hs];exact uR b out h
def lD(a b:List fN):ee (gn a b)/\∀t,Tm (gn a b) t↔Tr a t/\¬Tr b t:=by
 obtain⟨h3,h4⟩:=iE a;obtain⟨h1,h2⟩:=uR b (jw a) h3;exact⟨h1,fun t=>by unfold gn;rw[h2,h4]⟩
def AP(a b:List fN):lT a b=gn a b:=by
 obtain⟨h1,h2⟩:=oJ a b;obtain⟨h3,h4⟩:=lD a b;exact lB h1 h3 fun t=>by rw[h2,h4]
def oa(l:List fN)(s:fN):Bool:=dX s && (jw l).any fun x=>decide (x.1<=s.1) && decide (s.2<=x.2)
def yg(h:ee l)(hs:s.1<s.2):(∀t,s.1<=t->t<s.2->Tm l t)↔∃x∈l,x.1<=s.1/\s.2<=x.2:=by
 constructor
 .intro hc;obtain⟨x,hx,h1,h2⟩:=hc s.1 (by omega) hs;refine⟨x,hx,h1,?_⟩;apply VG;intro hn;obtain⟨y,hy,h3,h4⟩:=hc x.2 (by omega) (by omega);have ex:=bG.mp (h.rg x hx);have ey:=bG.mp (h.rg y hy);obtain⟨A,B,e⟩:=List.append_of_mem hx;subst e;obtain⟨n1,n2,n3⟩:=gF.mp h;obtain⟨_,n4,_⟩:=eO.mp n2;rcases List.mem_append.mp hy with k|k
  .have:=n3 y k x (by simp);omega
  .rcases List.mem_cons.mp k with k|k
   .subst k;omega
   .have:=n4 y k;omega
 .rintro⟨x,hx,h1,h2⟩ t h3 h4;exact⟨x,hx,by omega,by omega⟩
def DV(l:List fN)(s:fN):oa l s=true↔dX s=true/\∀t,s.1<=t->t<s.2->Tr l t:=by
 obtain⟨h1,h2⟩:=iE l;unfold oa;rw[UT];constructor
 .rintro⟨k1,k2⟩;have e:=bG.mp k1;refine⟨k1,fun t a b=>(h2 t).mp ((yg h1 e.2.1).mpr ?_ t a b)⟩;rw[VQ]at k2;obtain⟨x,hx,h⟩:=k2;exact⟨x,hx,by simpa using h⟩
 .rintro⟨k1,k2⟩;have e:=bG.mp k1;refine⟨k1,?_⟩;rw[VQ];obtain⟨x,hx,h⟩:=(yg h1 e.2.1).mp fun t a b=>(h2 t).mpr (k2 t a b);exact⟨x,hx,by simpa using h⟩
theorem yf(h:ee l):l = []↔∀t,¬Tm l t:=by
 constructor
 .rintro rfl t;exact cQ
 .intro k;cases l with
  | nil=>rfl
  | cons x l=>exact absurd (BS h (s:=x) (by simp)) (k x.1)
def Bg(hs:dX s=true)(t:Int):Tr [s] t↔s.1<=t/\t<s.2:=by
 unfold Tr;rw[Vy,if_pos hs,WX,bw];exact⟨fun k=>k.resolve_right cQ,.inl⟩
def covR(l:List fN)(s:fN):Bool:=dX s && decide ((gn [s] l).length=0)
def cov_eq(l:List fN)(s:fN):oa l s=covR l s:=by
 rw[Xu,DV];unfold covR;rw[UT,decide_eq_true_eq,V0];obtain⟨h1,h2⟩:=lD [s] l;rw[yf h1];constructor
 .rintro⟨k1,k2⟩;refine⟨k1,fun t ht=>?_⟩;rw[h2,Bg k1]at ht;exact ht.2 (k2 t ht.1.1 ht.1.2)
 .rintro⟨k1,k2⟩;refine⟨k1,fun t a b=>?_⟩;apply VG;intro hn;exact k2 t ((h2 t).mpr ⟨(Bg k1 t).mpr ⟨a,b⟩,hn⟩)
def CD(h:ee l):jw l=l:=by
 obtain⟨h1,h2⟩:=iE l;exact lB h1 h fun t=>by rw[h2,Hl h]
end
end Go.Eng
namespace Go.Eng.Fo
open Go.Proofs
section
attribute [local irreducible] bB cX cZ aB bS dE
attribute [local go_sem] and_self aR cY encE
set_option maxRecDepth 20000
def rightE(x:El):aB CX 177 [.agg (encE x)] (· = .bool (dX x)):=by
 obtain⟨a,b⟩:=x;refine aL fx177 ?_;simp only[UB,UE,UF,UH,Nat.reduceAdd,Nat.reduceSub,List.replicate];repeat' (first|refine dn ?_|refine ad rfl ?_|(refine dI fun A B a b=>?_;simp only[go_sem, *];(repeat' first|apply a.1|apply b.1|refine aV (fun h=>?_) fun h=>?_)<;>clear a b A B))
 all_goals simp only[go_sem]
 all_goals simp[dX, *]
def del1E(x:El):aB CX 217 [.agg (encE x)] (· = .bool (!dX x)):=by
 have q:=(rightE x).rw;obtain⟨a,b⟩:=x;simp only[encE]at q ⊢;refine aL fx217 ?_;exact wf
def wN(p:El->Bool):List El->Nat->Int
 | [],_=> -1
 | x::l,k=>if p x=true then (k:Int) else wN p l (k+1)
theorem AL(p:El->Bool):∀(l:List El) (k:Nat),(wN p l k = -1/\∀x∈l,p x=false)\/∃a x b,l=a++x::b/\p x=true/\(∀y∈a,p y=false)/\wN p l k=((k+a.length:Nat):Int)
 | [],k=> .inl ⟨rfl,by simp⟩
 | x::l,k=>by
  by_cases h:p x=true
  .exact .inr ⟨[],x,l,rfl,h,by simp,by simp[wN,h]⟩
  .have h':p x=false:=by simpa using h
   rw[wN,if_neg h];rcases AL p l (k+1) with ⟨h1,h2⟩|⟨a,y,b,h1,h2,h3,h4⟩
   .exact .inl ⟨h1,fun z hz=>by rcases List.mem_cons.mp hz with e|e;exact e ▸ h';exact h2 z e⟩
   .refine .inr ⟨x::a,y,b,by simp[h1],h2,fun z hz=>by rcases List.mem_cons.mp hz with e|e;exact e ▸ h';exact h3 z e,?_⟩;rw[h4,UB];congr 1;omega
theorem indexFE(v:AV)(l:List El)(clo:FuncId)(caps:List AV)(p:El->Bool)(hb:CX.byRef clo=false)(hs:∀S,dU S caps=some caps)(hp:∀x,aB CX clo (.agg (encE x)::caps) (· = .bool (p x)))(hv:bq 2 (l.map encE) v)(hl:l.length<9223372036854775807)(hn:CX.nest clo=false:=by rfl) :
  aB CX 214 [v,.fn clo caps] (· = .int .i64 (wN p l 0)):=by
 rw[Fh,decide_eq_false_iff_not]at hn;refine aL fx214 ?_;refine b8 (lk hv) ?_;refine aF [4,5,9,10,11,12,13,14,15,16,17,18] 8 l (fun pre post=>wN p l 0=wN p post pre.length) ?_ ?_ ?_ ?_
 .rfl
 .rfl
 .intro g G h2;rw[h2];simp only[aj,aq,ah,an,UC,UD];exact wf
 .intro g G pre x post h1 h2;rw[h2];subst h1;simp only[aj,aq,ah,an,UC,UD];have i1:=ay hv (X:=CX) ty102 ty51 rfl (eK encE pre x post) (k := .i64);have w1:=am (n:=pre.length) (by simp at hl;omega);have q:=(hp x).rw;simp only[encE]at q;by_cases hx:p x=true
  .rw[hx]at q;have hh:ac (p x=true):=⟨hx⟩;clear hx hp h2;refine wk ?_;simp only[go_sem];simp[wN,hh.out]
  .have Kd:p x=false:=by simpa using hx
   rw[Kd]at q;have hh:ac (¬p x=true):=⟨hx⟩;clear hx Kd hp h2;refine wk ?_;refine aA rfl ?_ ?_ ?_
   .rw[wN,if_neg hh.out,aH]
   .exact aQ
   .exact dk
end
section
variable {b e i j len n:Nat}{k:IntKind}{l:List El}{x:El}
attribute [local irreducible] bB cX cZ aB bS dE
attribute [local go_sem] bi cM and_self takeD
set_option maxRecDepth 20000
theorem wpK_clear{X:dV}{d:Bool}{dst:Option Tmp}{ty:TypeId}{pos:String}{after:Array Edge}{g:Option (Nat×Bool)}{K:List AV->ab->Prop}{fr:List AV}{S:ab}{s:Operand}{t el:TypeId}{i ei:mN}{off sz wep:Nat}{rows:List (List AV)}{pr:Bool}
  (ht:X.ty t=some i) (hd:i.desc = .slice el) (he:X.ty el=some ei) (hs:ak fr s = .sl b e off len sz) (hb:S[b]? = some (.arr rows sz wep pr))
  (h1:rows.length=e) (h2:wep<=e) (h3:sz=ei.size) (h4:ei.zero.length=sz) (h5:off+len<=e) (h6:len≠0)
  (hk:K (cj fr dst (.tup [])) (S.set b (.arr (rows.take off++List.replicate len ei.zero++rows.drop (off+len)) sz e pr))) :
  em X d ⟨dst,.call ⟨.builtin .clear,⟨[s]⟩,⟨[t]⟩⟩,ty,pos,after,g⟩ dst K fr S:=by
 obtain⟨a,bb,c,z,dd⟩:=i;simp only at hd;subst hd;rw[sB rfl rfl rfl rfl rfl];simp only[iz,ht,hs,he,hb];rw[if_pos ⟨h1,h2,h3,trivial,h4,h5⟩,if_neg h6];exact hk
def Ia(h:j<len):aD CX 102 (.sl b e 0 len 2) (.int k j)=some (.ptr b e 2 j 0):=by
 have:(j:Int)<len:=by omega
 simp[aD,ty102,ty51,this]
attribute [local go_sem] Ia
theorem slcFrom(h0:0<i)(h:i<n):dW CX 102 (.sl b n 0 n 2) (some (.int k i)) none none=some (.sl b n i (n-i) 2):=by
 have h1:¬i=0:=by omega
 have h2:¬i=n:=by omega
 have h3:i<=n:=by omega
 simp[dW,ty102,ty51,dM,h1,h2,h3]
def slcFrom0 :dW CX 102 (.sl b n 0 n 2) (some (.int k (0:Nat))) none none=some (.sl b n 0 n 2):=by
 simp[dW,ty102,ty51,dM]
theorem slcAt(h:i<n):dW CX 102 (.sl b n 0 n 2) (some (.int k i)) none none=some (.sl b n i (n-i) 2):=by
 cases i with
 | zero=>exact slcFrom0
 | succ i=>exact slcFrom (by omega) h
theorem slcTo(h:i<=n):dW CX 102 (.sl b n 0 n 2) none (some (.int k i)) none=some (.sl b n 0 i 2):=by
 simp[dW,ty102,ty51,dM,h]
def spans(l:List El):List (List AV):=l.map encE
def spans_len(l:List El):(spans l).length=l.length:=by simp[spans]
attribute [local go_sem] spans_len
def fI(h:l[j]? = some x):(spans l)[j]? = some (encE x):=by simp[spans,h]
def Aw :(spans l).set j (encE x)=spans (l.set j x):=by simp[spans,List.map_set]
def xE(h:l[j]? = some x):List.drop 2 ((spans l).getD j []) = []:=by
 rw[Ve,fI h];rfl
def CK(l:List El):spans l=rowsD [] l.toArray:=by simp[spans,rowsD]
def Cut(A C:ab)(n:Nat)(m:List El)(v:AV)(S:ab):Prop := ∃T w C',v = .sl A.length (m.length+T.length) 0 m.length 2/\n=m.length+T.length/\w<=m.length+T.length/\T.all (fY 2)=true/\S=A ++ .arr (rowsD T m.toArray) 2 w true::(C++C')
theorem take_set(h:i<l.length):(l.set i x).take (i+1)=l.take i++[x]:=by
 rw[WB,List.take_set_of_le (UJ _)];simp[h]
def delE(A C:ab)(l:List El)(w:Nat)(hw:w<=l.length)(hl:l.length<1152921504606846976) :
  bS CX 215 [.sl A.length l.length 0 l.length 2,.fn 217 []] (A ++ .arr (spans l) 2 w true::C) (Cut A C l.length (l.filter dX)):=by
 have hs:∀S,dU S []=some []:=fun S=>pD;have q:=(indexFE (.tsl false 2 (spans l)) l 217 [] (fun x=> !dX x) rfl hs del1E (.rows false) (by omega)).rw;have e1:(spans l).take l.length=spans l:=by rw[<-spans_len l];exact Vn
 rcases AL (fun x=> !dX x) l 0 with ⟨p1,p2⟩|⟨a,x0,b0,p1,p2,p3,p4⟩
 .rw[p1]at q;refine tY fx215 ?_;refine wk ?_;simp only[go_sem];have hf:l.filter dX=l:=by rw[List.filter_eq_self];intro x hx;simpa using p2 x hx
  rw[hf];exact⟨[],w,[.arr [] 2 0 true],by simp,by simp,by simpa using hw,rfl,by simp[CK]⟩
 .rw[p4,UW]at q;have z:¬((a.length:Int) = -1):=by omega
  have w1:=am (n:=a.length) (by rw[p1]at hl;simp at hl;omega);have K7:a.length<l.length:=by rw[p1];simp
  have hp:ac (l=a++x0::b0/\(!dX x0)=true/\∀y∈a,(!dX y)=false):=⟨p1,p2,p3⟩;clear p1 p2 p3 p4;refine tY fx215 ?_;refine wk ?_
  refine aJ [7,16,17,18,19,20,21,22,23,24,25,26,27,28,29,30,31,32,33,34,35] (fun p:Nat×Nat×List El×Nat=>[(5,.int .i64 p.1),(6,.int .i64 p.2.1)]) (fun p G=>A ++ .arr (spans p.2.2.1) 2 p.2.2.2 true::(C++G))
   (fun p=>p.2.2.1.length=l.length/\p.2.2.2<=l.length/\p.1<p.2.1/\p.2.1<=l.length/\p.2.2.1.take p.1=(l.take p.2.1).filter dX/\(∀m,p.2.1<=m->p.2.2.1[m]? = l[m]?)) (fun p=>l.length-p.2.1) (a.length,a.length+1,l,w) ⟨rfl,hw,by simp only;omega,by simp only;omega,?_,fun _ _=>rfl⟩ ?_ ?_ ?_
  .obtain⟨p1,p2,p3⟩:=hp.out;have e2:l.take (a.length+1)=a++[x0]:=by rw[p1];simp[List.take_append,Vm]
   have e3:l.take a.length=a:=by rw[p1];simp
   have Kw:¬dX x0=true:=by simpa using p2
   simp only;rw[e2,e3,Va,Vy,if_neg Kw,WX,UM];rw[List.filter_eq_self.2];intro x hx;simpa using p3 x hx
  .rfl
  .exact⟨_,rfl⟩
  clear q hp K7 w1 z e1 hw;rintro⟨i,j,d,w'⟩ g G ⟨hd,hw,M5,hj,hE,hr⟩;simp only at hd hw M5 hj hE hr;simp only[aj,aq,ah,an,UC,UD];by_cases Mb:j<l.length
  .have Tf:(j:Int)<(l.length:Int):=by omega
   obtain⟨x,hx⟩:∃x,l[j]? = some x:=⟨_,UL Mb⟩;have TC:d[j]? = some x:=by rw[hr j (UJ _),hx]
   have g1:=fI TC;have g2:=xE TC;have il:i<l.length:=by omega
   have w2:=am (n:=i) (by omega);have w3:=am (n:=j) (by omega);have TF:i<d.length:=by omega
   obtain⟨y,hy⟩:∃y,d[i]? = some y:=⟨_,UL TF⟩;have g3:=xE hy;have s1:(spans d).set i [.int .i64 x.1,.int .i64 x.2]=spans (d.set i x):=Aw;have q:=(del1E x).rw
   have e3:(l.take (j+1)).filter dX=(l.take j).filter dX++if dX x=true then [x] else []:=by
    rw[WB,hx,Va];simp[Vy]
   have hh:ac (∀m,j<=m->d[m]? = l[m]?):=⟨hr⟩;have I7:ac (d.take i=(l.take j).filter dX):=⟨hE⟩;simp only[encE]at q g1;clear hr hE hx TC hy;by_cases Px:dX x=true
   .rw[if_pos Px]at e3;rw[Px]at q;have JG:ac ((l.take (j+1)).filter dX=(l.take j).filter dX++[x]):=⟨e3⟩;clear Px e3;refine wk ?_;refine ax (i+1,j+1,d.set i x,l.length) (by simp only;omega) ⟨by simpa using hd,UJ _,by simp only;omega,by simp only;omega,?_,?_⟩ ?_ (by exact dk)
    .simp only;rw[take_set (by omega),JG.out,I7.out]
    .intro m hm;simp only at hm ⊢;rw[VF (by omega)];exact hh.out m (by omega)
    .exact aQ
   .have Qe:dX x=false:=by simpa using Px
    rw[if_neg Px]at e3;rw[Qe]at q;have JG:ac ((l.take (j+1)).filter dX=(l.take j).filter dX++[]):=⟨e3⟩;clear Px Qe e3;refine wk ?_;refine ax (i,j+1,d,w') (by simp only;omega) ⟨hd,hw,by simp only;omega,by simp only;omega,?_,?_⟩ ?_ (by exact dk)
    .simp only;rw[JG.out,I7.out,UM]
    .intro m hm;exact hh.out m (by simp only at hm;omega)
    .exact aQ
  .have Tf:¬(j:Int)<(l.length:Int):=by omega
   have il:i<l.length:=by omega
   have s1:=slcAt (b:=A.length) (n:=l.length) (i:=i) (k := .i64) il;have s2:=slcTo (b:=A.length) (n:=l.length) (i:=i) (k := .i64) (by omega);have R5:l.filter dX=d.take i:=by rw[hE,Vm (by omega)]
   clear hE hr;refine wk ?_;refine bK fun K hK=>?_;simp only[iV];refine wpK_clear ty102 rfl ty51 rfl (bZ.trans rfl) (by rw[spans_len];exact hd) hw rfl rfl (by omega) (by omega) ?_;refine hK.out _ _ ?_;clear hK K;refine wk ?_;simp only[go_sem];have IY:(l.filter dX).length=i:=by rw[R5,Wh];omega
   refine⟨List.replicate (l.length-i) [.int .i64 0,.int .i64 0],l.length,G,?_,?_,?_,?_,?_⟩
   .rw[IY,Wq];congr 1;omega
   .rw[IY,Wq];omega
   .rw[IY,Wq];omega
   .rw[Vb];intro r hr;rw[Wf hr];rfl
   .rw[R5];have e4:(spans d).drop (i+(l.length-i)) = []:=WG (by rw[spans_len];omega);rw[e4];simp[rowsD,spans,Xr]
end
section
attribute [local irreducible] bB cX cZ aB bS dE
set_option maxRecDepth 20000
variable {T:List (List AV)}
theorem wc:∀l:List El,kg (l.map encE)=some l
 | []=>rfl
 | x::l=>by
  have:=wc l;simp only[Vk,kg,this,encE]
theorem sortE(A C:ab)(d:Array El)(n w:Nat)(hn:d.size=n)(hw:w<=n+T.length)(Le:n<4294967296)(hT:T.all (fY 2)=true) :
  bS CX 218 [.sl A.length (n+T.length) 0 n 2,cmpV] (A ++ .arr (rowsD T d) 2 w true::C) (fun v S=>v = .tup []/\Left T A C n (Go.Sort.sort Aa d) S):=by
 unfold bS;have hp:CX.prim 218=some (fX 2 sfP (Fw 219)):=rfl;have hc:Fw 219 [cmpV]=true:=rfl;have hs:(Go.Sort.sort Aa d).size=n:=by rw[<-hn];exact(Go.Sort.sort_sorts Aa Bu d).1.1
 by_cases h0:n=0
 .have e:Go.Sort.sort Aa d=d:=by
   rw[Array.eq_empty_of_size_eq_zero (hs.trans h0),Array.eq_empty_of_size_eq_zero (hn.trans h0)]
  subst h0;refine⟨1,_,_,by simp only[dj,hp];exact xY hc,rfl,?_⟩;rw[e];exact⟨hn,w,[],hw,by rw[UM]⟩
 .have hl:(d.toList.map encE).length=n:=by simp[hn]
  have ha:(rowsD T d).all (fY 2)=true:=by
   rw[rowsD,List.all_append,hT,WC,Vb];intro r hr;obtain⟨x,_,rfl⟩:=UZ.1 hr;rfl
  have e1:(rowsD T d).take n=d.toList.map encE:=by rw[rowsD,<-hl];exact Xl
  have e2:(rowsD T d).drop n=T:=by rw[rowsD,<-hl];exact List.drop_left
  have e3:sfP (d.toList.map encE)=some ((Go.Sort.sort Aa d).toList.map encE):=by
   rw[sfP,wc];rfl
  have hk:2=2/\(rowsD T d).length=n+T.length/\w<=n+T.length/\n<=n+T.length/\n<4294967296/\(rowsD T d).all (fY 2)=true:=⟨rfl,by rw[rowsD,UG,hl],hw,by omega,Le,ha⟩
  have e4:fX 2 sfP (Fw 219) [.sl A.length (n+T.length) 0 n 2,cmpV] (A ++ .arr (rowsD T d) 2 w true::C)=some (.tup [],A ++ .arr (rowsD T (Go.Sort.sort Aa d)) 2 (n+T.length) true::C):=by
   rw[xZ hc h0 bZ hk.2 (by rw[e1];exact e3),e2,ly];rfl
  exact⟨1,_,_,by simp only[dj,hp];exact e4,rfl,hs,n+T.length,[],UJ _,by rw[UM]⟩
def Bw(l:List El):List El:=(Go.Sort.sort Aa l.toArray).toList
def Av(l:List El):(Bw l).Perm l:=by
 obtain⟨⟨h1,_,h3⟩,_⟩:=Go.Sort.sort_sorts Aa Bu l.toArray;have e1:(Go.Sort.sort Aa l.toArray).extract 0 l.toArray.size=Go.Sort.sort Aa l.toArray:=by rw[<-h1,Array.extract_size]
 rw[e1,Array.extract_size]at h3;exact h3
def srtS_len(l:List El):(Bw l).length=l.length:=(Av l).length_eq
def srtS_le(l:List El):(Bw l).Pairwise fun a b=>a.1<=b.1:=by
 obtain⟨⟨h1,_,_⟩,h2⟩:=Go.Sort.sort_sorts Aa Bu l.toArray;rw[List.pairwise_iff_getElem];intro i j hi hj M5;have hj':j<(Go.Sort.sort Aa l.toArray).size:=hj;have:=h2 i j (U9 _) M5 (by rw[<-h1];exact hj');have k1:(Go.Sort.sort Aa l.toArray)[j]! = (Bw l)[j]:=by simp[Bw,getElem!_pos,hj']
 have k2:(Go.Sort.sort Aa l.toArray)[i]! = (Bw l)[i]:=by
  have Jk:i<(Go.Sort.sort Aa l.toArray).size:=hi;simp[Bw,getElem!_pos,Jk]
 rw[k1,k2]at this;simp only[Aa,decide_eq_false_iff_not]at this;omega
def srtS_uni(l:List El):Fj (Bw (l.filter dX))=jw l:=mrg_uni (Av _) (srtS_le _)
def cloneE(v:AV)(l:List El)(hv:bq 2 (spans l) v)(hl:l.length<=1073741824):aB CX 216 [v] (· = .osl 2 (spans l)):=by
 refine aB.prim (r := .sl 1 l.length 0 l.length 2) (S:=[.arr [] 2 0 true,.arr (spans l) 2 0 true]) rfl ?_ ?_
 .have e:szOf jR 51=2:=rfl;simp only[jh,e,hv.rowsOf,spans_len,if_pos hl];rfl
 .simp[da,dR,ce,bT,bI,spans_len]
end
section
attribute [local irreducible] bB cX cZ aB bS dE
attribute [local go_sem] U1 Vj List.replicate UC Vp Nat.reduceMul Vg bi eF d9 bP bt ci bN cM ba aY aS aM aX and_self spans_len Nat.reduceMul
set_option maxRecDepth 20000
inductive Jn (R:List El):List El->List El->Prop
 | nil {po:List El}(h:Fj po=R):Jn R [] po
 | snoc {pre po:List El}{y:El}(h:oI pre y po=R):Jn R (pre++[y]) po
theorem Jn.done{R acc:List El}(h:Jn R acc []):acc=R:=by
 cases h with
 | nil h=>exact h
 | snoc h=>exact h
theorem Jn.ways{R acc po:List El}(h:Jn R acc po):(acc = []/\Fj po=R)\/∃pre y,acc=pre++[y]/\oI pre y po=R:=by
 cases h with
 | nil h=>exact .inl ⟨rfl,h⟩
 | snoc h=>exact .inr ⟨_,_,rfl,h⟩
def uu(l m:List El):spans (l++m)=spans l++spans m:=by simp[spans]
theorem Bt(v:AV)(l:List El)(hv:bq 2 (spans l) v)(hl:l.length<=1000000):aB CX 179 [v] (· = .osl 2 (spans (jw l))):=by
 have q:=(cloneE v l hv (by omega)).rw;have J3:=hv.snap;obtain⟨m,hm⟩:∃m,l.filter dX=m:=⟨_,rfl⟩;obtain⟨lS,OB⟩:∃s,Bw m=s:=⟨_,rfl⟩;have hR:Fj lS=jw l:=by rw[<-OB,<-hm];exact srtS_uni l
 have NL:m.length<=l.length:=by rw[<-hm];exact U0 _ _
 have KJ:lS.length=m.length:=by rw[<-OB];exact srtS_len m
 rw[<-hR];refine aL fx179 ?_;simp only[UB,UE,UF,UH,Nat.reduceAdd,Nat.reduceSub,List.replicate];refine Cy ?_;refine bK fun K hK=>?_;simp only[go_sem];refine bS.mono (delE [.arr [] 2 0 true] [] l 0 (U9 _) (by omega)) ?_;rw[hm];rintro _ _ ⟨T,w,C',rfl,hn,hw,hT,rfl⟩;refine hK.out _ _ ?_;clear hK K;refine Cy ?_;refine bK fun K hK=>?_;simp only[go_sem];refine bS.mono (sortE (T:=T) [.arr [] 2 0 true] C' m.toArray m.length w (by simp) hw (by omega) hT) ?_;rintro _ _ ⟨rfl,hL⟩;obtain⟨w',C'',_,Lx,rfl⟩:=Fu (G:=[]) (by simpa using hL);have e1:rowsD T (Go.Sort.sort Aa m.toArray)=spans lS++T:=by rw[<-OB];rfl
 rw[e1];refine hK.out _ _ ?_;clear hK K;clear hL hn hw e1 q J3;obtain⟨S0,Q6⟩:∃S0,[dY.arr [] 2 0 true]++dY.arr (spans lS++T) 2 w' true::(C'++C'')=S0:=⟨_,rfl⟩;have Ks:S0[1]? = some (.arr (spans lS++T) 2 w' true):=by rw[<-Q6];rfl
 rw[Q6];clear Q6;refine Cy ?_;have OP:1<S0.length:=(UK.1 Ks).1
 refine aJ [5,6,15,16,17,18,19,20,21,22,23,24,25,26,27,28,29,30,31,32,33,34,35,36,37,38,39,40,41,42,43,44,45,46,47,48,49,50,51] (fun p:List El×List El×List El×Nat×Nat×ab=>[(3,.sl p.2.2.2.1 p.2.2.1.length 0 p.2.2.1.length 2),(14,.int .i64 p.1.length)]) (fun p _=>p.2.2.2.2.2)
  (fun p=>lS=p.1++p.2.1/\p.2.2.2.2.2[1]? = some (.arr (spans lS++T) 2 w' true)/\p.2.2.2.2.2[p.2.2.2.1]? = some (.arr (spans p.2.2.1) 2 p.2.2.2.2.1 true)/\p.2.2.2.2.1<=p.2.2.1.length/\1<p.2.2.2.1/\Jn (Fj lS) p.2.2.1 p.2.1/\p.2.2.1.length<=p.1.length)
  (fun p=>p.2.1.length) ([],lS,[],S0.length,0,S0++[.arr [] 2 0 true]) ⟨rfl,?_,?_,UJ _,OP,.nil rfl,UJ _⟩ ?_ ⟨[],rfl⟩ ?_
 .simp only;rw[UN OP];exact Ks
 .simp only;rw[Vd (UJ _),W7];rfl
 .rfl
 clear Ks OP;rintro⟨pr,po,acc,bo,w,S⟩ g G ⟨h1,h2,h3,h4,h5,h6,h7⟩;simp only at h1 h2 h3 h4 h5 h6 h7;have JV:bo<S.length:=(UK.1 h3).1;have h1l:1<S.length:=(UK.1 h2).1;have a2:∀X,(S++X)[1]? = some (.arr (spans lS++T) 2 w' true):=fun X=>by rw[UN h1l,h2]
 have a3:∀X,(S++X)[bo]? = some (.arr (spans acc) 2 w true):=fun X=>by rw[UN JV,h3]
 have a4:∀X y,(S++X).set bo y=S.set bo y++X:=fun X y=>by rw[WA _ _ JV]
 simp only[aj,aq,ah,an,UC,UD];cases po with
 | nil=>
  have hj:=h6.done;rw[UM]at h1;have e:(pr.length:Int)=(m.length:Int):=by rw[<-KJ,h1]
  have hh:ac (acc=Fj lS):=⟨hj⟩;clear h1 h6 hj;refine wk ?_;simp only[go_sem,h3,h4];rw[hh.out];try rfl
 | cons x po=>
  have hx:lS[pr.length]? = some x:=by rw[h1];simp
  have IZ:pr.length<m.length:=by rw[<-KJ,h1];simp
  have Ml:pr.length<m.length+T.length:=by omega
  have lt1:(pr.length:Int)<(m.length:Int):=by omega
  have g1:(spans lS++T)[pr.length]? = some [.int .i64 x.1,.int .i64 x.2]:=by
   rw[UN (by rw[spans_len];omega),fI hx];rfl
  have w1:=am (n:=pr.length) (by omega);have IW:ac (lS=(pr++[x])++po):=⟨by rw[h1];simp⟩;have Se:=Ia (b:=1) (e:=m.length+T.length) (len:=m.length) (j:=pr.length) (k := .i64) IZ;clear h1 hx
  have b1:∀b X,(S.set bo b++X)[1]? = some (.arr (spans lS++T) 2 w' true):=fun b X=>by
   rw[UN (by simpa using h1l),VF (by omega),h2]
  have b2:∀b X,(S.set bo b++X)[bo]? = some b:=fun b X=>by
   rw[UN (by simpa using JV),Wn JV]
  have k6:=h6.ways;clear h6;rcases k6 with ⟨rfl,h6⟩|⟨pre,y,Kt,h6⟩
  .have hJ:Jn (Fj lS) ([]++[x]) po := .snoc h6;have I7:ac (Jn (Fj lS) ([]++[x]) po):=⟨hJ⟩;have PK:w<=0:=h4;clear h6 hJ;refine wk ?_;refine ax (pr++[x],po,[]++[x],bo,w,_) (UV _) ⟨IW.out,b1 _ _,b2 _ _,by simp only[UH,UB,UE];omega,h5,I7.out,by simp⟩ ?_ ⟨[],rfl⟩
   .exact aQ
  .have nz:0<acc.length:=by rw[Kt];simp
   have K7:acc.length=pre.length+1:=by rw[Kt];simp
   have nz':(0:Int)<(acc.length:Int):=by omega
   have w2:IntKind.wrap .i64 ((acc.length:Int)-1)=(pre.length:Int):=by rw[wrap_small (by omega) (by omega)];omega
   have lt2:pre.length<acc.length:=by omega
   have i2:=Ia (b:=bo) (e:=acc.length) (len:=acc.length) (j:=pre.length) (k := .i64) lt2;have gy:acc[pre.length]? = some y:=by rw[Kt];simp
   have g2:(spans acc)[pre.length]? = some [.int .i64 y.1,.int .i64 y.2]:=fI gy;have g3:(spans acc).getD pre.length [] = [.int .i64 y.1,.int .i64 y.2]:=by rw[Ve,g2];rfl
   have hb:acc.length<=1000000:=by omega
   by_cases hc:x.1<=y.2
   .rw[oI,if_pos hc]at h6;have hJ:Jn (Fj lS) (pre++[(y.1,max y.2 x.2)]) po := .snoc h6
    have hs:(spans acc).set pre.length [.int .i64 y.1,.int .i64 (max y.2 x.2)]=spans (pre++[(y.1,max y.2 x.2)]):=by
     have:[AV.int .i64 y.1,.int .i64 (max y.2 x.2)]=encE (y.1,max y.2 x.2):=rfl;rw[this,Aw,Kt];simp
    have I7:ac (Jn (Fj lS) (pre++[(y.1,max y.2 x.2)]) po):=⟨hJ⟩;have hmx:(if x.2 > y.2 then x.2 else y.2)=max y.2 x.2:=by split<;>omega
    have JG:ac (acc.length=pre.length+1):=⟨K7⟩;clear h6 hJ K7 Kt gy;refine wk ?_;refine ax (pr++[x],po,pre++[(y.1,max y.2 x.2)],bo,acc.length,_) (UV _) ⟨IW.out,b1 _ _,b2 _ _,?_,h5,I7.out,?_⟩ ?_ ⟨[],rfl⟩
    .simp only[UG,UB,UE,JG.out];omega
    .have:=JG.out;simp only[UG,UB,UE];omega
    ·((try simp only[bh,bJ,ah,an,UC,UD]);all_goals (first|rfl|(simp only[aH,aC,UI,JG.out];done)|(simp only[aH,aR,aC,UI,UG,UB,UE,UW,JG.out];first|done|rfl)))
   .rw[oI,if_neg hc]at h6;have hJ:Jn (Fj lS) (acc++[x]) po := .snoc (by rw[Kt];exact h6);have I7:ac (Jn (Fj lS) (acc++[x]) po):=⟨hJ⟩;have c1:(acc.length+1)*16<=140737488355328:=by omega
    have c2:acc.length+1<=140737488355328:=by omega
    have hs:spans acc++[[.int .i64 x.1,.int .i64 x.2]]=spans (acc++[x]):=by rw[uu];rfl
    clear h6 hJ K7 Kt gy;refine wk ?_;refine ax (pr++[x],po,acc++[x],bo,w,_) (UV _) ⟨IW.out,b1 _ _,b2 _ _,?_,h5,I7.out,?_⟩ ?_ ⟨[],rfl⟩
    .simp only[UG,UB,UE];omega
    .simp only[UG,UB,UE];omega
    .exact aQ
end
section
variable {S:ab}{b:Nat}{x:dY}
attribute [local irreducible] bB cX cZ aB bS dE
attribute [local go_sem] U1 Vj List.replicate UC Vp Nat.reduceMul Vg bi eF d9 bP bt ci bN cM ba aY aS aM aX and_self spans_len
set_option maxRecDepth 20000
theorem at_app(h:S[b]? = some x):∀X,(S++X)[b]? = some x:=fun X=>by
 rw[UN (UK.1 h).1];exact h
theorem set_app(h:S[b]? = some x):∀X y,(S++X).set b y=S.set b y++X:=fun X y=>by
 rw[WA _ _ (UK.1 h).1]
theorem at_set(h:S[b]? = some x):∀y X,(S.set b y++X)[b]? = some y:=fun y X=>by
 have hl:=(UK.1 h).1;rw[UN (by simpa using hl),Wn hl]
def fM{c:Nat}(h:S[c]? = some x)(I8:b≠c):∀y X,(S.set b y++X)[c]? = some x:=fun y X=>by
 have hl:=(UK.1 h).1;rw[UN (by simpa using hl),VF I8,h]
def Fq(a b:Int):(if b > a then b else a)=max a b:=by split<;>omega
attribute [local go_sem] Fq
def Fl(a b:Int):(if b<a then b else a)=min a b:=by split<;>omega
attribute [local go_sem] Fl
def pC{n:Nat}(h:n<=8000000):(n+1)*16<=140737488355328/\n+1<=140737488355328:=by omega
def fV(l:List El)(x:El):spans l++[[.int .i64 x.1,.int .i64 x.2]]=spans (l++[x]):=by rw[uu];rfl
theorem bothE(v w:AV)(a b:List El)(hv:bq 2 (spans a) v)(hw:bq 2 (spans b) w)(ha:a.length<=1000000)(hb:b.length<=1000000)(K7:(jw a).length<=1000000)(JV:(jw b).length<=1000000):aB CX 207 [v,w] (· = .osl 2 (spans (Ba a b))):=by
 have q1:=(Bt v a hv ha).rw;have q2:=(Bt w b hw hb).rw;have s1:=hv.snap;have s2:=hw.snap;unfold Ba;obtain⟨sa,hsa⟩:∃s,jw a=s:=⟨_,rfl⟩;obtain⟨sb,N7⟩:∃s,jw b=s:=⟨_,rfl⟩;rw[hsa]at q1 K7 ⊢;rw[N7]at q2 JV ⊢;refine aL fx207 ?_;simp only[UB,UE,UF,UH,Nat.reduceAdd,Nat.reduceSub,List.replicate];refine Cy ?_;clear q1 q2 s1 s2 hsa N7 hv hw
 refine aJ [8,13,14,15,16,17,18,19,20,21,22,23,24,25,26,27,28,29,30,31,32,33,34,35,36,37,38,39,40,41,42,43,44,45,46,47,48,49,50,51,52,53,54,55,56,57,58,59,60,61,62,63,64,65,66,67,68,69] (fun p:List El×List El×List El×List El×List El×Nat×Nat×ab=>[(5,.sl p.2.2.2.2.2.1 p.2.2.2.2.1.length 0 p.2.2.2.2.1.length 2),(6,.int .i64 p.1.length),(7,.int .i64 p.2.2.1.length)]) (fun p _=>p.2.2.2.2.2.2.2)
  (fun p=>sa=p.1++p.2.1/\sb=p.2.2.1++p.2.2.2.1/\p.2.2.2.2.2.2.2[1]? = some (.arr (spans sa) 2 0 true)/\p.2.2.2.2.2.2.2[2]? = some (.arr (spans sb) 2 0 true)/\p.2.2.2.2.2.2.2[p.2.2.2.2.2.1]? = some (.arr (spans p.2.2.2.2.1) 2 p.2.2.2.2.2.2.1 true)/\p.2.2.2.2.2.2.1<=p.2.2.2.2.1.length/\2<p.2.2.2.2.2.1/\p.2.2.2.2.1++eb p.2.1 p.2.2.2.1=eb sa sb/\p.2.2.2.2.1.length<=p.1.length+p.2.2.1.length)
  (fun p=>p.2.1.length+p.2.2.2.1.length) ([],sa,[],sb,[],3,0,_) ⟨rfl,rfl,rfl,rfl,rfl,UJ _,UV 2,rfl,UJ _⟩ ?_ ⟨[],rfl⟩ ?_
 .rfl
 rintro⟨pa,qa,pb,qb,acc,bo,w0,S⟩ g G ⟨h1,h2,h3,h4,h5,h6,h7,h8,h9⟩;simp only at h1 h2 h3 h4 h5 h6 h7 h8 h9;simp only[aj,aq,ah,an,UC,UD];cases qa with
 | nil=>
  have e:(sa.length:Int)=(pa.length:Int):=by rw[h1,UM]
  have hh:ac (acc=eb sa sb):=⟨by rw[<-h8,eb,UM]⟩;clear h1 h2 h8;refine wk ?_;simp only[go_sem,h5,h6];rw[hh.out];try rfl
 | cons x qa=>
 have lta:(pa.length:Int)<(sa.length:Int):=by rw[h1];simp;omega
 cases qb with
 | nil=>
  have e:(sb.length:Int)=(pb.length:Int):=by rw[h2,UM]
  have hh:ac (acc=eb sa sb):=⟨by rw[<-h8,eb,UM]⟩;clear h1 h2 h8;refine wk ?_;simp only[go_sem,h5,h6];rw[hh.out];try rfl
 | cons y qb=>
 have ltb:(pb.length:Int)<(sb.length:Int):=by rw[h2];simp;omega
 have i1:=Ia (b:=1) (e:=sa.length) (len:=sa.length) (j:=pa.length) (k := .i64) (by omega);have i2:=Ia (b:=2) (e:=sb.length) (len:=sb.length) (j:=pb.length) (k := .i64) (by omega);have g1:(spans sa)[pa.length]? = some [.int .i64 x.1,.int .i64 x.2]:=fI (by rw[h1];simp);have g2:(spans sb)[pb.length]? = some [.int .i64 y.1,.int .i64 y.2]:=fI (by rw[h2];simp);have PO:pa.length<sa.length:=by omega
 have ltb':pb.length<sb.length:=by omega
 have w1:=am (n:=pa.length) (by omega);have w2:=am (n:=pb.length) (by omega);have a3:=at_app h3;have a4:=at_app h4;have a5:=at_app h5;have a6:=set_app h5;have b3:=fM h3 (b:=bo) (by omega);have b4:=fM h4 (b:=bo) (by omega);have b5:=at_set h5;have so:=pC (n:=acc.length) (by omega);have IW:ac (sa=(pa++[x])++qa):=⟨by rw[h1];simp⟩;have I7:ac (sb=(pb++[y])++qb):=⟨by rw[h2];simp⟩;have JG:ac (sa=pa++x::qa):=⟨h1⟩;have M7:ac (sb=pb++y::qb):=⟨h2⟩
 have Mh:acc++((if (aK x y).1<(aK x y).2 then [aK x y] else [])++(if x.2<y.2 then eb qa (y::qb) else eb (x::qa) qb))=eb sa sb:=by
  rw[<-h8];conv=>rhs;rw[eb]
 clear h1 h2 h8;by_cases hc:max x.1 y.1<min x.2 y.2
 .have hs:=fV acc (aK x y);simp only[aK]at hs;rw[if_pos (show (aK x y).1<(aK x y).2 from hc)]at Mh;by_cases ht:x.2<y.2
  .rw[if_pos ht]at Mh;have hh:ac (acc++[aK x y]++eb qa (y::qb)=eb sa sb):=⟨by rw[<-Mh,UX]⟩;clear Mh;refine wk ?_;refine ax (pa++[x],qa,pb,y::qb,acc++[aK x y],bo,w0,_) (by simp only[UB];omega) ⟨IW.out,M7.out,b3 _ _,b4 _ _,b5 _ _,?_,h7,hh.out,?_⟩ ?_ ⟨[],rfl⟩
   .simp only[UG,UB,UE];omega
   .simp only[UG,UB,UE];omega
   .exact aQ
  .rw[if_neg ht]at Mh;have hh:ac (acc++[aK x y]++eb (x::qa) qb=eb sa sb):=⟨by rw[<-Mh,UX]⟩;clear Mh;refine wk ?_;refine ax (pa,x::qa,pb++[y],qb,acc++[aK x y],bo,w0,_) (by simp only[UB];omega) ⟨JG.out,I7.out,b3 _ _,b4 _ _,b5 _ _,?_,h7,hh.out,?_⟩ ?_ ⟨[],rfl⟩
   .simp only[UG,UB,UE];omega
   .simp only[UG,UB,UE];omega
   .exact aQ
 .rw[if_neg (show ¬(aK x y).1<(aK x y).2 from hc)]at Mh;by_cases ht:x.2<y.2
  .rw[if_pos ht]at Mh;have hh:ac (acc++eb qa (y::qb)=eb sa sb):=⟨by rw[<-Mh,UH]⟩;clear Mh;refine wk ?_;refine ax (pa++[x],qa,pb,y::qb,acc,bo,w0,_) (by simp only[UB];omega) ⟨IW.out,M7.out,a3 _,a4 _,a5 _,?_,h7,hh.out,?_⟩ ?_ ⟨[],rfl⟩
   .simp only[UG,UB,UE];omega
   .simp only[UG,UB,UE];omega
   .exact aQ
  .rw[if_neg ht]at Mh;have hh:ac (acc++eb (x::qa) qb=eb sa sb):=⟨by rw[<-Mh,UH]⟩;clear Mh;refine wk ?_;refine ax (pa,x::qa,pb++[y],qb,acc,bo,w0,_) (by simp only[UB];omega) ⟨JG.out,I7.out,a3 _,a4 _,a5 _,?_,h7,hh.out,?_⟩ ?_ ⟨[],rfl⟩
   .simp only[UG,UB,UE];omega
   .simp only[UG,UB,UE];omega
   .exact aQ
end
section
attribute [local irreducible] bB cX cZ aB bS dE
attribute [local go_sem] U1 Vj List.replicate UC Vp Nat.reduceMul Vg bi eF d9 bP bt ci bN cM ba aY aS aM aX and_self spans_len
set_option maxRecDepth 20000
theorem at_new{S X:ab}{b:Nat}{y:dY}:(S.set b y++X)[S.length]? = X[0]? := by
 have:=bZ (G:=S.set b y) (l:=X);rwa [WV]at this
attribute [local go_sem] at_new
def Cg{S X:ab}{b k:Nat}{y:dY}:(S.set b y++X)[S.length+k]? = X[k]? := by
 have:=cr (G:=S.set b y) (l:=X) (k:=k);rwa [WV]at this
attribute [local go_sem] Cg
theorem pQ:∀(l b a:List El) (s:El),(jz b a s l).length<=b.length+a.length+1+l.length
 | [],b,a,s=>by simp[jz];omega
 | x::l,b,a,s=>by
  unfold jz;split
  .have:=pQ l (b++[x]) a s;simp only[UG,UB,UE]at this ⊢;omega
  .split
   .have:=pQ l b (a++[x]) s;simp only[UG,UB,UE]at this ⊢;omega
   .have:=pQ l b a (min s.1 x.1,max s.2 x.2);simp only[UB]at this ⊢;omega
def DA(l:List El)(s:El):(lY l s).length<=l.length+1:=by have:=pQ l [] [] s;simp only[UE]at this;unfold lY;omega
theorem Ar:∀(l out:List El),(l.foldl (fun out x=>if dX x=true then lY out x else out) out).length<=out.length+l.length
 | [],out=>by simp
 | x::l,out=>by
  rw[VD,UB];have h1:=Ar l (if dX x=true then lY out x else out);have h2:(if dX x=true then lY out x else out).length<=out.length+1:=by split;exact DA _ _;omega
  omega
def ou(l:List El):(jw l).length<=l.length:=by have:=Ar l [];rw[UE,UW]at this;exact this
theorem tj:∀(l:List El) (a:Int),(iu a l).length=l.length+1
 | [],_=>rfl
 | _::l,_=>by rw[iu,UB,tj l,UB]
theorem minusE(v w:AV)(a b:List El)(hv:bq 2 (spans a) v)(hw:bq 2 (spans b) w)(ha:a.length<=900000)(hb:b.length<=900000):aB CX 170 [v,w] (· = .osl 2 (spans (lT a b))):=by
 have q1:=(Bt w b hw (by omega)).rw;have s1:=hv.snap;have s2:=hw.snap;have JV:=ou b;have K7:=ou a;unfold lT;obtain⟨sb,N7⟩:∃s,jw b=s:=⟨_,rfl⟩;rw[N7]at q1 JV ⊢;have q2:=(bothE v (.tsl false 2 (spans (iu 0 sb))) a (iu 0 sb) hv (.rows false) (by omega) (by rw[tj];omega) (by omega) (by have:=ou (iu 0 sb);rw[tj]at this;omega)).rw;have Kr:=tj sb 0;obtain⟨gl,To⟩:∃g,iu 0 sb=g:=⟨_,rfl⟩;rw[To]at q2 Kr ⊢;refine aL fx170 ?_;refine Cy ?_
 refine aJ [8,13,14,15,16,17,18,19,20,21,22,23,24,25] (fun p:List El×List El×List El×Int×Nat×Nat×ab=>[(5,.sl p.2.2.2.2.1 p.2.2.1.length 0 p.2.2.1.length 2),(6,.int .i64 p.2.2.2.1),(12,.int .i64 p.1.length)]) (fun p _=>p.2.2.2.2.2.2)
  (fun p=>sb=p.1++p.2.1/\p.2.2.2.2.2.2[2]? = some (.arr (spans sb) 2 0 true)/\p.2.2.2.2.2.2[p.2.2.2.2.1]? = some (.arr (spans p.2.2.1) 2 p.2.2.2.2.2.1 true)/\p.2.2.2.2.2.1<=p.2.2.1.length/\p.2.2.2.2.1≠2/\p.2.2.1++iu p.2.2.2.1 p.2.1=gl/\p.2.2.1.length=p.1.length)
  (fun p=>p.2.1.length) ([],sb,[],0,1,0,_) ⟨rfl,rfl,rfl,UJ _,by simp,To,rfl⟩ ?_ ⟨[],rfl⟩ ?_
 .rfl
 clear q1 To;rintro⟨pre,po,acc,at_,bo,w0,S⟩ g G ⟨h1,h2,h3,h4,h5,h6,h7⟩;simp only at h1 h2 h3 h4 h5 h6 h7;have a5:=at_app h3;have a6:=set_app h3;have b5:=at_set h3;simp only[aj,aq,ah,an,UC,UD];cases po with
 | nil=>
  have e:(sb.length:Int)=(pre.length:Int):=by rw[h1,UM]
  have e0:sb.length=pre.length:=by rw[h1,UM]
  have so:=pC (n:=acc.length) (by omega)
  have hs:spans acc++[[.int .i64 at_,.int .i64 86400000]]=spans gl:=by
   have:=fV acc (at_,86400000);rw[<-h6];exact this
  have hgl2:acc.length+1=gl.length:=by omega
  have hgl3:(spans gl).take gl.length=spans gl:=by rw[<-spans_len gl];exact Vn
  have PK:w0<=gl.length:=by omega
  have so2:gl.length*16<=140737488355328/\gl.length<=140737488355328:=by omega
  clear h1 h6 Kr h7;exact wf
 | cons x po=>
  have lta:(pre.length:Int)<(sb.length:Int):=by rw[h1];simp;omega
  have PO:pre.length<sb.length:=by omega
  have i1:=Ia (b:=2) (e:=sb.length) (len:=sb.length) (j:=pre.length) (k := .i64) (by omega);have g1:(spans sb)[pre.length]? = some [.int .i64 x.1,.int .i64 x.2]:=fI (by rw[h1];simp);have w1:=am (n:=pre.length) (by omega);have a3:=at_app h2;have b3:=fM h2 h5;have so:=pC (n:=acc.length) (by omega);have hs:spans acc++[[.int .i64 at_,.int .i64 x.1]]=spans (acc++[(at_,x.1)]):=fV acc (at_,x.1);have IW:ac (sb=(pre++[x])++po):=⟨by rw[h1];simp⟩;have I7:ac (acc++[(at_,x.1)]++iu x.2 po=gl):=⟨by rw[<-h6,iu,UX];rfl⟩;have JG:ac (acc.length=pre.length):=⟨h7⟩;clear h1 h6 h7;refine wk ?_;refine ax (pre++[x],po,acc++[(at_,x.1)],x.2,bo,w0,_) (by simp only[UB];omega) ⟨IW.out,b3 _ _,b5 _ _,?_,h5,I7.out,?_⟩ ?_ ⟨[],rfl⟩
  .simp only[UG,UB,UE];omega
  .simp only[UG,JG.out,UB,UE]
  .exact aQ
def cov1E(x s:El)(st:Bool):aB CX 180 [.agg (encE x),.tptr st (encE s) 0] (· = .bool (decide (x.1<=s.1) && decide (s.2<=x.2))):=by
 obtain⟨a,b⟩:=x;obtain⟨c,d⟩:=s;refine aL fx180 ?_;simp only[UB,UE,UF,UH,Nat.reduceAdd,Nat.reduceSub,List.replicate];repeat' (first|refine dn ?_|refine ad rfl ?_|(refine dI fun A B a b=>?_;simp only[go_sem, *,encE];(repeat' first|apply a.1|apply b.1|refine aV (fun h=>?_) fun h=>?_)<;>clear a b A B))
 all_goals simp only[go_sem]
 all_goals simp[*]
theorem Db(p:El->Bool):∀(l:List El) (k:Nat),decide (0<=wN p l k)=l.any p
 | [],k=>rfl
 | x::l,k=>by
  rw[wN,V4];by_cases h:p x=true
  .rw[if_pos h,h];simp
  .rw[if_neg h,Db p l];simp[h]
def FU(v:AV)(l:List El)(clo:FuncId)(caps:List AV)(p:El->Bool)(hb:CX.byRef clo=false)(hs:∀S,dU S caps=some caps)(hp:∀x,aB CX clo (.agg (encE x)::caps) (· = .bool (p x)))(hv:bq 2 (l.map encE) v)(hl:l.length<9223372036854775807)(hn:CX.nest clo=false:=by rfl) :
  aB CX 178 [v,.fn clo caps] (· = .bool (l.any p)):=by
 have q:=(indexFE v l clo caps p hb hs hp hv hl hn).rw;have e:=Db p l 0;refine aL fx178 ?_;exact fm hv.snap
def coversE(v:AV)(l:List El)(s:El)(hv:bq 2 (spans l) v)(hl:l.length<=1000000):aB CX 131 [v,.agg (encE s)] (· = .bool (oa l s)):=by
 have q1:=(Bt v l hv hl).rw;have q2:=(rightE s).rw;have s1:=hv.snap;have Ly:=ou l;unfold oa;obtain⟨su,hsu⟩:∃s,jw l=s:=⟨_,rfl⟩;rw[hsu]at q1 Ly ⊢;have hs:∀S,dU S [.tptr false (encE s) 0]=some [.tptr false (encE s) 0]:=fun S=>by simp[dU,snap]
 have q3:=(FU (.tsl false 2 (spans su)) su 180 [.tptr false (encE s) 0] _ rfl hs (fun x=>cov1E x s false) (.rows false) (by omega)).rw;obtain⟨a,b⟩:=s;simp only[encE]at q1 q2 q3 hs ⊢
 have KQ:∀(C:ab),snap (.arr [[.int .i64 a,.int .i64 b]] 2 0 true::C) (.ptr 0 1 2 0 0)=some (.tptr false [.int .i64 a,.int .i64 b] 0):=fun C=>by
  simp[snap,g9,jP,AV.clean]
 have e1:(spans su).take su.length=spans su:=by rw[<-spans_len su];exact Vn
 by_cases hr:dX (a,b)=true
 .rw[hr]at q2 ⊢;refine aL fx131 ?_;exact wf
 .have JT:dX (a,b)=false:=by simpa using hr
  rw[JT]at q2 ⊢;clear hr JT;refine aL fx131 ?_;exact wf
end
section
attribute [local irreducible] bB cX cZ aB bS dE
attribute [local go_sem] U1 Vj List.replicate UC Vp Nat.reduceMul Vg eF d9 bP bt ci bN cM ba aY aS aM aX and_self Wj spans_len Fq Fl
set_option maxRecDepth 20000
def rightR(x:El):aB CX 118 [.agg (encE x)] (· = .bool (dX x)):=by
 obtain⟨a,b⟩:=x;refine aL fx118 ?_;simp only[UB,UE,UF,UH,Nat.reduceAdd,Nat.reduceSub,List.replicate];repeat' (first|refine dn ?_|refine ad rfl ?_|(refine dI fun A B a b=>?_;simp only[go_sem, *,encE];(repeat' first|apply a.1|apply b.1|refine aV (fun h=>?_) fun h=>?_)<;>clear a b A B))
 all_goals simp only[go_sem]
 all_goals simp[dX, *]
def CL{n m:Nat}(h:n+m<=8000000):(n+m)*16<=140737488355328/\n+m<=140737488355328:=by omega
theorem insertR(v:AV)(l:List El)(s:El)(hv:bq 2 (spans l) v)(hl:l.length<=2000000):aB CX 183 [v,.agg (encE s)] (· = .osl 2 (spans (lY l s))):=by
 unfold lY;obtain⟨R,hR⟩:∃R,jz [] [] s l=R:=⟨_,rfl⟩;rw[hR];obtain⟨s1,s2⟩:=s;simp only[encE];refine aL fx183 ?_;refine Cy ?_
 refine aJ [10,11,12,13,14,15,16,17,18,19,20,21,22,23,24,25,26,27,28,29,30,31,32,33,34,35,36,37,38,39,40,41,42,43,44,45,46,47,48,49,50,51,52,53,54,55,56,57,58,59,60,61,62] (fun p:List El×List El×List El×List El×El×Nat×Nat×Nat×ab=>[(5,.sl 2 p.2.2.1.length 0 p.2.2.1.length 2),(6,.sl 3 p.2.2.2.1.length 0 p.2.2.2.1.length 2),(7,.int .i64 p.1.length)]) (fun p _=>p.2.2.2.2.2.2.2.2)
  (fun p=>l=p.1++p.2.1/\p.2.2.2.2.2.2.2.2[0]? = some (.arr [[.int .i64 p.2.2.2.2.1.1,.int .i64 p.2.2.2.2.1.2]] 2 p.2.2.2.2.2.1 true)/\p.2.2.2.2.2.2.2.2[2]? = some (.arr (spans p.2.2.1) 2 p.2.2.2.2.2.2.1 true)/\p.2.2.2.2.2.2.2.2[3]? = some (.arr (spans p.2.2.2.1) 2 p.2.2.2.2.2.2.2.1 true) /\
   p.2.2.2.2.2.1<=1/\p.2.2.2.2.2.2.1<=p.2.2.1.length/\p.2.2.2.2.2.2.2.1<=p.2.2.2.1.length/\jz p.2.2.1 p.2.2.2.1 p.2.2.2.2.1 p.2.1=R/\p.2.2.1.length+p.2.2.2.1.length<=p.1.length)
  (fun p=>p.2.1.length) ([],l,[],[],(s1,s2),0,0,0,_) ⟨rfl,rfl,rfl,rfl,by simp,by simp,by simp,hR,by simp⟩ ?_ ⟨[],rfl⟩ ?_
 .rfl
 clear hR;rintro⟨pre,po,bf,af,⟨s1,s2⟩,w0,w1,w2,S⟩ g G ⟨h1,h2,h3,h4,h5,h6,h7,h8,h9⟩;simp only at h1 h2 h3 h4 h5 h6 h7 h8 h9;have a2:=at_app h2;have a3:=at_app h3;have a4:=at_app h4;have c2:=set_app h2;have c3:=set_app h3;have c4:=set_app h4;have so1:=pC (n:=bf.length) (by(have:pre.length<=l.length:=by rw[h1];simp);omega);have so2:=pC (n:=af.length) (by(have:pre.length<=l.length:=by rw[h1];simp);omega);simp only[aj,aq,ah,an,UC,UD];cases po with
 | nil=>
  have e:(l.length:Int)=(pre.length:Int):=by rw[h1,UM]
  have e0:l.length=pre.length:=by rw[h1,UM]
  have hh:ac (bf++(s1,s2)::af=R):=⟨h8⟩;have hs:=fV bf (s1,s2);simp only at hs;clear h1 h8;have d3:=at_set h3;have d4:=fM h4 (b:=2) (by decide)
  have d5:∀x y X,(S.set 2 x++X).set 2 y=S.set 2 y++X:=fun x y X=>by
   rw[WA _ _ (by simpa using(UK.1 h3).1),List.set_set]
  have so3:=CL (n:=bf.length+1) (m:=af.length) (by omega);have ta:(spans af).take af.length=spans af:=by rw[<-spans_len af];exact Vn
  have ws1:w1<=bf.length+1:=by omega
  have KQ:spans (bf++[(s1,s2)])++spans af=spans (bf++(s1,s2)::af):=by rw[<-uu];simp
  have NF:af = []->bf++[(s1,s2)]=bf++(s1,s2)::af:=fun e=>by rw[e]
  have hl5:(bf++(s1,s2)::af).length=bf.length+1+af.length:=by simp;omega
  by_cases haf:af.length=0
  .have TS:af = []:=UO haf;subst TS;clear NF KQ hl5 ta so2 so3 haf;have sn:spans [] = []:=rfl;have h7':w2<=0:=h7;refine b8 (lk hv) ?_;simp only[go_sem,d3];rw[<-hh.out];simp;omega
  .clear NF;refine b8 (lk hv) ?_;simp only[go_sem,d3,hl5];rw[<-hh.out];simp;omega
 | cons x po=>
 have lta:(pre.length:Int)<(l.length:Int):=by rw[h1];simp;omega
 have PO:pre.length<l.length:=by omega
 have i1:=ay hv (X:=CX) ty102 ty51 rfl (n:=pre.length) (row:=[.int .i64 x.1,.int .i64 x.2]) (fI (by rw[h1];simp)) (k := .i64);have n1:=am (n:=pre.length) (by omega);have IW:ac (l=(pre++[x])++po):=⟨by rw[h1];simp⟩;have Tl:ac (bf.length+af.length<=pre.length):=⟨h9⟩;rw[jz]at h8;clear h1 h9;by_cases hc:x.2<s1
 .rw[if_pos hc]at h8;have I7:ac (jz (bf++[x]) af (s1,s2) po=R):=⟨h8⟩;have hs:=fV bf x;have b2:=fM h2 (b:=2) (by decide);have b3:=at_set h3;have b4:=fM h4 (b:=2) (by decide);clear h8;refine b8 (lk hv) ?_;refine ax (pre++[x],po,bf++[x],af,(s1,s2),w0,w1,w2,_) (by simp only[UB];omega) ⟨IW.out,b2 _ _,b3 _ _,b4 _ _,h5,?_,h7,I7.out,?_⟩ ?_ ⟨[],rfl⟩
  .simp only[UG,UB,UE];omega
  .have:=Tl.out;simp only[UG,UB,UE];omega
  .exact aQ
 rw[if_neg hc]at h8;by_cases hd:s2<x.1
 .rw[if_pos hd]at h8;have I7:ac (jz bf (af++[x]) (s1,s2) po=R):=⟨h8⟩;have hs:=fV af x;have b2:=fM h2 (b:=3) (by decide);have b3:=fM h3 (b:=3) (by decide);have b4:=at_set h4;clear h8;refine b8 (lk hv) ?_;refine ax (pre++[x],po,bf,af++[x],(s1,s2),w0,w1,w2,_) (by simp only[UB];omega) ⟨IW.out,b2 _ _,b3 _ _,b4 _ _,h5,h6,?_,I7.out,?_⟩ ?_ ⟨[],rfl⟩
  .simp only[UG,UB,UE];omega
  .have:=Tl.out;simp only[UG,UB,UE];omega
  .exact aQ
 .rw[if_neg hd]at h8;have I7:ac (jz bf af (min s1 x.1,max s2 x.2) po=R):=⟨h8⟩;have b2:∀y,(S.set 0 y)[0]? = some y:=fun y=>by have:=at_set h2 y [];rwa [UM]at this
  have b3:∀y,(S.set 0 y)[2]? = some (.arr (spans bf) 2 w1 true):=fun y=>by have:=fM h3 (b:=0) (by decide) y [];rwa [UM]at this
  have b4:∀y,(S.set 0 y)[3]? = some (.arr (spans af) 2 w2 true):=fun y=>by have:=fM h4 (b:=0) (by decide) y [];rwa [UM]at this
  clear h8;refine b8 (lk hv) ?_;refine ax (pre++[x],po,bf,af,(min s1 x.1,max s2 x.2),1,w1,w2,_) (by simp only[UB];omega) ⟨IW.out,b2 _,b3 _,b4 _,UJ _,h6,h7,I7.out,?_⟩ ?_ ⟨[],rfl⟩
  .have:=Tl.out;simp only[UG,UB,UE];omega
  .exact aQ
theorem unionR(v:AV)(l:List El)(hv:bq 2 (spans l) v)(hl:l.length<=1000000):aB CX 136 [v] (· = .osl 2 (spans (jw l))):=by
 unfold jw;obtain⟨R,hR⟩:∃R,l.foldl (fun out x=>if dX x=true then lY out x else out) []=R:=⟨_,rfl⟩;rw[hR];refine aL fx136 ?_;refine Cy ?_
 refine aJ [6,7,8,9,10,11,12,13,14,15,16,17,18,19,20,21,22] (fun p:List El×List El×List El×Nat×ab=>[(3,.sl p.2.2.2.1 p.2.2.1.length 0 p.2.2.1.length 2),(4,.int .i64 p.1.length)]) (fun p _=>p.2.2.2.2)
  (fun p=>l=p.1++p.2.1/\p.2.2.2.2[p.2.2.2.1]? = some (.arr (spans p.2.2.1) 2 0 true)/\p.2.1.foldl (fun out x=>if dX x=true then lY out x else out) p.2.2.1=R/\p.2.2.1.length<=p.1.length)
  (fun p=>p.2.1.length) ([],l,[],1,_) ⟨rfl,rfl,hR,by simp⟩ ?_ ⟨[],rfl⟩ ?_
 .rfl
 clear hR;rintro⟨pre,po,out,b,S⟩ g G ⟨h1,h2,h3,h4⟩;simp only at h1 h2 h3 h4;simp only[aj,aq,ah,an,UC,UD];cases po with
 | nil=>
  have e:(l.length:Int)=(pre.length:Int):=by rw[h1,UM]
  have hh:ac (out=R):=⟨h3⟩;clear h1 h3;refine b8 (lk hv) ?_;simp only[go_sem,h2];rw[hh.out];try rfl
 | cons x po=>
  have lta:(pre.length:Int)<(l.length:Int):=by rw[h1];simp;omega
  have i1:=ay hv (X:=CX) ty102 ty51 rfl (n:=pre.length) (row:=[.int .i64 x.1,.int .i64 x.2]) (fI (by rw[h1];simp)) (k := .i64);have n1:=am (n:=pre.length) (by omega);have IW:ac (l=(pre++[x])++po):=⟨by rw[h1];simp⟩;have a2:=at_app h2;have q1:=(rightR x).rw;have q2:=(insertR (.tsl false 2 (spans out)) out x (.rows false) (by omega)).rw;have il:=DA out x;have tko:(spans out).take out.length=spans out:=by rw[<-spans_len out];exact Vn
  rw[VD]at h3;simp only[encE]at q1 q2;clear h1;by_cases hr:dX x=true
  .rw[if_pos hr]at h3;rw[hr]at q1;have I7:ac (po.foldl (fun out x=>if dX x=true then lY out x else out) (lY out x)=R):=⟨h3⟩;clear h3 hr;refine b8 (lk hv) ?_;refine ax (pre++[x],po,lY out x,S.length,_) (by simp only[UB];omega) ⟨IW.out,by simp only;rw[bZ];rfl,I7.out,?_⟩ ?_ ⟨[],rfl⟩
   ·(try simp only[aH]);omega
   .exact aQ
  .have JT:dX x=false:=by simpa using hr
   rw[if_neg hr]at h3;rw[JT]at q1;have I7:ac (po.foldl (fun out x=>if dX x=true then lY out x else out) out=R):=⟨h3⟩;clear h3 hr JT;refine b8 (lk hv) ?_;refine ax (pre++[x],po,out,b,_) (by simp only[UB];omega) ⟨IW.out,h2,I7.out,?_⟩ ?_ ⟨[],rfl⟩
   ·(try simp only[aH]);omega
   .exact aQ
end
end Go.Eng.Fo
