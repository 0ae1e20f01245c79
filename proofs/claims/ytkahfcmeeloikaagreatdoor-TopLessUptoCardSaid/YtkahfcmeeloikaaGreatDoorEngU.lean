/- slices.Clone. -/
import Derived.Test.YtkahfcmeeloikaaGreatDoorEngQ
import Derived.Test.YtkahfcmeeloikaaGreatDoorEngT
set_option linter.all false
set_option maxHeartbeats 1000000
namespace Go.Eng
open Go.RowKit
variable [aw]
variable {P:Program}{S:ab}{X:dV}{f:FuncId}{fn:Func}{ie it:mN}{p1 p2 p3 p4:String}{y:AV}
def pY(t tb:TypeId)(p1 p2 p3 p4:String):Code :=
 .seq (.region 0 #[⟨some 2,.assign (.const (.slice none 0 0)),t,p1,#[],none⟩] false)
 (.seq (.seq (.region 1 #[⟨some 3,.move (.tmp 0),t,p2,#[],none⟩,⟨some 4,.binOp .eql t (.tmp 3) (.const (.slice none 0 0)) t,tb,p2,#[⟨0,.data⟩],none⟩] false)
  (.cond (.tmp 4) (.seq (.region 2 #[⟨some 2,.assign (.const (.slice none 0 0)),t,p3,#[],none⟩] false) .ret) .skip))
 (.seq (.region 3 #[⟨some 5,.buildSlice t 0 #[],t,p4,#[],none⟩,⟨some 6,.move (.tmp 0),t,p4,#[],none⟩,
   ⟨some 7,.call ⟨.builtin .append,#[.tmp 5,.tmp 6],#[t,t]⟩,t,p4,#[⟨0,.data⟩,⟨1,.data⟩],none⟩,
   ⟨some 2,.assign (.tmp 7),t,p4,#[⟨2,.data⟩,⟨2,.chain⟩,⟨0,.phase⟩,⟨1,.phase⟩,⟨2,.phase⟩],none⟩] false) .ret))
omit [aw] in
def qG{T:ab}{sz:Nat}{x:AV}{r:List (List AV)×Bool}(h:rowsOf S sz x=some r):rowsOf (S++T) sz x=some r:=by
 unfold rowsOf at h ⊢;split at h
 .exact h
 .rename_i b e off len Je;split at h
  .rename_i rows sz'' wep pr e1;simp only[UN (UK.1 e1).1,e1];exact h
  .cases h
 .exact h
 .exact h
 .exact h
 .cases h
omit [aw] in
def binA_nil{t:TypeId}:zE X .eql t y (.flat (.slice none 0 0))=(kW X t y (.flat (.slice none 0 0))).map .bool:=by
 cases y<;>rfl
attribute [local irreducible] bB cX cZ aB bS dE
omit [aw] in
theorem Iy(RU:∀p,X.frz p=false)(hde:∀f c,X.deco f c=c){t tb el:TypeId}(hp:X.prim f=none)(hf:X.fn f=some fn)(hb:fn.body=some (pY t tb p1 p2 p3 p4))(hn:fn.ntmps=8)(hr:fn.results=⟨[.tmp 2]⟩)
  (ht:X.ty t=some it) (hd:it.desc = .slice el) (he:X.ty el=some ie) (h0:0<ie.size) (hz:ie.zero.length=ie.size) (Ph:ie.bytes<=131072){rows:List (List AV)}{pr isn:Bool}
  (I9:rowsOf S ie.size y=some (rows,pr)) (IY:rows.length<=1073741824) (JS:kW X t y (.flat (.slice none 0 0))=some isn) (Jo:isn=true->rows = []) :
  bS X f [y] S fun r S'=>r = .sl (S.length+1) rows.length 0 rows.length ie.size/\S'=S++[.arr [] ie.size 0 true,.arr rows ie.size 0 (pr || rows.isEmpty)]:=by
 have TL:rows.length*ie.bytes<=140737488355328:=UQ (Nat.mul_le_mul IY Ph) (by decide);refine bS.walk hp hf hb hn hr ?_ (hde _ _);unfold pY;simp only[UB,UE,UF,UH,Nat.reduceAdd,Nat.reduceSub,List.replicate];refine gL (eU ?_);refine bK fun K hK=>?_;simp only[iV,dA ht hd,cM,he,U3,if_false,dD,UD,UC];refine hK.out _ _ (ig (eo ?_));refine gL (gL (eU ?_));refine bK fun K hK=>?_;simp only[iV,mn,bz,dD,UD,UC];refine hK.out _ _ ?_;refine bK fun K hK=>?_;simp only[iV,py,ky,bz,bH,pV,binA_nil,JS,Vf,im,dD,UD,UC];refine hK.out _ _ (ig (eo ?_));refine kB fun A B hA hB=>?_;simp only[ky,bz,bH,nD];cases isn with
 | true=>
  have K1:=Jo rfl;subst K1;simp only[if_true];refine hA.out (gL (eU ?_));refine bK fun K hK=>?_;simp only[iV,dA ht hd,cM,he,U3,if_false,dD,UD,UC];refine hK.out _ _ (ig (eo ?_));refine wV (xM (tF ?_));simp only[aO,aP,bg,aN,bz,bH,UG,UB,UE,UX,UF,UH,List.isEmpty_nil,Bool.or_true,and_self,UW]
 | false=>
  simp only[U3,if_false];refine hB.out (Cw (eo ?_));refine gL (eU ?_);refine bK fun K hK=>?_;rw[iV,bM ht hd (RU _),he]
  have TM:d9 (some it) (some ie) false (S++[dY.arr [] ie.size 0 true]).length 0 []=some (.sl (S.length+1) 0 0 0 ie.size,[.arr [] ie.size 0 true]):=by
   obtain⟨a1,a2,a3,a4,a5⟩:=it;simp only at hd;subst hd;simp[d9,hz,h0,ba]
  simp only[Wb,TM,kG,dD,UD,UC];refine hK.out _ _ ?_;refine bK fun K hK=>?_;simp only[iV,mn,bz,dD,UD,UC];refine hK.out _ _ ?_;refine bK fun K hK=>?_;have KR:rowsOf (S++[dY.arr [] ie.size 0 true]++[dY.arr [] ie.size 0 true]) ie.size y=some (rows,pr):=qG (qG I9);have Jq:(S++[dY.arr [] ie.size 0 true]++[dY.arr [] ie.size 0 true])[S.length+1]? = some (dY.arr [] ie.size 0 true):=by simp
  have Lh:(S++[dY.arr [] ie.size 0 true]++[dY.arr [] ie.size 0 true]).set (S.length+1) (dY.arr rows ie.size 0 pr)=S++[dY.arr [] ie.size 0 true,dY.arr rows ie.size 0 pr]:=by simp[List.set_append]
  rw[iV,du ht hd,he];simp only[ky,bz,bH,eF,decide_true,h0,hz,and_self,if_true,KR,Jq,VM,U3,if_false,UE,UW,TL,true_and,and_true,UJ,UH,VB,Lh];rw[if_pos (by omega)];by_cases K1:rows.length=0
  .have KD:=V0.1 K1;subst KD;simp only[UE,if_true,dD,UD,UC];refine hK.out _ _ ?_;refine bK fun K hK=>?_;simp only[iV,ju,bz,bH,dD,UD,UC];refine hK.out _ _ (ig (eo ?_));refine wV (tF ?_);simp only[aO,aP,bg,aN,bz,bH,UX,UF,UH,List.isEmpty_nil,Bool.or_true,UE,and_self]
  .have I8:rows.isEmpty=false:=by cases rows with
    | nil=>simp at K1
    | cons a l=>rfl
   rw[if_neg K1];simp only[dD,UD,UC];refine hK.out _ _ ?_;refine bK fun K hK=>?_;simp only[iV,ju,bz,bH,dD,UD,UC];refine hK.out _ _ (ig (eo ?_));refine wV (tF ?_);simp only[aO,aP,bg,aN,bz,bH,I8,Bool.or_false,and_self]
theorem wM(hX:eC P X){t tb el:TypeId}(hf:P.funcs[f]? = some fn)(JX:(fn.name == "runtime.NumGoroutine")=false)(hb:fn.body=some (pY t tb p1 p2 p3 p4))(hn:fn.ntmps=8)(hr:fn.results=⟨[.tmp 2]⟩)
  (ht:X.ty t=some it) (hd:it.desc = .slice el) (he:X.ty el=some ie) (h0:0<ie.size) (hz:ie.zero.length=ie.size) (Ph:ie.bytes<=131072)
  (Sz:jg { X with prim:=fun _=>none,fn:=fun g=>if g=f then some fn else none,frz:=fun _=>false,deco:=fun _ c=>c } (pY t tb p1 p2 p3 p4)=true):bQ P f (jh ie.size):=by
 refine⟨⟨fn,hf,JX,by rw[hb];rfl⟩,?_⟩;intro args S r S' hp base T B I w vs hrel I3;have hX0:eC P { X with prim:=fun _=>none,fn:=fun g=>if g=f then some fn else none,frz:=fun _=>false,deco:=fun _ c=>c }:=⟨hX.mixed,hX.ty,hX.eqT,hX.meth,hX.keyT,hX.glob⟩
 have hF0:mP P { X with prim:=fun _=>none,fn:=fun g=>if g=f then some fn else none,frz:=fun _=>false,deco:=fun _ c=>c }:=by
  refine⟨fun g fn' h=>?_,fun g p h=>(by cases h),fun _ c=>⟨[],(gR c).symm⟩⟩;simp only at h;split at h
  .rename_i hg;subst hg;injection h with h;subst h;exact⟨hf,JX,fun c hc=>by rw[hb]at hc;injection hc with hc;subst hc;exact Sz⟩
  .cases h
 unfold jh at hp;split at hp
 .rename_i x;split at hp
  .rename_i rows pr e1;split at hp
   .rename_i IY;injection hp with hp;injection hp with q1 q2;simp only[ae]at I3;obtain⟨u,us,rfl,hu,rfl⟩:=I3;obtain⟨ao,aK,rfl,g1,g2,g3,g4⟩:=dO hrel (S:=S) (fun b blk h=>Holds.of h) e1 hu
    have fin:∀(y:AV) (pr' isn:Bool),ap w y T B I (.slice ao rows.length aK)->rowsOf S ie.size y=some (rows,pr')->(pr' || rows.isEmpty)=(pr || rows.isEmpty)->kW X t y (.flat (.slice none 0 0))=some isn->(isn=true->rows = []) ->
      Calls P f [Value.slice ao rows.length aK].toArray w fun e w'=> ∃u T' B' I',e = .returned u/\bu base T B I w T' B' I' w'/\cB base T' B' I' (dN S') w'/\ap w' r T' B' I' u:=by
     intro y pr' isn hy I9 LB JS Jo;have hw:bS _ f [y] S _:=Iy (X:={ X with prim:=fun _=>none,fn:=fun g=>if g=f then some fn else none,frz:=fun _=>false,deco:=fun _ c=>c }) (fun _=>rfl) (fun _ _=>rfl) rfl (by simp) hb hn hr ht hd he h0 hz Ph I9 IY JS Jo;unfold bS at hw;obtain⟨n,r',S1,k1,k2,k3⟩:=hw;rw[LB]at k3;have:=iM hX0 hF0 n f [y] S r' S1 k1 base T B I w [.slice ao rows.length aK] hrel (by simp only[ae];exact⟨_,[],rfl,hy,rfl⟩);rw[k2,q1,k3,q2]at this;exact this
    have OA:∀x,(x:AV)=x:=fun _=>rfl;obtain⟨a1,a2,a3,a4,a5⟩:=it;simp only at hd;subst hd;cases rows with
    | nil=>
     cases ao with
     | none=>
      have:=g1 rfl;subst this;exact fin (.flat (.slice none 0 0)) true true (by simp only[ap];rfl) (by simp[rowsOf]) (by simp) (by simp[kW,ht]) (fun _=>rfl)
     | some a=>exact fin (.flat (.slice (some a) 0 aK)) true false (by simp only[ap];rfl) (by simp[rowsOf,g3]) (by simp) (by simp[kW,ht]) (fun h=>by cases h)
    | cons row rows=>
     refine fin x pr false hu e1 rfl ?_ (fun h=>by cases h);unfold rowsOf at e1;split at e1
     .split at e1
      .injection e1 with e1;injection e1 with e1;subst e1;simp[kW,ht]
      .cases e1
     .rename_i b e off len Je;split at e1
      .split at e1
       .injection e1 with e1;injection e1 with e1;cases len with
        | zero=>simp at e1
        | succ len=>simp[kW,ht]
       .cases e1
      .cases e1
     .injection e1 with e1;injection e1 with e1;cases e1
     .injection e1 with e1;injection e1 with e1;cases e1
     .split at e1
      .injection e1 with e1;injection e1 with e1;cases e1
      .cases e1
     .cases e1
   .cases hp
  .cases hp
 .cases hp
def pm(n₀:Nat)(W:World)(sv:Value)(zs:List Int):Prop :=
 (∃ao aK,sv = .slice ao 0 aK/\zs = [])\/∃b off aK,sv = .slice (some ⟨b,off,none⟩) zs.length aK/\b<n₀/\∀j,j<zs.length->W.cell? ⟨b,off+j,none⟩=some (.int .i64 (zs[j]?.getD 0))
omit [aw] in
theorem vd:∀{rows:List (List AV)}{l:List Int},kQ rows=some l->rows=l.map fun n=>[AV.int .i64 n]
 | [],l,h=>by simp[kQ]at h;subst h;rfl
 | r::rest,l,h=>by
  unfold kQ at h;split at h
  .rename_i hh;cases hh
  .rename_i n PN hh;injection hh with h1 h2;subst h1 h2;split at h
   .rename_i l' e;injection h with h;subst h;rw[vd e];rfl
   .cases h
  .cases h
theorem zW{v1:FuncId}{te:TypeId}(hf:P.funcs[f]? = some fn)(JX:(fn.name == "runtime.NumGoroutine")=false)(hb:fn.body.isNone=false)
  (hc:∀(Bs ob:Nat) (sv:Value) (zs:List Int),zs.length<=maxLen->zs.length*8<=140737488351232->∀w:World,Bs<w.heap.size->w.cell? ⟨Bs,ob,none⟩=some sv->pm w.heap.size w sv zs ->
   Calls P f #[.slice none 0 0,.func (.func v1) #[] #[.pointer (some ⟨Bs,ob,none⟩)]] w fun e W'=> ∃v,e = .returned v/\W'.ownsRow w.heap.size te 1 v zs.length (zs.map (Value.int .i64))/\(v = .slice none 0 0↔zs = [])/\Below w.heap.size w W') :
  bQ P f (lz v1):=by
 refine⟨⟨fn,hf,JX,hb⟩,?_⟩;intro args S r S' hp base T B I w vs hrel I3;unfold lz at hp;split at hp
 .rename_i g st sv;split at hp
  .rename_i hg;subst hg;split at hp
   .rename_i l el;split at hp
    .rename_i IY;simp only[ae,ap]at I3;obtain⟨_,_,rfl,rfl,_,_,rfl,⟨us,rfl,u1,us1,rfl,⟨g0,o0,rfl,K2,PD⟩,rfl⟩,rfl⟩:=I3;simp only[aU]at PD;obtain⟨⟨u,hu1,_,Pw⟩,_⟩:=PD;have Ja:g0<w.heap.size:=hrel.Blt _ (jy (st:=st) hrel.TB _ K2)
     have hI:pm w.heap.size w u l:=by
      unfold BB at el;split at el
      .rename_i I5 rows;have er:=vd el;simp only[ap]at Pw;obtain⟨ao,aK,rfl,_,_,h4,h5⟩:=Pw;cases l with
       | nil=>subst er;exact .inl ⟨ao,aK,rfl,rfl⟩
       | cons x l=>
        obtain⟨g',Ny,rfl,OH,MC⟩:=h5 (by rw[er];simp);refine .inr ⟨g',Ny,aK,by rw[er];simp,?_,?_⟩
        .have h1:=jy (st:=I5) (sG (st:=st) hrel.TB) _ OH;exact hrel.Blt _ (jy (st:=st) hrel.TB _ h1)
        .intro j hj;obtain⟨_,QU⟩:=df.1 MC j [.int .i64 ((x::l)[j]?.getD 0)] (by rw[er,Vc,UL hj];rfl);simp only[aU,ap]at QU;obtain⟨⟨u',k1,_,rfl⟩,_⟩:=QU;simpa using k1
      .injection el with el;subst el;simp only[ap]at Pw;subst Pw;exact .inl ⟨none,0,rfl,rfl⟩
      .injection el with el;subst el;simp only[ap]at Pw;obtain⟨ao,rfl⟩:=Pw;exact .inl ⟨ao,0,rfl,rfl⟩
      .cases el
     have J0:=hc g0 o0 u l (by unfold maxLen;omega) (by omega) w Ja hu1 hI;refine J0.mono ?_;rintro e W' ⟨v,rfl,Jh,Jo,JH⟩;have KD:cB base T B I (dN S) W':=hrel.quiet JH (fun _ h=>h) (fun _ h=>h) hrel.TB (fun _ h=> .inl h);have J2:bu base T B I w T B I W':=bu.quiet hrel JH (fun _ h=>h) (fun _ h=>h) (fun _ h=> .inl h) (fun _ h=> .inl h);split at hp
     .rename_i h0;injection hp with hp;injection hp with q1 q2;subst q1 q2;have:l = []:=UO h0;exact⟨v,T,B,I,rfl,J2,KD,by simp only[ap];exact Jo.2 this⟩
     .rename_i h0;injection hp with hp;injection hp with q1 q2;subst q1 q2;have I8:l≠[]:=fun e=>h0 (by rw[e];rfl);rcases Jh.2 with ⟨rfl,_⟩|⟨gb,aK,cur,rfl,OY,M9,k1,k2,k3,k4⟩
      .exact absurd (Jo.1 rfl) I8
      .have IX:∀e,I S.length e=none:=hrel.fresh (UJ _)
       have Kx:cB base T B I (dN (S++[.arr (l.map fun n=>[.int .i64 n]) 1 0 true])) W':=KD.view fun b e p hi=>by
        obtain⟨blk,hS,_⟩:=hrel.cov hi;simp only[dN];rw[UN (UK.1 hS).1]
       have Jj:=Kx.newBlk (b:=S.length) (g:=gb) (rows:=l.map fun n=>[.int .i64 n]) (sz:=1) (pr:=true) (c:=cur) (ty:=te) (IX _) (Holds.of (by simp[dN])) (UQ hrel.base_le OY)
        (fun hB=>absurd (hrel.Blt _ hB) (by omega)) (fun b e gs hi=>absurd (hrel.lt hi) (by omega)) M9 (by simp;omega)
        (df.2 fun i r hr=>by
         rw[Vc]at hr;cases hi:l[i]? with
         | none=>rw[hi]at hr;cases hr
         | some x=>
          rw[hi]at hr;injection hr with hr;subst hr;refine⟨rfl,?_⟩;simp only[aU,ap];refine⟨⟨.int .i64 x,?_,rfl,rfl⟩,trivial⟩;have M4:=(UK.1 hi).1
          have O9:cur.toList[i]? = some (.int .i64 x):=by
           have:=congrArg (fun q=>q[i]?) k4;simp only[Vc,hi,Vf]at this;rw[WT (by omega)]at this;exact this
          simp only[World.cell?,M9,UW,Nat.mul_one];simpa using O9)
       refine⟨_,T,B,_,rfl,J2.trans (bu.inj (IX _)),Jj,?_⟩;simp only[ap,UI];exact .inr ⟨gb,cur.size,aK,dK.put_self,by simp,k1,k2,by omega⟩
    .cases hp
   .cases hp
  .cases hp
 .cases hp
omit [aw] in
theorem aB.prim{p:List AV->ab->Option (AV×ab)}{args:List AV}{r v:AV}(hp:X.prim f=some p)(h:p args []=some (r,S))(he:da S r=some v):aB X f args (· = v) :=
 aB.intro 1 (r:=v) (by simp only[iL,dj,hp,h,he]) rfl
def xX(hX:eC P X)(hF:mP P X)(hf:P.funcs[f]? = some fn)(JX:(fn.name == "runtime.NumGoroutine")=false)(hb:fn.body.isNone=false)(h:aB X f [] (· = .bool true)):bQ P f oF:=by
 refine⟨⟨fn,hf,JX,hb⟩,?_⟩;intro args S r S' hp base T B I w vs hrel I3;unfold oF at hp;split at hp
 .injection hp with hp;injection hp with q1 q2;subst q1 q2;simp only[ae]at I3;subst I3;have:=tR (W:=w) (vs := #[]) hX hF (fun g o k=>(hrel.known g o k).2) (by simp only[ae]) h;refine this.mono fun e w' ⟨he,hb⟩=>⟨_,T,B,I,he,bu.quiet hrel hb (fun _ h=>h) (fun _ h=>h) (fun _ h=> .inl h) (fun _ h=> .inl h),hrel.quiet hb (fun _ h=>h) (fun _ h=>h) hrel.TB (fun _ h=> .inl h),by simp only[ap]⟩
 .cases hp
end Go.Eng
