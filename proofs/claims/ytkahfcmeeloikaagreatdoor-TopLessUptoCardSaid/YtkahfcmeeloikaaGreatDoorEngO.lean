/- Whole functions. -/
import Derived.Test.YtkahfcmeeloikaaGreatDoorEngN
import Derived.LoopN
import Derived.Scope
set_option linter.all false
set_option maxHeartbeats 1000000
namespace Go.Eng
open Go.RowKit
variable [aw]
variable {B T:bV}{I:dK}{a:Act}{base n:Nat}{st:St}{v:AV}{w:World}
def Ex.toExit:Ex->Exit
 | .normal=> .normal
 | .exit id=> .exit id
 | .ret=> .ret
def jg(X:dV):Code->Bool
 | .region _ ops d=>if d then regOK X ops else true
 | .seq a b | .cond _ a b=>jg X a && jg X b
 | .block _ c | .loop c | .scope c=>jg X c
 | _=>true
section
variable {P:Program}{X:dV}{call:gX}
theorem td{i:Nat}{ops:Array Oper}{d:Bool}{I5:St}{e:Ex}{fr:List AV}:∀(l:List (Nat×Nat)){T B:bV}{S:ab},cB base T B I (dN S) w ->
  cJ X call n (l.foldr (fun p c=> .seq (.label p.2) c) (.region i ops d)) ⟨fr,S⟩=some (e,I5)->∃T1 B1 S1,bu base T B I w T1 B1 I w/\cB base T1 B1 I (dN S1) w/\cJ X call n (.region i ops d) ⟨fr,S1⟩=some (e,I5)
 | [],_,_,_,h,hs=>⟨_,_,_,bu.refl,h,hs⟩
 | p::l,T,B,S,h,hs=>by
  simp only[List.foldr_cons,cJ]at hs;obtain⟨T1,B1,s1,r1⟩:=tm (eS fr p.2) h;obtain⟨T2,B2,S2,s2,r2,k⟩:=td l r1 hs;exact⟨T2,B2,S2,s1.trans s2,r2,k⟩
theorem gR:∀c:Code,cW [] c=c
 | .region i ops d=>rfl
 | .seq a b=>by rw[cW,gR a,gR b]
 | .cond c a b=>by rw[cW,gR a,gR b]
 | .block i c=>by rw[cW,gR c]
 | .loop c=>by rw[cW,gR c]
 | .scope c=>by rw[cW,gR c]
 | .skip | .exit _ | .ret | .rangeFunc .. | .label _ | .goto _ | .refuse _=>rfl
section
variable (hX:eC P X) (hO:zQ P call) (hC:iO P call)
include hX hO hC
theorem eD{l:List (Nat×Nat)}:∀(c:Code),jg X c=true->∀{st I5:St}{e:Ex},cJ X call n (cW l c) st=some (e,I5)->∀{T B:bV}{I:dK}{w:World}{a:Act}{Q:Exit->Act->World->Prop},cB base T B I (dN st.S) w->ae w st.fr T B I a.tmps.toList ->
  (∀a' w' T' B' I',bu base T B I w T' B' I' w'->cB base T' B' I' (dN I5.S) w'->ae w' I5.fr T' B' I' a'.tmps.toList->a'.defers=a.defers->Q e.toExit a' w')->c.wp P Q a w
 | .skip,_,st,I5,e,hs,T,B,I,w,a,Q,h,I4,hK=>by
  simp only[cW,cJ]at hs;injection hs with hs;injection hs with q1 q2;subst q1 q2;exact wp_skip (hK a w T B I bu.refl h I4 rfl)
 | .exit id,_,st,I5,e,hs,T,B,I,w,a,Q,h,I4,hK=>by
  simp only[cW,cJ]at hs;injection hs with hs;injection hs with q1 q2;subst q1 q2;exact wp_exit (hK a w T B I bu.refl h I4 rfl)
 | .ret,_,st,I5,e,hs,T,B,I,w,a,Q,h,I4,hK=>by
  simp only[cW,cJ]at hs;injection hs with hs;injection hs with q1 q2;subst q1 q2;exact wp_ret (hK a w T B I bu.refl h I4 rfl)
 | .region id ops d,hr,st,I5,e,hs,T,B,I,w,a,Q,h,I4,hK=>by
  simp only[cW]at hs;obtain⟨fr,S⟩:=st;obtain⟨T1,B1,S,s1,r1,hs⟩:=td _ h hs;have I4:=bW _ s1.mono h.TB I4;have h:=r1;have hK:=fun a' w' T' B' I' (k1:bu base T1 B1 I w T' B' I' w')=>hK a' w' T' B' I' (s1.trans k1);simp only[cJ]at hs;split at hs
  .rename_i st1 e1;injection hs with hs;injection hs with q1 q2;subst q1 q2;cases d with
   | true=>exact DP hX hO hC (by simpa[jg]using hr) e1 h I4 hK
   | false=>exact wp_region_list (uM hX hO hC ops.toList e1 h I4 hK)
  .cases hs
 | .seq x y,hr,st,I5,e,hs,T,B,I,w,a,Q,h,I4,hK=>by
  simp only[jg,UT]at hr;simp only[cW,cJ]at hs;split at hs
  .rename_i st1 e1;refine wp_seq (eD x hr.1 e1 h I4 fun a' w' T' B' I' h1 h2 h3 h4=>?_);refine eD y hr.2 hs h2 h3 fun a'' w'' T'' B'' I'' k1 k2 k3 k4=>?_;exact hK a'' w'' T'' B'' I'' (h1.trans k1) k2 k3 (k4.trans h4)
  .rename_i I8;refine wp_seq (eD x hr.1 hs h I4 fun a' w' T' B' I' h1 h2 h3 h4=>?_);have:=hK a' w' T' B' I' h1 h2 h3 h4;cases e with
   | normal=>exact absurd hs (I8 _)
   | exit id=>exact this
   | ret=>exact this
 | .cond c x y,hr,st,I5,e,hs,T,B,I,w,a,Q,h,I4,hK=>by
  simp only[jg,UT]at hr;simp only[cW,cJ]at hs;split at hs
  .rename_i t hc;have hv:=oW I4 c;rw[hc]at hv;simp only[ap]at hv;refine wp_cond hv ?_;cases t with
   | true=>exact eD x hr.1 (by simpa using hs) h I4 hK
   | false=>exact eD y hr.2 (by simpa using hs) h I4 hK
  .cases hs
 | .block id c,hr,st,I5,e,hs,T,B,I,w,a,Q,h,I4,hK=>by
  simp only[jg]at hr;simp only[cW,cJ]at hs;split at hs
  .rename_i Ki st1 e1;split at hs
   .rename_i hid;injection hs with hs;injection hs with q1 q2;subst q1 q2;refine wp_block (eD c hr e1 h I4 fun a' w' T' B' I' h1 h2 h3 h4=>?_);simp only[Ex.toExit,Exit.inBlock,hid,if_true];exact hK a' w' T' B' I' h1 h2 h3 h4
   .rename_i hid;injection hs with hs;injection hs with q1 q2;subst q1 q2;refine wp_block (eD c hr e1 h I4 fun a' w' T' B' I' h1 h2 h3 h4=>?_);simp only[Ex.toExit,Exit.inBlock,hid,if_false];exact hK a' w' T' B' I' h1 h2 h3 h4
  .rename_i I8;refine wp_block (eD c hr hs h I4 fun a' w' T' B' I' h1 h2 h3 h4=>?_);have:=hK a' w' T' B' I' h1 h2 h3 h4;cases e with
   | normal=>exact this
   | exit Ki=>exact absurd hs (I8 _ _)
   | ret=>exact this
 | .loop c,hr,st,I5,e,hs,T,B,I,w,a,Q,h,I4,hK=>by
  simp only[jg]at hr;simp only[cW,cJ]at hs;refine wp_loop_rounds n ?_
  have go:∀(k:Nat){st I5:St}{e:Ex},mA (cJ X call n (cW l c)) k st=some (e,I5)->∀{T B:bV}{I:dK}{w:World}{a:Act},cB base T B I (dN st.S) w->ae w st.fr T B I a.tmps.toList ->
    (∀a' w' T' B' I',bu base T B I w T' B' I' w'->cB base T' B' I' (dN I5.S) w'->ae w' I5.fr T' B' I' a'.tmps.toList->a'.defers=a.defers->Q e.toExit a' w')->Code.rounds P c Q k a w:=by
   intro k
   induction k with
   | zero=>intro st I5 e hs;simp[mA]at hs
   | succ k ih=>
    intro st I5 e hs T B I w a h I4 hK;simp only[mA]at hs;rw[rounds_succ];split at hs
    .rename_i st1 e1;refine eD c hr e1 h I4 fun a' w' T' B' I' h1 h2 h3 h4=>?_;refine ih hs h2 h3 fun a'' w'' T'' B'' I'' k1 k2 k3 k4=>?_;exact hK a'' w'' T'' B'' I'' (h1.trans k1) k2 k3 (k4.trans h4)
    .rename_i I8;refine eD c hr hs h I4 fun a' w' T' B' I' h1 h2 h3 h4=>?_;have:=hK a' w' T' B' I' h1 h2 h3 h4;cases e with
     | normal=>exact absurd hs (I8 _)
     | exit id=>exact this
     | ret=>exact this
  exact go n hs h I4 hK
 | .rangeFunc ..,_,_,_,_,hs,_,_,_,_,_,_,_,_,_=>by simp[cW,cJ]at hs
 | .scope c,hr,st,I5,e,hs,T,B,I,w,a,Q,h,I4,hK=>by
  simp only[cW,cJ]at hs;refine wp_scope_straight (eD c (by simpa[jg]using hr) hs h I4 fun a' w' T' B' I' h1 h2 h3 h4=>?_);have:=hK a' w' T' B' I' h1 h2 h3 h4;cases e<;>exact this
 | .label t,_,st,I5,e,hs,T,B,I,w,a,Q,h,I4,hK=>by
  simp only[cW,cJ]at hs;injection hs with hs;injection hs with q1 q2;subst q1 q2;obtain⟨T1,B1,s1,r1⟩:=tm (eS st.fr t) h;exact wp_label (hK a w T1 B1 I s1 r1 (bW _ s1.mono h.TB I4) rfl)
 | .goto _,_,_,_,_,hs,_,_,_,_,_,_,_,_,_=>by simp[cW,cJ]at hs
 | .refuse _,_,_,_,_,hs,_,_,_,_,_,_,_,_,_=>by simp[cW,cJ]at hs
end
def Gz(a:Act):ResultVar->Sem Value
 | .tmp t=>pure (a.tmps.getD t undef)
 | .cell x t=>do loadVar t (<- asAddr (a.tmps.getD x undef))
theorem ES(hX:eC P X)(h:cB base T B I (dN st.S) w)(I4:ae w st.fr T B I a.tmps.toList){r:ResultVar}(hr:bg X st r=some v) :
  ∃u,(Gz a r).run P w = .ok u w/\ap w v T B I u:=by
 cases r with
 | tmp t=>
  simp only[bg]at hr;injection hr with hr;subst hr;exact⟨_,rfl,oW I4 (.tmp t)⟩
 | cell x t=>
  simp only[bg]at hr;split at hr
  .rename_i i e1;split at hr
   .rename_i b e sz row off e2;split at hr
    .rename_i row' e3;have hp:=oW I4 (.tmp x);simp only[ak,e2,ap]at hp;obtain⟨g,gs,hi,hu⟩:=hp;obtain⟨c1,c2⟩:=pH h (fun b blk hb=>Holds.of hb) e3 hi;obtain⟨u,l1,l2⟩:=s8 hX e1 c1 hr;refine⟨u,?_,l2⟩;simp only[Act.eval]at hu;simp only[Gz,UY,hu,asAddr,Vo,UR];simpa only[Instr.loadAt,Instr.sureAddr,UY,Vo,UR]using l1
    .cases hr
   .cases hr
  .cases hr
theorem oC(hX:eC P X)(h:cB base T B I (dN st.S) w)(I4:ae w st.fr T B I a.tmps.toList):∀{rs:List ResultVar}{vs:List AV},aP X st rs=some vs ->
  ∃us:List Value,(rs.mapM (Gz a)).run P w = .ok us w/\ae w vs T B I us
 | [],vs,hr=>by
  simp only[aP]at hr;injection hr with hr;subst hr;exact⟨[],by simp,by simp[ae]⟩
 | r::rs,vs,hr=>by
  simp only[aP]at hr;split at hr
  .rename_i v e1;split at hr
   .rename_i vs' e2;injection hr with hr;subst hr;obtain⟨u,h1,h2⟩:=ES hX h I4 e1;obtain⟨us,h3,h4⟩:=oC hX h I4 e2;refine⟨u::us,?_,by simp only[ae];exact⟨u,us,rfl,h2,h4⟩⟩;rw[List.mapM_cons];simp only[UY,Vo];rw[h1];simp only[UR];rw[h3];rfl
   .cases hr
  .cases hr
def BD(hX:eC P X){fn:Func}(h:cB base T B I (dN st.S) w)(I4:ae w st.fr T B I a.tmps.toList)(hr:jx X fn st=some v) :
  ∃u,(results fn a.tmps).run P w = .ok u w/\ap w v T B I u:=by
 unfold jx at hr
 have key:∀us:List Value,(fn.results.toList.mapM (Gz a)).run P w = .ok us w->(results fn a.tmps).run P w = .ok (if h:us.toArray.size=1 then us.toArray[0] else .tuple us.toArray) w:=by
  intro us JM;unfold results;rw[Array.mapM_eq_mapM_toList];simp only[bind_map_left,UY];have e:∀f g:ResultVar->Sem Value,f=g->(fn.results.toList.mapM g).run P w = .ok us w->(fn.results.toList.mapM f).run P w = .ok us w:=fun f g h k=>h ▸ k;rw[e _ _ (by funext r;cases r<;>rfl) JM];simp only[UR,Vo]
 split at hr
 .rename_i v' e1;injection hr with hr;subst hr;obtain⟨us,h1,h2⟩:=oC hX h I4 e1;simp only[ae]at h2;obtain⟨u,Jf,rfl,h3,rfl⟩:=h2;exact⟨u,by rw[key _ h1];simp,h3⟩
 .rename_i vs I8 e1;injection hr with hr;subst hr;obtain⟨us,h1,h2⟩:=oC hX h I4 e1;refine⟨.tuple us.toArray,?_,by simp only[ap];exact⟨us,rfl,h2⟩⟩;have hl:=dC h2;rw[key _ h1,dif_neg];intro h0;simp only[Vi]at h0;have:∃x,vs = [x]:=List.length_eq_one_iff.1 (by omega);obtain⟨x,rfl⟩:=this;exact I8 x rfl
 .cases hr
def bQ(P:Program)(f:FuncId)(p:List AV->ab->Option (AV×ab)):Prop :=
 (∃fn,P.funcs[f]? = some fn/\(fn.name == "runtime.NumGoroutine")=false/\fn.body.isNone=false) /\
 ∀args S r S',p args S=some (r,S')->∀base T B I w vs,cB base T B I (dN S) w->ae w args T B I vs ->
  Calls P f vs.toArray w fun e w'=> ∃u T' B' I',e = .returned u/\bu base T B I w T' B' I' w'/\cB base T' B' I' (dN S') w'/\ap w' r T' B' I' u
structure mP (P:Program) (X:dV):Prop where
 fn:∀f fn,X.fn f=some fn->P.funcs[f]? = some fn/\(fn.name == "runtime.NumGoroutine")=false/\∀c,fn.body=some c->jg X c=true
 prim:∀f p,X.prim f=some p->bQ P f p
 deco:∀f c,∃l,X.deco f c=cW l c
theorem callN_ok(hF:mP P X):∀n,zQ P (dj X n)
 | 0=>fun f args S r h=>by simp[dj]at h
 | n+1=>fun f args S r h=>by
  simp only[dj]at h;split at h
  .rename_i p e1;exact(hF.prim f p e1).1
  .split at h
   .cases h
   .rename_i fn e1;obtain⟨h1,h2,h3⟩:=hF.fn f fn e1;split at h
    .cases h
    .rename_i c e2;exact⟨fn,h1,h2,by rw[e2];rfl⟩
theorem iM(hX:eC P X)(hF:mP P X):∀n,iO P (dj X n)
 | 0=>fun f args S r S' h=>by simp[dj]at h
 | n+1=>fun f args S r S' h base T B I w vs hrel I3=>by
  have ih:=iM hX hF n;have io:=callN_ok hF n;simp only[dj]at h;split at h
  .rename_i p e1;exact(hF.prim f p e1).2 _ _ _ _ h _ _ _ _ _ _ hrel I3
  .split at h
   .cases h
   .rename_i fn e1;obtain⟨h1,h2,h3⟩:=hF.fn f fn e1;split at h
    .cases h
    .rename_i c e2;have IY:=dC I3
     have fr0:ae w (args++List.replicate (fn.ntmps-args.length) (.flat undef)) T B I (vs.toArray++Array.replicate (fn.ntmps-vs.toArray.size) undef).toList:=by
      simp only[Array.toList_append,Array.toList_replicate,Vi,IY];refine cw I3 ?_
      have:∀k,ae w (List.replicate k (.flat undef)) T B I (List.replicate k undef):=fun k=>by
       induction k with
       | zero=>simp[ae]
       | succ k ih=>simp only[List.replicate_succ,ae];exact⟨_,_,rfl,by simp only[ap],ih⟩
      exact this _
     have fin:∀{e:Ex}{st:St},cJ X (dj X n) n (X.deco f c) ⟨args++List.replicate (fn.ntmps-args.length) (.flat undef),S⟩=some (e,st)->(e = .normal\/e = .ret)->(match jx X fn st with|some v=>some (v,st.S)|none=>none)=some (r,S') ->
       Calls P f vs.toArray w fun e w'=> ∃u T' B' I',e = .returned u/\bu base T B I w T' B' I' w'/\cB base T' B' I' (dN S') w'/\ap w' r T' B' I' u:=by
      intro e st hex he LL;split at LL
      .rename_i v e3;injection LL with LL;injection LL with q1 q2;subst q1 q2;refine calls_of_wp h1 e2 ?_;obtain⟨l,hl⟩:=hF.deco f c;rw[hl]at hex;refine eD hX io ih c (h3 c e2) hex hrel fr0 fun a' w' T' B' I' k1 k2 k3 k4=>?_;obtain⟨u,m1,m2⟩:=BD hX k2 k3 e3;rcases he with rfl|rfl
       .exact⟨k4,u,m1,u,T',B',I',rfl,k1,k2,m2⟩
       .exact⟨k4,u,m1,u,T',B',I',rfl,k1,k2,m2⟩
      .cases LL
     split at h
     .rename_i st e3;exact fin e3 (.inl rfl) h
     .rename_i st e3;exact fin e3 (.inr rfl) h
     .cases h
end
end Go.Eng
