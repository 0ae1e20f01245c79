/- One operation of the small machine, held against the model's. -/
import Derived.Test.YtkahfcmeeloikaaGreatDoorEngK
set_option linter.all false
set_option maxHeartbeats 1000000
namespace Go.Eng
open Go.RowKit
variable [aw]
variable {args:Array Operand}{b e sz wep:Nat}{d pr:Bool}{f g:FuncId}{fn:Func}{nb:List dY}{news rows:List (List AV)}
section
variable {P:Program}{X:dV}
section
variable {fr Jy:List AV}{o:Oper}
omit [aw] in
def map_congr{l:List Operand}(h:∀x∈l,ak fr x=ak Jy x):l.map (ak fr)=l.map (ak Jy):=List.map_congr_left h
omit [aw] in
theorem uL{l:Option Operand}(h:∀x∈l,ak fr x=ak Jy x):l.map (ak fr)=l.map (ak Jy):=by
 cases l with
 | none=>rfl
 | some x=>simp[h x rfl]
omit [aw] in
def v8{l:List (Nat×Operand)}(h:∀x∈l.map (·.2),ak fr x=ak Jy x):(l.map fun p=>(p.1,ak fr p.2))=l.map fun p=>(p.1,ak Jy p.2) :=
 List.map_congr_left fun p hp=>by rw[h p.2 (WR hp)]
omit [aw] in
theorem zx(h:∀x∈o.op.operands.toList,ak fr x=ak Jy x):cL X fr o=cL X Jy o:=by
 obtain⟨dst,op,ty,pos,after,guard⟩:=o;cases op with
 | call c=>
  obtain⟨callee,args,argTypes⟩:=c;cases callee with
  | value f=>
   have h1:=h f (by simp[Op.operands,Call.operands]);have h2:args.toList.map (ak fr)=args.toList.map (ak Jy):=map_congr fun x hx=>h x (by simp[Op.operands,Call.operands];right;simpa using hx);simp only[cL,h1,h2]
  | invoke r m=>
   have h1:=h r (by simp[Op.operands,Call.operands]);have h2:args.toList.map (ak fr)=args.toList.map (ak Jy):=map_congr fun x hx=>h x (by simp[Op.operands,Call.operands];right;simpa using hx);simp only[cL,h1,h2]
  | _=>rfl
 | _=>rfl
omit [aw] in
theorem EZ(h:∀x∈o.op.operands.toList,ak fr x=ak Jy x):eJ X fr o=eJ X Jy o:=by
 obtain⟨dst,op,ty,pos,after,guard⟩:=o;have e1:∀{x:Operand},x∈op.operands.toList->ak fr x=ak Jy x:=fun {x} hx=>h x hx;cases op with
 | move x=>have:=e1 (x:=x) (by simp[Op.operands]);simp only[eJ];split<;>simp_all
 | assign x=>have:=e1 (x:=x) (by simp[Op.operands]);simp only[eJ];split<;>simp_all
 | pick c a b=>
  have h1:=e1 (x:=c) (by simp[Op.operands]);have h2:=e1 (x:=a) (by simp[Op.operands]);have h3:=e1 (x:=b) (by simp[Op.operands]);simp only[eJ,h1,h2,h3]
 | nilCheck x=>have:=e1 (x:=x) (by simp[Op.operands]);simp only[eJ,this]
 | makeInterface t x=>have:=e1 (x:=x) (by simp[Op.operands]);simp only[eJ,this]
 | binOp op t x y ty=>
  have h1:=e1 (x:=x) (by simp[Op.operands]);have h2:=e1 (x:=y) (by simp[Op.operands]);simp only[eJ,h1,h2]
 | unOp op t x=>have:=e1 (x:=x) (by simp[Op.operands]);simp only[eJ,this]
 | convert s d x=>have:=e1 (x:=x) (by simp[Op.operands]);simp only[eJ,this]
 | build t parts=>
  have:(parts.toList.map fun p=>(p.1,ak fr p.2))=parts.toList.map fun p=>(p.1,ak Jy p.2):=v8 fun x hx=>e1 (by simpa[Op.operands]using hx);simp only[eJ,this]
 | field t x f=>have:=e1 (x:=x) (by simp[Op.operands]);simp only[eJ,this]
 | fieldAddr t x f=>have:=e1 (x:=x) (by simp[Op.operands]);simp only[eJ,this]
 | indexAddr t x y=>
  have h1:=e1 (x:=x) (by simp[Op.operands]);have h2:=e1 (x:=y) (by simp[Op.operands]);simp only[eJ,h1,h2]
 | index t x y=>
  have h1:=e1 (x:=x) (by simp[Op.operands]);have h2:=e1 (x:=y) (by simp[Op.operands]);simp only[eJ,h1,h2]
 | slice t x lo hi mx=>
  have h1:=e1 (x:=x) (by simp[Op.operands]);have h2:lo.map (ak fr)=lo.map (ak Jy):=uL fun y hy=>e1 (by simp[Op.operands];simp_all);have h3:hi.map (ak fr)=hi.map (ak Jy):=uL fun y hy=>e1 (by simp[Op.operands];simp_all);have h4:mx.map (ak fr)=mx.map (ak Jy):=uL fun y hy=>e1 (by simp[Op.operands];simp_all);simp only[eJ,h1,h2,h3,h4]
 | makeFunc fn first captured=>
  have h1:captured.toList.map (ak fr)=captured.toList.map (ak Jy):=map_congr fun x hx=>e1 (by simp[Op.operands];right;simpa using hx);cases fn<;>simp only[eJ,h1]
 | extract x i=>have:=e1 (x:=x) (by simp[Op.operands]);simp only[eJ,this]
 | call c=>
  obtain⟨callee,args,argTypes⟩:=c;cases callee with
  | builtin b=>
   have h2:∀x∈args.toList,ak fr x=ak Jy x:=fun x hx=>e1 (by simp[Op.operands,Call.operands];simpa using hx);have h3:=map_congr h2;cases b<;>simp only[eJ,h3]
   split
   .rename_i x t ea et;have:=h2 x (by rw[ea];simp);simp only[this]
   .rfl
  | value f=>rfl
  | invoke r m=>rfl
 | _=>rfl
omit [aw] in
theorem EU{S:ab}{id:Nat}(h:∀x∈o.op.operands.toList,ak fr x=ak Jy x):ff X d S id fr o=ff X d S id Jy o:=by
 obtain⟨dst,op,ty,pos,after,guard⟩:=o;have e1:∀{x:Operand},x∈op.operands.toList->ak fr x=ak Jy x:=fun {x} hx=>h x hx;cases op with
 | load t x=>have:=e1 (x:=x) (by simp[Op.operands]);simp only[ff,this]
 | box t x=>have:=e1 (x:=x) (by simp[Op.operands]);simp only[ff,this]
 | convert s d x=>have:=e1 (x:=x) (by simp[Op.operands]);simp only[ff,this]
 | buildSlice t n parts=>
  have:(parts.toList.map fun p=>(p.1,ak fr p.2))=parts.toList.map fun p=>(p.1,ak Jy p.2):=v8 fun x hx=>e1 (by simpa[Op.operands]using hx);simp only[ff,this]
 | lookup t x k ok=>
  have h1:=e1 (x:=x) (by simp[Op.operands]);have h2:=e1 (x:=k) (by simp[Op.operands]);simp only[ff,h1,h2]
 | makeMap t r=>cases r<;>rfl
 | makeSlice t l c=>
  have h1:=e1 (x:=l) (by simp[Op.operands]);have h2:=e1 (x:=c) (by simp[Op.operands]);simp only[ff,h1,h2]
 | call c=>
  obtain⟨callee,args,argTypes⟩:=c;cases callee with
  | builtin b=>
   have h2:∀x∈args.toList,ak fr x=ak Jy x:=fun x hx=>e1 (by simp[Op.operands,Call.operands];simpa using hx);cases b<;>simp only[ff]
   split
   .rename_i x t ea et;have:=h2 x (by rw[ea];simp);simp only[this]
   .rfl
  | value f=>rfl
  | invoke r m=>rfl
 | _=>rfl
omit [aw] in
theorem Fg{S:ab}{id:Nat}(h:∀x∈o.op.operands.toList,ak fr x=ak Jy x):iq X d S id fr o=iq X d S id Jy o:=by
 obtain⟨dst,op,ty,pos,after,guard⟩:=o;have e1:∀{x:Operand},x∈op.operands.toList->ak fr x=ak Jy x:=fun {x} hx=>h x hx;cases op with
 | call c=>
  obtain⟨callee,args,argTypes⟩:=c;cases callee with
  | builtin b=>
   have h2:∀x∈args.toList,ak fr x=ak Jy x:=fun x hx=>e1 (by simp[Op.operands,Call.operands];simpa using hx);cases b<;>simp only[iq]
   split
   .rename_i s x t u ea et;have q1:=h2 x (by rw[ea];simp);have q2:=h2 s (by rw[ea];simp);simp only[q1,q2]
   .rfl
  | value f=>rfl
  | invoke r m=>rfl
 | move x=>unfold iq;split<;>first|rfl|(rename_i JS;cases JS)
 | assign x=>unfold iq;split<;>first|rfl|(rename_i JS;cases JS)
 | _=>rfl
omit [aw] in
theorem FP{S:ab}(h:∀x∈o.op.operands.toList,ak fr x=ak Jy x):iz X S fr o=iz X S Jy o:=by
 obtain⟨dst,op,ty,pos,after,guard⟩:=o;have e1:∀{x:Operand},x∈op.operands.toList->ak fr x=ak Jy x:=fun {x} hx=>h x hx;cases op with
 | store t x y=>
  have h1:=e1 (x:=x) (by simp[Op.operands]);have h2:=e1 (x:=y) (by simp[Op.operands]);simp only[iz,h1,h2]
 | mapUpdate t m k x=>
  have h1:=e1 (x:=m) (by simp[Op.operands]);have h2:=e1 (x:=k) (by simp[Op.operands]);have h3:=e1 (x:=x) (by simp[Op.operands]);simp only[iz,h1,h2,h3]
 | call c=>
  obtain⟨callee,args,argTypes⟩:=c;cases callee with
  | builtin b=>
   have h2:∀x∈args.toList,ak fr x=ak Jy x:=fun x hx=>e1 (by simp[Op.operands,Call.operands];simpa using hx);cases b<;>simp only[iz]
   all_goals
    split
    .first
      |(rename_i s x t u ea et;simp only[h2 s (by rw[ea];simp),h2 x (by rw[ea];simp)];done)
      |(rename_i s t ea et;simp only[h2 s (by rw[ea];simp)];done)
    .rfl
  | value f=>rfl
  | invoke r m=>rfl
 | _=>rfl
omit [aw] in
theorem Eo{S:ab}(h:∀x∈o.op.operands.toList,ak fr x=ak Jy x):mM S fr o=mM S Jy o:=by
 obtain⟨dst,op,ty,pos,after,guard⟩:=o;have e1:∀{x:Operand},x∈op.operands.toList->ak fr x=ak Jy x:=fun {x} hx=>h x hx;cases op with
 | call c=>
  obtain⟨callee,args,argTypes⟩:=c;cases callee with
  | builtin b=>
   have h2:∀x∈args.toList,ak fr x=ak Jy x:=fun x hx=>e1 (by simp[Op.operands,Call.operands];simpa using hx);cases b<;>simp only[mM]
   split
   .rename_i s x ea;have q1:=h2 x (by rw[ea];simp);have q2:=h2 s (by rw[ea];simp);simp only[q1,q2]
   .rfl
  | value f=>rfl
  | invoke r m=>rfl
 | _=>rfl
omit [aw] in
def vR{call:gX}{S:ab}(h:∀x∈o.op.operands.toList,ak fr x=ak Jy x):dH X d call ⟨fr,S⟩ o=dH X d call ⟨Jy,S⟩ o:=by
 simp only[dH,EZ h,EU h,Fg h,zx h,FP h,Eo h]
end
def zQ(P:Program)(call:gX):Prop := ∀f args S r,call f args S=some r->∃fn,P.funcs[f]? = some fn/\(fn.name == "runtime.NumGoroutine")=false/\fn.body.isNone=false
omit [aw] in
def call_run{o:Oper}{a:Act}{fop:Operand}{ats:Array TypeId}{aK:Array Value}{w:World}(ho:o.op = .call { callee := .value fop,args,argTypes:=ats })(hf:a.eval fop = .func (.func g) #[] aK)
  (hfn:P.funcs[g]? = some fn) (h1:(fn.name == "runtime.NumGoroutine")=false) (h2:fn.body.isNone=false):(execOp a.eval o).run P w = .ok (.enter g (args.map a.eval++aK)) w:=by
 simp only[execOp,ho,resolve,Deferred.ofValue,hf,UY,Vo,UR,invoke,callFunc,run_program,hfn,h1,h2,U3,if_false,Array.empty_append]
omit [aw] in
def arr_tail(x:Value)(l:Array Value):(#[x]++l).extract 1 (#[x]++l).size=l:=by
 apply Vw.1;simp
omit [aw] in
def Fy{o:Oper}{a:Act}{r:Operand}{m:String}{ats:Array TypeId}{t:TypeId}{v:Value}{w:World}(ho:o.op = .call { callee := .invoke r m,args,argTypes:=ats })(hr:a.eval r = .iface t v)
  (hm:(method (P.types.size+Made.depth) t v m).run P w = .ok (g,v) w) (hfn:P.funcs[g]? = some fn) (h1:(fn.name == "runtime.NumGoroutine")=false) (h2:fn.body.isNone=false):(execOp a.eval o).run P w = .ok (.enter g (#[v]++args.map a.eval)) w:=by
 have e1:(#[Value.iface t v]++args.map a.eval)[0]? = some (.iface t v):=by rw[Array.getElem?_append_left (by simp)];rfl
 have e2:(#[Value.iface t v]++args.map a.eval).extract 1 (#[Value.iface t v]++args.map a.eval).size=args.map a.eval:=arr_tail _ _;simp only[execOp,ho,resolve,hr,UY,Vo,UR,invoke,e1,e2,callMethod,callFunc,run_program,hm,hfn,h1,h2,U3,if_false]
omit [aw] in
def kC{o:Oper}{a:Act}{K:Act->World->Prop}{Q:Exit->Act->World->Prop}{args:Array Value}{w:World}{R:Ending->World->Prop}(hR:∀e w',R e w'->∃u,e = .returned u/\K (a.put o.dst u) w')(h:Calls P g args w R) :
  o.upon P a K Q (.ok (.enter g args) w):=by
 simp only[Oper.upon];refine h.mono fun e w' he=>?_;obtain⟨u,rfl,hk⟩:=hR e w' he;exact hk
section
variable {base:Nat}{T B:bV}{I:dK}{S S2:ab}{w:World}{call:gX}{fr:List AV}{a:Act}{o:Oper}{v:AV}{K:Act->World->Prop}{Q:Exit->Act->World->Prop}
def dT(X:dV)(o:Oper):Bool :=
 match o.op with
 | .store .. =>true
 | .mapUpdate .. =>true
 | .call { callee := .builtin .delete,.. }=>true
 | .call { callee := .builtin .clear,.. }=>true
 | .call { callee := .builtin .copy,.. }=>true
 | .call { callee := .value (.func f),.. }=>X.byRef f
 | .call { callee := .invoke _ m,.. }=>X.refM m
 | _=>false
omit [aw] in
def Gd.le{e':Nat}(h:Gd S b e)(he:e'<=e):Gd S b e':=by
 obtain⟨blk,h1,h2⟩:=h;exact⟨blk,h1,UQ he h2⟩
omit [aw] in
def kp.refl:kp S (dN S):=fun _ _ h=>Holds.of h
omit [aw] in
theorem kp.trans{S1:ab}{σ:zS}(h:kp S (dN S1))(k:kp S1 σ):kp S σ:=fun b blk hb=>by
 obtain⟨b1,h1,h2⟩:=h b blk hb;obtain⟨b2,h3,h4⟩:=k b b1 h1;exact⟨b2,h3,h2.trans h4⟩
omit [aw] in
def kp.cov(h:kp S (dN S2))(hc:Gd S b e):Gd S2 b e:=by
 obtain⟨blk,h1,h2⟩:=hc;obtain⟨b1,h3,h4⟩:=h b blk h1;exact⟨b1,h3,UQ h2 h4.len⟩
omit [aw] in
def kp.app(nb:List dY):kp S (dN (S++nb)):=fun b blk hb=>Holds.of (by
 simp only[dN];rw[UN (UK.1 hb).1];exact hb)
def lq(S S2:ab)(b e:Nat):Prop:=Gd S2 b e/\¬Gd S b e
def lenOf(S:ab)(b:Nat):Nat:=match S[b]? with|some blk=>blk.len|none=>0
omit [aw] in
def H6(h:Gd S b e):Gd S b (lenOf S b)/\e<=lenOf S b:=by
 obtain⟨blk,h1,h2⟩:=h;unfold lenOf;rw[h1];exact⟨⟨blk,h1,UJ _⟩,h2⟩
omit [aw] in
def jj :fG S.length nb b e↔lq S (S++nb) b e:=by
 constructor
 .rintro⟨k,blk,h1,h2,h3⟩;subst h2;refine⟨⟨blk,by rw[Vd (by omega),VP];exact h1,h3⟩,fun ⟨blk',h4,_⟩=>?_⟩;have:=(UK.1 h4).1;omega
 .rintro⟨⟨blk,h1,h2⟩,h3⟩;rcases Ws b S.length with h4|h4
  .rw[UN h4]at h1;exact absurd ⟨blk,h1,h2⟩ h3
  .rw[Vd h4]at h1;exact⟨b-S.length,blk,h1,by omega,h2⟩
omit [aw] in
def my :¬lq S S b e:=fun h=>h.2 h.1
omit [aw] in
def oG(h:lq S (S++nb) b e):lenOf S b=0:=by
 have:=(jj.2 h).at;unfold lenOf;rw[VO (by omega)]
omit [aw] in
def IP{ats:Array TypeId}(ho:o.op = .call { callee := .builtin .append,args,argTypes:=ats })(hq:iz X S fr o=some (v,S2))(hok:mM S fr o=true) :
  ∃s x t el ei news b rows wep pr z1 z2 z3 z4,args = #[s,x]/\ats = #[t,t]/\X.ty t=some ⟨z1,z2,z3,z4,.slice el⟩/\X.ty el=some ei/\ei.zero.length=ei.size/\rowsOf S ei.size (ak fr x)=some (news,true)/\ak fr s = .sl b rows.length 0 rows.length ei.size /\
   S[b]? = some (.arr rows ei.size wep pr)/\wep<=rows.length/\(rows.length+news.length)*ei.bytes<=140737488355328/\rows.length+news.length<=140737488355328 /\
   ((news.length=0/\v = .sl b rows.length 0 rows.length ei.size/\S2=S)\/(news.length≠0/\v = .sl b (rows.length+news.length) 0 (rows.length+news.length) ei.size/\S2=S.set b (.arr (rows++news) ei.size wep pr))):=by
 obtain⟨dst,op,ty,pos,after,guard⟩:=o;simp only at ho;subst ho;simp only[iz]at hq;simp only[mM]at hok;split at hq
 .rename_i s x t u ea et;have LW:args = #[s,x]:=by rw[<-Vw];exact ea
  have LV:ats = #[t,u]:=by rw[<-Vw];exact et
  subst LW LV;split at hq
  .rename_i z1 z2 z3 z4 el e1;split at hq
   .rename_i ei e2;split at hq
    .rename_i hc;obtain⟨c1,c2,c3⟩:=hc;subst c1;split at hq
     .rename_i news prn e3;split at hq
      .rename_i b e off len sz e4;split at hq
       .rename_i rows Je wep pr e5;split at hq
        .rename_i hc;obtain⟨d1,d2,d3,d4,d5,d6,d7,d8⟩:=hc;subst d1 d2 d5 d6;subst d3;simp only[e4,e3]at hok;subst hok;refine⟨s,x,t,el,ei,news,b,rows,wep,pr,_,_,_,_,rfl,rfl,e1,e2,c3,e3,e4,e5,d4,d7,d8,?_⟩;split at hq
         .rename_i h0;injection hq with hq;injection hq with q1 q2;exact .inl ⟨h0,q1.symm,q2.symm⟩
         .rename_i h0;injection hq with hq;injection hq with q1 q2;rw[WC]at q2;exact .inr ⟨h0,q1.symm,q2.symm⟩
        .cases hq
       .cases hq
      .cases hq
     .cases hq
    .cases hq
   .cases hq
  .cases hq
 .cases hq
omit [aw] in
def set_ext(h:S[b]? = some (.arr rows sz wep pr)):kp S (dN (S.set b (.arr (rows++news) sz wep pr))):=fun b' blk hb=>by
 by_cases e:b'=b
 .subst e;rw[h]at hb;injection hb with hb;subst hb;exact⟨_,(fH h).1,news,rfl⟩
 .exact Holds.of (((fH h).2 b' e).trans hb)
omit [aw] in
def CT(h:S[b]? = some (.arr rows sz wep pr)){b':Nat}:lq S (S.set b (.arr (rows++news) sz wep pr)) b' e↔b'=b/\rows.length<e/\e<=rows.length+news.length:=by
 constructor
 .rintro⟨⟨blk,h1,h2⟩,h3⟩;by_cases e1:b'=b
  .subst e1;rw[show (S.set b' _)[b']? = some _ from(fH h).1]at h1;injection h1 with h1;subst h1;simp only[dY.len,UG]at h2;refine⟨rfl,?_,h2⟩;rcases Ws rows.length e with h4|h4
   .exact h4
   .exact absurd ⟨_,h,h4⟩ h3
  .rw[show (S.set b _)[b']? = S[b']? from(fH h).2 b' e1]at h1;exact absurd ⟨_,h1,h2⟩ h3
 .rintro⟨rfl,h1,h2⟩;refine⟨⟨_,(fH h).1,by simpa[dY.len]using h2⟩,fun ⟨blk,h3,h4⟩=>?_⟩;rw[h]at h3;injection h3 with h3;subst h3;simp only[dY.len]at h4;omega
def QStep(P:Program)(S S2:ab)(fr:List AV)(v:AV)(o:Oper):Prop :=
 kp S (dN S2)/\∀{base:Nat}{T B:bV}{I:dK}{σ:zS}{w:World}{a:Act},cB base T B I σ w->kp S2 σ->(∀b e,lq S S2 b e->I b e=none)->(∀b e0 e,lq S S2 b e0->0<e0->¬Gd S b e->I b e=none)->(∀x,ap w (ak fr x) T B I (a.eval x)) ->
  ∀{K:Act->World->Prop}{Q:Exit->Act->World->Prop},(∀u w' T' B' I',bu base T B I w T' B' I' w'->cB base T' B' I' σ w'->ap w' v T' B' I' u->(∀b e p,I' b e=some p->I b e=some p\/lq S S2 b e) ->
   (∀b e,lq S S2 b e->0<lenOf S b->I b (lenOf S b)≠none)->K (a.put o.dst u) w')->o.wp P a w K Q
def IN(hX:eC P X){ats:Array TypeId}(ho:o.op = .call { callee := .builtin .append,args,argTypes:=ats })(hq:iz X S fr o=some (v,S2))(hok:mM S fr o=true):QStep P S S2 fr v o:=by
 obtain⟨s,x,t,el,ei,news,b,rows,wep,pr,z1,z2,z3,z4,rfl,rfl,e1,e2,c3,e3,e4,e5,d4,d7,d8,J9⟩:=IP ho hq hok;obtain⟨_,d,_,_,ht,_,_,_,_,_,k8,_⟩:=bm (hX.ty _ _ e1);simp only[cg]at k8;subst k8
 have QO:kp S (dN S2):=by
  rcases J9 with ⟨_,_,rfl⟩|⟨_,_,rfl⟩
  .exact kp.refl
  .exact set_ext e5
 refine⟨QO,fun {base T B I σ w a} h hσ L0 RC I4 {K Q} hK=>?_⟩;have hS:=QO.trans hσ;obtain⟨xo,xc,MO,Se,Rq,hx3,MP⟩:=dO h hS e3 (I4 x)
 have Ov:news≠[]->∃g off,xo=some ⟨g,off,none⟩/\bn w news T (if true then T else B) (if true then aT else I) g off ei.size:=fun I8=>
  let ⟨g,off,q1,q2,_⟩:=MP I8
  ⟨g,off,q1,q2⟩
 have hs:=I4 s;rw[e4]at hs
 have exec:∀r w',(Builtin.append_ #[t,t] o.type #[a.eval s,a.eval x]).run P w = .ok r w'->(execOp a.eval o).run P w = .ok (.value r) w':=fun r w' hr=>by
  simp[execOp,ho,resolve,invoke,builtin,hr]
 rcases J9 with ⟨h0,rfl,rfl⟩|⟨h0,rfl,rfl⟩
 .obtain⟨tei,_,_,ke1,_⟩:=(hX.ty _ _ e2).ok
  have zero:∀(ao:Option Addr) (n aK:Nat),a.eval s = .slice ao n aK->n<=aK->(execOp a.eval o).run P w = .ok (.value (a.eval s)) w:=fun ao n aK hu hn=>by
   refine exec _ _ ?_;rw[MO,hu,h0];exact jJ (P:=P) w t o.type el _ ht ke1 ao xo n aK xc hn
  have fin:(execOp a.eval o).run P w = .ok (.value (a.eval s)) w->o.wp P a w K Q:=fun hr=>by
   unfold Oper.wp;rw[hr];exact hK _ w T B I bu.refl h hs (fun _ _ _ h=> .inl h) (fun b e hv=>absurd hv my)
  have KQ:=hs;simp only[ap]at KQ;rcases KQ with ⟨_,_,R8,ao,hu⟩|⟨g,gs,aK,_,hu,hle,_⟩
  .exact fin (zero _ _ _ hu (UJ _))
  .exact fin (zero _ _ _ hu hle)
 .have LN:lq S (S.set b (.arr (rows++news) ei.size wep pr)) b (rows.length+news.length):=(CT e5).2 ⟨rfl,by omega,UJ _⟩
  obtain⟨I',w',r,r1,r2,r3,r4,r5,r6⟩:=zI hX (ty:=o.type) (xc:=xc) (prn:=true) h ht e2 Ov c3 h0 d7 d8 hs (hσ _ _ (fH e5).1) (fun _=>rfl) d4 (fun e he=>RC b _ e LN (by omega) (fun ⟨blk,h3,h4⟩=>by
   rw[e5]at h3;injection h3 with h3;subst h3;simp only[dY.len]at h4;omega))
  unfold Oper.wp;rw[exec _ _ (by rw[MO];exact r1)];refine hK r w' T B I' r2 r3 r4 (fun b' e p hp=>(r5 b' e p hp).imp (fun h=>h) (fun h=>by rw[h.1,h.2];exact LN)) fun b' e hv Js=>?_;obtain⟨rfl,_,_⟩:=(CT e5).1 hv;have hl:lenOf S b'=rows.length:=by unfold lenOf;rw[e5];rfl
  rw[hl]at Js ⊢;exact r6 Js
omit [aw] in
def qO{args:List AV}(h:cL X fr o=some (f,args)):(∃fop as ats caps,o.op = .call { callee := .value fop,args:=as,argTypes:=ats }/\ak fr fop = .fn f caps/\args=as.toList.map (ak fr)++caps) \/
  ∃r m as ats t x,o.op = .call { callee := .invoke r m,args:=as,argTypes:=ats }/\ak fr r = .iface t x/\X.meth t m=some f/\args=x::as.toList.map (ak fr):=by
 unfold cL at h;split at h
 .rename_i fop as ats ho;split at h
  .rename_i g caps e1;injection h with h;injection h with q1 q2;subst q1 q2;exact .inl ⟨_,_,_,_,ho,e1,rfl⟩
  .cases h
 .rename_i r m as ats ho;split at h
  .rename_i t x e1;split at h
   .rename_i g e2;injection h with h;injection h with q1 q2;subst q1 q2;exact .inr ⟨_,_,_,_,_,_,ho,e1,e2,rfl⟩
   .cases h
  .cases h
 .cases h
def lh(hX:eC P X){args:List AV}(h:cL X fr o=some (f,args))(I4:∀x,ap w (ak fr x) T B I (a.eval x))(hfn:P.funcs[f]? = some fn)(h1:(fn.name == "runtime.NumGoroutine")=false)(h2:fn.body.isNone=false) :
  ∃us:List Value,(execOp a.eval o).run P w = .ok (.enter f us.toArray) w/\ae w args T B I us:=by
 rcases qO h with ⟨fop,as,ats,caps,ho,hf,rfl⟩|⟨r,m,as,ats,t,x,ho,hr,hm,rfl⟩
 .have h3:=I4 fop;rw[hf]at h3;simp only[ap]at h3;obtain⟨us,h4,h5⟩:=h3;refine⟨(as.map a.eval++us.toArray).toList,?_,?_⟩
  .rw[WK];exact call_run ho h4 hfn h1 h2
  .simp only[Array.toList_append,W9];exact cw (yu I4 _) h5
 .have h3:=I4 r;rw[hr]at h3;simp only[ap]at h3;obtain⟨v,h4,h5⟩:=h3;refine⟨(#[v]++as.map a.eval).toList,?_,?_⟩
  .rw[WK];exact Fy ho h4 (hX.meth _ _ _ hm v w) hfn h1 h2
  .simp only[Array.toList_append,W9,UF,UH,ae];exact⟨v,_,rfl,h5,yu I4 _⟩
variable (hX:eC P X) (hO:zQ P call) (hC:iO P call)
include hX hO hC
def xU(he:dT X o=false)(hs:dH X true call ⟨fr,S⟩ o=some (v,S2)):QStep P S S2 fr v o:=by
 have fromQ:∀{nb:List dY},(∀{base:Nat}{T B:bV}{I:dK}{σ:zS}{w:World}{a:Act},cB base T B I σ w->kp S σ->(∀x,ap w (ak fr x) T B I (a.eval x))->(∀b e,fG S.length nb b e->I b e=none)->(∀k blk,nb[k]? = some blk->Holds σ (S.length+k) blk) ->
   ∃x:Sem Value,execOp a.eval o=(do let u <- x;pure (.value u))/\mj P base T B I σ w S.length nb v x)->S2=S++nb->QStep P S S2 fr v o:=by
  intro nb hq h2;subst h2;refine⟨kp.app nb,fun {base T B I σ w a} h hσ L0 _ I4 {K Q} hK=>?_⟩
  obtain⟨x,hx,T',B',I',w',u,h1,h2,h3,h4,h5⟩:=hq h ((kp.app nb).trans hσ) I4 (fun b e hb=>L0 b e (jj.1 hb)) (fun k blk hk=>hσ _ _ (by
   rw[Vd (by omega),VP];exact hk))
  unfold Oper.wp;rw[hx];simp only[UY,h1,UR,Vo,Oper.upon];exact hK u w' T' B' I' h2 h3 h4 (fun b e p hp=>(h5 b e p hp).imp (fun h=>h) jj.1) (fun b e hv Js=>by rw[oG hv]at Js;cases Js)
 unfold dH at hs;dsimp only at hs;split at hs
 .rename_i v' e1;injection hs with hs;injection hs with q1 q2;subst q1 q2;refine⟨kp.refl,fun {base T B I σ w a} h hσ _ _ I4 {K Q} hK=>?_⟩;obtain⟨u,h1,h2⟩:=uG hX h.TB I4 e1;unfold Oper.wp;rw[h1];exact hK u w T B I bu.refl h h2 (fun _ _ _ h=> .inl h) (fun b e hv=>absurd hv my)
 .split at hs
  .rename_i v' nb e1;injection hs with hs;injection hs with q1 q2;subst q1;exact fromQ (fun h hS I4 h1 h2=>AI hX h hS I4 e1 h1 h2) q2.symm
  .split at hs
   .rename_i v' nb e1;injection hs with hs;injection hs with q1 q2;subst q1;exact fromQ (fun h hS I4 h1 h2=>AM hX h hS I4 e1 h1 h2) q2.symm
   .split at hs
    .rename_i f args e1;split at hs
     .rename_i hb;split at hs
      .cases hs
      .rename_i Rt;exfalso;simp only[VB,V8,Bool.not_eq_false]at Rt;unfold iF at Rt;unfold dT at he;rcases qO e1 with ⟨fop,as,ats,caps,ho,_,_⟩|⟨r,m,as,ats,t,x,ho,_⟩
       .rw[ho]at Rt he;cases fop<;>simp_all
       .rw[ho]at Rt he
        simp_all
     .split at hs
      .rename_i Jb e2;split at hs
       .split at hs
        .rename_i r e3;injection hs with hs;injection hs with q1 q2;subst q1 q2;refine⟨kp.app _,fun {base T B I σ w a} h hσ L0 _ I4 {K Q} hK=>?_⟩
         obtain⟨fn,k1,k2,k3⟩:∃fn,P.funcs[f]? = some fn/\(fn.name == "runtime.NumGoroutine")=false/\fn.body.isNone=false:=by
          unfold jQ at e3;split at e3
          .rename_i e4;exact hO _ _ _ _ e4
          .cases e3
         obtain⟨us,I6,I3⟩:=lh hX e1 I4 k1 k2 k3
         have KA:=tS hC (S:=S) (id:=S.length) h ((kp.app _).trans hσ) I3 e2 e3 (fun b e hb=>L0 b e (jj.1 hb)) (fun k blk hk=>hσ _ _ (by
          rw[Vd (by omega),VP];exact hk))
         unfold Oper.wp;rw[I6];refine kC ?_ KA;rintro e w' ⟨u,T',B',I',rfl,h1,h2,h3,h4⟩;exact⟨u,rfl,hK u w' T' B' I' h1 h2 h3 (fun b e p hp=>(h4 b e p hp).imp (fun h=>h) jj.1) (fun b e hv Js=>by rw[oG hv]at Js;cases Js)⟩
        .cases hs
       .split at hs
        .rename_i r e3;injection hs with hs;injection hs with q1 q2;subst q1 q2;refine⟨kp.app _,fun {base T B I σ w a} h hσ L0 _ I4 {K Q} hK=>?_⟩
         obtain⟨fn,k1,k2,k3⟩:∃fn,P.funcs[f]? = some fn/\(fn.name == "runtime.NumGoroutine")=false/\fn.body.isNone=false:=by
          unfold iL at e3;split at e3
          .rename_i e4;exact hO _ _ _ _ e4
          .cases e3
         obtain⟨us,I6,I3⟩:=lh hX e1 I4 k1 k2 k3
         have KA:=wA (X.frz o.pos) hC (S:=S) (id:=S.length) h ((kp.app _).trans hσ) I3 e2 e3 (fun b e hb=>L0 b e (jj.1 hb)) (fun k blk hk=>hσ _ _ (by
          rw[Vd (by omega),VP];exact hk))
         unfold Oper.wp;rw[I6];refine kC ?_ KA;rintro e w' ⟨u,T',B',I',rfl,h1,h2,h3,h4⟩;exact⟨u,rfl,hK u w' T' B' I' h1 h2 h3 (fun b e p hp=>(h4 b e p hp).imp (fun h=>h) jj.1) (fun b e hv Js=>by rw[oG hv]at Js;cases Js)⟩
        .cases hs
      .cases hs
    .split at hs
     .cases hs
     .rename_i hna;have SM:mM S fr o=true:=by simpa using hna
      have KQ:=hs;unfold iz at hs;unfold dT at he;split at hs
      .rename_i ho;simp[ho]at he
      .rename_i ho;simp[ho]at he
      .rename_i ho;exact IN hX ho KQ SM
      .rename_i ho;simp[ho]at he
      .rename_i ho;simp[ho]at he
      .rename_i ho;simp[ho]at he
      .cases hs
def vk(h:cB base T B I (dN S) w)(I4:∀x,ap w (ak fr x) T B I (a.eval x))(hs:dH X d call ⟨fr,S⟩ o=some (v,S2))
  (hK:∀u w' T' B' I',bu base T B I w T' B' I' w'->cB base T' B' I' (dN S2) w'->ap w' v T' B' I' u->K (a.put o.dst u) w'):o.wp P a w K Q:=by
 have view:∀nb:List dY,cB base T B I (dN (S++nb)) w:=fun nb=>h.view fun b e p hp=>by
  have hb:b<S.length:=by
   rcases Ws b S.length with h1|h1
   .exact h1
   .rw[h.fresh h1]at hp;cases hp
  simp only[dN];rw[UN hb]
 have fresh:∀(nb:List dY) b e,fG S.length nb b e->I b e=none:=fun nb b e hb=>h.fresh hb.at.1 e
 have new:∀(nb:List dY) k blk,nb[k]? = some blk->Holds (dN (S++nb)) (S.length+k) blk:=fun nb k blk hk=>Holds.of (by
  simp only[dN];rw[Vd (by omega),VP];exact hk)
 have fromQ:∀{nb:List dY},(∃x:Sem Value,execOp a.eval o=(do let u <- x;pure (.value u))/\mj P base T B I (dN (S++nb)) w S.length nb v x)->S2=S++nb->o.wp P a w K Q:=by
  rintro nb ⟨x,hx,T',B',I',w',u,h1,h2,h3,h4,h5⟩ h0;subst h0;unfold Oper.wp;rw[hx];simp only[UY,h1,UR,Vo,Oper.upon];exact hK u w' T' B' I' h2 h3 h4
 unfold dH at hs;dsimp only at hs;split at hs
 .rename_i v' e1;injection hs with hs;injection hs with q1 q2;subst q1 q2;obtain⟨u,h1,h2⟩:=uG hX h.TB I4 e1;unfold Oper.wp;rw[h1];exact hK u w T B I bu.refl h h2
 .split at hs
  .rename_i v' nb e1;injection hs with hs;injection hs with q1 q2;subst q1;exact fromQ (AI hX (view nb) (kp.app nb) I4 e1 (fresh nb) (new nb)) q2.symm
  .split at hs
   .rename_i v' nb e1;injection hs with hs;injection hs with q1 q2;subst q1;exact fromQ (AM hX (view nb) (kp.app nb) I4 e1 (fresh nb) (new nb)) q2.symm
   .split at hs
    .rename_i f args e1;split at hs
     .split at hs
      .cases hs
      .obtain⟨fn,k1,k2,k3⟩:=hO _ _ _ _ hs;obtain⟨us,I6,I3⟩:=lh hX e1 I4 k1 k2 k3;unfold Oper.wp;rw[I6];refine kC ?_ (hC _ _ _ _ _ hs _ _ _ _ _ _ h I3);rintro e w' ⟨u,T',B',I',rfl,h1,h2,h3⟩;exact⟨u,rfl,hK u w' T' B' I' h1 h2 h3⟩
     .split at hs
      .rename_i Jb e2;split at hs
       .split at hs
        .rename_i r e3;injection hs with hs;injection hs with q1 q2;subst q1 q2
         obtain⟨fn,k1,k2,k3⟩:∃fn,P.funcs[f]? = some fn/\(fn.name == "runtime.NumGoroutine")=false/\fn.body.isNone=false:=by
          unfold jQ at e3;split at e3
          .rename_i e4;exact hO _ _ _ _ e4
          .cases e3
         obtain⟨us,I6,I3⟩:=lh hX e1 I4 k1 k2 k3;have KA:=tS hC (S:=S) (id:=S.length) (view (fD S.length r).2) (kp.app _) I3 e2 e3 (fresh _) (new _);unfold Oper.wp;rw[I6];refine kC ?_ KA;rintro e w' ⟨u,T',B',I',rfl,h1,h2,h3,_⟩;exact⟨u,rfl,hK u w' T' B' I' h1 h2 h3⟩
        .cases hs
       .split at hs
        .rename_i r e3;injection hs with hs;injection hs with q1 q2;subst q1 q2
         obtain⟨fn,k1,k2,k3⟩:∃fn,P.funcs[f]? = some fn/\(fn.name == "runtime.NumGoroutine")=false/\fn.body.isNone=false:=by
          unfold iL at e3;split at e3
          .rename_i e4;exact hO _ _ _ _ e4
          .cases e3
         obtain⟨us,I6,I3⟩:=lh hX e1 I4 k1 k2 k3;have KA:=wA (X.frz o.pos) hC (S:=S) (id:=S.length) (view (i8 (X.frz o.pos) S.length r).2) (kp.app _) I3 e2 e3 (fresh _) (new _);unfold Oper.wp;rw[I6];refine kC ?_ KA;rintro e w' ⟨u,T',B',I',rfl,h1,h2,h3,_⟩;exact⟨u,rfl,hK u w' T' B' I' h1 h2 h3⟩
        .cases hs
      .cases hs
    .split at hs
     .cases hs
     .obtain⟨T',B',I',w',u,n,h1,h2,h3,h4,h5⟩:=Il hX h I4 hs;unfold Oper.wp;rw[h1];rcases h2 with rfl|⟨rfl,rfl⟩
      .exact hK u w' T' B' I' h3 h4 h5
      .exact hK undef w' T' B' I' h3 h4 h5
end
end
end Go.Eng
