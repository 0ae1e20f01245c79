/- One operation of the small machine, held against the model's. -/
import Derived.Test.YtpdacimgcojgnaaGreatDoorEngK
set_option linter.all false
namespace Go.Eng
open Go.RowKit
variable [Known]

section
variable {P:Program}{X:Ctx}

section
variable {fr fr':List AV}{o:Oper}

omit [Known] in
theorem map_congr {l:List Operand}(h:∀ x∈l,evalA fr x=evalA fr' x):l.map (evalA fr)=l.map (evalA fr'):=List.map_congr_left h

omit [Known] in
theorem opt_congr {l:Option Operand}(h:∀ x∈l,evalA fr x=evalA fr' x):l.map (evalA fr)=l.map (evalA fr'):=by
 cases l with
 | none=>rfl
 | some x=>simp [h x rfl]

omit [Known] in
theorem parts_congr {l:List (Nat×Operand)}(h:∀ x∈l.map (·.2),evalA fr x=evalA fr' x):(l.map fun p=>(p.1,evalA fr p.2))=l.map fun p=>(p.1,evalA fr' p.2) :=
 List.map_congr_left fun p hp=>by rw [h p.2 (List.mem_map_of_mem hp)]

omit [Known] in
theorem calleeOf_congr (h:∀ x∈o.op.operands.toList,evalA fr x=evalA fr' x):calleeOf fr o=calleeOf fr' o:=by
 obtain⟨dst,op,ty,pos,after,guard⟩:=o
 cases op with
 | call c=>
  obtain⟨callee,args,argTypes⟩:=c
  cases callee with
  | value f=>
   have h1:=h f (by simp [Op.operands,Call.operands])
   have h2:args.toList.map (evalA fr)=args.toList.map (evalA fr'):=map_congr fun x hx=>h x (by simp [Op.operands,Call.operands];right;simpa using hx)
   simp only [calleeOf,h1,h2]
  | _=>rfl
 | _=>rfl

omit [Known] in
theorem popA_congr (h:∀ x∈o.op.operands.toList,evalA fr x=evalA fr' x):popA X fr o=popA X fr' o:=by
 obtain⟨dst,op,ty,pos,after,guard⟩:=o
 have e1:∀ {x:Operand},x∈op.operands.toList→evalA fr x=evalA fr' x:=fun {x} hx=>h x hx
 cases op with
 | move x=>have:=e1 (x:=x) (by simp [Op.operands]);simp only [popA];split<;>simp_all
 | assign x=>have:=e1 (x:=x) (by simp [Op.operands]);simp only [popA];split<;>simp_all
 | pick c a b=>
  have h1:=e1 (x:=c) (by simp [Op.operands])
  have h2:=e1 (x:=a) (by simp [Op.operands])
  have h3:=e1 (x:=b) (by simp [Op.operands])
  simp only [popA,h1,h2,h3]
 | nilCheck x=>have:=e1 (x:=x) (by simp [Op.operands]);simp only [popA,this]
 | binOp op t x y ty=>
  have h1:=e1 (x:=x) (by simp [Op.operands])
  have h2:=e1 (x:=y) (by simp [Op.operands])
  simp only [popA,h1,h2]
 | unOp op t x=>have:=e1 (x:=x) (by simp [Op.operands]);simp only [popA,this]
 | convert s d x=>have:=e1 (x:=x) (by simp [Op.operands]);simp only [popA,this]
 | build t parts=>
  have:(parts.toList.map fun p=>(p.1,evalA fr p.2))=parts.toList.map fun p=>(p.1,evalA fr' p.2):=parts_congr fun x hx=>e1 (by simpa [Op.operands] using hx)
  simp only [popA,this]
 | field t x f=>have:=e1 (x:=x) (by simp [Op.operands]);simp only [popA,this]
 | fieldAddr t x f=>have:=e1 (x:=x) (by simp [Op.operands]);simp only [popA,this]
 | indexAddr t x y=>
  have h1:=e1 (x:=x) (by simp [Op.operands])
  have h2:=e1 (x:=y) (by simp [Op.operands])
  simp only [popA,h1,h2]
 | index t x y=>
  have h1:=e1 (x:=x) (by simp [Op.operands])
  have h2:=e1 (x:=y) (by simp [Op.operands])
  simp only [popA,h1,h2]
 | slice t x lo hi mx=>
  have h1:=e1 (x:=x) (by simp [Op.operands])
  have h2:lo.map (evalA fr)=lo.map (evalA fr'):=opt_congr fun y hy=>e1 (by simp [Op.operands];simp_all)
  have h3:hi.map (evalA fr)=hi.map (evalA fr'):=opt_congr fun y hy=>e1 (by simp [Op.operands];simp_all)
  have h4:mx.map (evalA fr)=mx.map (evalA fr'):=opt_congr fun y hy=>e1 (by simp [Op.operands];simp_all)
  simp only [popA,h1,h2,h3,h4]
 | makeFunc fn first captured=>
  have h1:captured.toList.map (evalA fr)=captured.toList.map (evalA fr'):=map_congr fun x hx=>e1 (by simp [Op.operands];right;simpa using hx)
  cases fn<;>simp only [popA,h1]
 | extract x i=>have:=e1 (x:=x) (by simp [Op.operands]);simp only [popA,this]
 | call c=>
  obtain⟨callee,args,argTypes⟩:=c
  cases callee with
  | builtin b=>
   have h2:∀ x∈args.toList,evalA fr x=evalA fr' x:=fun x hx=>e1 (by simp [Op.operands,Call.operands];simpa using hx)
   have h3:=map_congr h2
   cases b<;>simp only [popA,h3]
   split
   ·rename_i x t ea et
    have:=h2 x (by rw [ea];simp)
    simp only [this]
   ·rfl
  | value f=>rfl
  | invoke r m=>rfl
 | _=>rfl

omit [Known] in
theorem qopA_congr {d:Bool}{S:Store}{id:Nat}(h:∀ x∈o.op.operands.toList,evalA fr x=evalA fr' x):qopA X d S id fr o=qopA X d S id fr' o:=by
 obtain⟨dst,op,ty,pos,after,guard⟩:=o
 have e1:∀ {x:Operand},x∈op.operands.toList→evalA fr x=evalA fr' x:=fun {x} hx=>h x hx
 cases op with
 | load t x=>have:=e1 (x:=x) (by simp [Op.operands]);simp only [qopA,this]
 | box t x=>have:=e1 (x:=x) (by simp [Op.operands]);simp only [qopA,this]
 | convert s d x=>have:=e1 (x:=x) (by simp [Op.operands]);simp only [qopA,this]
 | buildSlice t n parts=>
  have:(parts.toList.map fun p=>(p.1,evalA fr p.2))=parts.toList.map fun p=>(p.1,evalA fr' p.2):=parts_congr fun x hx=>e1 (by simpa [Op.operands] using hx)
  simp only [qopA,this]
 | _=>rfl

omit [Known] in
theorem nopA_congr {d:Bool}{S:Store}{id:Nat}(h:∀ x∈o.op.operands.toList,evalA fr x=evalA fr' x):nopA X d S id fr o=nopA X d S id fr' o:=by
 obtain⟨dst,op,ty,pos,after,guard⟩:=o
 have e1:∀ {x:Operand},x∈op.operands.toList→evalA fr x=evalA fr' x:=fun {x} hx=>h x hx
 cases op with
 | call c=>
  obtain⟨callee,args,argTypes⟩:=c
  cases callee with
  | builtin b=>
   have h2:∀ x∈args.toList,evalA fr x=evalA fr' x:=fun x hx=>e1 (by simp [Op.operands,Call.operands];simpa using hx)
   cases b<;>simp only [nopA]
   split
   ·rename_i s x t u ea et
    have q1:=h2 x (by rw [ea];simp)
    have q2:=h2 s (by rw [ea];simp)
    simp only [q1,q2]
   ·rfl
  | value f=>rfl
  | invoke r m=>rfl
 | move x=>unfold nopA;split<;>first|rfl|(rename_i heq;cases heq)
 | assign x=>unfold nopA;split<;>first|rfl|(rename_i heq;cases heq)
 | _=>rfl

omit [Known] in
theorem eopA_congr {S:Store}(h:∀ x∈o.op.operands.toList,evalA fr x=evalA fr' x):eopA X S fr o=eopA X S fr' o:=by
 obtain⟨dst,op,ty,pos,after,guard⟩:=o
 have e1:∀ {x:Operand},x∈op.operands.toList→evalA fr x=evalA fr' x:=fun {x} hx=>h x hx
 cases op with
 | store t x y=>
  have h1:=e1 (x:=x) (by simp [Op.operands])
  have h2:=e1 (x:=y) (by simp [Op.operands])
  simp only [eopA,h1,h2]
 | call c=>
  obtain⟨callee,args,argTypes⟩:=c
  cases callee with
  | builtin b=>
   have h2:∀ x∈args.toList,evalA fr x=evalA fr' x:=fun x hx=>e1 (by simp [Op.operands,Call.operands];simpa using hx)
   cases b<;>simp only [eopA]
   ·split
    ·rename_i s x t u ea et
     have q1:=h2 x (by rw [ea];simp)
     have q2:=h2 s (by rw [ea];simp)
     simp only [q1,q2]
    ·rfl
   ·split
    ·rename_i s t ea et
     have q2:=h2 s (by rw [ea];simp)
     simp only [q2]
    ·rfl
  | value f=>rfl
  | invoke r m=>rfl
 | _=>rfl

omit [Known] in
theorem stepA_congr {d:Bool}{call:CallFn}{S:Store}(h:∀ x∈o.op.operands.toList,evalA fr x=evalA fr' x):stepA X d call ⟨fr,S⟩ o=stepA X d call ⟨fr',S⟩ o:=by
 simp only [stepA,popA_congr h,qopA_congr h,nopA_congr h,calleeOf_congr h,eopA_congr h]
end

def CallOK (P:Program) (call:CallFn):Prop := ∀ f args S r,call f args S=some r→∃ fn,P.funcs[f]? = some fn∧(fn.name == "runtime.NumGoroutine")=false∧fn.body.isNone=false

omit [Known] in
theorem call_run {o:Oper}{a:Act}{fop:Operand}{args:Array Operand}{ats:Array TypeId}{g:FuncId}{cap:Array Value}{fn:Func}{w:World}(ho:o.op = .call { callee := .value fop,args,argTypes:=ats }) (hf:a.eval fop = .func (.func g) #[] cap)
  (hfn:P.funcs[g]? = some fn) (h1:(fn.name == "runtime.NumGoroutine")=false) (h2:fn.body.isNone=false):(execOp a.eval o).run P w = .ok (.enter g (args.map a.eval++cap)) w:=by
 simp only [execOp,ho,resolve,Deferred.ofValue,hf,Sem.run_bind,Sem.run_pure,Result.andThen_ok,invoke,callFunc,run_program,hfn,h1,h2,Bool.false_eq_true,if_false,Array.empty_append]

omit [Known] in
theorem upon_enter {o:Oper}{a:Act}{K:Act→World→Prop}{Q:Exit→Act→World→Prop}{g:FuncId}{args:Array Value}{w:World}{R:Ending→World→Prop}(hR:∀ e w',R e w'→∃ u,e = .returned u∧K (a.put o.dst u) w') (h:Calls P g args w R) :
  o.upon P a K Q (.ok (.enter g args) w):=by
 simp only [Oper.upon]
 refine h.mono fun e w' he=>?_
 obtain⟨u,rfl,hk⟩:=hR e w' he
 exact hk

section
variable {base:Nat}{T B:Area}{I:Inj}{S S2:Store}{w:World}{call:CallFn}{fr:List AV}{a:Act}{o:Oper}{v:AV}{K:Act→World→Prop}{Q:Exit→Act→World→Prop}

def effKind (X:Ctx) (o:Oper):Bool :=
 match o.op with
 | .store .. =>true
 | .call { callee := .builtin .clear,.. }=>true
 | .call { callee := .value (.func f),.. }=>X.byRef f
 | _=>false

omit [Known] in
theorem calleeOf_spec {f:FuncId}{args:List AV}(h:calleeOf fr o=some (f,args)):∃ fop as ats caps,o.op = .call { callee := .value fop,args:=as,argTypes:=ats }∧evalA fr fop = .fn f caps∧args=as.toList.map (evalA fr)++caps:=by
 unfold calleeOf at h
 split at h
 ·rename_i fop as ats ho
  split at h
  ·rename_i g caps e1
   injection h with h;injection h with q1 q2;subst q1 q2
   exact⟨_,_,_,_,ho,e1,rfl⟩
  ·cases h
 ·cases h

omit [Known] in
theorem args_rep {fop:Operand}{as:Array Operand}{f:FuncId}{caps:List AV}(hfr:∀ x,vrep w (evalA fr x) T B I (a.eval x)) (hf:evalA fr fop = .fn f caps) :
  ∃ us:List Value,a.eval fop = .func (.func f) #[] us.toArray∧listRep w (as.toList.map (evalA fr)++caps) T B I (as.map a.eval++us.toArray).toList:=by
 have h:=hfr fop
 rw [hf] at h
 simp only [vrep] at h
 obtain⟨us,h1,h2⟩:=h
 refine⟨us,h1,?_⟩
 simp only [Array.toList_append,Array.toList_map]
 exact zbN (map_of hfr _) h2

variable (hX:CtxOK P X) (hO:CallOK P call) (hC:CallSound P call)
include hX hO hC

theorem quiet_step (he:effKind X o=false) (hs:stepA X true call ⟨fr,S⟩ o=some (v,S2)):∃ nb,S2=S++nb∧∀ {base:Nat}{T B:Area}{I:Inj}{σ:Sig}{w:World}{a:Act},Rel base T B I σ w→(∀ b blk,S2[b]? = some blk→σ b=some blk) →
  (∀ b,S.length≤b→b<S2.length→∀ e,I b e=none)→(∀ x,vrep w (evalA fr x) T B I (a.eval x))→∀ {K:Act→World→Prop}{Q:Exit→Act→World→Prop},
  (∀ u w' T' B' I',Step base T B I w T' B' I' w'→Rel base T' B' I' σ w'→vrep w' v T' B' I' u→(∀ b e p,I' b e=some p→I b e=some p∨(S.length≤b∧b<S2.length))→K (a.put o.dst u) w')→o.wp P a w K Q:=by
 have fromQ:∀ {nb:List Blk},(∀ {base:Nat}{T B:Area}{I:Inj}{σ:Sig}{w:World}{a:Act},Rel base T B I σ w→(∀ b blk,S[b]? = some blk→σ b=some blk)→(∀ x,vrep w (evalA fr x) T B I (a.eval x))→(nb≠[]→∀ e,I S.length e=none)→(∀ blk,nb = [blk]→σ S.length=some blk) →
   ∃ x:Sem Value,execOp a.eval o=(do let u ← x;pure (.value u))∧QOut P base T B I σ w S.length nb v x)→S2=S++nb→∃ nb,S2=S++nb∧∀ {base:Nat}{T B:Area}{I:Inj}{σ:Sig}{w:World}{a:Act},Rel base T B I σ w→(∀ b blk,S2[b]? = some blk→σ b=some blk) →
  (∀ b,S.length≤b→b<S2.length→∀ e,I b e=none)→(∀ x,vrep w (evalA fr x) T B I (a.eval x))→∀ {K:Act→World→Prop}{Q:Exit→Act→World→Prop},
  (∀ u w' T' B' I',Step base T B I w T' B' I' w'→Rel base T' B' I' σ w'→vrep w' v T' B' I' u→(∀ b e p,I' b e=some p→I b e=some p∨(S.length≤b∧b<S2.length))→K (a.put o.dst u) w')→o.wp P a w K Q:=by
  intro nb hq h2
  subst h2
  refine⟨nb,rfl,fun {base T B I σ w a} h hσ hf hfr {K Q} hK=>?_⟩
  obtain⟨x,hx,T',B',I',w',u,h1,h2,h3,h4,h5⟩:=hq h (fun b blk hb=>hσ b blk (by rw [List.getElem?_append_left (List.getElem?_eq_some_iff.1 hb).1];exact hb)) hfr (fun hne=>hf S.length (Nat.le_refl _) (by
    rw [List.length_append];have:0<nb.length:=List.length_pos_iff.2 hne;omega)) (fun blk hb=>hσ _ _ (by subst hb;simp))
  unfold Oper.wp
  rw [hx]
  simp only [Sem.run_bind,h1,Result.andThen_ok,Sem.run_pure,Oper.upon]
  refine hK u w' T' B' I' h2 h3 h4 fun b e p hp=>(h5 b e p hp).imp (fun h=>h) (fun h=>?_)
  rw [List.length_append]
  have:0<nb.length:=List.length_pos_iff.2 h.2
  exact⟨by omega,by omega⟩
 unfold stepA at hs
 dsimp only at hs
 split at hs
 ·rename_i v' e1
  injection hs with hs;injection hs with q1 q2;subst q1 q2
  refine⟨[],by simp,fun {base T B I σ w a} h hσ hf hfr {K Q} hK=>?_⟩
  obtain⟨u,h1,h2⟩:=pop_sound hX h.TB hfr e1
  unfold Oper.wp
  rw [h1]
  exact hK u w T B I Step.refl h h2 fun _ _ _ h=> .inl h
 ·split at hs
  ·rename_i v' nb e1
   injection hs with hs;injection hs with q1 q2;subst q1
   exact fromQ (fun h hS hfr h1 h2=>qop_sound hX h hS hfr e1 h1 h2) q2.symm
  ·split at hs
   ·rename_i v' nb e1
    injection hs with hs;injection hs with q1 q2;subst q1
    exact fromQ (fun h hS hfr h1 h2=>nop_sound hX h hS hfr e1 h1 h2) q2.symm
   ·split at hs
    ·rename_i f args e1
     obtain⟨fop,as,ats,caps,ho,hf,rfl⟩:=calleeOf_spec e1
     split at hs
     ·rename_i hb
      split at hs
      ·cases hs
      ·rename_i hsr
       simp only [Bool.true_and,Bool.not_eq_true',Bool.not_eq_false] at hsr
       unfold staticRef at hsr
       unfold effKind at he
       rw [ho] at hsr he
       cases fop<;>simp_all
     ·split at hs
      ·rename_i args' e2
       split at hs
       ·rename_i r e3
        injection hs with hs;injection hs with q1 q2;subst q1 q2
        refine⟨_,rfl,fun {base T B I σ w a} h hσ hfr' hfr {K Q} hK=>?_⟩
        obtain⟨us,hu,hargs⟩:=args_rep (as:=as) hfr hf
        have hcv:=callZ_sound (X.frz o.pos) hC (S:=S) (id:=S.length) h (fun b blk hb=>hσ b blk (by rw [List.getElem?_append_left (List.getElem?_eq_some_iff.1 hb).1];exact hb)) hargs e2 e3 (fun b h1 h2=>hfr' b h1 (by rw [List.length_append];exact h2)) (fun k blk hk=>hσ _ _ (by
         rw [List.getElem?_append_right (by omega),Nat.add_sub_cancel_left];exact hk))
        obtain⟨fn,k1,k2,k3⟩:∃ fn,P.funcs[f]? = some fn∧(fn.name == "runtime.NumGoroutine")=false∧fn.body.isNone=false:=by
         unfold callV at e3
         split at e3
         ·rename_i e4;exact hO _ _ _ _ e4
         ·cases e3
        unfold Oper.wp
        rw [call_run ho hu k1 k2 k3]
        rw [Array.toArray_toList] at hcv
        refine upon_enter ?_ hcv
        rintro e w' ⟨u,T',B',I',rfl,h1,h2,h3,h4⟩
        exact⟨u,rfl,hK u w' T' B' I' h1 h2 h3 fun b e p hp=>(h4 b e p hp).imp (fun h=>h) (fun h=>by rw [List.length_append];exact h)⟩
       ·cases hs
      ·cases hs
    ·split at hs
     ·cases hs
     ·rename_i hna
      exfalso
      unfold eopA at hs
      unfold effKind at he
      split at hs
      ·rename_i ho;simp [ho] at he
      ·rename_i ho;unfold isAppend at hna;simp [ho] at hna
      ·rename_i ho;simp [ho] at he
      ·cases hs

theorem full_step {d:Bool}(h:Rel base T B I (sig S) w) (hfr:∀ x,vrep w (evalA fr x) T B I (a.eval x)) (hs:stepA X d call ⟨fr,S⟩ o=some (v,S2))
  (hK:∀ u w' T' B' I',Step base T B I w T' B' I' w'→Rel base T' B' I' (sig S2) w'→vrep w' v T' B' I' u→K (a.put o.dst u) w'):o.wp P a w K Q:=by
 have view:∀ nb:List Blk,Rel base T B I (sig (S++nb)) w:=fun nb=>h.view fun b e p hp=>by
  have hb:b<S.length:=by
   rcases Nat.lt_or_ge b S.length with h1|h1
   ·exact h1
   ·rw [h.fresh h1] at hp;cases hp
  simp only [sig]
  rw [List.getElem?_append_left hb]
 have fromQ:∀ {nb:List Blk},(∃ x:Sem Value,execOp a.eval o=(do let u ← x;pure (.value u))∧QOut P base T B I (sig (S++nb)) w S.length nb v x)→S2=S++nb→o.wp P a w K Q:=by
  rintro nb ⟨x,hx,T',B',I',w',u,h1,h2,h3,h4,h5⟩ h0
  subst h0
  unfold Oper.wp
  rw [hx]
  simp only [Sem.run_bind,h1,Result.andThen_ok,Sem.run_pure,Oper.upon]
  exact hK u w' T' B' I' h2 h3 h4
 have sub:∀ (nb:List Blk) b blk,S[b]? = some blk→sig (S++nb) b=some blk:=fun nb b blk hb=>by
  simp only [sig]
  rw [List.getElem?_append_left (List.getElem?_eq_some_iff.1 hb).1];exact hb
 unfold stepA at hs
 dsimp only at hs
 split at hs
 ·rename_i v' e1
  injection hs with hs;injection hs with q1 q2;subst q1 q2
  obtain⟨u,h1,h2⟩:=pop_sound hX h.TB hfr e1
  unfold Oper.wp
  rw [h1]
  exact hK u w T B I Step.refl h h2
 ·split at hs
  ·rename_i v' nb e1
   injection hs with hs;injection hs with q1 q2;subst q1
   exact fromQ (qop_sound hX (view nb) (sub nb) hfr e1 (fun _=>h.fresh (Nat.le_refl _)) (fun blk hb=>by subst hb;simp [sig])) q2.symm
  ·split at hs
   ·rename_i v' nb e1
    injection hs with hs;injection hs with q1 q2;subst q1
    exact fromQ (nop_sound hX (view nb) (sub nb) hfr e1 (fun _=>h.fresh (Nat.le_refl _)) (fun blk hb=>by subst hb;simp [sig])) q2.symm
   ·split at hs
    ·rename_i f args e1
     obtain⟨fop,as,ats,caps,ho,hf,rfl⟩:=calleeOf_spec e1
     obtain⟨us,hu,hargs⟩:=args_rep (as:=as) hfr hf
     split at hs
     ·split at hs
      ·cases hs
      ·obtain⟨fn,k1,k2,k3⟩:=hO _ _ _ _ hs
       unfold Oper.wp
       rw [call_run ho hu k1 k2 k3]
       have hc:=hC _ _ _ _ _ hs _ _ _ _ _ _ h hargs
       rw [Array.toArray_toList] at hc
       refine upon_enter ?_ hc
       rintro e w' ⟨u,T',B',I',rfl,h1,h2,h3⟩
       exact⟨u,rfl,hK u w' T' B' I' h1 h2 h3⟩
     ·split at hs
      ·rename_i args' e2
       split at hs
       ·rename_i r e3
        injection hs with hs;injection hs with q1 q2;subst q1 q2
        have hcv:=callZ_sound (X.frz o.pos) hC (S:=S) (id:=S.length) (view (adoptZ (X.frz o.pos) S.length r).2) (sub _) hargs e2 e3 (fun b h1 h2=>h.fresh h1) (fun k blk hk=>by
         simp only [sig]
         rw [List.getElem?_append_right (by omega),Nat.add_sub_cancel_left];exact hk)
        obtain⟨fn,k1,k2,k3⟩:∃ fn,P.funcs[f]? = some fn∧(fn.name == "runtime.NumGoroutine")=false∧fn.body.isNone=false:=by
         unfold callV at e3
         split at e3
         ·rename_i e4;exact hO _ _ _ _ e4
         ·cases e3
        unfold Oper.wp
        rw [call_run ho hu k1 k2 k3]
        rw [Array.toArray_toList] at hcv
        refine upon_enter ?_ hcv
        rintro e w' ⟨u,T',B',I',rfl,h1,h2,h3,_⟩
        exact⟨u,rfl,hK u w' T' B' I' h1 h2 h3⟩
       ·cases hs
      ·cases hs
    ·split at hs
     ·cases hs
     ·obtain⟨T',B',I',w',u,n,h1,h2,h3,h4,h5⟩:=eop_sound hX h hfr hs
      unfold Oper.wp
      rw [h1]
      rcases h2 with rfl|⟨rfl,rfl⟩
      ·exact hK u w' T' B' I' h3 h4 h5
      ·exact hK undef w' T' B' I' h3 h4 h5
end
end
end Go.Eng
