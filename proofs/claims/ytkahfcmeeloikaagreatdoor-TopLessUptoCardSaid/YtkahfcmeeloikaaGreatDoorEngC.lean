/- The small machine's operations that only compute, held against the model's. -/
import Derived.Test.YtkahfcmeeloikaaGreatDoorEngB
import Derived.Laws.Tables
import Derived.Laws.StructEq
import Derived.Laws.Cover3
set_option linter.all false
set_option maxHeartbeats 1000000
namespace Go.Eng
open Go.RowKit
variable {f:Nat}{i:mN}{op:BinOp}{u1 u2:Value}{us:List Value}{v x y:AV}
def yG:TypeDesc->Bool
 | .struct _ | .array _ _=>true
 | _=>false
def cg(P:Program)(d:TypeDesc):TD->Prop
 | .int k=>d = .int k
 | .str=>d = .string
 | .bool=>d = .bool
 | .slice e=>d = .slice e
 | .struct fs=> ∃fields:Array Field,d = .struct fields/\fields.toList.map (fun f=>(f.offset,f.type))=fs/\(fields.toList.mapM (fun f=>(P.info? f.type).map fun i=>(f.offset,i.size))).isSome=true
 | .array n e=>d = .array n e
 | .map k e=>d = .map k e
 | .other=>True
def BY:Value->Bool
 | .agg _=>true
 | _=>false
def Cp(zs:List AV)(us:List Value):Prop:=zs=us.map IV/\∀u∈us,u.oneCell'=true
structure TyOK (P:Program) (t:TypeId) (i:mN):Prop where
 ok:∃ti d z,P.info? t=some ti/\P.underlying t=some d/\ti.zero=some z/\ti.size=i.size/\ti.bytes=i.bytes/\Cp i.zero z.cells.toList/\yG d=i.agg/\cg P d i.desc
 zagg:∀ti z,P.info? t=some ti->ti.zero=some z->BY z=i.agg
def gz:AV->Value
 | .int k n=> .int k n
 | .bool b=> .bool b
 | .str s=> .string s
 | _=>undef
class aw where
 blk:Nat->Option Obj
structure eC [aw] (P:Program) (X:dV):Prop where
 mixed:P.follows .mixedOrders=true
 ty:∀t i,X.ty t=some i->TyOK P t i
 eqT:∀t ks,X.eqT t=some ks->∀xs ys b,cn ks xs ys=some b->∀w,(Op.equal t (.agg (xs.map gz).toArray) (.agg (ys.map gz).toArray)).run P w = .ok b w /\
  ∀op x y,(eqGuard op t x y (.agg (xs.map gz).toArray) (.agg (ys.map gz).toArray)).run P w = .ok () w
 meth:∀t m f,X.meth t m=some f->∀v w,(method (P.types.size+Made.depth) t v m).run P w = .ok (f,v) w
 keyT:∀t ks,X.eqT t=some ks->(∃fs,P.underlying t=some (.struct fs))/\∀xs,ep ks xs=true->∀b w,(Instr.checkKey b 10000 t (.agg (xs.map gz).toArray)).run P w = .ok () w
 glob:∀g row,X.glob g=some row->∃o,aw.blk g=some o/\∀(w:World) (T B:bV) (I:dK),w.heap[g]? = some o->aU w row T B I g 0
variable [aw]
section
variable {P:Program}{X:dV}(hX:eC P X){w:World}{T B:bV}{I:dK}
def BO(v:Value):ap w (IV v) T B I v:=by
 cases v<;>simp[IV,ap]
def Dh(v:Value):ap w (sS v) T B I v:=by
 have key:∀cs:Array Value,ap w (sS (.agg cs)) T B I (.agg cs):=fun cs=>by
  simp only[sS,ap];refine⟨cs.toList,by simp,?_⟩;have:=lE (w:=w) (T:=T) (B:=B) (I:=I) (f:=IV) (g:=id) cs.toList (fun x _=>BO x);simpa using this
 cases v<;>first|exact key _|(simp only[sS];exact BO _)
theorem oW{fr:List AV}{a:Act}(I4:ae w fr T B I a.tmps.toList)(x:Operand):ap w (ak fr x) T B I (a.eval x):=by
 cases x with
 | tmp t=>
  simp only[ak,eS,Act.eval];by_cases ht:t<fr.length
  .obtain⟨u,h1,h2⟩:=fQ I4 t _ (UL ht);simp only[W5]at h1;rw[Ve,UL ht,Array.getD_eq_getD_getElem?,h1];exact h2
  .rw[Ve,VO (Nat.le_of_not_lt ht)];simp[ap]
 | const v=>exact Dh v
 | global g=>simp[ak,ap,Act.eval]
 | func f=>simp[ak,ap,Act.eval,ae]
def bm{t:TypeId}(h:TyOK P t i):∃ti d z,P.info? t=some ti/\P.underlying t=some d/\ti.zero=some z/\ti.size=i.size/\ti.bytes=i.bytes/\Cp i.zero z.cells.toList/\yG d=i.agg/\cg P d i.desc /\
  (∀w,(underlying t).run P w = .ok d w)/\(∀w,(sizeOf t).run P w = .ok i.size w)/\(∀w,(isAgg t).run P w = .ok i.agg w)/\(∀w,(zeroValue t).run P w = .ok z w)/\(∀w,(typeInfo t).run P w = .ok ti w):=by
 obtain⟨ti,d,z,h1,h2,h3,h4,h5,h6,h7,h8⟩:=h.ok;refine⟨ti,d,z,h1,h2,h3,h4,h5,h6,h7,h8,fun w=>run_underlying h2 w,fun w=>by simp[sizeOf,typeInfo,h1,h4],fun w=>?_,fun w=>by simp[zeroValue,typeInfo,h1,h3],fun w=>by simp[typeInfo,h1]⟩;unfold isAgg;simp only[UY,run_underlying h2,UR];rw[<-h7];cases d<;>rfl
def kA{zs:List AV}(h:Cp zs us):ae w zs T B I us:=by
 rw[h.1];have:=lE (w:=w) (T:=T) (B:=B) (I:=I) (f:=IV) (g:=id) us (fun x _=>BO x);simpa using this
theorem run_int{t:TypeId}{k k':IntKind}{a b:Int}(ox oy:Operand)
  (h:zE X op t (.int k a) (.int k' b)=some v):∃u,(∀w1,(do eqGuard op t ox oy (.int k a) (.int k' b);binOp op t (.int k a) (.int k' b):Sem Value).run P w1 = .ok u w1)/\ap w v T B I u:=by
 have hg:∀w1,(eqGuard op t ox oy (.int k a) (.int k' b)).run P w1 = .ok () w1:=fun w1=>by
  unfold eqGuard;cases op<;>simp
 by_cases hs:op = .shl\/op = .shr
 .rcases hs with rfl|rfl <;>
  .simp only[zE,iS]at h;split at h
   .cases h
   .rename_i hb;injection h with h;subst h;refine⟨_,fun w1=>?_,by simp only[ap];rfl⟩;simp[hg,binOp,Op.shift,hb]
 .have J2:op≠.shl:=fun e=>hs (.inl e);have KQ:op≠.shr:=fun e=>hs (.inr e);have h':(if k=k' then ve op k a b else none)=some v:=by cases op<;>first|exact h|exact absurd rfl J2|exact absurd rfl KQ
  split at h'
  .rename_i hk;subst hk;cases op<;>simp only[ve]at h'<;>first|exact absurd rfl J2|exact absurd rfl KQ|skip
   case quo=>
    split at h'
    .cases h'
    .rename_i hb;refine⟨gz v,fun w1=>?_,?_⟩<;>(injection h' with h';subst h')
     .simp[hg,binOp,Op.intDiv,hb,gz]
     .simp only[ap,gz]
   case rem=>
    split at h'
    .cases h'
    .rename_i hb;refine⟨gz v,fun w1=>?_,?_⟩<;>(injection h' with h';subst h')
     .simp[hg,binOp,Op.intDiv,hb,gz]
     .simp only[ap,gz]
   all_goals (try cases h')
   all_goals first
    | exact⟨_,fun w1=>by simp[hg,binOp,Op.intArith];rfl,by simp only[ap]⟩
    | exact⟨_,fun w1=>by simp[hg,binOp,Op.intBits];rfl,by simp only[ap]⟩
    | exact⟨_,fun w1=>by simp[hg,binOp,Op.intCmp];rfl,by simp only[ap]⟩
  .cases h'
def run_str{t:TypeId}{x y:ByteArray}(ox oy:Operand)
  (h:zE X op t (.str x) (.str y)=some v):∃u,(∀w1,(do eqGuard op t ox oy (.string x) (.string y);binOp op t (.string x) (.string y):Sem Value).run P w1 = .ok u w1)/\ap w v T B I u:=by
 have hg:∀w1,(eqGuard op t ox oy (.string x) (.string y)).run P w1 = .ok () w1:=fun w1=>by
  unfold eqGuard;cases op<;>simp
 have h':ik op x y=some v:=by cases op<;>exact h
 cases op<;>simp only[ik]at h'<;>try (cases h';done)
 case add=>
  split at h'<;>cases h'
  rename_i hb;refine⟨_,fun w1=>?_,by simp only[ap];rfl⟩;have JC:¬(IntKind.i64.max<((x.size+y.size:Nat):Int)):=by simpa[IntKind.max,IntKind.bits,IntKind.signed]using hb
  simp only[UY,hg,UR,binOp,Op.stringOp];rw[if_neg (by simpa using JC)];rfl
 all_goals
  refine⟨gz v,fun w1=>?_,?_⟩<;>(injection h' with h';subst h')
  .simp[hg,binOp,Op.stringOp,gz]
  .simp only[ap,gz]
theorem oY:∀{ks:List EK}{xs ys:List AV}{b:Bool}{us vs:List Value},cn ks xs ys=some b->ae w xs T B I us->ae w ys T B I vs->us=xs.map gz/\vs=ys.map gz
 | [],[],[],_,_,_,_,h2,h3=>by simp only[ae]at h2 h3;subst h2 h3;simp
 | k::ks,x::xs,y::ys,b,us,vs,h1,h2,h3=>by
  simp only[cn]at h1;split at h1
  .rename_i b1 b2 e1 e2;simp only[ae]at h2 h3;obtain⟨u,Jf,rfl,hu,JM⟩:=h2;obtain⟨v,vs',rfl,hv,J3⟩:=h3;obtain⟨q1,q2⟩:=oY e2 JM J3;subst q1 q2
   have:u=gz x/\v=gz y:=by
    cases k<;>cases x<;>simp only[kV]at e1<;>try (cases e1;done)
    all_goals
     cases y<;>simp only[kV]at e1<;>try (cases e1;done)
     simp only[ap]at hu hv;exact⟨hu,hv⟩
   simp[this.1,this.2]
  .cases h1
 | [],[],_::_,_,_,_,h,_,_=>by simp[cn]at h
 | [],_::_,_,_,_,_,h,_,_=>by simp[cn]at h
 | _::_,[],_,_,_,_,h,_,_=>by simp[cn]at h
 | _::_,_::_,[],_,_,_,h,_,_=>by simp[cn]at h
include hX in
def HJ{t:TypeId}{b:Bool}{u v:Value}(h:kW X t x y=some b)(hu:ap w x T B I u)(hv:ap w y T B I v) :
  (∀w1,(Op.equal t u v).run P w1 = .ok b w1)/\(∀op ox oy w1,(eqGuard op t ox oy u v).run P w1 = .ok () w1) /\
  (∀w1,(binOp .eql t u v).run P w1 = .ok (.bool b) w1)/\(∀w1,(binOp .neq t u v).run P w1 = .ok (.bool (!b)) w1):=by
 unfold kW at h;split at h
 .rename_i a c;simp only[ap]at hu hv;subst hu hv;split at h
  .rename_i e1;injection h with h;subst h;obtain⟨ti,d,z,h1,h2,h3,h4,h5,h6,h7,h8,r1,r2,r3,r4,r5⟩:=bm (hX.ty _ _ e1);simp only[cg]at h8;subst h8;have he:∀w1,(Op.equal t (.bool a) (.bool c)).run P w1 = .ok (a == c) w1:=fun w1=>run_equal_bool w1 t a c h2;refine⟨he,fun op ox oy w1=>by unfold eqGuard;cases op<;>simp,fun w1=>?_,fun w1=>?_⟩<;>simp[binOp,he]
  .cases h
 .rename_i xs ys;split at h
  .rename_i ks e1;simp only[ap]at hu hv;obtain⟨us,rfl,hu⟩:=hu;obtain⟨vs,rfl,hv⟩:=hv;obtain⟨rfl,rfl⟩:=oY h hu hv;have he:=hX.eqT t ks e1 xs ys b h;refine⟨fun w1=>(he w1).1,fun op ox oy w1=>(he w1).2 op ox oy,fun w1=>?_,fun w1=>?_⟩<;>simp[binOp,(he _).1]
  .cases h
 .simp only[ap]at hv;subst hv
  have fin:∀(ao:Option Addr) (n c:Nat),(∃e,P.underlying t=some (.slice e))->(∀w1,(Op.equal t (.slice ao n c) (.slice none 0 0)).run P w1 = .ok ao.isNone w1) /\
    (∀op ox oy w1,(eqGuard op t ox oy (.slice ao n c) (.slice none 0 0)).run P w1 = .ok () w1) /\
    (∀w1,(binOp .eql t (.slice ao n c) (.slice none 0 0)).run P w1 = .ok (.bool ao.isNone) w1)/\(∀w1,(binOp .neq t (.slice ao n c) (.slice none 0 0)).run P w1 = .ok (.bool (!ao.isNone)) w1):=by
   rintro ao n c ⟨e,he⟩;have hq:∀w1,(Op.equal t (.slice ao n c) (.slice none 0 0)).run P w1 = .ok ao.isNone w1:=fun w1=>run_equal_slice_nil w1 t e ao n c he;refine⟨hq,fun op ox oy w1=>by unfold eqGuard;cases op<;>simp,fun w1=>?_,fun w1=>?_⟩<;>simp[binOp,hq]
  have OA:∀{a b c d e},X.ty t=some ⟨a,b,c,d,.slice e⟩->∃e,P.underlying t=some (.slice e):=fun h=>by
   obtain⟨ti,d,z,h1,h2,h3,h4,h5,h6,h7,h8⟩:=(hX.ty _ _ h).ok;simp only[cg]at h8;subst h8;exact⟨_,h2⟩
  split at h
  .rename_i e1;injection h with h;subst h;simp only[ap]at hu;obtain⟨ao,aK,rfl,_,_,_,h5⟩:=hu;obtain⟨g,off,rfl,_⟩:=h5 (by simp);exact fin _ _ _ (OA e1)
  .rename_i e1;injection h with h;subst h;simp only[ap]at hu;rcases hu with ⟨_,_,h0,_⟩|⟨g,gs,aK,_,rfl,_⟩
   .omega
   .exact fin _ _ _ (OA e1)
  .rename_i e1;injection h with h;subst h;simp only[ap]at hu;subst hu;exact fin _ _ _ (OA e1)
  .rename_i e1;injection h with h;subst h;simp only[ap]at hu;subst hu;exact fin _ _ _ (OA e1)
  .cases h
 .cases h
include hX in
def run_binA{t:TypeId}(ox oy:Operand)(h:zE X op t x y=some v)(h1:ap w x T B I u1)(h2:ap w y T B I u2) :
  ∃u,(∀w1,(do eqGuard op t ox oy u1 u2;binOp op t u1 u2:Sem Value).run P w1 = .ok u w1)/\ap w v T B I u:=by
 have eqcase:∀{b},kW X t x y=some b->(op = .eql->v = .bool b)->(op = .neq->v = .bool (!b))->op = .eql\/op = .neq->∃u,(∀w1,(do eqGuard op t ox oy u1 u2;binOp op t u1 u2:Sem Value).run P w1 = .ok u w1)/\ap w v T B I u:=by
  intro b hb q1 q2 hor;obtain⟨_,r2,r3,r4⟩:=HJ hX hb h1 h2;rcases hor with rfl|rfl
  .exact⟨.bool b,fun w1=>by simp[r2,r3],by rw[q1 rfl];simp only[ap]⟩
  .exact⟨.bool (!b),fun w1=>by simp[r2,r4],by rw[q2 rfl];simp only[ap]⟩
 by_cases hi:(∃k a k' b,x = .int k a/\y = .int k' b)
 .obtain⟨k,a,k',b,rfl,rfl⟩:=hi;simp only[ap]at h1 h2;subst h1 h2;exact run_int ox oy h
 by_cases hs:(∃a b,x = .str a/\y = .str b)
 .obtain⟨a,b,rfl,rfl⟩:=hs;simp only[ap]at h1 h2;subst h1 h2;exact run_str ox oy h
 unfold zE at h;split at h
 .exact absurd ⟨_,_,_,_,rfl,rfl⟩ hi
 .exact absurd ⟨_,_,_,_,rfl,rfl⟩ hi
 .exact absurd ⟨_,_,_,_,rfl,rfl⟩ hi
 .exact absurd ⟨_,_,rfl,rfl⟩ hs
 .rw[Vl]at h;obtain⟨b,hb,rfl⟩:=h;exact eqcase hb (fun _=>rfl) (fun e=>by cases e) (.inl rfl)
 .rw[Vl]at h;obtain⟨b,hb,rfl⟩:=h;exact eqcase hb (fun e=>by cases e) (fun _=>rfl) (.inr rfl)
 .cases h
def run_unA{op:UnOp}(h:unA op x=some v)(h1:ap w x T B I u1):∃u,(∀w1,(Op.unary op u1).run P w1 = .ok u w1)/\ap w v T B I u:=by
 unfold unA at h;split at h
 .injection h with h;subst h;simp only[ap]at h1;subst h1;exact⟨_,fun w1=>by simp[Op.unary,Op.intArith];rfl,by simp only[ap];congr 1;simp⟩
 .injection h with h;subst h;simp only[ap]at h1;subst h1;exact⟨_,fun w1=>by simp only[Op.unary,Op.intBits,Vo];rfl,by simp only[ap]⟩
 .injection h with h;subst h;simp only[ap]at h1;subst h1;exact⟨_,fun w1=>by simp[Op.unary];rfl,by simp only[ap]⟩
 .cases h
include hX in
def HK{src dst:TypeId}(h:zh X src dst x=some v)(h1:ap w x T B I u1):∃u,(∀w1,(convert src dst u1).run P w1 = .ok u w1)/\ap w v T B I u:=by
 unfold zh at h;split at h
 .rename_i i e1 e2;obtain⟨ti,d,z,_,k2,_,_,_,_,_,_,r1,_⟩:=bm (hX.ty _ _ e1);obtain⟨ti',d',z',_,k2',_,_,_,_,_,k8,r1',_⟩:=bm (hX.ty _ _ e2);simp only[cg]at k8;subst k8;injection h with h;subst h;simp only[ap]at h1;subst h1;exact⟨_,fun w1=>by simp[convert,r1,r1',Conv.intToInt];rfl,by simp only[ap]⟩
 .rename_i i e1 e2;obtain⟨ti,d,z,_,k2,_,_,_,_,_,_,r1,_⟩:=bm (hX.ty _ _ e1);obtain⟨ti',d',z',_,k2',_,_,_,_,_,k8,r1',_⟩:=bm (hX.ty _ _ e2);simp only[cg]at k8;subst k8;injection h with h;subst h;simp only[ap]at h1;subst h1;exact⟨_,fun w1=>by simp[convert,r1,r1'];rfl,by simp only[ap]⟩
 .cases h
include hX in
def AD{t:TypeId}{row:List AV}{off:Nat}(ht:X.ty t=some i)(h:gU i row off=some v)(hr:ae w row T B I us) :
  ∃u,(∀w1,(part t us.toArray off).run P w1 = .ok u w1)/\ap w v T B I u:=by
 obtain⟨ti,d,z,_,_,_,_,_,_,_,_,_,r2,r3,_⟩:=bm (hX.ty _ _ ht);unfold gU at h;split at h
 .rename_i ha;split at h
  .injection h with h;subst h;refine⟨.agg ((us.drop off).take i.size).toArray,fun w1=>?_,?_⟩
   .simp only[part,UY,r3,UR,ha,if_true,r2,Vo]
    congr 2
    apply Array.ext';simp[List.take_drop]
   .simp only[ap];exact⟨_,rfl,gO _ (gP _ hr)⟩
  .cases h
 .rename_i ha;obtain⟨u,k1,k2⟩:=fQ hr off v h;refine⟨u,fun w1=>?_,k2⟩;simp[part,r3,ha,k1]
include hX in
theorem EP{t:TypeId}(h:rN X t x f=some v)(h1:ap w x T B I u1):∃u,(∀w1,(Instr.field t u1 f).run P w1 = .ok u w1)/\ap w v T B I u:=by
 unfold rN at h;split at h
 .rename_i fs cs e1;obtain⟨ti,d,z,_,_,_,_,_,_,_,k8,r1,_⟩:=bm (hX.ty _ _ e1);simp only[cg]at k8;obtain⟨fields,rfl,QJ,_⟩:=k8;simp only[ap]at h1;obtain⟨us,rfl,h1⟩:=h1;split at h
  .rename_i off ft hf;split at h
   .rename_i i e2;obtain⟨u,p1,p2⟩:=AD hX e2 h h1
    have:∃fd,fields[f]? = some fd/\fd.offset=off/\fd.type=ft:=by
     rw[<-QJ,Vc]at hf;cases hq:fields.toList[f]? with
     | none=>rw[hq]at hf;simp at hf
     | some fd=>
      rw[hq]at hf;simp at hf;exact⟨fd,by simpa using hq,hf.1,hf.2⟩
    obtain⟨fd,q1,rfl,rfl⟩:=this;exact⟨u,fun w1=>by simp[Instr.field,r1,q1,asAgg,p1],p2⟩
   .cases h
  .cases h
 .cases h
include hX in
theorem xR{t:TypeId}(h:iv X t x f=some v)(h1:ap w x T B I u1):∃u,(∀w1,(Instr.fieldAt t u1 f).run P w1 = .ok u w1)/\ap w v T B I u:=by
 unfold iv at h;split at h
 .rename_i fs e1;obtain⟨ti,d,z,_,_,_,_,_,_,_,k8,r1,_⟩:=bm (hX.ty _ _ e1);simp only[cg]at k8;obtain⟨fields,rfl,QJ,_⟩:=k8;split at h
  .rename_i off ft hf;split at h
   .rename_i i e2;obtain⟨_,_,_,_,_,_,_,_,_,_,_,_,r2,_⟩:=bm (hX.ty _ _ e2)
    have:∃fd,fields[f]? = some fd/\fd.offset=off/\fd.type=ft:=by
     rw[<-QJ,Vc]at hf;cases hq:fields.toList[f]? with
     | none=>rw[hq]at hf;simp at hf
     | some fd=>
      rw[hq]at hf;simp at hf;exact⟨fd,by simpa using hq,hf.1,hf.2⟩
    obtain⟨fd,q1,rfl,rfl⟩:=this;split at h
    .cases h
    .rename_i Jl
     have go:∀g o,∀w1,(Instr.fieldAt t (.pointer (some ⟨g,o,none⟩)) f).run P w1 = .ok (.pointer (some ⟨g,o+fd.offset,none⟩)) w1:=fun g o w1=>by
      simp only[Instr.fieldAt,UY,r1,UR,q1,Instr.sureAddr,Vo,fieldPlace,r2,Jl,if_false];simp only[Addr.add];split
      .rename_i h0;simp[h0]
      .rfl
     split at h
     .injection h with h;subst h;simp only[ap]at h1;obtain⟨g,gs,hi,rfl⟩:=h1;exact⟨_,fun w1=>go _ _ w1,by simp only[ap];exact⟨g,gs,hi,by rw[VY]⟩⟩
     .injection h with h;subst h;simp only[ap]at h1;obtain⟨g,o,rfl,h2⟩:=h1;exact⟨_,fun w1=>go _ _ w1,by simp only[ap];exact⟨g,o,by rw[VY],h2⟩⟩
     .cases h
   .cases h
  .cases h
 .cases h
include hX in
def xQ(Jc:∀g,T g->B g){t:TypeId}{i:AV}(h:aD X t x i=some v)(h1:ap w x T B I u1)(h2:ap w i T B I u2):∃u,(∀w1,(Instr.indexAt t u1 u2).run P w1 = .ok u w1)/\ap w v T B I u:=by
 unfold aD at h;split at h
 .rename_i el n e1;obtain⟨ti,d,z,_,_,_,_,_,_,_,k8,r1,_⟩:=bm (hX.ty _ _ e1);simp only[cg]at k8;subst k8;simp only[ap]at h2;subst h2;split at h
  .rename_i ei e2;obtain⟨_,_,_,_,_,_,_,_,_,_,_,_,r2,_⟩:=bm (hX.ty _ _ e2)
   have go:∀g o (len aK:Nat) (k:IntKind),0<=n->n<(len:Int)->∀w1,(Instr.indexAt t (.slice (some ⟨g,o,none⟩) len aK) (.int k n)).run P w1 = .ok (.pointer (some ⟨g,o+n.toNat*ei.size,none⟩)) w1:=fun g o len aK k hn hl w1=>by
    simp only[Instr.indexAt,asIntOf,UY,Vo,UR,r1,r2,Sem.run_ite,hn,hl,and_self,if_true];simp only[Addr.add];split
    .rename_i h0;simp[h0]
    .rfl
   split at h
   .rename_i b e off len sz;split at h
    .rename_i hc;obtain⟨c1,c2,c3⟩:=hc;injection h with h;subst h;simp only[ap]at h1;rcases h1 with ⟨_,_,h0,_⟩|⟨g,gs,aK,hi,rfl,_⟩
     .omega
     .exact⟨_,fun w1=>go _ _ _ _ _ c1 c2 w1,by simp only[ap];exact⟨g,gs,hi,by rw[c3,VJ,Wj]⟩⟩
    .cases h
   .rename_i st sz rows;split at h
    .rename_i hc;obtain⟨c1,c3⟩:=hc;split at h
     .rename_i row I9;injection h with h;subst h;simp only[ap]at h1;obtain⟨ao,aK,rfl,_,_,_,h5⟩:=h1;have Ja:=(UK.1 I9).1;obtain⟨g,off,rfl,p1,p2⟩:=h5 (by intro h0;subst h0;simp at Ja);refine⟨_,fun w1=>go _ _ _ _ _ c1 (by omega) w1,?_⟩;simp only[ap];have p3:=((df.1 p2) _ _ I9).2;rw[c3]at p3;exact⟨g,_,rfl,p1,gj _ ⟨fun _ h=>h,sG Jc,fun _ _ _ h=>h,fun _ _=>rfl⟩ (fun _ h=>h) (fun _=>rfl) p3⟩
     .cases h
    .cases h
   .cases h
  .cases h
 .rename_i alen el n e1;obtain⟨ti,d,z,_,_,_,_,_,_,_,k8,r1,_⟩:=bm (hX.ty _ _ e1);simp only[cg]at k8;subst k8;simp only[ap]at h2;subst h2;split at h
  .rename_i ei b e sz row off e2;obtain⟨_,_,_,_,_,_,_,_,_,_,_,_,r2,_⟩:=bm (hX.ty _ _ e2);split at h
   .rename_i hc;injection h with h;subst h;simp only[ap]at h1;obtain⟨g,gs,hi,rfl⟩:=h1;refine⟨.pointer (some ⟨g,row*sz+(off+n.toNat*ei.size),none⟩),fun w1=>?_,by simp only[ap];exact⟨g,gs,hi,rfl⟩⟩;simp only[Instr.indexAt,Instr.sureAddr,asIntOf,UY,Vo,UR,r1,r2,Sem.run_ite,hc.1,hc.2,and_self,if_true];simp only[Addr.add];split
    .rename_i h0;simp[h0]
    .simp[VY]
   .cases h
  .cases h
 .cases h
include hX in
def EO{t:TypeId}{i:AV}(h:vg X t x i=some v)(h1:ap w x T B I u1)(h2:ap w i T B I u2):∃u,(∀w1,(Instr.index t u1 u2).run P w1 = .ok u w1)/\ap w v T B I u:=by
 unfold vg at h;split at h
 .rename_i s k n e1;obtain⟨ti,d,z,_,_,_,_,_,_,_,k8,r1,_⟩:=bm (hX.ty _ _ e1);simp only[cg]at k8;subst k8;simp only[ap]at h1 h2;subst h1 h2;split at h
  .rename_i hn;split at h
   .rename_i b hb;injection h with h;subst h;exact⟨_,fun w1=>by simp[Instr.index,asIntOf,r1,hn,hb];rfl,by simp only[ap]⟩
   .cases h
  .cases h
 .rename_i len el cs k n e1;obtain⟨ti,d,z,_,_,_,_,_,_,_,k8,r1,_⟩:=bm (hX.ty _ _ e1);simp only[cg]at k8;subst k8;simp only[ap]at h1 h2;subst h2;obtain⟨us,rfl,h1⟩:=h1;split at h
  .rename_i ei e2;obtain⟨_,_,_,_,_,_,_,_,_,_,_,_,r2,_⟩:=bm (hX.ty _ _ e2);split at h
   .rename_i hn;obtain⟨u,p1,p2⟩:=AD hX e2 h h1;exact⟨u,fun w1=>by simp[Instr.index,asIntOf,r1,r2,hn.1,hn.2,p1],p2⟩
   .cases h
  .cases h
 .cases h
end
end Go.Eng
