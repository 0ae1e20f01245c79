/- A seat's tables are the program's. -/
import Derived.Test.YtkahfcmeeloikaaGreatDoorEngS
import Derived.KernelRfl
set_option linter.all false
set_option maxHeartbeats 1000000
namespace Go.Eng
open Go.RowKit
variable [aw]
variable {X:List Value}{e:EK}{ks:List EK}
def tdOf:TypeDesc->TD
 | .int k=> .int k
 | .string=> .str
 | .bool=> .bool
 | .slice e=> .slice e
 | .struct fs=> .struct (fs.toList.map fun f=>(f.offset,f.type))
 | .array n e=> .array n e
 | .map k e=> .map k e
 | _=> .other
def fieldsOK(P:Program):TypeDesc->Bool
 | .struct fs=>(fs.toList.mapM (fun f=>(P.info? f.type).map fun i=>(f.offset,i.size))).isSome
 | _=>true
def tyOf(P:Program)(t:TypeId):Option mN :=
 match P.info? t,P.underlying t with
 | some ti,some d=>match ti.zero with
  | some z=>if z.cells.toList.all Value.oneCell'=true/\fieldsOK P d=true/\BY z=yG d then some ⟨ti.size,yG d,ti.bytes,z.cells.toList.map IV,tdOf d⟩ else none
  | none=>none
 | _,_=>none
omit [aw] in
def Gp{P:Program}{t:TypeId}{i:mN}(h:tyOf P t=some i):TyOK P t i:=by
 unfold tyOf at h;split at h
 .rename_i ti d e1 e2;split at h
  .rename_i z e3;split at h
   .rename_i hc;injection h with h;subst h;refine⟨⟨ti,d,z,e1,e2,e3,rfl,rfl,⟨rfl,fun u hu=>Vb.1 hc.1 u hu⟩,rfl,?_⟩,fun ti' z' k1 k2=>?_⟩
    .cases d<;>simp only[tdOf,cg]<;>first|trivial|rfl|exact⟨_,rfl,rfl,hc.2.1⟩
    .rw[e1]at k1;injection k1 with k1;subst k1;rw[e3]at k2;injection k2 with k2;subst k2;exact hc.2.2
   .cases h
  .cases h
 .cases h
def DN(P:Program)(t:TypeId):Option EK :=
 match P.underlying t with
 | some (.int _)=>some .int
 | some .bool=>some .bool
 | some .string=>some .str
 | _=>none
def In(P:Program):List Field->Nat->Option (List EK)
 | [],_=>some []
 | f::fs,k=>if (f.name == "_")=false/\f.offset=k then match DN P f.type,In P fs (k+1) with
   | some e,some l=>some (e::l)
   | _,_=>none
  else none
def Io(P:Program)(inner:List Field->Nat->Option (List EK)):List Field->Nat->Option (List EK)
 | [],_=>some []
 | f::fs,k=>if (f.name == "_")=false/\f.offset=k then match DN P f.type with
   | some e=>match Io P inner fs (k+1) with
    | some l=>some (e::l)
    | none=>none
   | none=>match P.underlying f.type,P.info? f.type with
    | some (.struct gs),some ti=>if P.stoodInHeld f.type=false then match inner gs.toList 0 with
      | some l1=>if ti.size=l1.length then (match Io P inner fs (k+l1.length) with
       | some l=>some (l1++l)
       | none=>none) else none
      | none=>none
     else none
    | _,_=>none
  else none
def FQ(P:Program):Nat->List Field->Nat->Option (List EK)
 | 0=>In P
 | n+1=>Io P (FQ P n)
def eksT(P:Program)(t:TypeId):Option (List EK) :=
 match P.underlying t with
 | some (.struct fs)=>if P.stoodInHeld t=false/\P.eqGuardType P.depth t=false then FQ P 3 fs.toList 0 else none
 | _=>none
instance:DecidableEq EK:=fun a b=>by
 cases a<;>cases b<;>first|exact isTrue rfl|exact isFalse (by simp)
section
variable {P:Program}
omit [aw] in
def iG{t:TypeId}(ht:DN P t=some e){k:Nat}{v:Value}(hx:X[k]? = some v)(w:World):(part t X.toArray k).run P w = .ok v w:=by
 unfold DN at ht
 have go:∀d,P.underlying t=some d->yG d=false->(part t X.toArray k).run P w = .ok v w:=by
  intro d hd ha
  have hi:(isAgg t).run P w = .ok false w:=by
   unfold isAgg;simp only[UY,run_underlying hd,UR];rw[<-ha];cases d<;>rfl
  simp[part,hi,hx]
 split at ht
 .rename_i e1;exact go _ e1 rfl
 .rename_i e1;exact go _ e1 rfl
 .rename_i e1;exact go _ e1 rfl
 .cases ht
omit [aw] in
def vX{t:TypeId}(ht:DN P t=some e){x y:AV}{b:Bool}(h:kV e x y=some b)(d:Nat)(w:World):(Op.equalIn (d+1) t (gz x) (gz y)).run P w = .ok b w:=by
 unfold DN at ht;split at ht
 .rename_i k e1;injection ht with ht;subst ht;unfold kV at h;split at h
  .rename_i k1 a k2 c hh;split at h
   .rename_i hk;subst hk;injection h with h;subst h;exact run_equalIn_int w d t k1 k a c e1
   .cases h
  .rename_i hh;cases hh
  .rename_i hh;cases hh
  .cases h
 .rename_i e1;injection ht with ht;subst ht;unfold kV at h;split at h
  .rename_i hh;cases hh
  .rename_i a c hh;injection h with h;subst h;exact run_equalIn_bool' w d t a c e1
  .rename_i hh;cases hh
  .cases h
 .rename_i e1;injection ht with ht;subst ht;unfold kV at h;split at h
  .rename_i hh;cases hh
  .rename_i hh;cases hh
  .rename_i a c hh;injection h with h;subst h;rw[beq_toListBytes];exact run_equalIn_string w d t a c e1
  .cases h
 .cases ht
omit [aw] in
theorem CY{d:Nat}{Y:List Value}(w:World):∀(fs:List Field) (k:Nat) (ks:List EK),In P fs k=some ks->∀(xs ys:List AV) (b:Bool),cn ks xs ys=some b->X.drop k=xs.map gz->Y.drop k=ys.map gz ->
  (Op.eqFields (d+1) X.toArray Y.toArray fs).run P w = .ok b w
 | [],k,ks,h,xs,ys,b,hb,_,_=>by
  simp only[In,VK]at h;subst h;cases xs<;>cases ys<;>simp[cn]at hb
  subst hb;simp[Op.eqFields]
 | f::fs,k,ks,h,xs,ys,b,hb,hx,hy=>by
  simp only[In]at h;split at h
  .rename_i hc;obtain⟨hn,Mm⟩:=hc;have LD:f.name ≠ "_" := by simpa using hn
   split at h
   .rename_i e l e1 e2;injection h with h;subst h
    match xs,ys with
    | [],_=>simp[cn]at hb
    | _::_,[]=>simp[cn]at hb
    | x::xs,y::ys=>
     simp only[cn]at hb;split at hb
     .rename_i a c e3 e4;injection hb with hb;subst hb
      have gx:X[k]? = some (gz x):=by
       have:=congrArg (fun l=>l[0]?) hx;simpa using this
      have gy:Y[k]? = some (gz y):=by
       have:=congrArg (fun l=>l[0]?) hy;simpa using this
      have dx:X.drop (k+1)=xs.map gz:=by
       have:=congrArg List.tail hx;simpa[W4]using this
      have dy:Y.drop (k+1)=ys.map gz:=by
       have:=congrArg List.tail hy;simpa[W4]using this
      have ih:=CY (d:=d) w fs (k+1) l e2 xs ys c e4 dx dy;simp only[Op.eqFields,LD,ne_eq,not_false_eq_true,if_true,UY,Mm,iG e1 gx,iG e1 gy,UR,vX e1 e3];cases a with
      | false=>simp
      | true=>simpa using ih
     .cases hb
   .cases h
  .cases h
omit [aw] in
theorem wu:∀{k1 k2:List EK}{xs ys:List AV}{b:Bool},cn (k1++k2) xs ys=some b->∃b1 b2,cn k1 (xs.take k1.length) (ys.take k1.length)=some b1/\cn k2 (xs.drop k1.length) (ys.drop k1.length)=some b2/\b=(b1 && b2)
 | [],k2,xs,ys,b,h=>⟨true,b,by simp[cn],by simpa using h,by simp⟩
 | k::k1,k2,[],ys,b,h=>by cases ys<;>simp[cn]at h
 | k::k1,k2,x::xs,[],b,h=>by simp[cn]at h
 | k::k1,k2,x::xs,y::ys,b,h=>by
  simp only[UF,cn]at h;split at h
  .rename_i a c e1 e2;injection h with h;subst h;obtain⟨b1,b2,h1,h2,rfl⟩:=wu e2;exact⟨a && b1,b2,by simp only[UB,WQ,cn,e1,h1],by simpa using h2,by rw[Bool.and_assoc]⟩
  .cases h
omit [aw] in
theorem CZ(w:World)(d:Nat):∀(n:Nat) (fs:List Field) (k:Nat) (ks:List EK),FQ P n fs k=some ks->∀(X Y:List Value) (xs ys:List AV) (b:Bool),cn ks xs ys=some b->X.drop k=xs.map gz->Y.drop k=ys.map gz ->
  (Op.eqFields (d+n+1) X.toArray Y.toArray fs).run P w = .ok b w
 | 0,fs,k,ks,h,X,Y,xs,ys,b,hb,hx,hy=>CY (d:=d) w fs k ks h xs ys b hb hx hy
 | n+1,fs,k,ks,h,X,Y,xs,ys,b,hb,hx,hy=>by
  have inner:=CZ w d n;simp only[FQ]at h
  induction fs generalizing k ks xs ys b with
  | nil=>
   simp only[Io,VK]at h;subst h;cases xs<;>cases ys<;>simp[cn]at hb
   subst hb;simp[Op.eqFields]
  | cons f fs ih=>
   simp only[Io]at h;split at h
   .rename_i hc;obtain⟨hn,Mm⟩:=hc;have LD:f.name ≠ "_" := by simpa using hn
    split at h
    .rename_i e e1;split at h
     .rename_i l e2;injection h with h;subst h
      match xs,ys with
      | [],_=>simp[cn]at hb
      | _::_,[]=>simp[cn]at hb
      | x::xs,y::ys=>
       simp only[cn]at hb;split at hb
       .rename_i a c e3 e4;injection hb with hb;subst hb
        have gx:X[k]? = some (gz x):=by
         have:=congrArg (fun l=>l[0]?) hx;simpa using this
        have gy:Y[k]? = some (gz y):=by
         have:=congrArg (fun l=>l[0]?) hy;simpa using this
        have dx:X.drop (k+1)=xs.map gz:=by
         have:=congrArg List.tail hx;simpa[W4]using this
        have dy:Y.drop (k+1)=ys.map gz:=by
         have:=congrArg List.tail hy;simpa[W4]using this
        have ih:=ih (k+1) l e2 xs ys c e4 dx dy;simp only[Op.eqFields,LD,ne_eq,not_false_eq_true,if_true,UY,Mm,iG e1 gx,iG e1 gy,UR,vX e1 e3];cases a with
        | false=>simp
        | true=>simpa using ih
       .cases hb
     .cases h
    .rename_i e1;split at h
     .rename_i gs ti e2 e3;split at h
      .rename_i Kk;split at h
       .rename_i l1 e4;split at h
        .rename_i Jl;split at h
         .rename_i l e5;injection h with h;subst h;obtain⟨b1,b2,c1,c2,rfl⟩:=wu hb
          have ag:(isAgg f.type).run P w = .ok true w:=by
           unfold isAgg;simp only[UY,run_underlying e2,UR];rfl
          have sz:(sizeOf f.type).run P w = .ok l1.length w:=by simp[sizeOf,typeInfo,e3,Jl]
          have pt:∀(Z:List Value),(part f.type Z.toArray k).run P w = .ok (.agg ((Z.drop k).take l1.length).toArray) w:=fun Z=>by
           simp only[part,UY,ag,UR,if_true,sz,Vo]
           congr 2
           apply Vw.1;simp[List.extract_eq_take_drop]
          have hf:P.fieldsOf f.type=gs:=by simp[Program.fieldsOf,e2]
          have eqn:(Op.equalIn (d+(n+1)+1) f.type (.agg ((X.drop k).take l1.length).toArray) (.agg ((Y.drop k).take l1.length).toArray)).run P w = .ok b1 w:=by
           rw[run_equalIn_struct w (d+(n+1)) f.type _ _ (by rw[hf,e2]) Kk,hf];exact inner gs.toList 0 l1 e4 _ _ (xs.take l1.length) (ys.take l1.length) b1 c1 (by rw[hx,WN,Xr]) (by rw[hy,WN,Xr])
          have ih:=ih (k+l1.length) l e5 (xs.drop l1.length) (ys.drop l1.length) b2 c2 (by rw[<-WZ,hx,List.map_drop]) (by rw[<-WZ,hy,List.map_drop]);simp only[Op.eqFields,LD,ne_eq,not_false_eq_true,if_true,UY,Mm,pt,UR,eqn];cases b1 with
          | false=>simp
          | true=>simpa using ih
         .cases h
        .cases h
       .cases h
      .cases h
     .cases h
   .cases h
omit [aw] in
def eksT_ok{t:TypeId}(h:eksT P t=some ks)(xs ys:List AV)(b:Bool)(hb:cn ks xs ys=some b)(w:World) :
  (Op.equal t (.agg (xs.map gz).toArray) (.agg (ys.map gz).toArray)).run P w = .ok b w /\
  ∀op x y,(eqGuard op t x y (.agg (xs.map gz).toArray) (.agg (ys.map gz).toArray)).run P w = .ok () w:=by
 unfold eksT at h;split at h
 .rename_i fs e1;split at h
  .rename_i hc;have hf:P.fieldsOf t=fs:=by simp[Program.fieldsOf,e1]
   refine⟨?_,fun op x y=>run_eqGuard_agg w op t x y _ _ hc.2⟩;unfold Op.equal;rw[show Op.maxDepth=9999+1 from rfl,run_equalIn_struct w 9999 t _ _ (by rw[hf,e1]) hc.1,hf];exact CZ w 9995 3 fs.toList 0 ks h _ _ xs ys b hb (by simp) (by simp)
  .cases h
 .cases h
omit [aw] in
def oB{t:TypeId}(ht:DN P t=some e)(v:Value)(b:Bool)(d:Nat)(w:World):(Instr.checkKey b (d+1) t v).run P w = .ok () w:=by
 unfold DN at ht;split at ht
 .rename_i k e1;simp only[Instr.checkKey,UY,run_underlying e1,UR];rfl
 .rename_i e1;simp only[Instr.checkKey,UY,run_underlying e1,UR];rfl
 .rename_i e1;simp only[Instr.checkKey,UY,run_underlying e1,UR];rfl
 .cases ht
omit [aw] in
theorem nO{t:TypeId}{fs:Array Field}(ht:P.underlying t=some (.struct fs))(b:Bool)(d:Nat)(X:Array Value)(w:World)(h:∀f∈fs.toList,∃v,(part f.type X f.offset).run P w = .ok v w/\(Instr.checkKey b d f.type v).run P w = .ok () w) :
  (Instr.checkKey b (d+1) t (.agg X)).run P w = .ok () w:=by
 simp only[Instr.checkKey,UY,run_underlying ht,UR];rw[<-Array.forIn_toList];generalize fs.toList=l at h
 have key:∀l:List Field,(∀f∈l,∃v,(part f.type X f.offset).run P w = .ok v w/\(Instr.checkKey b d f.type v).run P w = .ok () w) ->
   ((forIn l PUnit.unit fun f _=>do
    if f.name ≠ "_" then do
     let v <- part f.type X f.offset
     Instr.checkKey b d f.type v
     pure (ForInStep.yield PUnit.unit)
    else pure (ForInStep.yield PUnit.unit)):Sem PUnit).run P w = .ok PUnit.unit w:=by
  intro l
  induction l with
  | nil=>intro _;simp
  | cons f l ih=>
   intro h;obtain⟨v,h1,h2⟩:=h f (by simp);have ih:=ih fun g hg=>h g (by simp[hg]);rw[List.forIn_cons];by_cases hn:f.name ≠ "_"
   .simp only[if_pos hn,UY,h1,h2,UR,Vo,ih]
   .simp only[if_neg hn,UY,UR,Vo,ih]
 have:=key l h;simp at this ⊢;rw[this];rfl
omit [aw] in
theorem AR:∀{k1 k2:List EK}{xs:List AV},ep (k1++k2) xs=true->ep k1 (xs.take k1.length)=true/\ep k2 (xs.drop k1.length)=true
 | [],k2,xs,h=>⟨rfl,by simpa using h⟩
 | k::k1,k2,[],h=>by cases k<;>simp[ep]at h
 | k::k1,k2,x::xs,h=>by
  cases k<;>cases x<;>simp only[UF,ep]at h<;>try (cases h;done)
  have:=AR h;exact⟨by simpa[ep]using this.1,by simpa using this.2⟩
omit [aw] in
theorem CW(w:World)(b:Bool)(d:Nat):∀(n:Nat) (fs:List Field) (k:Nat) (ks:List EK),FQ P n fs k=some ks->∀(X:List Value) (xs:List AV),ep ks xs=true->X.drop k=xs.map gz ->
  ∀f∈fs,∃v,(part f.type X.toArray f.offset).run P w = .ok v w/\(Instr.checkKey b (d+n+1) f.type v).run P w = .ok () w
 | 0,fs,k,ks,h,X,xs,hk,hx=>by
  simp only[FQ]at h
  induction fs generalizing k ks xs with
  | nil=>intro f hf;cases hf
  | cons f fs ih=>
   simp only[In]at h;split at h
   .rename_i hc;split at h
    .rename_i e l e1 e2;injection h with h;subst h
     match xs with
     | []=>cases e<;>simp[ep]at hk
     | x::xs=>
      have gx:X[k]? = some (gz x):=by
       have:=congrArg (fun l=>l[0]?) hx;simpa using this
      have dx:X.drop (k+1)=xs.map gz:=by
       have:=congrArg List.tail hx;simpa[W4]using this
      have JK:ep l xs=true:=by cases e<;>cases x<;>simp only[ep]at hk<;>first|exact hk|cases hk
      intro g hg;rcases U2.1 hg with rfl|hg
      .exact⟨gz x,by rw[hc.2];exact iG e1 gx w,oB e1 _ b _ w⟩
      .exact ih (k+1) l e2 xs JK dx g hg
    .cases h
   .cases h
 | n+1,fs,k,ks,h,X,xs,hk,hx=>by
  have inner:=CW w b d n;simp only[FQ]at h
  induction fs generalizing k ks xs with
  | nil=>intro f hf;cases hf
  | cons f fs ih=>
   simp only[Io]at h;split at h
   .rename_i hc;split at h
    .rename_i e e1;split at h
     .rename_i l e2;injection h with h;subst h
      match xs with
      | []=>cases e<;>simp[ep]at hk
      | x::xs=>
       have gx:X[k]? = some (gz x):=by
        have:=congrArg (fun l=>l[0]?) hx;simpa using this
       have dx:X.drop (k+1)=xs.map gz:=by
        have:=congrArg List.tail hx;simpa[W4]using this
       have JK:ep l xs=true:=by cases e<;>cases x<;>simp only[ep]at hk<;>first|exact hk|cases hk
       intro g hg;rcases U2.1 hg with rfl|hg
       .exact⟨gz x,by rw[hc.2];exact iG e1 gx w,oB e1 _ b _ w⟩
       .exact ih (k+1) l e2 xs JK dx g hg
     .cases h
    .rename_i e1;split at h
     .rename_i gs ti e2 e3;split at h
      .rename_i Kk;split at h
       .rename_i l1 e4;split at h
        .rename_i Jl;split at h
         .rename_i l e5;injection h with h;subst h;obtain⟨c1,c2⟩:=AR hk
          have ag:(isAgg f.type).run P w = .ok true w:=by
           unfold isAgg;simp only[UY,run_underlying e2,UR];rfl
          have sz:(sizeOf f.type).run P w = .ok l1.length w:=by simp[sizeOf,typeInfo,e3,Jl]
          have pt:∀(Z:List Value),(part f.type Z.toArray k).run P w = .ok (.agg ((Z.drop k).take l1.length).toArray) w:=fun Z=>by
           simp only[part,UY,ag,UR,if_true,sz,Vo]
           congr 2
           apply Vw.1;simp[List.extract_eq_take_drop]
          intro g hg;rcases U2.1 hg with rfl|hg
          .refine⟨_,by rw[hc.2];exact pt X,nO e2 b _ _ w ?_⟩;exact inner gs.toList 0 l1 e4 _ (xs.take l1.length) c1 (by rw[hx,WN,Xr])
          .exact ih (k+l1.length) l e5 (xs.drop l1.length) c2 (by rw[<-WZ,hx,List.map_drop]) g hg
         .cases h
        .cases h
       .cases h
      .cases h
     .cases h
   .cases h
omit [aw] in
def eksT_key{t:TypeId}(h:eksT P t=some ks):(∃fs,P.underlying t=some (.struct fs))/\∀xs,ep ks xs=true->∀b w,(Instr.checkKey b 10000 t (.agg (xs.map gz).toArray)).run P w = .ok () w:=by
 unfold eksT at h;split at h
 .rename_i fs e1;split at h
  .refine⟨⟨fs,e1⟩,fun xs hk b w=>?_⟩;rw[show (10000:Nat)=9995+3+1+1 from rfl];exact nO e1 b _ _ w (CW w b 9995 3 fs.toList 0 ks h _ xs hk (by simp))
  .cases h
 .cases h
structure Tab where
 tys:List (Option mN)
 fns:List FuncId
 refs:List FuncId
 clones:List (FuncId×TypeId×TypeId×TypeId)
 eqs:List (TypeId×List EK)
 seqs:List (FuncId×FuncId):=[]
 trues:List FuncId:=[]
 prims:List (FuncId×(List AV->ab->Option (AV×ab))):=[]
 frz:List (List Nat):=[]
 meths:List (TypeId×String×FuncId):=[]
 refMs:List String:=[]
 nests:List FuncId:=[]
 globs:List (Nat×List Int):=[]
 lates:List (List Nat×List Nat):=[]
 owns:List (List Nat×TypeId):=[]
 decos:List (FuncId×List (Nat×Nat)):=[]
def kQ:List (List AV)->Option (List Int)
 | []=>some []
 | [.int .i64 n]::rest=>match kQ rest with
  | some l=>some (n::l)
  | none=>none
 | _=>none
def BB:AV->Option (List Int)
 | .tsl _ 1 rows=>kQ rows
 | .flat (.slice none 0 0)=>some []
 | .esl=>some []
 | _=>none
def lz(v1:FuncId)(args:List AV)(S:ab):Option (AV×ab) :=
 match args with
 | [.flat (.slice none 0 0),.fn g [.tptr _ [sv] 0]]=>if g=v1 then match BB sv with
  | some l=>if l.length<=1099511627776 then
    (if l.length=0 then some (.flat (.slice none 0 0),S) else some (.sl S.length l.length 0 l.length 1,S++[.arr (l.map fun n=>[.int .i64 n]) 1 0 true]))
   else none
  | none=>none
  else none
 | _=>none
def oF(args:List AV)(S:ab):Option (AV×ab) :=
 match args with
 | []=>some (.bool true,S)
 | _=>none
def szOf(jR:Tab)(t:TypeId):Nat :=
 match jR.tys.getD t none with
 | some i=>i.size
 | none=>0
def Dl(jR:Tab)(P:Program):dV where
 ty:=fun t=>jR.tys.getD t none
 fn:=fun f=>if jR.fns.contains f then P.funcs[f]? else none
 byRef:=fun f=>jR.refs.contains f
 prim:=fun f=>match jR.clones.find? fun c=>c.1 == f with
  | some c=>some (jh (szOf jR c.2.2.1))
  | none=>match jR.seqs.find? fun c=>c.1 == f with
   | some c=>some (lz c.2)
   | none=>if jR.trues.contains f then some oF else (jR.prims.find? fun c=>c.1 == f).map (·.2)
 eqT:=fun t=>(jR.eqs.find? fun p=>p.1 == t).map (·.2)
 frz:=fun p=>jR.frz.contains (p.toList.map Char.toNat)
 meth:=fun t m=>(jR.meths.find? fun e=>e.1 == t && decide (e.2.1=m)).map (·.2.2)
 refM:=fun m=>jR.refMs.any fun x=>decide (x=m)
 nest:=fun f=>jR.nests.contains f
 late:=fun p=>match jR.lates.find? fun e=>e.1 == p.toList.map Char.toNat with
  | some e=>e.2
  | none=>[]
 glob:=fun g=>(jR.globs.find? fun p=>p.1 == g).map fun p=>p.2.map fun n=> .int .i64 n
 own:=fun p t=>jR.owns.any fun e=>e.1 == p.toList.map Char.toNat && e.2 == t
 deco:=fun f c=>match jR.decos.find? fun e=>e.1 == f with
  | some e=>cW e.2 c
  | none=>c
def A9(s:String):List Nat:=s.toList.map Char.toNat
omit [aw] in
theorem A7:∀{a b:List Char},a.map Char.toNat=b.map Char.toNat->a=b
 | [],[],_=>rfl
 | [],_::_,h=>by simp at h
 | _::_,[],h=>by simp at h
 | x::a,y::b,h=>by
  simp only[Vk,Wk]at h;rw[A7 h.2,Char.toNat_inj.1 h.1]
omit [aw] in
def A8(s t:String):(A9 s == A9 t)=(s == t):=by
 rw[Xu];simp only[beq_iff_eq];exact⟨fun h=>String.toList_inj.1 (A7 h),fun h=>by rw[h]⟩
def frzF:List String->String->Bool
 | [],_=>false
 | s::l,p=>if p=s then true else frzF l p
omit [aw] in
theorem frz_of{jR:Tab}{P:Program}(l:List String)(h:jR.frz=l.map A9)(p:String):(Dl jR P).frz p=frzF l p:=by
 show jR.frz.contains (A9 p)=_;rw[h];clear h
 induction l with
 | nil=>rfl
 | cons s l ih=>
  rw[Vk,Xk,A8,ih,frzF];by_cases hp:p=s
  .rw[if_pos hp,hp,beq_self_eq_true,Wu]
  .rw[if_neg hp,beq_false_of_ne hp,V9]
def lateF:List (String×List Nat)->String->List Nat
 | [],_=>[]
 | e::l,p=>if p=e.1 then e.2 else lateF l p
omit [aw] in
theorem late_of{jR:Tab}{P:Program}(l:List (String×List Nat))(h:jR.lates=l.map fun e=>(A9 e.1,e.2))(p:String):(Dl jR P).late p=lateF l p:=by
 show (match jR.lates.find? fun e=>e.1 == A9 p with
  | some e=>e.2
  | none=>[])=_
 rw[h];clear h
 induction l with
 | nil=>rfl
 | cons e l ih=>
  rw[Vk,V3,lateF];simp only[A8];by_cases hp:p=e.1
  .rw[if_pos hp,hp,beq_self_eq_true]
  .rw[if_neg hp,beq_false_of_ne (fun h=>hp h.symm)];exact ih
def Fp(P:Program)(e:TypeId×String×FuncId):Bool :=
 match P.info? e.1,P.underlying e.1 with
 | some ti,some d=>(match ti.methods.find? (fun x=>x.name == e.2.1) with
  | some m=>m.path.isEmpty && decide (m.func=some (e.2.2,false)) && (match d with | .pointer _=>false|_=>true)
  | none=>false)
 | _,_=>false
omit [aw] in
def Fm{P:Program}{e:TypeId×String×FuncId}(h:Fp P e=true)(v:Value)(w:World):(method (P.types.size+Made.depth) e.1 v e.2.1).run P w = .ok (e.2.2,v) w:=by
 unfold Fp at h;split at h
 .rename_i ti d h1 h2;split at h
  .rename_i m h3;simp only[UT,decide_eq_true_eq]at h;obtain⟨⟨h4,h5⟩,h6⟩:=h;have hp:m.path.toList = []:=by simpa using h4
   have e0:P.types.size+Made.depth=(P.types.size+99)+1:=rfl;rw[e0];generalize P.types.size+99=n;simp only[method,UY,typeInfo,run_program,UR,h1,Vo,h3,hp,follow,h5,receiverAt,run_underlying h2];cases d<;>first|rfl|cases h6
  .cases h
 .cases h
theorem BR{jR:Tab}(hm:P.follows .mixedOrders=true){ts:List TypeId}(OA:jR.tys=ts.map fun t=>if t=0 then none else tyOf P t)(So:∀(j:Nat) t,ts[j]? = some t->t=0\/t=j)
  (JS:(jR.eqs.all fun p=>decide (eksT P p.1=some p.2))=true) (RE:jR.meths.all (Fp P)=true) (Kr:∀p∈jR.globs,∃o,aw.blk p.1=some o/\∀(w:World) (T B:bV) (I:dK),w.heap[p.1]? = some o->aU w (p.2.map fun n=> .int .i64 n) T B I p.1 0):eC P (Dl jR P) where
 mixed:=hm
 ty:=fun t i h=>by
  simp only[Dl,OA,Ve,Vc]at h;cases e:ts[t]? with
  | none=>simp[e]at h
  | some t'=>
   simp only[e,Vf,Option.getD_some]at h;split at h
   .cases h
   .rename_i h0;rcases So t t' e with rfl|rfl
    .exact absurd rfl h0
    .exact Gp h
 eqT:=fun t ks h=>by
  simp only[Dl,Vl]at h;obtain⟨p,h1,rfl⟩:=h;have h2:=U8 h1;have h3:=VN h1;simp only[beq_iff_eq]at h3;have h4:=Vb.1 JS p h2;simp only[decide_eq_true_eq]at h4;rw[h3]at h4;exact fun xs ys b hb w=>eksT_ok h4 xs ys b hb w
 keyT:=fun t ks h=>by
  simp only[Dl,Vl]at h;obtain⟨p,h1,rfl⟩:=h;have h2:=U8 h1;have h3:=VN h1;simp only[beq_iff_eq]at h3;have h4:=Vb.1 JS p h2;simp only[decide_eq_true_eq]at h4;rw[h3]at h4;exact eksT_key h4
 glob:=fun g row h=>by
  simp only[Dl,Vl]at h;obtain⟨p,h1,rfl⟩:=h;have h2:=U8 h1;have h3:=VN h1;simp only[beq_iff_eq]at h3;rw[<-h3];exact Kr p h2
 meth:=fun t m f h v w=>by
  simp only[Dl,Vl]at h;obtain⟨e,h1,rfl⟩:=h;have h2:=U8 h1;have h3:=VN h1;simp only[UT,beq_iff_eq,decide_eq_true_eq]at h3;rw[<-h3.1,<-h3.2];exact Fm (Vb.1 RE e h2) v w
def GY:List Nat->Nat->Bool
 | [],_=>true
 | t::ts,k=>(t == 0 || t == k) && GY ts (k+1)
omit [aw] in
theorem yH{ts:List Nat}(h:GY ts 0=true):∀(j:Nat) (t:Nat),ts[j]? = some t->t=0\/t=j:=by
 have go:∀(ts:List Nat) (k:Nat),GY ts k=true->∀(j:Nat) (t:Nat),ts[j]? = some t->t=0\/t=k+j:=by
  intro ts
  induction ts with
  | nil=>intro k _ j t ht;simp at ht
  | cons x ts ih=>
   intro k h j t ht;simp only[GY,UT,V1,beq_iff_eq]at h;cases j with
   | zero=>simp at ht;subst ht;exact h.1
   | succ j=>have:=ih (k+1) h.2 j t (by simpa using ht);omega
 intro j t ht;have:=go ts 0 h j t ht;omega
def fnOK(X:dV)(P:Program)(f:FuncId):Bool :=
 match P.funcs[f]? with
 | some fn=> !(fn.name == "runtime.NumGoroutine") && (match fn.body with|some c=>jg X c|none=>true)
 | none=>true
def xa{jR:Tab}(hfn:jR.fns.all (fnOK (Dl jR P) P)=true)(JA:∀c∈jR.clones,bQ P c.1 (jh (szOf jR c.2.2.1)))(hsq:∀c∈jR.seqs,bQ P c.1 (lz c.2))(htr:∀c∈jR.trues,bQ P c oF)(LB:∀c∈jR.prims,bQ P c.1 c.2):mP P (Dl jR P) where
 fn:=fun f fn h=>by
  have h0:=h;simp only[Dl]at h;split at h
  .rename_i hc;have:=Vb.1 hfn f (W6.1 hc);unfold fnOK at this;rw[h]at this;simp only[UT,V8]at this;exact⟨h,this.1,fun c hb=>by have:=this.2;rw[hb]at this;exact this⟩
  .cases h
 prim:=fun f p h=>by
  simp only[Dl]at h;split at h
  .rename_i c h1;injection h with h;subst h;have h2:=U8 h1;have h3:=VN h1;simp only[beq_iff_eq]at h3;rw[<-h3];exact JA c h2
  .split at h
   .rename_i c h1;injection h with h;subst h;have h2:=U8 h1;have h3:=VN h1;simp only[beq_iff_eq]at h3;rw[<-h3];exact hsq c h2
   .split at h
    .rename_i hm;injection h with h;subst h;exact htr f (W6.1 hm)
    .rw[Vl]at h;obtain⟨c,h1,rfl⟩:=h;have h2:=U8 h1;have h3:=VN h1;simp only[beq_iff_eq]at h3;rw[<-h3];exact LB c h2
 deco:=fun f c=>by
  simp only[Dl];split
  .exact⟨_,rfl⟩
  .exact⟨[],(gR c).symm⟩
end
end Go.Eng
