/- Small steps for the runs of single functions. -/
import Derived.Test.YtkahfcmeeloikaaGreatDoorEngP
set_option linter.all false
set_option maxHeartbeats 1000000
namespace Go.Eng
open Go.RowKit
variable {A B:Prop}{R:AV->Prop}{a c c':Code}{args cs:List AV}{b st want:Bool}{e len o off sz z:Nat}{f:FuncId}{fn:Func}{i m p x y:Operand}{k:IntKind}{l:List Operand}{n:Int}{op:Op}{ps:Array (Nat×Operand)}{r v:AV}{rl:List ResultVar}{rows:List (List AV)}{s:ByteArray}{t:Tmp}
def xN(X:dV)(b:Code)(Q:Ex->List AV->ab->Prop):Ex->List AV->ab->Prop
 | .normal,fr,S=>bB X b Q fr S
 | e,fr,S=>Q e fr S
def gJ(id:Nat)(Q:Ex->List AV->ab->Prop):Ex->List AV->ab->Prop
 | .exit Ki,fr,S=>if Ki=id then Q .normal fr S else Q (.exit Ki) fr S
 | e,fr,S=>Q e fr S
def qX(r:Option AV)(S:ab)(R:AV->ab->Prop):Prop :=
 match r with
 | some v=>R v S
 | none=>False
def aO(X:dV)(st:St)(rl:List ResultVar):Option AV :=
 match aP X st rl with
 | some [v]=>some v
 | some vs=>some (.tup vs)
 | none=>none
def tG(X:dV)(rl:List ResultVar)(R:AV->ab->Prop):Ex->List AV->ab->Prop
 | .exit _,_,_=>False
 | _,fr,S=>qX (aO X ⟨fr,S⟩ rl) S R
def qM(v:AV)(A B:Prop):Prop :=
 match v with
 | .bool t=>if t=true then A else B
 | _=>False
def fO(v:Option AV)(dst:Option Tmp)(K:List AV->ab->Prop)(fr:List AV)(S:ab):Prop :=
 match v with
 | some v=>K (cj fr dst v) S
 | none=>False
structure ac (p:Prop):Prop where
 out:p
def aV{c:Prop}[Decidable c](h1:c->A)(h2:¬c->B):if c then A else B:=by
 split
 .rename_i h;exact h1 h
 .rename_i h;exact h2 h
def op1(X:dV)(d:Bool)(ops:Array Oper)(o:Oper)(K:List AV->ab->Prop)(fr:List AV)(S:ab):Prop :=
 match eL ops fr o with
 | some g=>if g=true then ia X d fr o.op o.pos (cZ X d o (fun v S'=>K (cj fr o.dst v) S') fr S) else K (cj fr o.dst (.flat undef)) S
 | none=>False
section
variable {X:dV}{d:Bool}{ops:Array Oper}
def nD{t:Bool}:qM (.bool t) A B=if t=true then A else B:=rfl
def im{dst:Option Tmp}{K:List AV->ab->Prop}{fr:List AV}{S:ab}:fO (some v) dst K fr S=K (cj fr dst v) S:=rfl
def bK{o:Oper}{rest:List Oper}{Q:List AV->ab->Prop}{fr:List AV}{S:ab}
  (h:∀K:List AV->ab->Prop,ac (∀fr S,cX X d ops rest Q fr S->K fr S)->op1 X d ops o K fr S):cX X d ops (o::rest) Q fr S:=by
 simp only[cX];exact h _ ⟨fun _ _ h=>h⟩
def ig{Q:List AV->ab->Prop}{fr:List AV}{S:ab}(h:Q fr S):cX X d ops [] Q fr S:=by simp only[cX];exact h
def eU{i:Nat}{l:List Oper}{Q:Ex->List AV->ab->Prop}{fr:List AV}{S:ab}(h:cX X d ⟨l⟩ l (Q .normal) fr S):bB X (.region i ⟨l⟩ d) Q fr S:=by simp only[bB];exact h
def gL{b:Code}{Q:Ex->List AV->ab->Prop}{fr:List AV}{S:ab}(h:bB X a (xN X b Q) fr S):bB X (.seq a b) Q fr S:=by
 simp only[bB];refine fk (fun e fr S h=>?_) h;cases e<;>exact h
def Ai{id:Nat}{Q:Ex->List AV->ab->Prop}{fr:List AV}{S:ab}(h:bB X a (gJ id Q) fr S):bB X (.block id a) Q fr S:=by
 simp only[bB];refine fk (fun e fr S h=>?_) h;cases e<;>exact h
def Hq{Q:Ex->List AV->ab->Prop}{fr:List AV}{S:ab}(h:bB X c Q fr S):bB X (.scope c) Q fr S:=by simp only[bB];exact h
def Hr{t:Nat}{Q:Ex->List AV->ab->Prop}{fr:List AV}{S:ab}(h:Q .normal fr (oR (eS fr t) S)):bB X (.label t) Q fr S:=by simp only[bB];exact h
def Cw{Q:Ex->List AV->ab->Prop}{fr:List AV}{S:ab}(h:Q .normal fr S):bB X .skip Q fr S:=by simp only[bB];exact h
def wV{Q:Ex->List AV->ab->Prop}{fr:List AV}{S:ab}(h:Q .ret fr S):bB X .ret Q fr S:=by simp only[bB];exact h
def wpC_exit{id:Nat}{Q:Ex->List AV->ab->Prop}{fr:List AV}{S:ab}(h:Q (.exit id) fr S):bB X (.exit id) Q fr S:=by simp only[bB];exact h
def kB{c:Operand}{b:Code}{Q:Ex->List AV->ab->Prop}{fr:List AV}{S:ab}
  (h:∀A B:Prop,ac (bB X a Q fr S->A)->ac (bB X b Q fr S->B)->qM (ak fr c) A B):bB X (.cond c a b) Q fr S:=by
 have:=h _ _ ⟨id⟩ ⟨id⟩;simp only[bB];unfold qM at this;split at this
 .rename_i t e;simp only[e];exact this
 .exact this.elim
def eo{b:Code}{Q:Ex->List AV->ab->Prop}{fr:List AV}{S:ab}(h:bB X b Q fr S):xN X b Q .normal fr S:=h
def xM{b:Code}{Q:Ex->List AV->ab->Prop}{fr:List AV}{S:ab}(h:Q .ret fr S):xN X b Q .ret fr S:=h
def Az{b:Code}{id:Nat}{Q:Ex->List AV->ab->Prop}{fr:List AV}{S:ab}(h:Q (.exit id) fr S):xN X b Q (.exit id) fr S:=h
def Af{id:Nat}{Q:Ex->List AV->ab->Prop}{fr:List AV}{S:ab}(h:Q .normal fr S):gJ id Q .normal fr S:=h
def F4{id:Nat}{Q:Ex->List AV->ab->Prop}{fr:List AV}{S:ab}(h:Q .ret fr S):gJ id Q .ret fr S:=h
def Eh{id:Nat}{Q:Ex->List AV->ab->Prop}{fr:List AV}{S:ab}(h:Q .normal fr S):gJ id Q (.exit id) fr S:=by simp only[gJ,if_true];exact h
def ad{id Ki:Nat}{Q:Ex->List AV->ab->Prop}{fr:List AV}{S:ab}(hn:Nat.beq Ki id=false)(h:Q (.exit Ki) fr S):gJ id Q (.exit Ki) fr S:=by
 have:¬Ki=id:=fun e=>by rw[e,Nat.beq_refl]at hn;exact Bool.noConfusion hn
 simp only[gJ,this,if_false];exact h
def tF{R:AV->ab->Prop}{fr:List AV}{S:ab}(h:qX (aO X ⟨fr,S⟩ rl) S R):tG X rl R .ret fr S:=h
def DJ{R:AV->ab->Prop}{fr:List AV}{S:ab}(h:qX (aO X ⟨fr,S⟩ rl) S R):tG X rl R .normal fr S:=h
theorem bS.walkD{n:Nat}{S:ab}{R:AV->ab->Prop}(hp:X.prim f=none)(hf:X.fn f=some fn)(hb:fn.body=some c)(hn:fn.ntmps=n)(hr:fn.results=⟨rl⟩)(hd:X.deco f c=c')
  (h:bB X c' (tG X rl R) (args++List.replicate (n-args.length) (.flat undef)) S):bS X f args S R:=by
 refine EvR_of hp ?_;unfold wpF;simp only[hf,hb,hd];subst hn;have e1:∀st,jx X fn st=aO X st rl:=fun st=>by simp only[jx,aO,hr];rfl
 refine fk (fun e fr S h=>?_) h;cases e with
 | exit id=>exact h
 | normal=>simp only[tG,qX,<-e1]at h;exact h
 | ret=>simp only[tG,qX,<-e1]at h;exact h
def bS.walk{n:Nat}{S:ab}{R:AV->ab->Prop}(hp:X.prim f=none)(hf:X.fn f=some fn)(hb:fn.body=some c)(hn:fn.ntmps=n)(hr:fn.results=⟨rl⟩)
  (h:bB X c (tG X rl R) (args++List.replicate (n-args.length) (.flat undef)) S) (hd:X.deco f c=c:=by rfl):bS X f args S R:=bS.walkD hp hf hb hn hr hd h
def aB.intro(n:Nat)(h:iL (dj X n) f args=some r)(hR:R r):aB X f args R:=⟨n,r,h,hR⟩
def aB.rw(h:aB X f args (· = r))(Q:AV->Prop):aB X f args Q=Q r:=propext (h.eq Q)
def bS.rw{S S1:ab}(h:bS X f args S fun v s=>v=r/\s=S1)(Q:AV->ab->Prop):bS X f args S Q=Q r S1:=propext (h.eq Q)
def iw(R:AV->Prop)(r:AV)(S:ab):Prop :=
 match da S r with
 | some v=>R v
 | none=>False
theorem aB.walkD{n:Nat}(hp:X.prim f=none)(hf:X.fn f=some fn)(hb:fn.body=some c)(hn:fn.ntmps=n)(hr:fn.results=⟨rl⟩)(hd:X.deco f c=c')
  (h:bB X c' (tG X rl (iw R)) (args++List.replicate (n-args.length) (.flat undef)) []):aB X f args R:=EvV_of (bS.mono (bS.walkD hp hf hb hn hr hd h) fun _ _ h=>h)
def Ho.rw(h:Ho X f args (· = r))(Q:AV->Prop):Ho X f args Q=Q r:=propext (h.eq Q)
def expN(R:AV->Prop)(r:AV)(S:ab):Prop :=
 match pU S r with
 | some v=>R v
 | none=>False
theorem Ho.walkD{n:Nat}(hp:X.prim f=none)(hf:X.fn f=some fn)(hb:fn.body=some c)(hn:fn.ntmps=n)(hr:fn.results=⟨rl⟩)(hd:X.deco f c=c')
  (h:bB X c' (tG X rl (expN R)) (args++List.replicate (n-args.length) (.flat undef)) []):Ho X f args R:=EvN_of (bS.mono (bS.walkD hp hf hb hn hr hd h) fun _ _ h=>h)
def aB.walk{n:Nat}(hp:X.prim f=none)(hf:X.fn f=some fn)(hb:fn.body=some c)(hn:fn.ntmps=n)(hr:fn.results=⟨rl⟩)
  (h:bB X c (tG X rl (iw R)) (args++List.replicate (n-args.length) (.flat undef)) []) (hd:X.deco f c=c:=by rfl):aB X f args R:=aB.walkD hp hf hb hn hr hd h
def em(X:dV)(d:Bool)(o:Oper)(dst:Option Tmp)(K:List AV->ab->Prop)(fr:List AV)(S:ab):Prop:=cZ X d o (fun v S'=>K (cj fr dst v) S') fr S
def iV{dst:Option Tmp}{t:TypeId}{pos:String}{after:Array Edge}{K:List AV->ab->Prop}{fr:List AV}{S:ab} :
  op1 X d ops ⟨dst,op,t,pos,after,none⟩ K fr S=ia X d fr op pos (em X d ⟨dst,op,t,pos,after,none⟩ dst K fr S):=by simp only[op1,eL,if_true,em]
section
variable {fr:List AV}{pos:String}{Q:Prop}
def latK(d b:Bool)(Q:Prop):Prop:=if (d && !b)=true then False else Q
def rB :latK false b Q=Q:=rfl
def u9:latK d true Q=Q:=by cases d<;>rfl
def rh{t:TypeId}:ia X d fr (.store t p x) pos Q=latK d ((X.late pos).all fun t=>pi (eS fr t) (ak fr p)) Q:=rfl
def uX :ia X d fr (.move x) pos Q=Q:=rfl
def oM :ia X d fr (.assign x) pos Q=Q:=rfl
def uW{c a b:Operand}:ia X d fr (.pick c a b) pos Q=Q:=rfl
def lV :ia X d fr (.nilCheck x) pos Q=Q:=rfl
def ir{t:TypeId}:ia X d fr (.makeInterface t x) pos Q=Q:=rfl
def rz{op:BinOp}{t t':TypeId}:ia X d fr (.binOp op t x y t') pos Q=Q:=rfl
def uV{op:UnOp}{t:TypeId}:ia X d fr (.unOp op t x) pos Q=Q:=rfl
def ng{s t:TypeId}:ia X d fr (.convert s t x) pos Q=Q:=rfl
def rq{t:TypeId}:ia X d fr (.build t ps) pos Q=Q:=rfl
def rn{t:TypeId}{f:Nat}:ia X d fr (.field t x f) pos Q=Q:=rfl
def kP{t:TypeId}{f:Nat}:ia X d fr (.fieldAddr t x f) pos Q=Q:=rfl
def kO{t:TypeId}:ia X d fr (.indexAddr t x i) pos Q=Q:=rfl
def rm{t:TypeId}:ia X d fr (.index t x i) pos Q=Q:=rfl
def rj{t:TypeId}{a b c:Option Operand}:ia X d fr (.slice t x a b c) pos Q=Q:=rfl
def lW{f:Fn}{a b:Array Operand}:ia X d fr (.makeFunc f a b) pos Q=Q:=rfl
def nf{i:Nat}:ia X d fr (.extract x i) pos Q=Q:=rfl
def uZ{c:Call}:ia X d fr (.call c) pos Q=Q:=rfl
def uY{t:TypeId}:ia X d fr (.load t p) pos Q=Q:=rfl
def rA{t:TypeId}:ia X d fr (.alloc t) pos Q=Q:=rfl
def yv{t:TypeId}:ia X d fr (.box t x) pos Q=Q:=rfl
def jL{t:TypeId}{n:Nat}:ia X d fr (.buildSlice t n ps) pos Q=Q:=rfl
def kN{t:TypeId}{l c:Operand}:ia X d fr (.makeSlice t l c) pos Q=Q:=rfl
def na{t:TypeId}{n:Option Operand}:ia X d fr (.makeMap t n) pos Q=Q:=rfl
def oL{t:TypeId}{k:Operand}:ia X d fr (.lookup t x k b) pos Q=Q:=rfl
def kM{t:TypeId}{k:Operand}:ia X d fr (.mapUpdate t m k x) pos Q=Q:=rfl
end
def FE(v:AV)(want:Bool)(A B:Prop):Prop :=
 match v with
 | .bool b=>if b=want then A else B
 | .flat (.tuple _)=>B
 | _=>False
theorem uN{dst:Option Tmp}{t:TypeId}{pos:String}{after:Array Edge}{j:Nat}{l:List Oper}{K:List AV->ab->Prop}{fr:List AV}{S:ab} :
  op1 X d ⟨l⟩ ⟨dst,op,t,pos,after,some (j,want)⟩ K fr S=match (l[j]?).bind (·.dst) with
   | some e=>FE (eS fr e) want (ia X d fr op pos (em X d ⟨dst,op,t,pos,after,some (j,want)⟩ dst K fr S)) (K (cj fr dst (.flat undef)) S)
   | none=>False:=by
 simp only[op1,eL,Wt];cases (l[j]?).bind (·.dst) with
 | none=>rfl
 | some e=>
  simp only;cases eS fr e with
  | bool b=>
   by_cases hb:b=want
   .subst hb;simp only[FE,em,beq_self_eq_true,if_true]
   .have:(b == want)=false:=by cases b<;>cases want<;>simp_all
    simp only[FE,this,U3,if_false,if_neg hb]
  | flat v=>cases v<;>simp[FE]
  | _=>rfl
section
variable {dst:Option Tmp}{ty:TypeId}{pos:String}{after:Array Edge}{g:Option (Nat×Bool)}{K:List AV->ab->Prop}{fr:List AV}{S:ab}
theorem dL(v:Option AV)(h:eJ X fr ⟨dst,op,ty,pos,after,g⟩=v)(hq:ff X d S S.length fr ⟨dst,op,ty,pos,after,g⟩=none)(hn:iq X d S S.length fr ⟨dst,op,ty,pos,after,g⟩=none)
  (hc:cL X fr ⟨dst,op,ty,pos,after,g⟩=none) (he:iz X S fr ⟨dst,op,ty,pos,after,g⟩=none):em X d ⟨dst,op,ty,pos,after,g⟩ dst K fr S=fO v dst K fr S:=by
 subst h;unfold em cZ;cases eJ X fr ⟨dst,op,ty,pos,after,g⟩ with
 | some v=>rfl
 | none=>simp only[hq,hn,hc,he,fO];split<;>rfl
def py{op:BinOp}{t t':TypeId}:em X d ⟨dst,.binOp op t x y t',ty,pos,after,g⟩ dst K fr S=fO (zE X op t (ak fr x) (ak fr y)) dst K fr S:=dL _ rfl rfl rfl rfl rfl
def xj{op:UnOp}{t:TypeId}:em X d ⟨dst,.unOp op t x,ty,pos,after,g⟩ dst K fr S=fO (unA op (ak fr x)) dst K fr S:=dL _ rfl rfl rfl rfl rfl
def ui{t:TypeId}{l:List (Nat×Operand)}:em X d ⟨dst,.build t ⟨l⟩,ty,pos,after,g⟩ dst K fr S=fO (sd X t (l.map fun p=>(p.1,ak fr p.2))) dst K fr S:=dL _ rfl rfl rfl rfl rfl
def ug{t:TypeId}{f:Nat}:em X d ⟨dst,.field t x f,ty,pos,after,g⟩ dst K fr S=fO (rN X t (ak fr x) f) dst K fr S:=dL _ rfl rfl rfl rfl rfl
def lR{t:TypeId}{f:Nat}:em X d ⟨dst,.fieldAddr t x f,ty,pos,after,g⟩ dst K fr S=fO (iv X t (ak fr x) f) dst K fr S:=dL _ rfl rfl rfl rfl rfl
def lQ{t:TypeId}:em X d ⟨dst,.indexAddr t x i,ty,pos,after,g⟩ dst K fr S=fO (aD X t (ak fr x) (ak fr i)) dst K fr S:=dL _ rfl rfl rfl rfl rfl
def mo{t:TypeId}:em X d ⟨dst,.index t x i,ty,pos,after,g⟩ dst K fr S=fO (vg X t (ak fr x) (ak fr i)) dst K fr S:=dL _ rfl rfl rfl rfl rfl
def ue{t:TypeId}{lo hi mx:Option Operand}:em X d ⟨dst,.slice t x lo hi mx,ty,pos,after,g⟩ dst K fr S=fO (dW X t (ak fr x) (lo.map (ak fr)) (hi.map (ak fr)) (mx.map (ak fr))) dst K fr S:=dL _ rfl rfl rfl rfl rfl
def mS :em X d ⟨dst,.makeFunc (.func f) #[] ⟨l⟩,ty,pos,after,g⟩ dst K fr S=K (cj fr dst (.fn f (l.map (ak fr)))) S:=(dL _ rfl rfl rfl rfl rfl).trans rfl
def mn :em X d ⟨dst,.move (.tmp t),ty,pos,after,g⟩ dst K fr S=K (cj fr dst (eS fr t)) S:=(dL _ rfl rfl rfl rfl rfl).trans rfl
def ju :em X d ⟨dst,.assign (.tmp t),ty,pos,after,g⟩ dst K fr S=K (cj fr dst (eS fr t)) S:=(dL _ rfl rfl rfl rfl rfl).trans rfl
def uf :em X d ⟨dst,.move (.const (.int k n)),ty,pos,after,g⟩ dst K fr S=K (cj fr dst (.int k n)) S:=(dL _ rfl rfl rfl rfl rfl).trans rfl
def om :em X d ⟨dst,.assign (.const (.int k n)),ty,pos,after,g⟩ dst K fr S=K (cj fr dst (.int k n)) S:=(dL _ rfl rfl rfl rfl rfl).trans rfl
def oo :em X d ⟨dst,.assign (.const (.bool b)),ty,pos,after,g⟩ dst K fr S=K (cj fr dst (.bool b)) S:=(dL _ rfl rfl rfl rfl rfl).trans rfl
def Cv :em X d ⟨dst,.assign (.const (.string s)),ty,pos,after,g⟩ dst K fr S=K (cj fr dst (.str s)) S:=(dL _ rfl rfl rfl rfl rfl).trans rfl
def xk{c a b:Operand}:em X d ⟨dst,.pick c a b,ty,pos,after,g⟩ dst K fr S=qM (ak fr c) (K (cj fr dst (ak fr a)) S) (K (cj fr dst (ak fr b)) S):=by
 rw[dL (match ak fr c with | .bool t=>some (if t then ak fr a else ak fr b)|_=>none) rfl rfl rfl rfl rfl];unfold qM fO;cases ak fr c<;>try rfl
 rename_i t;cases t<;>rfl
def nilK(v:AV)(dst:Option Tmp)(K:List AV->ab->Prop)(fr:List AV)(S:ab):Prop :=
 match v with
 | .ptr b e sz row off=>K (cj fr dst (.ptr b e sz row off)) S
 | .tptr st row off=>K (cj fr dst (.tptr st row off)) S
 | .iface t x=>K (cj fr dst (.iface t x)) S
 | _=>False
def mkIfA(X:dV)(t:TypeId)(v:AV):Option AV:=match X.ty t with
 | some i=>if i.desc.solid then some (.iface t v) else none
 | none=>none
def sA{t:TypeId}:em X d ⟨dst,.makeInterface t x,ty,pos,after,g⟩ dst K fr S=fO (mkIfA X t (ak fr x)) dst K fr S:=dL _ rfl rfl rfl rfl rfl
def mR :em X d ⟨dst,.nilCheck x,ty,pos,after,g⟩ dst K fr S=nilK (ak fr x) dst K fr S:=by
 rw[dL (match ak fr x with | .ptr b e sz row off=>some (.ptr b e sz row off) | .tptr st row off=>some (.tptr st row off) | .iface t x=>some (.iface t x)|_=>none) rfl rfl rfl rfl rfl];unfold nilK fO;cases ak fr x<;>rfl
def extK(v:AV)(i:Nat):Option AV :=
 match v with
 | .tup vs=>vs[i]?
 | _=>none
def ol{i:Nat}:em X d ⟨dst,.extract x i,ty,pos,after,g⟩ dst K fr S=fO (extK (ak fr x) i) dst K fr S:=dL _ rfl rfl rfl rfl rfl
def fb(v:Option (AV×List dY))(dst:Option Tmp)(K:List AV->ab->Prop)(fr:List AV)(S:ab):Prop :=
 match v with
 | some (v,nb)=>K (cj fr dst v) (S++nb)
 | none=>False
theorem jV(v:Option (AV×List dY))(h:eJ X fr ⟨dst,op,ty,pos,after,g⟩=none)(hq:ff X d S S.length fr ⟨dst,op,ty,pos,after,g⟩=v)(hn:iq X d S S.length fr ⟨dst,op,ty,pos,after,g⟩=none)
  (hc:cL X fr ⟨dst,op,ty,pos,after,g⟩=none) (he:iz X S fr ⟨dst,op,ty,pos,after,g⟩=none):em X d ⟨dst,op,ty,pos,after,g⟩ dst K fr S=fb v dst K fr S:=by
 subst hq;unfold em cZ;rw[h];cases ff X d S S.length fr ⟨dst,op,ty,pos,after,g⟩ with
 | some v=>rfl
 | none=>simp only[hn,hc,he,fb];split<;>rfl
def Du(gl:Nat->Option (List AV))(S:ab)(i:Option mN)(p:AV):Option AV :=
 match i with
 | some i=>match p with
  | .ptr b e sz row off=>match g9 S b e sz row with
   | some r=>gU i r off
   | none=>none
  | .tptr _ r off=>gU i r off
  | .flat (.pointer (some ⟨g,0,none⟩))=>match gl g with
   | some r=>gU i r 0
   | none=>none
  | _=>none
 | none=>none
theorem xm{t:TypeId}:em X d ⟨dst,.load t p,ty,pos,after,g⟩ dst K fr S=fO (Du X.glob S (X.ty t) (ak fr p)) dst K fr S:=by
 rw[jV _ rfl rfl rfl rfl rfl];simp only[ff,Du];cases X.ty t with
 | none=>rfl
 | some i=>
  simp only;cases ak fr p with
  | ptr b e sz row off=>
   simp only;cases g9 S b e sz row with
   | none=>rfl
   | some r=>simp only;cases gU i r off<;>simp[fb,fO]
  | tptr st r off=>simp only;cases gU i r off<;>simp[fb,fO]
  | flat v=>
   cases v with
   | pointer a=>
    cases a with
    | none=>rfl
    | some a=>
     obtain⟨g,o,m⟩:=a;cases o with
     | zero=>cases m with
      | none=>
       simp only;cases X.glob g with
       | none=>rfl
       | some r=>simp only;cases gU i r 0<;>simp[fb,fO]
      | some _=>rfl
     | succ _=>cases m<;>rfl
   | _=>rfl
  | _=>rfl
def bi(i:Option mN)(dst:Option Tmp)(K:List AV->ab->Prop)(fr:List AV)(S:ab):Prop :=
 match i with
 | some i=>if i.zero.length=i.size then K (cj fr dst (.ptr S.length 1 i.size 0 0)) (S++[.arr [i.zero] i.size 0 true]) else False
 | none=>False
theorem uj{t:TypeId}:em X d ⟨dst,.alloc t,ty,pos,after,g⟩ dst K fr S=bi (X.ty t) dst K fr S:=by
 rw[jV _ rfl rfl rfl rfl rfl];simp only[ff,bi];cases X.ty t with
 | none=>rfl
 | some i=>simp only;by_cases h:i.zero.length=i.size<;>simp[h,fb]
def IF(cs:List AV)(dst:Option Tmp)(K:List AV->ab->Prop)(fr:List AV)(S:ab):Prop :=
 if cs.all AV.cell=true then K (cj fr dst (.ptr S.length 1 cs.length 0 0)) (S++[.arr [cs] cs.length 0 (cq cs)]) else False
def Bn{t:TypeId}:em X d ⟨dst,.box t x,ty,pos,after,g⟩ dst K fr S=IF (ak fr x).cells dst K fr S:=by
 rw[jV _ rfl rfl rfl rfl rfl];simp only[ff,IF];by_cases h:(ak fr x).cells.all AV.cell=true
 .rw[if_pos h,if_pos h];rfl
 .rw[if_neg h,if_neg h];rfl
def d9(i:Option mN)(ei:Option mN)(d:Bool)(id len:Nat)(ps:List (Nat×AV)):Option (AV×List dY) :=
 match i with
 | some ⟨_,_,_,_,.slice _⟩=>match ei with
  | some ei=>
   if d=true/\len=0 then (if ps.length=0/\ei.zero.length=ei.size then some (.esl,[]) else none) else
   if len*ei.size<=16777216/\ei.zero.length=ei.size/\0<ei.size/\(ps.all fun p=>p.2.cells.all AV.cell) then
    match ba ei.size (List.replicate len ei.zero) ps with
    | some rows=>some (.sl id len 0 len ei.size,[.arr rows ei.size 0 (ps.all fun p=>cq p.2.cells)])
    | none=>none
   else none
  | none=>none
 | _=>none
def bM{t:TypeId}{i:mN}{el:TypeId}{l:List (Nat×Operand)}(ht:X.ty t=some i)(hd:i.desc = .slice el)(hz:X.frz pos=false):em X d ⟨dst,.buildSlice t len ⟨l⟩,ty,pos,after,g⟩ dst K fr S=fb (d9 (some i) (X.ty el) d S.length len (l.map fun p=>(p.1,ak fr p.2))) dst K fr S:=by
 rw[jV _ rfl rfl rfl rfl rfl];obtain⟨a,b,c,e,f⟩:=i;simp only at hd;subst hd;simp only[ff,bsA,ht,hz,VM,U3,if_false];cases X.ty el<;>rfl
def yk(i ei:Option mN)(d:Bool)(id:Nat)(l c:AV):Option (AV×List dY) :=
 match l,c with
 | .int _ n,.int _ m=>match ei with
  | some e=>if n=m/\0<=n/\n<=16777216/\n.toNat*e.size<=16777216/\e.bytes*n.toNat<=140737488355328 then d9 i ei d id n.toNat [] else
   if n=0/\0<=m/\m<=16777216/\0<e.size/\e.zero.length=e.size/\m.toNat*e.size<=16777216/\e.bytes*m.toNat<=140737488355328 then some (.sl id 0 0 0 e.size,[.arr [] e.size 0 true]) else none
  | none=>none
 | _,_=>none
def qC{t:TypeId}{i:mN}{el:TypeId}{l c:Operand}(ht:X.ty t=some i)(hd:i.desc = .slice el)(hz:X.frz pos=false):em X d ⟨dst,.makeSlice t l c,ty,pos,after,g⟩ dst K fr S=fb (yk (some i) (X.ty el) d S.length (ak fr l) (ak fr c)) dst K fr S:=by
 rw[jV _ rfl rfl rfl rfl rfl];obtain⟨i1,i2,i3,i4,i5⟩:=i;simp only at hd;subst hd
 congr 1
 simp only[ff,bsA,yk,ht,hz,VM,U3,if_false]
 all_goals
  cases ak fr l<;>first|rfl|(cases ak fr c<;>first|rfl|(cases X.ty el<;>rfl))
def ur(i:Option mN)(p:AV)(cs:List AV)(dst:Option Tmp)(K:List AV->ab->Prop)(fr:List AV)(S:ab):Prop :=
 match i with
 | some i=>match p with
  | .ptr b e sz row off=>match S[b]? with
   | some (.arr rows Je wep pr)=>
    if Je=sz/\rows.length=e/\wep<=e/\row<e/\cs.length=i.size/\off+cs.length<=sz/\cs.all AV.cell=true then
     K (cj fr dst (.flat undef)) (S.set b (.arr (rows.set row (gE (rows.getD row []) off cs)) sz e (pr && cq cs)))
    else False
   | _=>False
  | _=>False
 | none=>False
theorem sB(h:eJ X fr ⟨dst,op,ty,pos,after,g⟩=none)(hq:ff X d S S.length fr ⟨dst,op,ty,pos,after,g⟩=none)(hn:iq X d S S.length fr ⟨dst,op,ty,pos,after,g⟩=none)
  (hc:cL X fr ⟨dst,op,ty,pos,after,g⟩=none) (hd:mM S fr ⟨dst,op,ty,pos,after,g⟩=true):em X d ⟨dst,op,ty,pos,after,g⟩ dst K fr S=match iz X S fr ⟨dst,op,ty,pos,after,g⟩ with
   | some (v,S')=>K (cj fr dst v) S'
   | none=>False:=by
 unfold em cZ;simp only[h,hq,hn,hc,hd,Wv,WF,U3,if_false];cases iz X S fr ⟨dst,op,ty,pos,after,g⟩<;>rfl
theorem ud{t:TypeId}:em X d ⟨dst,.store t p x,ty,pos,after,g⟩ dst K fr S=ur (X.ty t) (ak fr p) (ak fr x).cells dst K fr S:=by
 rw[sB rfl rfl rfl rfl rfl];simp only[iz,ur];cases X.ty t with
 | none=>rfl
 | some i=>
  cases ak fr p with
  | ptr b e sz row off=>
   simp only;cases hb:S[b]? with
   | none=>rfl
   | some bl=>
    cases bl with
    | dead _=>rfl
    | map es=>rfl
    | arr rows Je wep pr=>
     simp only;by_cases hh:Je=sz/\rows.length=e/\wep<=e/\row<e/\(ak fr x).cells.length=i.size/\off+(ak fr x).cells.length<=sz/\(ak fr x).cells.all AV.cell=true
     .rw[if_pos hh,if_pos hh]
     .rw[if_neg hh,if_neg hh]
  | _=>rfl
def mB(X:dV)(S:ab)(t:TypeId)(x k:AV)(ok:Bool):Option AV :=
 match X.ty t with
 | some ⟨_,_,_,_,.map kt et⟩=>match wh S x,X.ty kt,X.ty et with
  | some es,some ki,some ei=>if nY X kt ki.desc k=true then
   match ef k es,gp ei ei.zero with
   | some (some v),_=>some (if ok then .tup [v,.bool true] else v)
   | some none,some z=>some (if ok then .tup [z,.bool false] else z)
   | _,_=>none
   else none
  | _,_,_=>none
 | _=>none
theorem sY{b:Nat}:wh S (.mp b)=match S[b]? with
  | some (.map es)=>some es
  | _=>none:=rfl
def sX{ks vs:List AV}:wh S (.tmap ks vs)=some (ks.zip vs):=rfl
theorem qR{t:TypeId}{k:Operand}{ok:Bool}:em X d ⟨dst,.lookup t x k ok,ty,pos,after,g⟩ dst K fr S=fO (mB X S t (ak fr x) (ak fr k) ok) dst K fr S:=by
 have h:ff X d S S.length fr ⟨dst,.lookup t x k ok,ty,pos,after,g⟩=(mB X S t (ak fr x) (ak fr k) ok).map fun v=>(v,[]):=by
  simp only[ff,mB];cases X.ty t with
  | none=>rfl
  | some i=>
   obtain⟨i1,i2,i3,i4,desc⟩:=i;cases desc with
   | map kt et=>
    simp only;cases wh S (ak fr x) with
    | none=>rfl
    | some es=>
     cases X.ty kt with
     | none=>rfl
     | some ki=>
      cases X.ty et with
      | none=>rfl
      | some ei=>
       simp only;by_cases hk:nY X kt ki.desc (ak fr k)=true
       .rw[if_pos hk,if_pos hk];cases ef (ak fr k) es with
        | none=>rfl
        | some r=>
         cases r with
         | some v=>rfl
         | none=>cases gp ei ei.zero<;>rfl
       .rw[if_neg hk,if_neg hk];rfl
   | _=>rfl
 rw[jV _ rfl h rfl rfl rfl];cases mB X S t (ak fr x) (ak fr k) ok with
 | none=>rfl
 | some v=>simp only[Vf,fb,fO,UM]
def oh{t:TypeId}:em X d ⟨dst,.makeMap t none,ty,pos,after,g⟩ dst K fr S=K (cj fr dst (.mp S.length)) (S++[.map []]):=(jV _ rfl rfl rfl rfl rfl).trans rfl
def Fi(X:dV)(t:TypeId)(m k x:AV)(dst:Option Tmp)(K:List AV->ab->Prop)(fr:List AV)(S:ab):Prop :=
 match X.ty t,m with
 | some ⟨_,_,_,_,.map kt _⟩,.mp b=>match S[b]?,X.ty kt with
  | some (.map es),some ki=>if nY X kt ki.desc k=true/\(ef k es).isSome=true then K (cj fr dst (.flat undef)) (S.set b (.map (jc k x es))) else False
  | _,_=>False
 | _,_=>False
def lP{t:TypeId}{k:Operand}:em X d ⟨dst,.mapUpdate t m k x,ty,pos,after,g⟩ dst K fr S=Fi X t (ak fr m) (ak fr k) (ak fr x) dst K fr S:=by
 rw[sB rfl rfl rfl rfl rfl];simp only[iz,Fi];repeat' split
 all_goals simp_all
def delK(X:dV)(t:TypeId)(m k:AV)(dst:Option Tmp)(K:List AV->ab->Prop)(fr:List AV)(S:ab):Prop :=
 match X.ty t,m with
 | some ⟨_,_,_,_,.map kt _⟩,.mp b=>match S[b]?,X.ty kt with
  | some (.map es),some ki=>if nY X kt ki.desc k=true/\(ef k es).isSome=true then K (cj fr dst (.tup [])) (S.set b (.map (nZ k es))) else False
  | _,_=>False
 | _,_=>False
def qS{k:Operand}{t u:TypeId}:em X d ⟨dst,.call ⟨.builtin .delete,⟨[m,k]⟩,⟨[t,u]⟩⟩,ty,pos,after,g⟩ dst K fr S=delK X t (ak fr m) (ak fr k) dst K fr S:=by
 rw[sB rfl rfl rfl rfl rfl];simp only[iz,delK];repeat' split
 all_goals simp_all
def wD(X:dV)(d:Bool)(st z:Bool)(f:AV)(args:List AV)(dst:Option Tmp)(K:List AV->ab->Prop)(fr:List AV)(S:ab):Prop :=
 match f with
 | .fn g caps=>
  if X.byRef g=true then (if (d && !st)=true then False else bS X g (args++caps) S fun v S'=>K (cj fr dst v) S')
  else match dU S (args++caps) with
   | some Jb=>if X.nest g=true then Ho X g Jb fun r=>K (cj fr dst (fD S.length r).1) (S++(fD S.length r).2) else aB X g Jb fun r=>K (cj fr dst (i8 z S.length r).1) (S++(i8 z S.length r).2)
   | none=>False
 | _=>False
def xn{ts:Array TypeId}:em X d ⟨dst,.call ⟨.value (.func f),⟨l⟩,ts⟩,ty,pos,after,g⟩ dst K fr S=wD X d (X.byRef f) (X.frz pos) (.fn f []) (l.map (ak fr)) dst K fr S:=by
 unfold em cZ wD;simp only[eJ,ff,iq,cL,ak,iF];by_cases hb:X.byRef f=true
 .simp only[hb,if_true,Wv,WF]
 .simp only[hb];cases dU S (l.map (ak fr)++[])<;>rfl
theorem uh{ts:Array TypeId}:em X d ⟨dst,.call ⟨.value (.tmp t),⟨l⟩,ts⟩,ty,pos,after,g⟩ dst K fr S=wD X d false (X.frz pos) (eS fr t) (l.map (ak fr)) dst K fr S:=by
 unfold em cZ wD;simp only[eJ,ff,iq,cL,ak,iF];have no:∀P:Prop,P=False->(if (d && false)=true then False else P)=False:=fun P h=>by cases d<;>simp[h]
 cases eS fr t with
 | fn f caps=>
  simp only;by_cases hb:X.byRef f=true
  .simp only[hb,if_true];rfl
  .simp only[hb];cases dU S (l.map (ak fr)++caps)<;>rfl
 | _=>exact no _ rfl
def methF(X:dV)(r:AV)(m:String):AV :=
 match r with
 | .iface t _=>match X.meth t m with
  | some g=> .fn g []
  | none=> .junk
 | _=> .junk
def recvA:AV->AV
 | .iface _ x=>x
 | v=>v
theorem Eu{r:Operand}{m:String}{ts:Array TypeId}:em X d ⟨dst,.call ⟨.invoke r m,⟨l⟩,ts⟩,ty,pos,after,g⟩ dst K fr S=wD X d (X.refM m) (X.frz pos) (methF X (ak fr r) m) (recvA (ak fr r)::l.map (ak fr)) dst K fr S:=by
 unfold em cZ wD;simp only[eJ,ff,iq,cL,iF,mM];have no:∀P:Prop,P=False->(if (d && !true)=true then False else P)=False:=fun P h=>by cases d<;>simp[h]
 cases ak fr r with
 | iface t x=>
  simp only[methF,recvA];cases X.meth t m with
  | none=>exact no _ rfl
  | some g=>
   simp only[UM];by_cases hb:X.byRef g=true
   .simp only[hb,if_true];rfl
   .simp only[hb];cases dU S (x::l.map (ak fr))<;>rfl
 | _=>exact no _ rfl
def lenK(i:Option mN)(x:AV):Option AV :=
 match i,lenA x with
 | some ⟨_,_,_,_,.slice _⟩,some n=>(match x with | .str _=>none|_=>some (.int .i64 n))
 | some ⟨_,_,_,_,.str⟩,some n=>(match x with | .str _=>some (.int .i64 n)|_=>none)
 | _,_=>none
def lenM(X:dV)(d:Bool)(t:TypeId)(x:AV)(S:ab):Option AV :=
 match lenK (X.ty t) x with
 | some v=>some v
 | none=>if d=true then none else match X.ty t,x with
  | some ⟨_,_,_,_,.map _ _⟩,.mp b=>match S[b]? with
   | some (.map es)=>some (.int .i64 es.length)
   | _=>none
  | _,_=>none
def lenK_mp{i:Option mN}{b:Nat}:lenK i (.mp b)=none:=by unfold lenK;simp only[lenA]
theorem Bm{t:TypeId}:em X d ⟨dst,.call ⟨.builtin .len,⟨[x]⟩,⟨[t]⟩⟩,ty,pos,after,g⟩ dst K fr S=fO (lenM X d t (ak fr x) S) dst K fr S:=by
 have hp:eJ X fr ⟨dst,.call ⟨.builtin .len,⟨[x]⟩,⟨[t]⟩⟩,ty,pos,after,g⟩=lenK (X.ty t) (ak fr x):=rfl;unfold lenM;cases h:lenK (X.ty t) (ak fr x) with
 | some v=>unfold em cZ;rw[hp,h];rfl
 | none=>
  rw[jV _ (hp.trans h) rfl rfl rfl rfl];simp only[ff];cases d with
  | true=>rfl
  | false=>
   simp only[U3,if_false];cases X.ty t with
   | none=>rfl
   | some i=>
    obtain⟨i1,i2,i3,i4,i5⟩:=i;cases i5<;>try rfl
    cases ak fr x<;>try rfl
    rename_i b;simp only;cases S[b]? with
    | none=>rfl
    | some bl=>cases bl<;>first|rfl|(simp only[fb,fO,UM])
def Bl{ts:Array TypeId}:em X d ⟨dst,.call ⟨.builtin .max,⟨l⟩,ts⟩,ty,pos,after,g⟩ dst K fr S=fO (kj true (l.map (ak fr))) dst K fr S:=dL _ rfl rfl rfl rfl rfl
def Bk{ts:Array TypeId}:em X d ⟨dst,.call ⟨.builtin .min,⟨l⟩,ts⟩,ty,pos,after,g⟩ dst K fr S=fO (kj false (l.map (ak fr))) dst K fr S:=dL _ rfl rfl rfl rfl rfl
def eF(S:ab)(ei:Option mN)(same:Bool)(d:Bool)(s x:AV)(dst:Option Tmp)(K:List AV->ab->Prop)(fr:List AV):Prop :=
 match ei with
 | some ei=>if same=true/\0<ei.size/\ei.zero.length=ei.size then
  match rowsOf S ei.size x with
  | some (news,prn)=>match s with
   | .esl=>if news.length=0 then K (cj fr dst .esl) S else
    if news.length*ei.bytes<=140737488355328/\news.length<=140737488355328 then K (cj fr dst (.sl S.length news.length 0 news.length ei.size)) (S++[.arr news ei.size 0 prn]) else False
   | .flat (.slice none 0 0)=>if news.length=0 then K (cj fr dst (.flat (.slice none 0 0))) S else
    if news.length*ei.bytes<=140737488355328/\news.length<=140737488355328 then K (cj fr dst (.sl S.length news.length 0 news.length ei.size)) (S++[.arr news ei.size 0 prn]) else False
   | .sl b e off len sz=>if (d && !prn)=true then False else match S[b]? with
    | some (.arr rows Je wep pr)=>
     if off=0/\len=e/\rows.length=e/\wep<=e/\sz=ei.size/\Je=sz/\(e+news.length)*ei.bytes<=140737488355328/\e+news.length<=140737488355328 then
      (if news.length=0 then K (cj fr dst (.sl b e off len sz)) S else K (cj fr dst (.sl b (e+news.length) 0 (e+news.length) sz)) (S.set b (.arr (rows++news) sz wep (pr && prn))))
     else False
    | _=>False
   | _=>False
  | none=>False
  else False
 | none=>False
theorem du{s:Operand}{t u:TypeId}{i:mN}{el:TypeId}(ht:X.ty t=some i)(hd:i.desc = .slice el):em X d ⟨dst,.call ⟨.builtin .append,⟨[s,x]⟩,⟨[t,u]⟩⟩,ty,pos,after,g⟩ dst K fr S=eF S (X.ty el) (decide (t=u)) d (ak fr s) (ak fr x) dst K fr:=by
 obtain⟨a,b,c,e,f⟩:=i;simp only at hd;subst hd;unfold em cZ;simp only[eJ,ff,cL,mM,iq,iz,ht,eF,decide_eq_true_eq];cases X.ty el with
 | none=>cases d<;>simp
 | some ei=>
  simp only;by_cases h1:t=u/\0<ei.size/\ei.zero.length=ei.size
  .simp only[if_pos h1];cases hr:rowsOf S ei.size (ak fr x) with
   | none=>cases d<;>simp
   | some np=>
    obtain⟨news,prn⟩:=np;simp only
    have two:∀(v v':AV) (bl:dY),(match (if news.length=0 then some (v,[]) else if news.length*ei.bytes<=140737488355328/\news.length<=140737488355328 then some (v',[bl]) else none:Option (AV×List dY)) with
      | some (v,nb)=>K (cj fr dst v) (S++nb)
      | none=>False)=(if news.length=0 then K (cj fr dst v) S else if news.length*ei.bytes<=140737488355328/\news.length<=140737488355328 then K (cj fr dst v') (S++[bl]) else False):=by
     intro v v' bl;by_cases h2:news.length=0
     .simp only[if_pos h2,UM]
     .by_cases h3:news.length*ei.bytes<=140737488355328/\news.length<=140737488355328
      .simp only[if_neg h2,if_pos h3]
      .simp only[if_neg h2,if_neg h3]
    cases hs:ak fr s with
    | esl=>
     simp only;by_cases h2:news.length=0
     .simp only[if_pos h2,UM]
     .by_cases h3:news.length*ei.bytes<=140737488355328/\news.length<=140737488355328
      .simp only[if_neg h2,if_pos h3]
      .simp only[if_neg h2,if_neg h3];cases d<;>simp
    | flat v=>
     cases v with
     | slice p len aK=>
      cases p with
      | some p=>cases d<;>simp
      | none=>
       cases len with
       | succ n=>cases d<;>simp
       | zero=>
        cases aK with
        | succ n=>cases d<;>simp
        | zero=>
         simp only;by_cases h2:news.length=0
         .simp only[if_pos h2,UM]
         .by_cases h3:news.length*ei.bytes<=140737488355328/\news.length<=140737488355328
          .simp only[if_neg h2,if_pos h3]
          .simp only[if_neg h2,if_neg h3];cases d<;>simp
     | _=>cases d<;>simp
    | sl b e off len sz=>
     simp only
     have key:∀(q:Bool) (A B:Prop),(sz=ei.size->q=prn/\A=B)->(sz≠ei.size->A=False/\B=False)->(if (d && !q)=true then False else A)=if (d && !prn)=true then False else B:=by
      intro q A B h2 h3;by_cases hz:sz=ei.size
      .rw[(h2 hz).1,(h2 hz).2]
      .rw[(h3 hz).1,(h3 hz).2];simp
     refine key _ _ _ (fun hz=>⟨?_,?_⟩) fun hz=>⟨?_,?_⟩
     .rw[hz,hr]
     .cases hb:S[b]? with
      | none=>rfl
      | some bl=>
       cases bl with
       | arr rows Je wep pr=>
        simp only;by_cases h4:off=0/\len=e/\rows.length=e/\wep<=e/\sz=ei.size/\Je=sz/\(e+news.length)*ei.bytes<=140737488355328/\e+news.length<=140737488355328
        .simp only[if_pos h4];by_cases h2:news.length=0
         .simp only[if_pos h2]
         .simp only[if_neg h2]
        .simp only[if_neg h4]
       | _=>rfl
     .cases hb:S[b]? with
      | none=>rfl
      | some bl=>
       cases bl with
       | arr rows Je wep pr=>
        simp only;rw[if_neg (fun h=>hz h.2.2.2.2.1)]
       | _=>rfl
     .cases hb:S[b]? with
      | none=>rfl
      | some bl=>
       cases bl with
       | arr rows Je wep pr=>
        simp only;rw[if_neg (fun h=>hz h.2.2.2.2.1)]
       | _=>rfl
    | _=>cases d<;>simp
  .simp only[if_neg h1];cases d<;>simp
def cM(i ei:Option mN)(d:Bool)(dst:Option Tmp)(K:List AV->ab->Prop)(fr:List AV)(S:ab):Prop :=
 if d=true then K (cj fr dst (.flat (.slice none 0 0))) S else
 match ei with
 | some ei=>K (cj fr dst (.sl S.length 0 0 0 ei.size)) (S++[.arr [] ei.size 0 true])
 | none=>False
theorem dA{i:mN}{el:TypeId}(ht:X.ty ty=some i)(hd:i.desc = .slice el):em X d ⟨dst,.assign (.const (.slice none 0 0)),ty,pos,after,g⟩ dst K fr S=cM (some i) (X.ty el) d dst K fr S:=by
 obtain⟨a,b,c,e,f⟩:=i;simp only at hd;subst hd;unfold em cZ;cases d with
 | true=>simp[eJ,ff,iq,cM]
 | false=>
  simp only[eJ,ff,iq,cM,U3,if_false,ht];cases X.ty el<;>rfl
end
end
def bz{a:AV}{l:List AV}:eS (a::l) 0=a:=rfl
def bH{a:AV}{l:List AV}{n:Nat}:eS (a::l) (n+1)=eS l n:=rfl
def dD{n:Nat}{l:List AV}:cj l (some n) v=l.set n v:=rfl
def iJ{l:List AV}:cj l none v=l:=rfl
def ky{fr:List AV}{t:Nat}:ak fr (.tmp t)=eS fr t:=rfl
def vt{fr:List AV}:ak fr (.const (.int k n)) = .int k n:=rfl
def rO{fr:List AV}:ak fr (.const (.bool b)) = .bool b:=rfl
def Ij{fr:List AV}:ak fr (.const (.string s)) = .str s:=rfl
def pV{fr:List AV}:ak fr (.const (.slice none 0 0)) = .flat (.slice none 0 0):=rfl
def vu{fr:List AV}{l:List Value}:ak fr (.const (.agg ⟨l⟩)) = .agg (l.map IV):=rfl
def y7{fr:List AV}:ak fr (.func f) = .fn f []:=rfl
def BP :IV (.int k n) = .int k n:=rfl
def yd :IV (.bool b) = .bool b:=rfl
def zr :(AV.int k n).cell=true:=rfl
def vE :(AV.bool b).cell=true:=rfl
def zp :(AV.str s).cell=true:=rfl
def Cc{b l:Nat}:(AV.sl b e o l z).cell=true:=rfl
def zt:AV.esl.cell=true:=rfl
def zo{r:List (List AV)}:(AV.tsl st z r).cell=true:=rfl
def zq{b s r:Nat}:(AV.ptr b e s r o).cell=true:=rfl
def vB{r:List AV}:(AV.tptr st r o).cell=true:=rfl
def Ce{c:List AV}:(AV.fn f c).cell=true:=rfl
def Cd{b:Nat}:(AV.mp b).cell=true:=rfl
def vC:(AV.flat (.slice none 0 0)).cell=true:=rfl
def vD:(AV.flat .nilFunc).cell=true:=rfl
def vy :(AV.int k n).cells = [.int k n]:=rfl
def rV :(AV.bool b).cells = [.bool b]:=rfl
def Iz :(AV.str s).cells = [.str s]:=rfl
def vA{l:List AV}:(AV.agg l).cells=l:=rfl
def zn{b l:Nat}:(AV.sl b e o l z).cells = [.sl b e o l z]:=rfl
def vx{r:List (List AV)}:(AV.tsl st z r).cells = [.tsl st z r]:=rfl
def aN{S:ab}{R:AV->ab->Prop}:qX (some v) S R=R v S:=rfl
def vh :FE (.bool b) want A B=if b=want then A else B:=rfl
def rE :FE (.flat undef) want A B=B:=rfl
def kG{nb:List dY}{dst:Option Tmp}{K:List AV->ab->Prop}{fr:List AV}{S:ab}:fb (some (v,nb)) dst K fr S=K (cj fr dst v) (S++nb):=rfl
def yi{b row:Nat}{dst:Option Tmp}{K:List AV->ab->Prop}{fr:List AV}{S:ab}:nilK (.ptr b e sz row off) dst K fr S=K (cj fr dst (.ptr b e sz row off)) S:=rfl
def uQ{row:List AV}{dst:Option Tmp}{K:List AV->ab->Prop}{fr:List AV}{S:ab}:nilK (.tptr st row off) dst K fr S=K (cj fr dst (.tptr st row off)) S:=rfl
def cH{S:ab}:iw R (.int k n) S=R (.int k n):=rfl
def cb{S:ab}:iw R (.bool b) S=R (.bool b):=rfl
def cG{b:ByteArray}{S:ab}:iw R (.str b) S=R (.str b):=rfl
def cI{S:ab}:iw R (.agg cs) S=match dq S cs with|some l=>R (.agg l)|none=>False:=by
 simp only[iw,da,dR,ce,if_true,bI];cases dq S cs<;>rfl
def fx{S:ab}:iw R (.tup cs) S=if dR cs=true then (match dm S cs with|some l=>R (.tup l)|none=>False) else False:=by
 simp only[iw,da];by_cases h:dR cs=true
 .simp only[if_pos h];cases dm S cs<;>rfl
 .simp only[if_neg h]
theorem cA{b n:Nat}{S:ab}:iw R (.sl b n 0 n sz) S=match S[b]? with
  | some (.arr rows Je wep pr)=>if Je=sz/\rows.length=n/\wep<=n/\(pr || rows.all cq)=true then R (.osl sz rows) else False
  | _=>False:=by
 have e0:dR [.sl b n 0 n sz]=true:=by simp[dR,ce,bT]
 simp only[iw,da,e0,if_true,bI,and_self];cases S[b]? with
 | none=>rfl
 | some bl=>
  cases bl with
  | dead _=>rfl
  | map es=>rfl
  | arr rows Je wep pr=>
   simp only;by_cases hc:Je=sz/\rows.length=n/\wep<=n/\(pr || rows.all cq)=true
   .rw[if_pos hc,if_pos hc]
   .rw[if_neg hc,if_neg hc]
def cE{S:ab}:iw R (.tsl true sz rows) S=R (.tsl true sz rows):=rfl
def nI{id:Nat}:i8 false id r=dJ id r:=rfl
def pj{id:Nat}:i8 true id r=(gQ r,[]):=rfl
def rL :gQ (.int k n) = .int k n:=rfl
def oT :gQ (.bool b) = .bool b:=rfl
def rJ{b:ByteArray}:gQ (.str b) = .str b:=rfl
def oS{v:Value}:gQ (.flat v) = .flat v:=rfl
def rM :gQ (.agg cs) = .agg cs:=rfl
def rK :gQ (.osl sz rows) = .tsl true sz rows:=rfl
def rI :gQ (.tsl st sz rows) = .tsl st sz rows:=rfl
def rH :gQ (.tup cs) = .tup (cs.map tz):=rfl
def vn :tz (.bool b) = .bool b:=rfl
def yU :tz (.int k n) = .int k n:=rfl
def yR{b:ByteArray}:tz (.str b) = .str b:=rfl
def yV :tz (.agg cs) = .agg cs:=rfl
def yT :tz (.osl sz rows) = .tsl true sz rows:=rfl
def yQ :tz (.tsl st sz rows) = .tsl st sz rows:=rfl
def vK{id:Nat}:dJ id (.int k n)=(.int k n,[]):=rfl
def sj{id:Nat}:dJ id (.bool b)=(.bool b,[]):=rfl
def vJ{id:Nat}{b:ByteArray}:dJ id (.str b)=(.str b,[]):=rfl
def vL{id:Nat}:dJ id (.agg cs)=(.agg cs,[]):=rfl
def p9{id:Nat}:dJ id (.osl sz rows)=(.sl id rows.length 0 rows.length sz,[.arr rows sz 0 true]):=rfl
def vI{id:Nat}:dJ id (.tsl st sz rows)=(.tsl st sz rows,[]):=rfl
def vH{id:Nat}:dJ id (.tup cs)=(.tup (bC id cs).1,(bC id cs).2):=rfl
def xK{S:ab}:snap S (.int k n)=some (.int k n):=by simp only[snap]
def ux{S:ab}:snap S (.bool b)=some (.bool b):=by simp only[snap]
def xI{S:ab}{b:ByteArray}:snap S (.str b)=some (.str b):=by simp only[snap]
def xH{S:ab}:snap S (.tsl st sz rows)=some (.tsl st sz rows):=by simp only[snap]
def uw{S:ab}{v:Value}:snap S (.flat v)=some (.flat v):=by simp only[snap]
def xL{S:ab}:snap S (.agg cs)=match dU S cs with|some l=>some (.agg l)|none=>none:=by rw[snap];cases dU S cs<;>rfl
def Bz{S:ab}:snap S (.fn f cs)=match dU S cs with|some l=>some (.fn f l)|none=>none:=by rw[snap];cases dU S cs<;>rfl
theorem jX{S:ab}{b:Nat}:snap S (.sl b e off len sz)=match rowsOf S sz (.sl b e off len sz) with
  | some (rows,pr)=>if (pr || rows.all cq)=true then some (.tsl false sz rows) else none
  | none=>none:=by rw[snap];cases rowsOf S sz (.sl b e off len sz)<;>rfl
def pD{S:ab}:dU S []=some []:=by rw[dU]
theorem qV{S:ab}{c:AV}:dU S (c::cs)=match snap S c with
  | some c'=>match dU S cs with
   | some cs'=>some (c'::cs')
   | none=>none
  | none=>none:=by rw[dU];cases snap S c<;>cases dU S cs<;>rfl
theorem zy{X:dV}{d z:Bool}{g:FuncId}{caps:List AV}{dst:Option Tmp}{K:List AV->ab->Prop}{fr:List AV}{S:ab} :
  wD X d st z (.fn g caps) args dst K fr S=if X.byRef g=true then (if (d && !st)=true then False else bS X g (args++caps) S fun v S'=>K (cj fr dst v) S')
  else match dU S (args++caps) with
   | some Jb=>if X.nest g=true then Ho X g Jb fun r=>K (cj fr dst (fD S.length r).1) (S++(fD S.length r).2) else aB X g Jb fun r=>K (cj fr dst (i8 z S.length r).1) (S++(i8 z S.length r).2)
   | none=>False:=rfl
def bZ{α:Type}{G l:List α}:(G++l)[G.length]? = l[0]? := by rw[Vd (UJ _),W7]
def cr{α:Type}{G l:List α}{k:Nat}:(G++l)[G.length+k]? = l[k]? := by rw[Vd (Nat.le_add_right _ _),VP]
def ly{α:Type}{G l:List α}{x:α}:(G++l).set G.length x=G++l.set 0 x:=by simp
def jf{α:Type}{G l:List α}{k:Nat}{x:α}:(G++l).set (G.length+k) x=G++l.set k x:=by simp[List.set_append]
def mz{α:Type}(J:α->List AV->ab->Prop)(μ:α->Nat)(a:α)(Q:Ex->List AV->ab->Prop):Ex->List AV->ab->Prop
 | .normal,fr,S=> ∃a',J a' fr S/\μ a'<μ a
 | e,fr,S=>Q e fr S
def uU{α:Type}{J:α->List AV->ab->Prop}{μ:α->Nat}{a:α}{Q:Ex->List AV->ab->Prop}{fr:List AV}{S:ab}(h:Q .ret fr S):mz J μ a Q .ret fr S:=h
def ra{α:Type}{J:α->List AV->ab->Prop}{μ:α->Nat}{a:α}{Q:Ex->List AV->ab->Prop}{id:Nat}{fr:List AV}{S:ab}(h:Q (.exit id) fr S):mz J μ a Q (.exit id) fr S:=h
def sZ{α:Type}{J:α->List AV->ab->Prop}{μ:α->Nat}{a:α}{Q:Ex->List AV->ab->Prop}{fr:List AV}{S:ab}(a':α)(h:J a' fr S)(hm:μ a'<μ a):mz J μ a Q .normal fr S:=⟨a',h,hm⟩
theorem Ah{X:dV}{α:Type}{Q:Ex->List AV->ab->Prop}{fr:List AV}{S:ab}(J:α->List AV->ab->Prop)(μ:α->Nat)(a0:α)(h0:J a0 fr S)
  (h:∀a fr S,J a fr S->bB X c (mz J μ a Q) fr S):bB X (.loop c) Q fr S:=by
 have go:∀(k:Nat) (a:α) (fr:List AV) (S:ab),J a fr S->μ a<k->dE (bB X c) Q k fr S:=by
  intro k
  induction k with
  | zero=>intro a fr S _ h;omega
  | succ k ih=>
   intro a fr S hj hm;refine fk (c:=c) (fun e Jy S' h'=>?_) (h a fr S hj);cases e with
   | normal=>obtain⟨a',h1,h2⟩:=h';exact ih a' Jy S' h1 (by omega)
   | exit id=>exact h'
   | ret=>exact h'
 exact⟨_,go (μ a0+1) a0 fr S h0 (UV _)⟩
attribute [irreducible] op1 em xN gJ tG qX qM fO FE nilK fb bi IF ur wD eF cM iw mz
end Go.Eng
