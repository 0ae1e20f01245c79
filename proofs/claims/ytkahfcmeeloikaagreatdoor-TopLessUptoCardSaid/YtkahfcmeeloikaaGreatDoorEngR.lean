/- What the arguments of a statement are, as trees. -/
import Derived.Test.YtkahfcmeeloikaaGreatDoorEngP
import Derived.Deep.Slices
import Derived.ChangeSame
import Derived.Carry
import Derived.OpenShut
set_option linter.all false
set_option maxHeartbeats 1000000
namespace Go.Eng
open Go.RowKit Go.ChangeShapes Go.WideShapes
variable {a:Addr}{base k n:Nat}{u:Value}
inductive vM where
 | int (k:IntKind)
 | bool
 | str
 | sl (e:List vM)
mutual
def hZ:vM->AV->Prop
 | .int k,v=> ∃n,v = .int k n/\(Lit.int k n).wf=true
 | .bool,v=> ∃b,v = .bool b
 | .str,v=> ∃s,v = .str s/\s.size<=maxLen
 | .sl e,v=> ∃rows,v = .tsl true e.length rows/\rows.length<=maxLen/\∀r∈rows,fJ e r
def fJ:List vM->List AV->Prop
 | [],r=>r = []
 | s::ss,r=> ∃v r',r=v::r'/\hZ s v/\fJ ss r'
end
mutual
def qQ:AV->Nat
 | .str s=>s.size+1
 | .tsl _ _ rows=>zG rows+1
 | .agg cs=>fy cs
 | _=>1
def fy:List AV->Nat
 | []=>0
 | c::cs=>qQ c+fy cs
def zG:List (List AV)->Nat
 | []=>0
 | r::rs=>fy r+zG rs
end
structure Ge {H:Type}(b:DataW H->Nat) (bA:List (DataW H)->Nat):Prop where
 nil:bA []=0
 cons:∀d r,bA (d::r)=b d+bA r
 one:∀d,1<=b d
 str:∀l,b (.lit (.string l))=l.length+1
 slice:∀e s,b (.slice e s)=bA e+bA s+1
 agg:∀p,b (.agg p)=bA p+1
theorem wF:∀(a b:List AV),fy (a++b)=fy a+fy b
 | [],b=>by simp[fy]
 | x::a,b=>by simp only[UF,fy,wF a b];omega
def CS(P:Program)(rec:TypeId->Option (List vM)):List Field->Nat->Option (List vM)
 | [],_=>some []
 | f::fs,off=>if f.offset=off then match rec f.type with
   | some l=>if P.cellsOf f.type=l.length then match CS P rec fs (off+l.length) with
    | some l'=>some (l++l')
    | none=>none
    else none
   | none=>none
  else none
def nN(P:Program):Nat->TypeId->Option (List vM)
 | 0,_=>none
 | n+1,t=>match P.underlying t with
  | some (.int k)=>some [.int k]
  | some .bool=>some [.bool]
  | some .string=>some [.str]
  | some (.slice e)=>match nN P n e with
   | some l=>if 0<l.length/\P.cellsOf e=l.length then some [.sl l] else none
   | none=>none
  | some (.struct fs)=>match CS P (nN P n) fs.toList 0 with
   | some l=>if l.length=P.cellsOf t then some l else none
   | none=>none
  | _=>none
theorem BL:∀{ss:List vM}{r:List AV},fJ ss r->r.length=ss.length
 | [],_,h=>by simp only[fJ]at h;subst h;rfl
 | s::ss,_,h=>by
  simp only[fJ]at h;obtain⟨v,r',rfl,_,h2⟩:=h;simp[BL h2]
theorem yc:∀{ss R9:List vM}{r r':List AV},fJ ss r->fJ R9 r'->fJ (ss++R9) (r++r')
 | [],_,_,_,h,h'=>by simp only[fJ]at h;subst h;exact h'
 | s::ss,R9,_,r',h,h'=>by
  simp only[fJ,UF]at h ⊢;obtain⟨v,r1,rfl,h1,h2⟩:=h;exact⟨v,r1++r',rfl,h1,yc h2 h'⟩
section
variable {H:Type}{enc:TypeId×Value->H}{P:Program}{W:World}{sp:Nat->Bool}{held:Bool}
abbrev sw(W:World):bV:=fun g=>g<W.heap.size
def cell?_lt(h:W.cell? a=some u):a.block<W.heap.size:=by
 unfold World.cell? at h;split at h
 .rename_i e;exact(UP.1 e).1
 .cases h
def FZ(h:W.cell? a=some u):a.spot=none:=by
 unfold World.cell? at h;split at h
 .split at h
  .cases h
  .rename_i hs;simpa using hs
 .cases h
def add_spot(a:Addr)(i:Nat)(h:a.spot=none):a.add i=⟨a.block,a.off+i,none⟩:=by
 unfold Addr.add;obtain⟨b,o,s⟩:=a;simp only at h;subst h;split
 .rename_i h0;simp at h0 ⊢;omega
 .rfl
def Row(W:World)(τ:List vM)(cs:List Value)(m:Nat):Prop := ∃row,fJ τ row/\ae W row (sw W) (sw W) aT cs/\(∀u∈cs,u.oneCell'=true)/\fy row<=m
variable {b:DataW H->Nat}{bA:List (DataW H)->Nat}(hB:Ge b bA)
include hB
theorem bA_range{D:Nat->DataW H}:∀{R:Nat->List AV} , (∀i,i<n->fy (R i)<=b (D i))->zG ((List.range n).map R)<=bA ((List.range n).map D):=by
 have go:∀(l:List Nat){R:Nat->List AV},(∀i∈l,fy (R i)<=b (D i))->zG (l.map R)<=bA (l.map D):=by
  intro l
  induction l with
  | nil=>intro R _;simp[zG]
  | cons x l ih=>
   intro R h;simp only[Vk,zG,hB.cons];have h1:=h x (by simp);have h2:=ih (R:=R) fun i hi=>h i (by simp[hi]);omega
 exact fun {R} h=>go _ fun i hi=>h i (Wz.1 hi)
theorem yZ{rec:TypeId->Option (List vM)}(ih:∀t τ,rec t=some τ->∀cs x,DataW.trod enc P W 0 sp held n t cs=some x->Row W τ cs (b x.1)) :
  ∀(fs:List Field) (off:Nat) (l:List vM),CS P rec fs off=some l->∀(cs:List Value) (xs:List (DataW H×List MemPlace)),xs.length=fs.length ->
   (∀(i:Nat) (f:Field),fs[i]? = some f->DataW.trod enc P W 0 sp held n f.type ((cs.drop f.offset).take (P.cellsOf f.type))=xs[i]?)->Row W l ((cs.drop off).take l.length) (bA (xs.map (·.1)))
 | [],off,l,h,cs,xs,_,_=>by
  simp only[CS,VK]at h;subst h;exact⟨[],rfl,by simp[ae],by simp,by simp[fy]⟩
 | f::fs,off,l,h,cs,xs,Lw,hx=>by
  simp only[CS]at h;split at h
  .rename_i Mm;split at h
   .rename_i l1 e1;split at h
    .rename_i hc;split at h
     .rename_i l2 e2;injection h with h;subst h
      match xs,Lw with
      | x::xs,Lw=>
       have h0:=hx 0 f rfl;rw[Mm,hc]at h0;obtain⟨r1,k1,k2,k3,k4⟩:=ih f.type l1 e1 _ x h0;obtain⟨r2,m1,m2,m3,m4⟩:=yZ ih fs (off+l1.length) l2 e2 cs xs (by simpa using Lw) (fun i f' hf=>by simpa using hx (i+1) f' (by simpa using hf))
       have e:(cs.drop off).take (l1++l2).length=(cs.drop off).take l1.length++(cs.drop (off+l1.length)).take l2.length:=by
        rw[UG,List.take_add,WZ]
       refine⟨r1++r2,yc k1 m1,?_,?_,?_⟩
       .rw[e];exact cw k2 m2
       .rw[e];intro u hu;rcases UU.1 hu with hu|hu
        .exact k3 u hu
        .exact m3 u hu
       .simp only[wF,Vk,hB.cons];omega
     .cases h
    .cases h
   .cases h
  .cases h
theorem sF:∀(k:Nat) (t:TypeId) (τ:List vM),nN P k t=some τ->∀(n:Nat) (cs:List Value) (x:DataW H×List MemPlace),DataW.trod enc P W 0 sp held n t cs=some x->Row W τ cs (b x.1)
 | 0,_,_,h,_,_,_,_=>by simp[nN]at h
 | k+1,t,τ,h,n,cs,x,hx=>by
  simp only[nN]at h;split at h
  .rename_i ki e;injection h with h;subst h;obtain⟨m,rfl,rfl,hw⟩:=DataW.trod_int e hx;exact⟨[.int ki m],by simp only[fJ,hZ];exact⟨_,[],rfl,⟨m,rfl,hw⟩,rfl⟩,by simp[ae,ap],by simp[Value.oneCell'],by simp only[fy,qQ];exact hB.one _⟩
  .rename_i e;injection h with h;subst h;obtain⟨bb,rfl,rfl⟩:=DataW.trod_bool e hx;exact⟨[.bool bb],by simp only[fJ,hZ];exact⟨_,[],rfl,⟨bb,rfl⟩,rfl⟩,by simp[ae,ap],by simp[Value.oneCell'],by simp only[fy,qQ];exact hB.one _⟩
  .rename_i e;injection h with h;subst h;obtain⟨s,rfl,rfl,hs⟩:=DataW.trod_string e hx;exact⟨[.str s],by simp only[fJ,hZ];exact⟨_,[],rfl,⟨s,rfl,hs⟩,rfl⟩,by simp[ae,ap],by simp[Value.oneCell'],by simp only[fy,qQ,hB.str,VV];show s.size+1+0<=s.size+1;omega⟩
  .rename_i el e;split at h
   .rename_i l e1;split at h
    .rename_i hl;injection h with h;subst h;rcases Deep.open_slice e hx with ⟨rfl,_⟩|⟨a,len,aK,m,n',D,Pl,rfl,_,QB,hcm,hm,rfl,Ty⟩
     .refine⟨[.tsl true l.length []],?_,?_,?_,by simp only[fy,qQ,zG];exact hB.one _⟩
      .simp only[fJ,hZ];exact⟨_,[],rfl,⟨[],rfl,by simp,by simp⟩,rfl⟩
      .simp only[ae];exact⟨_,[],rfl,by simp only[ap];exact⟨none,0,by simp,by simp,by simp,fun _=>rfl,fun h=>absurd rfl h⟩,rfl⟩
      .simp[Value.oneCell']
     .have Qw:len<=m:=by rw[hm];split<;>omega
      obtain⟨R,hR⟩:=Deep.choose_lt (α:=List AV) (n:=len) (p:=fun i r=>fJ l r/\fy r<=b (D i)/\∀(j:Nat) (c:AV),r[j]? = some c->∃u,W.cell? (a.add (i*l.length+j))=some u/\u.oneCell'=true/\ap W c (sw W) (sw W) aT u) (fun i hi=>by
       obtain⟨cs',h1,h2⟩:=Ty i (by omega);obtain⟨row,k1,k2,k3,k4⟩:=sF k el l e1 _ _ _ h2;obtain⟨_,IY,Jq⟩:=World.cells?_some h1;refine⟨row,k1,k4,fun j c hj=>?_⟩;obtain⟨u,hu,hv⟩:=fQ k2 j c hj;have Mb:j<cs'.length:=(UK.1 hu).1;refine⟨u,?_,k3 u (Vs hu),hv⟩;have:=Jq j (by rw[<-IY];exact Mb);rw[Deep.add_add,hl.2]at this;rw[this,hu])
      have Lz:0<len->a.spot=none/\a.block<W.heap.size:=fun h0=>by
       obtain⟨k1,_,k2⟩:=hR 0 h0;have S8:=BL k1;obtain⟨u,hu,_⟩:=k2 0 ((R 0)[0]'(by omega)) (UL (by omega));have h3:=cell?_lt hu;have h4:=FZ hu;unfold Addr.add at h3 h4;simp at h3 h4;exact⟨h4,h3⟩
      refine⟨[.tsl true l.length ((List.range len).map R)],?_,?_,?_,?_⟩
      .simp only[fJ,hZ];refine⟨_,[],rfl,⟨_,rfl,by simp;omega,?_⟩,rfl⟩;intro r hr;obtain⟨i,hi,rfl⟩:=UZ.1 hr;exact(hR i (Wz.1 hi)).1
      .simp only[ae];refine⟨_,[],rfl,?_,rfl⟩;simp only[ap];refine⟨some a,aK,by simp,by simpa using QB,hcm,fun h=>by simp at h,fun I8=>?_⟩
       have h0:0<len:=by
        cases len with
        | zero=>simp at I8
        | succ n=>omega
       obtain⟨hs,hb⟩:=Lz h0;refine⟨a.block,a.off,?_,?_,?_⟩
       .obtain⟨b,o,s⟩:=a;simp only at hs;subst hs;rfl
       .simp only[pick,if_true];exact hb
       .rw[df];intro i r hr;simp only[Vc]at hr;by_cases hi:i<len
        .rw[List.getElem?_range hi]at hr;simp only[Vf,VK]at hr;subst hr;obtain⟨k1,_,k2⟩:=hR i hi;refine⟨BL k1,?_⟩;rw[dG];intro j c hj;obtain⟨u,m1,m2,m3⟩:=k2 j c hj;rw[add_spot a _ hs,<-VY]at m1;exact⟨u,m1,m2,m3⟩
        .rw[VO (by simp;omega)]at hr;simp at hr
      .simp[Value.oneCell']
      .simp only[fy,qQ,hB.slice];have:=bA_range hB (n:=len) (D:=D) (R:=R) fun i hi=>(hR i hi).2.1;omega
    .cases h
   .cases h
  .rename_i fs e;split at h
   .rename_i l e1;split at h
    .rename_i hl;injection h with h;subst h;obtain⟨xs,n',rfl,rfl,IY,JQ,Lw⟩:=DataW.trod_struct e hx;have:=yZ hB (enc:=enc) (sp:=sp) (held:=held) (n:=n') (fun t τ h cs x hx=>sF k t τ h n' cs x hx) fs.toList 0 l e1 cs xs (by simpa using JQ) (fun i f hf=>Lw i f (by simpa using hf));rw[WN,Vm (by omega)]at this;obtain⟨row,k1,k2,k3,k4⟩:=this;exact⟨row,k1,k2,k3,by rw[hB.agg];omega⟩
    .cases h
   .cases h
  .cases h
def Ch(P:Program)(k:Nat)(t:TypeId):Option (Bool×List vM) :=
 match P.underlying t with
 | some (.struct _)=>(nN P k t).map fun l=>(true,l)
 | some _=>(nN P k t).map fun l=>(false,l)
 | none=>none
def Dg:Bool×List vM->AV->Prop
 |(true,τ),v=> ∃row,v = .agg row/\fJ τ row
 |(false,[s]),v=>hZ s v
 |(false,_),_=>False
omit hB in
theorem HW{l:List vM}{a:AV}(h:fJ l [a]):Dg (false,l) a:=by
 match l with
 | []=>simp[fJ]at h
 | [s]=>
  simp only[fJ,Wk]at h;obtain⟨_,_,⟨rfl,rfl⟩,h,_⟩:=h;exact h
 | s::s2::ss=>
  simp only[fJ,Wk]at h;obtain⟨_,_,⟨rfl,rfl⟩,_,_,_,h,_⟩:=h;cases h
def BM:List (Bool×List vM)->List AV->Prop
 | [],l=>l = []
 | s::ss,l=> ∃v l',l=v::l'/\Dg s v/\BM ss l'
theorem arg_open{t:TypeId}{τ:Bool×List vM}(ht:Ch P k t=some τ){v:Value}(hv:Value.okWide P W .any base t v){d:DataW H}{ps:List MemPlace}(h:DataW.Trod enc P W 0 sp held t v d ps) :
  ∃a,Dg τ a/\ap W a (sw W) (sw W) aT v/\qQ a<=b d:=by
 obtain⟨n,hn⟩:=h
 have one:∀{l:List vM},nN P k t=some l->v.cells.toList = [v]->τ=(false,l)->∃a,Dg τ a/\ap W a (sw W) (sw W) aT v/\qQ a<=b d:=by
  intro l hl hc hτ;obtain⟨row,k1,k2,k3,k4⟩:=sF hB k t l hl n _ _ hn;rw[hc]at k2;have IY:=dC k2
  match row,IY with
  | [a],_=>
   simp only[ae]at k2;obtain⟨u,us,e,k5,rfl⟩:=k2;simp only[Wk,and_true]at e;subst e;subst hτ;exact⟨a,HW k1,k5,by simpa[fy]using k4⟩
 unfold Ch at ht;split at ht
 .rename_i fs e;cases hl:nN P k t with
  | none=>rw[hl]at ht;cases ht
  | some l=>
   rw[hl]at ht;simp only[Vf,VK]at ht;subst ht;obtain⟨cs,rfl,_⟩:=okWide_struct e hv;obtain⟨row,k1,k2,k3,k4⟩:=sF hB k t l hl n _ _ hn;exact⟨.agg row,⟨row,rfl,k1⟩,by simp only[ap];exact⟨cs.toList,by simp,by simpa[Value.cells]using k2⟩,by simpa[qQ]using k4⟩
 .rename_i dd I8 e;cases hl:nN P k t with
  | none=>rw[hl]at ht;cases ht
  | some l=>
   rw[hl]at ht;simp only[Vf,VK]at ht;refine one hl ?_ ht.symm;cases dd with
   | int ki=>obtain⟨_,rfl⟩:=okWide_int e hv;rfl
   | bool=>obtain⟨_,rfl⟩:=okWide_bool e hv;rfl
   | string=>obtain⟨_,rfl⟩:=okWide_string e hv;rfl
   | slice el=>obtain⟨_,_,_,rfl⟩:=okWide_slice e hv;rfl
   | struct fs=>exact absurd rfl (I8 fs)
   | _=>
    cases k with
    | zero=>simp[nN]at hl
    | succ k=>simp[nN,e]at hl
 .cases ht
theorem Be :∀{ts:List TypeId}{τs:List (Bool×List vM)},ts.map (Ch P k)=τs.map some->∀{vs:List Value}{ds:List (DataW H)}{ps:List MemPlace},
  (∀(j:Nat) t v,ts[j]? = some t->vs[j]? = some v->Value.okWide P W .any base t v)->DataW.TrodAll enc P W 0 sp held ts vs ds ps ->
  ∃as,BM τs as/\ae W as (sw W) (sw W) aT vs/\fy as<=bA ds
 | [],τs,hτ,_,_,_,_,h=>by
  obtain⟨rfl,rfl,rfl⟩:=trodAll_nil h
  match τs,hτ with
  | [],_=>exact⟨[],rfl,by simp[ae],by simp[fy]⟩
 | t::ts,τs,hτ,_,_,_,hv,h=>by
  obtain⟨v,vs,d,ds,p,q,rfl,rfl,rfl,h1,h2⟩:=trodAll_cons h
  match τs,hτ with
  | τ::τs,hτ=>
   simp only[Vk,Wk]at hτ;obtain⟨a,k1,k2,k3⟩:=arg_open hB hτ.1 (hv 0 t v rfl rfl) h1;obtain⟨as,m1,m2,m3⟩:=Be hτ.2 (fun j t v h1 h2=>hv (j+1) t v (by simpa using h1) (by simpa using h2)) h2;exact⟨a::as,⟨a,as,rfl,k1,m1⟩,by simp only[ae];exact⟨v,vs,rfl,k2,m2⟩,by simp only[fy,hB.cons];omega⟩
end
end Go.Eng
