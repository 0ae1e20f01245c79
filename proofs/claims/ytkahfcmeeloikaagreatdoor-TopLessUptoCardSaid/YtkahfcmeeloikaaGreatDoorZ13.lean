/- Names and persons. -/
import Derived.Test.YtkahfcmeeloikaaGreatDoorZ12
set_option linter.all false
set_option maxHeartbeats 4000000
namespace Go.Eng
open Go.Proofs
section
variable {s:ByteArray}
attribute [local irreducible] bB cX cZ aB bS dE
theorem CG(s:ByteArray):∀(k i:Nat) (r:List UInt8),s.size<=i+k->ByteArray.toList.loop s i r=r.reverse++s.data.toList.drop i:=by
 intro k
 induction k with
 | zero=>
  intro i r h;unfold ByteArray.toList.loop;rw[if_neg (by omega),List.drop_eq_nil_of_le (by simpa using h),UM]
 | succ k ih=>
  intro i r h;unfold ByteArray.toList.loop;split
  .rename_i hi;rw[ih _ _ (by omega),List.reverse_cons,UX];have Jk:i<s.data.toList.length:=by simpa using hi
   rw[VT Jk];simp[ByteArray.get!,hi]
  .rw[List.drop_eq_nil_of_le (by simp;omega),UM]
def toList_data(s:ByteArray):s.toList=s.data.toList:=by
 unfold ByteArray.toList;rw[CG s s.size 0 [] (by omega)];simp
def wY{pre post:List UInt8}{c:UInt8}(h:s.data.toList=pre++c::post):s[pre.length]? = some c:=by
 have hl:pre.length<s.size:=by
  have:=congrArg List.length h;simp at this;omega
 rw[getElem?_pos s pre.length hl];have:s.data.toList[pre.length]? = some c:=by rw[h];simp
 have e:s[pre.length]=s.data[pre.length]'(by simpa using hl):=rfl;rw[e];simpa[hl]using this
def wX{l:List UInt8}(h:s.data.toList=l):s.size=l.length:=by rw[<-h];simp
def kv{X:dV}{t:TypeId}{a c:Nat}{b:Bool}{d:List AV}{n:Nat}{x:UInt8}{k:IntKind}(ht:X.ty t=some ⟨a,b,c,d,.str⟩)(h:s[n]? = some x):vg X t (.str s) (.int k n)=some (.int .u8 (x.toNat:Int)):=by
 simp[vg,ht,h]
def BU(c:UInt8):Bool:=decide (97<=(c.toNat:Int)) && decide ((c.toNat:Int)<=122)
def AO(c:UInt8):Bool:=BU c || (decide (48<=(c.toNat:Int)) && decide ((c.toNat:Int)<=57)) || decide ((c.toNat:Int)=45) || decide ((c.toNat:Int)=95)
def sT:List UInt8->Bool
 | []=>false
 | c::l=>decide (l.length+1<=32) && BU c && l.all AO
def HX:List UInt8->Bool
 | []=>true
 | c::l=>BU c && l.all AO
theorem Dj(l:List UInt8)(x:UInt8):HX (l++[x])=(HX l && if l = [] then BU x else AO x):=by
 cases l with
 | nil=>simp[HX]
 | cons c l=>simp[HX,Bool.and_assoc]
theorem nmC_app(l m:List UInt8)(h:HX l=false):HX (l++m)=false:=by
 cases l with
 | nil=>simp[HX]at h
 | cons c l=>
  simp only[HX,UF,List.all_append]at h ⊢;rw[<-Bool.and_assoc,h,VM]
theorem Dk(l:List UInt8):sT l=(HX l && (decide (1<=l.length) && decide (l.length<=32))):=by
 cases l with
 | nil=>rfl
 | cons c l=>simp only[sT,HX,UB];cases BU c<;>cases l.all AO<;>simp
theorem GM(s:ByteArray)(hs:s.size<=9223372036854775807):aB CX 85 [.str s] (· = .bool (sT s.data.toList)):=by
 obtain⟨l,hl⟩:∃l,s.data.toList=l:=⟨_,rfl⟩;have IY:=wX hl;rw[hl];have Jl:(s.size:Int)=(l.length:Int):=by rw[IY]
 refine aL fx85 ?_;refine wk ?_;refine aF [2,4,5,6,7,8,9,10,11,12,13,14,15,16,17,18,19,20,21,22,23,24,25,26,27,28,29,30,31,32,33,34,35,36,37,38,39,40,41,42,43,44,45,46,47,48,49,50] 3 l (fun pre _=>HX pre=true) ?_ ?_ ?_ ?_
 .rfl
 .rfl
 .intro g G h2;simp only[aj,aq,ah,an,UC,UD];rw[Dk,h2,VB];repeat' (first|refine dn ?_|refine ad rfl ?_|(refine dI fun A B a b=>?_;simp only[go_sem, *,aC,UI,Int.lt_irrefl,UH,kK];(repeat' first|apply a.1|apply b.1|refine aV (fun h=>?_) fun h=>?_)<;>clear a b A B))
  .simp only[aO,aP,bg,cH,cb,cG,cI,cA,cE,aN,go_sem,and_self];have:1<=l.length:=by omega
   simp[this];omega
  .simp only[aO,aP,bg,cH,cb,cG,cI,cA,cE,aN,go_sem,and_self];have:¬1<=l.length:=by omega
   simp[this]
 .intro g G pre x post h1 h2;simp only[aj,aq,ah,an,UC,UD];have i0:=kv (X:=CX) (k := .i64) ty9 (wY (hl.trans h1));have lt1:(pre.length:Int)<(l.length:Int):=by rw[h1];simp;omega
  have w1:=am (n:=pre.length) (by omega);have hh:ac (s.data.toList=l):=⟨hl⟩;have IW:ac (l=pre++x::post):=⟨h1⟩;have I7:ac (HX pre=true):=⟨h2⟩;clear hl h1 h2;repeat' (first|refine dn ?_|refine ad rfl ?_|(refine dI fun A B a b=>?_;simp only[go_sem, *,mo,kK];(repeat' first|apply a.1|apply b.1|refine aV (fun h=>?_) fun h=>?_)<;>clear a b A B))
  all_goals first
   |(refine aA IW.out ?_ ?_ ?_
     .rw[Dj,I7.out,VB];by_cases hp:pre = []
      .have:pre.length=0:=by rw[hp];rfl
       rw[if_pos hp];simp[BU];omega
      .have:pre.length≠0:=fun e=>hp (UO e);rw[if_neg hp];simp[AO,BU];omega
     .exact aQ
     .first|exact⟨[],(UM _).symm⟩|exact⟨_,rfl⟩|(simp only[UX,UF,UH];exact⟨_,rfl⟩))
   |(simp only[aO,aP,bg,cH,cb,cG,cI,cA,cE,aN,go_sem,and_self]
     have e:HX (pre++[x])=false:=by
      rw[Dj,I7.out,VB];by_cases hp:pre = []
      .have:pre.length=0:=by rw[hp];rfl
       rw[if_pos hp];simp[BU];omega
      .have:pre.length≠0:=fun e=>hp (UO e);rw[if_neg hp];simp[AO,BU];omega
     have e2:=nmC_app _ post e;rw[Dk,IW.out,show pre++x::post=(pre++[x])++post by simp,e2,VM])
end
end Go.Eng
namespace Go.Eng
structure Nt where
 id:Int
 ti:Int
 pa:Int
 fr:Int
 en:Int
 rk:Int
 tx:ByteArray
structure Ti where
 nm:ByteArray
 kd:Int
 ro:Int
 pa:Int
def tZ(k:Int):Bool:=k == 0 || k == 1 || k == 2
def noT:Ti:=⟨.empty,0,0,0⟩
def ch(ts:List Ti)(i:Int):Ti:=ts.getD i.toNat noT
def cO(ns:List Nt)(id:Int):Option Nt:=ns.find? fun n=>n.id == id
def lr(ns:List Nt)(ti pa:Int):List Nt:=ns.filter fun n=>n.ti == ti && n.pa == pa
def jH(a b:Nt):Prop := ¬(a.fr<b.en/\b.fr<a.en)
def jH.symm{a b:Nt}(h:jH a b):jH b a:=fun k=>h ⟨k.2,k.1⟩
structure lp (TX:ByteArray->Prop) (len:Int) (ts:List Ti) (ns:List Nt) (n:Nt):Prop where
 id1:1<=n.id
 ti0:0<=n.ti
 tiL:n.ti<ts.length
 tx:TX n.tx
 par0:(ch ts n.ti).kd=0->n.pa=0
 par:(ch ts n.ti).kd≠0->∃p,cO ns n.pa=some p/\p.ti=(ch ts n.ti).pa/\(tZ (ch ts n.ti).kd=true->p.fr<=n.fr/\n.en<=p.en)
 sp:tZ (ch ts n.ti).kd=true->0<=n.fr/\n.fr<n.en/\n.en<=86400000
 sp0:tZ (ch ts n.ti).kd=false->n.fr=0/\n.en=0
 len:(ch ts n.ti).kd=0->n.en<=len
 rk0:0<=n.rk
 rk1:(ch ts n.ti).kd≠3->n.rk=0
structure lj (TX:ByteArray->Prop) (len:Int) (ts:List Ti) (ns:List Nt):Prop where
 few:ns.length<=300
 fewT:ts.length<=12
 tier:∀(i:Nat) t,ts[i]? = some t->t.kd≠0->0<=t.pa/\t.pa<i
 ids:ns.Pairwise fun a b=>a.id<b.id
 note:∀n∈ns,lp TX len ts ns n
 over:∀n∈ns,tZ (ch ts n.ti).kd=true->(lr ns n.ti n.pa).Pairwise jH
 rank:∀n∈ns,(ch ts n.ti).kd=3->∀k:Nat,k<(lr ns n.ti n.pa).length->∃x∈lr ns n.ti n.pa,x.rk=k
 lab:∀n∈ns,(ch ts n.ti).kd=4->(lr ns n.ti n.pa).length<=1
def okB(b:UInt8):Prop:=32<=b.toNat/\b.toNat≠127
def okP(p:Nat):Prop:=32<=p/\p≠127
def TX(s:ByteArray):Prop:=s.size<=200/\(qq s.data.toList).isSome=true/\∀b∈s.data.toList,okB b
def encU_ok{p:Nat}(hs:lu p=true)(h:okP p):∀b∈kX p,okB b:=by
 have hp:p<=1114111:=by
  simp only[lu,UT,decide_eq_true_eq]at hs;exact hs.1
 unfold okP at h;unfold kX okB;by_cases h1:p<128
 .rw[if_pos h1];intro b hb;simp only[VI]at hb;subst hb;simp;omega
 .rw[if_neg h1];by_cases h2:p<2048
  .rw[if_pos h2];intro b hb;simp only[U2,VA,or_false]at hb;rcases hb with rfl|rfl<;>simp<;>omega
  .rw[if_neg h2];by_cases h3:p<65536
   .rw[if_pos h3];intro b hb;simp only[U2,VA,or_false]at hb;rcases hb with rfl|rfl|rfl<;>simp<;>omega
   .rw[if_neg h3];intro b hb;simp only[U2,VA,or_false]at hb;rcases hb with rfl|rfl|rfl|rfl<;>simp<;>omega
def fstU_ok{c:UInt8}{l:List UInt8}{p n:Nat}(h:jm (c::l)=some (p,n))(hp:okP p):∀b∈(c::l).take n,okB b:=by
 rw[jm]at h;split at h
 .cases h
 .split at h
  .rename_i hc;injection h with h;injection h with e1 e2;rw[e1,e2]at hc;rw[<-hc.2];exact encU_ok hc.1 hp
  .cases h
theorem ptsU_ok:∀(k:Nat) (l:List UInt8) (ps:List Nat),l.length<=k->qq l=some ps->(∀p∈ps,okP p)->∀b∈l,okB b:=by
 intro k
 induction k with
 | zero=>
  intro l ps hl _ _ b hb;rw[UO (l:=l) (by omega)]at hb;cases hb
 | succ k ih=>
  intro l ps hl h hp b hb;cases l with
  | nil=>cases hb
  | cons c l=>
   cases hf:jm (c::l) with
   | none=>rw[oE hf]at h;cases h
   | some pn=>
    obtain⟨p,n⟩:=pn;have hn:=vl hf;rw[oD hf]at h;cases hr:qq ((c::l).drop n) with
    | none=>rw[hr]at h;cases h
    | some qs=>
     rw[hr]at h;injection h with h;subst h;rw[<-VW n (c::l)]at hb;rcases UU.1 hb with hb|hb
     .exact fstU_ok hf (hp p (by simp)) b hb
     .refine ih _ qs ?_ hr (fun q hq=>hp q (by simp[hq])) b hb;rw[VU];omega
theorem ptsU_len:∀(k:Nat) (l:List UInt8) (ps:List Nat),l.length<=k->qq l=some ps->ps.length<=l.length:=by
 intro k
 induction k with
 | zero=>
  intro l ps hl h;rw[UO (l:=l) (by omega)]at h ⊢;rw[sP]at h;injection h with h;subst h;simp
 | succ k ih=>
  intro l ps hl h;cases l with
  | nil=>rw[sP]at h;injection h with h;subst h;simp
  | cons c l=>
   cases hf:jm (c::l) with
   | none=>rw[oE hf]at h;cases h
   | some pn=>
    obtain⟨p,n⟩:=pn;have hn:=vl hf;rw[oD hf]at h;cases hr:qq ((c::l).drop n) with
    | none=>rw[hr]at h;cases h
    | some qs=>
     rw[hr]at h;injection h with h;subst h;have:=ih _ qs (by rw[VU];omega) hr;rw[VU]at this;simp only[UB]at this hn ⊢;omega
end Go.Eng
namespace Go.Eng
open Go.Proofs
section
theorem aB.ex{X:dV}{f:FuncId}{args:List AV}{R:AV->Prop}(h:aB X f args R):∃r,R r/\aB X f args (· = r):=by
 obtain⟨n,r,h1,h2⟩:=h;exact⟨r,h2,n,r,h1,rfl⟩
attribute [local irreducible] bB cX cZ aB bS dE
attribute [local go_sem] bi and_self
def fp{β:Type}(f:β->List AV)(pre:List β)(x:β)(post:List β):((pre++x::post).map f)[pre.length]? = some (f x):=by simp
def eW(t:Ti):List AV:=[.str t.nm,.int .i64 t.kd,.int .i64 t.ro,.int .i64 t.pa]
attribute [local go_sem] eW
def aZ(n:Nt):List AV:=[.int .i64 n.id,.int .i64 n.ti,.int .i64 n.pa,.int .i64 n.fr,.int .i64 n.en,.int .i64 n.rk,.str n.tx]
def ED(k:Int):aB CX 158 [.int .i64 k] (· = .bool (tZ k)):=by
 refine aL fx158 ?_;simp only[UB,UE,UF,UH,Nat.reduceAdd,Nat.reduceSub,List.replicate];repeat' (first|refine dn ?_|refine ad rfl ?_|(refine dI fun A B a b=>?_;simp only[go_sem, *];(repeat' first|apply a.1|apply b.1|refine aV (fun h=>?_) fun h=>?_)<;>clear a b A B))
 all_goals simp only[go_sem]
 all_goals simp[tZ, *]
def Ep(k:Int):aB CX 104 [.int .i64 k] (· = .bool (tZ k)):=by
 refine aL fx104 ?_;simp only[UB,UE,UF,UH,Nat.reduceAdd,Nat.reduceSub,List.replicate];repeat' (first|refine dn ?_|refine ad rfl ?_|(refine dI fun A B a b=>?_;simp only[go_sem, *];(repeat' first|apply a.1|apply b.1|refine aV (fun h=>?_) fun h=>?_)<;>clear a b A B))
 all_goals simp only[go_sem]
 all_goals simp[tZ, *]
def kindE(k:Int):∃r,aB CX 159 [.int .i64 k] (· = .int .i64 r):=by
 suffices h:aB CX 159 [.int .i64 k] (fun v=> ∃r,v = .int .i64 r) by
  obtain⟨r,⟨b,rfl⟩,h⟩:=h.ex;exact⟨b,h⟩
 refine aL fx159 ?_;simp only[UB,UE,UF,UH,Nat.reduceAdd,Nat.reduceSub,List.replicate];repeat' (first|refine dn ?_|refine ad rfl ?_|(refine dI fun A B a b=>?_;simp only[go_sem, *];(repeat' first|apply a.1|apply b.1|refine aV (fun h=>?_) fun h=>?_)<;>clear a b A B))
 all_goals simp only[go_sem]
 all_goals exact⟨_,rfl⟩
def overE(k:Int):∃r,aB CX 160 [.int .i64 k] (· = .int .i64 r):=by
 suffices h:aB CX 160 [.int .i64 k] (fun v=> ∃r,v = .int .i64 r) by
  obtain⟨r,⟨b,rfl⟩,h⟩:=h.ex;exact⟨b,h⟩
 refine aL fx160 ?_;simp only[UB,UE,UF,UH,Nat.reduceAdd,Nat.reduceSub,List.replicate];repeat' (first|refine dn ?_|refine ad rfl ?_|(refine dI fun A B a b=>?_;simp only[go_sem, *];(repeat' first|apply a.1|apply b.1|refine aV (fun h=>?_) fun h=>?_)<;>clear a b A B))
 all_goals simp only[go_sem]
 all_goals exact⟨_,rfl⟩
def ow(i:Nat)(t:Ti):Prop:=t.kd≠0->0<=t.pa/\t.pa<i
theorem tierE{v:AV}{l pre post:List Ti}{t:Ti}(hv:bq 4 (l.map eW) v)(hl:l=pre++t::post)(IY:l.length<=12)(hn:∀x∈l,x.nm.size<=9223372036854775807) :
  ∃e,(e=0->ow pre.length t)/\aB CX 100 [v,.int .i64 pre.length] (· = .int .i64 e):=by
 suffices h:aB CX 100 [v,.int .i64 pre.length] (fun r=> ∃e,r = .int .i64 e/\(e=0->ow pre.length t)) by
  obtain⟨r,⟨b,rfl,hb⟩,h⟩:=h.ex;exact⟨b,hb,h⟩
 have c1:=hv.cell;have i0:=ay hv (X:=CX) ty71 ty180 rfl (n:=pre.length) (row:=eW t) (k := .i64) (by rw[hl];exact fp eW pre t post);have qn:=(GM t.nm (hn t (by rw[hl];simp))).rw;obtain⟨rk,qk⟩:=kindE t.ro;obtain⟨ro,qo⟩:=overE t.ro;have qk:=qk.rw;have qo:=qo.rw;have qt:=(ED t.kd).rw;have IZ:pre.length<12:=by rw[hl]at IY;simp at IY;omega
 have ahead:∀k:Nat,k<pre.length->∃y:Ti,aD CX 71 v (.int .i64 k)=some (.tptr (jW v) (eW y) 0):=fun k hk=>by
  have h2:(l.map eW)[k]? = some (eW (pre[k])):=by
   rw[hl,Vc,UN hk,UL hk];rfl
  exact⟨_,ay hv (X:=CX) ty71 ty180 rfl h2⟩
 have RY:ac (∀k:Nat,k<pre.length->∃y:Ti,aD CX 71 v (.int .i64 k)=some (.tptr (jW v) (eW y) 0)):=⟨ahead⟩;have Ll:ac (pre.length<12):=⟨IZ⟩;clear hl IY hn ahead IZ;obtain⟨P,hP⟩:∃P,pre.length=P:=⟨_,rfl⟩;rw[hP]at i0 RY Ll ⊢;clear hP;refine aL fx100 ?_;simp only[UB,UE,UF,UH,Nat.reduceAdd,Nat.reduceSub,List.replicate];repeat' (first|refine dn ?_|refine ad rfl ?_|(refine dI fun A B a b=>?_;simp only[go_sem, *,eW];(repeat' first|apply a.1|apply b.1|refine aV (fun h=>?_) fun h=>?_)<;>clear a b A B))
 .simp only[go_sem];exact⟨_,rfl,fun h=>by cases h⟩
 refine aJ [4,17,18,19,20,21,22,23,24,25,26,27,28,29] (fun a:Nat=>[(6,.int .i64 (a:Int))]) (fun _ G=> .arr [eW t] 4 1 true::G) (fun a=>a<=P) (fun a=>P-a) 0 (U9 _) ?_ ⟨[],rfl⟩ ?_
 .exact aQ
 intro a g G ha;have ha:a<=P:=ha;by_cases Ja:a<P
 .have lt1:(a:Int)<(P:Int):=by omega
  have w1:=am (n:=a) (by have:=Ll.out;omega);obtain⟨y,iy⟩:=RY.out a Ja;have hm:ac (P-(a+1)<P-a/\a+1<=P):=⟨by omega⟩;clear ha Ja;simp only[aj,aq,ah,an,UC,UD];repeat' (first|refine dn ?_|refine ad rfl ?_|(refine dI fun A B a b=>?_;simp only[go_sem, *,eW,ik];(repeat' first|apply a.1|apply b.1|refine aV (fun h=>?_) fun h=>?_)<;>clear a b A B))
  .simp only[go_sem];exact⟨_,rfl,fun h=>by cases h⟩
  .refine ax (a+1) hm.out.1 hm.out.2 ?_ ?_
   .exact aQ
   .exact⟨_,rfl⟩
 have hPa:a=P:=by omega
 subst hPa;clear ha Ja;simp only[aj,aq,ah,an,UC,UD];repeat' (first|refine dn ?_|refine ad rfl ?_|(refine dI fun A B a b=>?_;simp only[go_sem, *,eW];(repeat' first|apply a.1|apply b.1|refine aV (fun h=>?_) fun h=>?_)<;>clear a b A B))
 .simp only[go_sem];exact⟨_,rfl,fun h=>by cases h⟩
 .simp only[go_sem];exact⟨_,rfl,fun h=>by cases h⟩
 .simp only[go_sem];exact⟨_,rfl,fun h=>by cases h⟩
 .simp only[go_sem];exact⟨_,rfl,fun h=>by cases h⟩
 refine aJ [4,46,47,48,49,50,51,52,53,54,55,56,57,58,59,60,61,62,63] (fun b:Nat=>[(7,.int .i64 (b:Int))]) (fun _ G=> .arr [eW t] 4 1 true::G) (fun b=>b<=a) (fun b=>a-b) 0 (U9 _) ?_ ⟨_,rfl⟩ ?_
 .exact aQ
 intro b g1 G1 hb;have hb:b<=a:=hb;by_cases Ja:b<a
 .have lt1:(b:Int)<(a:Int):=by omega
  have w1:=am (n:=b) (by have:=Ll.out;omega);obtain⟨y,iy⟩:=RY.out b Ja;have hm:ac (a-(b+1)<a-b/\b+1<=a):=⟨by omega⟩;clear hb Ja;cases k0:(t.ro == 0) with
  | true=>
   refine wk ?_;refine ax (b+1) hm.out.1 hm.out.2 ?_ ?_
   .exact aQ
   .exact⟨_,rfl⟩
  | false=>
   cases k1:(y.ro == t.ro) with
   | true=>
    exact wf
   | false=>
    refine wk ?_;refine ax (b+1) hm.out.1 hm.out.2 ?_ ?_
    .exact aQ
    .exact⟨_,rfl⟩
 have Nl:b=a:=by omega
 subst Nl;clear hb Ja;by_cases kk:t.kd=0
 .have hT:ac (ow b t):=⟨fun h=>absurd kk h⟩;simp only[aj,aq,ah,an,UC,UD];repeat' (first|refine dn ?_|refine ad rfl ?_|(refine dI fun A B a b=>?_;simp only[go_sem, *,eW];(repeat' first|apply a.1|apply b.1|refine aV (fun h=>?_) fun h=>?_)<;>clear a b A B))
  all_goals
   simp only[go_sem];exact⟨_,rfl,fun _=>hT.out⟩
 .by_cases k0:t.pa<0
  .exact wf
  .by_cases k1:(b:Int)<=t.pa
   .exact wf
   .have hT:ac (ow b t):=⟨fun _=>by omega⟩;obtain⟨y,iy⟩:=RY.out t.pa.toNat (by omega);rw[show ((t.pa.toNat:Nat):Int)=t.pa by omega]at iy;have qy:=(ED y.kd).rw;simp only[aj,aq,ah,an,UC,UD];repeat' (first|refine dn ?_|refine ad rfl ?_|(refine dI fun A B a b=>?_;simp only[go_sem, *,eW,k1];(repeat' first|apply a.1|apply b.1|refine aV (fun h=>?_) fun h=>?_)<;>clear a b A B))
    all_goals
     simp only[go_sem];exact⟨_,rfl,fun _=>hT.out⟩
theorem checkE{v:AV}{l:List Ti}(hv:bq 4 (l.map eW) v)(IY:l.length<=9223372036854775807)(hn:∀x∈l,x.nm.size<=9223372036854775807) :
  ∃e,(e=0->∀(i:Nat) t,l[i]? = some t->ow i t)/\aB CX 50 [v] (· = .int .i64 e):=by
 suffices h:aB CX 50 [v] (fun r=> ∃e,r = .int .i64 e/\(e=0->∀(i:Nat) t,l[i]? = some t->ow i t)) by
  obtain⟨r,⟨b,rfl,hb⟩,h⟩:=h.ex;exact⟨b,hb,h⟩
 have n1:=hv.snap;by_cases k12:(12:Int)<(l.length:Int)
 .refine aL fx50 ?_;exact fm (lk hv)
 have Mt:ac (l.length<=12):=⟨by omega⟩;refine aL fx50 ?_;refine b8 (lk hv) ?_;refine aF [2,4,8,9,10,11,12,13,14,15,16,17,18,19] 3 l (fun pre _=> ∀(i:Nat) t,pre[i]? = some t->ow i t) ?_ ?_ ?_ ?_
 .intro i t h;simp at h
 .exact aQ
 .intro g G hP;have Jz:ac (∀(i:Nat) t,l[i]? = some t->ow i t):=⟨hP⟩;clear hP;exact fm (lk hv)
 .intro g G pre x post h1 hP;have Jz:ac (∀(i:Nat) t,pre[i]? = some t->ow i t):=⟨hP⟩;have IZ:pre.length<l.length:=by rw[h1];simp
  have lt1:(pre.length:Int)<(l.length:Int):=by omega
  have w1:=am (n:=pre.length) (by omega);obtain⟨e,he,q⟩:=tierE hv h1 Mt.out hn;have q:=q.rw;have IW:ac (l=pre++x::post):=⟨h1⟩;clear h1 hP IZ;by_cases k0:e=0
  .have hx:ac (ow pre.length x):=⟨he k0⟩;clear he;refine b8 (lk hv) ?_;refine aA IW.out ?_ ?_ ?_
   .intro i t hi;by_cases hip:i<pre.length
    .rw[UN hip]at hi;exact Jz.out i t hi
    .rw[Vd (by omega)]at hi
     have h0:i-pre.length=0:=by
      cases hk:i-pre.length with
      | zero=>rfl
      | succ k=>rw[hk]at hi;simp at hi
     rw[h0]at hi;simp at hi;subst hi;have:i=pre.length:=by omega
     rw[this];exact hx.out
   .exact aQ
   .exact dk
  .clear he;refine b8 (lk hv) ?_;simp only[go_sem];exact⟨_,rfl,fun h=>absurd h k0⟩
end
section
attribute [local irreducible] bB cX cZ aB bS dE
attribute [local go_sem] U1 Vj List.replicate UC Vp Nat.reduceMul Vg d9 zf ba and_self
def scalE(p:Nat):aB CX 236 [.int .i64 p] (· = .bool (lu p)):=by
 have h0:(0:Int)<=(p:Int):=by omega
 have e1:((p:Int)<=1114111)↔(p<=1114111):=by omega
 have e2:((p:Int)<55296)↔(p<55296):=by omega
 have e3:((57343:Int)<(p:Int))↔(57343<p):=by omega
 by_cases h1:p<=1114111<;>by_cases h2:p<55296<;>by_cases h3:57343<p
 all_goals
  refine aL fx236 ?_;refine wk ?_;simp only[go_sem];simp[lu,h1,h2,h3]
def encUE(p:Nat)(hp:p<=1114111):aB CX 237 [.int .i64 p] (· = .str ⟨(kX p).toArray⟩):=by
 have z1:¬(64:Int)=0:=by omega
 have z2:¬(4096:Int)=0:=by omega
 have z3:¬(262144:Int)=0:=by omega
 have d1:Int.tdiv (p:Int) 64=((p / 64:Nat):Int):=rfl;have d2:Int.tdiv (p:Int) 4096=((p / 4096:Nat):Int):=rfl;have d3:Int.tdiv (p:Int) 262144=((p / 262144:Nat):Int):=rfl;have m1:Int.tmod (p:Int) 64=((p % 64:Nat):Int):=rfl;have m2:Int.tmod ((p / 64:Nat):Int) 64=((p / 64 % 64:Nat):Int):=rfl;have m3:Int.tmod ((p / 4096:Nat):Int) 64=((p / 4096 % 64:Nat):Int):=rfl;have w1:IntKind.wrap .i64 ((p / 64:Nat):Int)=((p / 64:Nat):Int):=wI (by omega);have w2:IntKind.wrap .i64 ((p / 4096:Nat):Int)=((p / 4096:Nat):Int):=wI (by omega);have w3:IntKind.wrap .i64 ((p / 262144:Nat):Int)=((p / 262144:Nat):Int):=wI (by omega);have a1:IntKind.wrap .i64 ((128:Int)+((p % 64:Nat):Int))=((128+p % 64:Nat):Int):=wI (n:=128+p % 64) (by omega);have a2:IntKind.wrap .i64 ((128:Int)+((p / 64 % 64:Nat):Int))=((128+p / 64 % 64:Nat):Int):=wI (n:=128+p / 64 % 64) (by omega);have a3:IntKind.wrap .i64 ((128:Int)+((p / 4096 % 64:Nat):Int))=((128+p / 4096 % 64:Nat):Int):=wI (n:=128+p / 4096 % 64) (by omega);have b1:IntKind.wrap .u8 ((128+p % 64:Nat):Int)=((128+p % 64:Nat):Int):=wB (by omega);have b2:IntKind.wrap .u8 ((128+p / 64 % 64:Nat):Int)=((128+p / 64 % 64:Nat):Int):=wB (by omega);have b3:IntKind.wrap .u8 ((128+p / 4096 % 64:Nat):Int)=((128+p / 4096 % 64:Nat):Int):=wB (by omega);by_cases h1:(p:Int)<128
 .have b0:IntKind.wrap .u8 (p:Int)=(p:Int):=wB (by omega);refine aL fx237 ?_;simp only[UB,UE,UF,UH,Nat.reduceAdd,Nat.reduceSub,List.replicate];repeat' (first|refine dn ?_|refine ad rfl ?_|(refine dI fun A B a b=>?_;simp only[go_sem, *,xp ty191 ty9 ty5 rfl rfl rfl,zB,km,lM,VS];(repeat' first|apply a.1|apply b.1|refine aV (fun h=>?_) fun h=>?_)<;>clear a b A B))
  simp only[go_sem];rw[kX,if_pos (by omega)]
 by_cases h2:(p:Int)<2048
 .have a0:IntKind.wrap .i64 ((192:Int)+((p / 64:Nat):Int))=((192+p / 64:Nat):Int):=wI (n:=192+p / 64) (by omega);have b0:IntKind.wrap .u8 ((192+p / 64:Nat):Int)=((192+p / 64:Nat):Int):=wB (by omega);refine aL fx237 ?_;simp only[UB,UE,UF,UH,Nat.reduceAdd,Nat.reduceSub,List.replicate];repeat' (first|refine dn ?_|refine ad rfl ?_|(refine dI fun A B a b=>?_;simp only[go_sem, *,xp ty191 ty9 ty5 rfl rfl rfl,zB,km,lM,VS];(repeat' first|apply a.1|apply b.1|refine aV (fun h=>?_) fun h=>?_)<;>clear a b A B))
  simp only[go_sem];rw[kX,if_neg (by omega),if_pos (by omega)]
 by_cases h3:(p:Int)<65536
 .have a0:IntKind.wrap .i64 ((224:Int)+((p / 4096:Nat):Int))=((224+p / 4096:Nat):Int):=wI (n:=224+p / 4096) (by omega);have b0:IntKind.wrap .u8 ((224+p / 4096:Nat):Int)=((224+p / 4096:Nat):Int):=wB (by omega);refine aL fx237 ?_;simp only[UB,UE,UF,UH,Nat.reduceAdd,Nat.reduceSub,List.replicate];repeat' (first|refine dn ?_|refine ad rfl ?_|(refine dI fun A B a b=>?_;simp only[go_sem, *,xp ty191 ty9 ty5 rfl rfl rfl,zB,km,lM,VS];(repeat' first|apply a.1|apply b.1|refine aV (fun h=>?_) fun h=>?_)<;>clear a b A B))
  simp only[go_sem];rw[kX,if_neg (by omega),if_neg (by omega),if_pos (by omega)]
 .have a0:IntKind.wrap .i64 ((240:Int)+((p / 262144:Nat):Int))=((240+p / 262144:Nat):Int):=wI (n:=240+p / 262144) (by omega);have b0:IntKind.wrap .u8 ((240+p / 262144:Nat):Int)=((240+p / 262144:Nat):Int):=wB (by omega);refine aL fx237 ?_;simp only[UB,UE,UF,UH,Nat.reduceAdd,Nat.reduceSub,List.replicate];repeat' (first|refine dn ?_|refine ad rfl ?_|(refine dI fun A B a b=>?_;simp only[go_sem, *,xp ty191 ty9 ty5 rfl rfl rfl,zB,km,lM,VS];(repeat' first|apply a.1|apply b.1|refine aV (fun h=>?_) fun h=>?_)<;>clear a b A B))
  simp only[go_sem];rw[kX,if_neg (by omega),if_neg (by omega),if_neg (by omega)]
def FG:Option (Nat×Nat)->AV
 | some (p,n)=> .tup [.int .i64 p,.int .i64 n]
 | none=> .tup [.int .i64 (-1),.int .i64 0]
end
section
attribute [local irreducible] bB cX cZ aB bS dE
attribute [local go_sem] zf and_self mo ik
def HE{X:dV}{t:TypeId}{a c:Nat}{b:Bool}{d:List AV}{s:ByteArray}{k:IntKind}{i j:Nat}(ht:X.ty t=some ⟨a,b,c,d,.str⟩)(M5:i<=j)(hj:j<=s.size):dW X t (.str s) (some (.int k i)) (some (.int k j)) none=some (.str (s.extract i j)):=by
 simp[dW,ht,dM,M5,hj]
def extract_toList(s:ByteArray)(i j:Nat):(s.extract i j).toList=(s.data.toList.drop i).take (j-i):=by
 rw[toList_data];have:(s.extract i j).data=s.data.extract i j:=by simp
 rw[this,Array.toList_extract]
def acc_step{p:Nat}{tl:List UInt8}{k:Nat}{b:UInt8}(h:tl[k]? = some b):iR p (tl.take (k+1))=iR p (tl.take k)*64+b.toNat % 64:=by
 rw[WB,h];simp[iR,Xp]
def fstE(s:ByteArray)(hs:s.size<=1048576){pre tl:List UInt8}{c:UInt8}(hl:s.data.toList=pre++c::tl):aB CX 196 [.str s,.int .i64 pre.length] (· = FG (jm (c::tl))):=by
 have IY:=wX hl;simp only[UG,UB]at IY;have i0:=kv (X:=CX) (k := .i64) ty9 (wY hl);have hc:=c.toNat_lt;have w0:IntKind.wrap .i64 (c.toNat:Int)=(c.toNat:Int):=wI (by omega);have k3:∀(S:ab) (m:Int),bI S (.int .i64 m)=some (.int .i64 m):=fun _ _=>rfl;refine aL fx196 ?_;refine Cy ?_;refine wpC_cutB [13,14,15,16,17,18,19,20,21,22,23,24,25,26,27] (fun _:Unit=>[(6,.int .i64 ((jI c.toNat).1:Int)),(7,.int .i64 ((jI c.toNat).2:Int))]) (fun _ H=>H) (fun _=>True) ?_ ?_
 .by_cases h1:(240:Int)<=(c.toNat:Int)
  .have e:jI c.toNat=(c.toNat-240,4):=by rw[jI,if_pos (by omega)]
   have w1:IntKind.wrap .i64 ((c.toNat:Int)-240)=((c.toNat-240:Nat):Int):=by rw[wrap_small (by omega) (by omega)];omega
   rw[e];clear e i0;refine wk ?_;refine eH () trivial ?_ ⟨[],rfl⟩;exact aQ
  by_cases h2:(224:Int)<=(c.toNat:Int)
  .have e:jI c.toNat=(c.toNat-224,3):=by rw[jI,if_neg (by omega),if_pos (by omega)]
   have w1:IntKind.wrap .i64 ((c.toNat:Int)-224)=((c.toNat-224:Nat):Int):=by rw[wrap_small (by omega) (by omega)];omega
   rw[e];clear e i0;refine wk ?_;refine eH () trivial ?_ ⟨[],rfl⟩;exact aQ
  by_cases h3:(192:Int)<=(c.toNat:Int)
  .have e:jI c.toNat=(c.toNat-192,2):=by rw[jI,if_neg (by omega),if_neg (by omega),if_pos (by omega)]
   have w1:IntKind.wrap .i64 ((c.toNat:Int)-192)=((c.toNat-192:Nat):Int):=by rw[wrap_small (by omega) (by omega)];omega
   rw[e];clear e i0;refine wk ?_;refine eH () trivial ?_ ⟨[],rfl⟩;exact aQ
  .have e:jI c.toNat=(c.toNat,1):=by rw[jI,if_neg (by omega),if_neg (by omega),if_neg (by omega)]
   rw[e];clear e i0;refine wk ?_;refine eH () trivial ?_ ⟨[],rfl⟩;exact aQ
 rintro _ g0 G0 _;have hn:=hdU_n c.toNat;have Rz:=hdU_p (c:=c.toNat) hc
 have hF:jm (c::tl)=if tl.length+1<(jI c.toNat).2 then none else
  if lu (iR (jI c.toNat).1 (tl.take ((jI c.toNat).2-1)))=true/\kX (iR (jI c.toNat).1 (tl.take ((jI c.toNat).2-1)))=(c::tl).take (jI c.toNat).2 then some (iR (jI c.toNat).1 (tl.take ((jI c.toNat).2-1)),(jI c.toNat).2) else none:=rfl
 rw[hF];clear i0 hF w0;generalize (jI c.toNat).1=p0 at*;generalize (jI c.toNat).2=n at*;have wa:IntKind.wrap .i64 ((pre.length:Int)+(n:Int))=((pre.length+n:Nat):Int):=wI (n:=pre.length+n) (by omega);have Jl:(s.size:Int)=((pre.length+(tl.length+1):Nat):Int):=by rw[IY]
 simp only[aj,aq,ah,an,UC,UD];by_cases ho:tl.length+1<n
 .have z:(((pre.length+(tl.length+1):Nat):Int))<((pre.length+n:Nat):Int):=by omega
  rw[if_pos ho];clear IY ho;refine wk ?_;simp only[go_sem,fx];rw[if_pos (show dR _=true from rfl)];simp only[dm,k3,FG]
 have z:¬(((pre.length+(tl.length+1):Nat):Int))<((pre.length+n:Nat):Int):=by omega
 have hon:n<=tl.length+1:=by omega
 rw[if_neg ho];clear ho;refine wk ?_;clear z;refine aJ [34,35,36,37,38,39,40,41,42,43,44,45,46,47,48] (fun i:Nat=>[(6,.int .i64 ((iR p0 (tl.take (i-1)):Nat):Int)),(8,.int .i64 (i:Int))]) (fun _ H=>H) (fun i=>1<=i/\i<=n) (fun i=>n-i) 1 ⟨UJ _,hn.1⟩ ?_ ⟨_,rfl⟩ ?_
 .exact aQ
 rintro i g G ⟨h1,h2⟩;simp only[aj,aq,ah,an,UC,UD];have Kt:=Hk (tl.take (i-1)) p0;have Ja:(tl.take (i-1)).length<=3:=by simp;omega
 have NH:64 ^ (tl.take (i-1)).length<=262144:=UQ (Xd (by omega) Ja) (by decide);have Pi:iR p0 (tl.take (i-1))<67108864:=We Kt (UQ (Nat.mul_le_mul (show p0+1<=256 by omega) NH) (by decide));by_cases hi:i<n
 .have hk:i-1<tl.length:=by omega
  obtain⟨b,hb⟩:∃b,tl[i-1]? = some b:=⟨_,UL hk⟩;have JV:=b.toNat_lt
  have Jq:s[pre.length+i]? = some b:=by
   have e:s.data.toList=(pre++c::tl.take (i-1))++b::tl.drop i:=by
    rw[hl]
    have:tl=tl.take (i-1)++b::tl.drop i:=by
     have h3:=VW (i-1) tl
     have h4:tl.drop (i-1)=b::tl.drop i:=by
      rw[VT hk];have:tl[i-1]=b:=by rw[UL hk]at hb;injection hb
      rw[this,show i-1+1=i by omega]
     rw[h4]at h3;exact h3.symm
    simp only[UX,UF];rw[<-this]
   have e2:=wY e;have e3:(pre++c::tl.take (i-1)).length=pre.length+i:=by simp;omega
   rw[e3]at e2;exact e2
  have i1:=kv (X:=CX) (k := .i64) ty9 Jq;have lt1:(i:Int)<(n:Int):=by omega
  have w1:IntKind.wrap .i64 (((iR p0 (tl.take (i-1)):Nat):Int)*64)=((iR p0 (tl.take (i-1))*64:Nat):Int):=wI (n:=iR p0 (tl.take (i-1))*64) (by omega);have w2:IntKind.wrap .i64 ((pre.length:Int)+(i:Int))=((pre.length+i:Nat):Int):=wI (n:=pre.length+i) (by omega);have w3:IntKind.wrap .i64 (b.toNat:Int)=(b.toNat:Int):=wI (by omega);have m1:Int.tmod (b.toNat:Int) 64=((b.toNat % 64:Nat):Int):=rfl;have z4:¬(64:Int)=0:=by omega
  have w4:IntKind.wrap .i64 (((iR p0 (tl.take (i-1))*64:Nat):Int)+((b.toNat % 64:Nat):Int))=((iR p0 (tl.take (i-1))*64+b.toNat % 64:Nat):Int):=wI (n:=iR p0 (tl.take (i-1))*64+b.toNat % 64) (by omega);have w5:=am (n:=i) (by omega);have ha:=acc_step (p:=p0) hb;rw[show i-1+1=i by omega]at ha;have hha:ac (iR p0 (tl.take i)=iR p0 (tl.take (i-1))*64+b.toNat % 64):=⟨ha⟩;clear ha hb Jq;refine wk ?_;refine ax (i+1) (by omega) ⟨by omega,by omega⟩ ?_ ⟨_,rfl⟩
  ((try simp only[bh,bJ,ah,an,UC,UD]);all_goals (first|rfl|(simp only[aH,aC,UI,Nat.add_sub_cancel,hha.out];done)|(simp only[aH,aR,aC,UI,UG,UB,UE,UW,Nat.add_sub_cancel,hha.out];first|done|rfl)))
 .have KF:i=n:=by omega
  subst KF;have lt1:¬(i:Int)<(i:Int):=by omega
  generalize hP:iR p0 (tl.take (i-1))=p at*;have qs:=(scalE p).rw;refine Cy ?_;refine wkC ?_;have hle:pre.length<=pre.length+i:=by omega
  have MX:pre.length+i<=s.size:=by omega
  have sl:=HE (X:=CX) (k := .i64) (s:=s) ty9 hle MX;by_cases k1:lu p=true
  .have SE:p<=1114111:=by simp[lu]at k1;omega
   have qe:=(encUE p SE).rw
   have hq:((⟨(kX p).toArray⟩:ByteArray).toList == (s.extract pre.length (pre.length+i)).toList)=decide (kX p=(c::tl).take i):=by
    rw[extract_toList,toList_data,hl,List.drop_left,VP];rw[Xu];simp
   by_cases k2:kX p=(c::tl).take i
   .have hd:decide (kX p=(c::tl).take i)=true:=by simpa using k2
    rw[hd]at hq;rw[if_pos ⟨k1,k2⟩];clear hd hle MX Pi Kt Ja NH k2;refine wk ?_;simp only[go_sem,fx];rw[if_pos (show dR _=true from rfl)];simp only[dm,k3,FG]
   .have hd:decide (kX p=(c::tl).take i)=false:=by simpa using k2
    rw[hd]at hq;rw[if_neg (fun h=>k2 h.2)];clear hd hle MX Pi Kt Ja NH k2;refine wk ?_;simp only[go_sem,fx];rw[if_pos (show dR _=true from rfl)];simp only[dm,k3,FG]
  .rw[if_neg (fun h=>k1 h.1)];have k1:lu p=false:=by simpa using k1
   clear hle MX Pi Kt Ja NH;refine wk ?_;simp only[go_sem,fx];rw[if_pos (show dR _=true from rfl)];simp only[dm,k3,FG]
end
structure eZ where
 id:Int
 name:ByteArray
 people:List Int
 subs:List Int
 pv:AV
 sv:AV
def eE(g:eZ):List AV:=[.int .i64 g.id,.str g.name,g.pv,g.sv]
structure eZ.ok (g:eZ):Prop where
 pv:bq 1 (az g.people) g.pv
 sv:bq 1 (az g.subs) g.sv
section
attribute [local irreducible] bB cX cZ aB bS dE
attribute [local go_sem] bi and_self aR cY eE
def idxOf(l:List Int)(n:Int):Nat->Option Nat
 | k=>match l with
  | []=>none
  | x::l=>if n=x then some k else idxOf l n (k+1)
def eX:Option Nat->Int
 | some k=>(k:Int)
 | none=> -1
theorem oO(l:List Int)(n:Int):∀k,(idxOf l n k).isSome=l.contains n:=by
 induction l with
 | nil=>intro k;rfl
 | cons x l ih=>
  intro k;unfold idxOf;by_cases h:n=x
  .subst h;simp
  .simp only[h,if_false,ih,Xk];simp[h]
theorem FV(o:Option Nat):decide (0<=eX o)=o.isSome:=by
 cases o with
 | none=>rfl
 | some k=>simp[eX]
def indexE(v:AV)(l:List Int)(n:Int)(hv:bq 1 (az l) v)(hl:l.length<9223372036854775807):aB CX 212 [v,.int .i64 n] (· = .int .i64 (eX (idxOf l n 0))):=by
 refine aL fx212 ?_;refine b8 (lk hv) ?_;refine aF [4,5,9,10,11,12,13,14,15,16,17,18] 8 l (fun pre post=>idxOf l n 0=idxOf post n pre.length) ?_ ?_ ?_ ?_
 .rfl
 .rfl
 .intro g G h2;rw[h2];simp only[aj,aq,ah,an,UC,UD];exact wf
 .intro g G pre x post h1 h2;rw[h2];subst h1;simp only[aj,aq,ah,an,UC,UD];have i1:=ay hv (X:=CX) ty31 ty3 rfl (dp pre x post) (k := .i64);have w1:=am (n:=pre.length) (by simp at hl;omega);by_cases hx:n=x
  .subst hx;refine wk ?_;simp only[go_sem];simp[idxOf,eX]
  .have Kd:(n == x)=false:=by simpa using hx
   have hh:ac (¬n=x):=⟨hx⟩;clear hx;refine wk ?_;refine aA rfl ?_ ?_ ?_
   .rw[idxOf,if_neg hh.out,aH]
   .exact aQ
   .exact dk
def Iv(v:AV)(l:List Int)(n:Int)(hv:bq 1 (az l) v)(hl:l.length<9223372036854775807):aB CX 175 [v,.int .i64 n] (· = .bool (l.contains n)):=by
 have q:=(indexE v l n hv hl).rw;have e:decide (0<=eX (idxOf l n 0))=l.contains n:=by rw[FV,oO]
 refine aL fx175 ?_;exact fm hv.snap
def FD(v:AV)(l:List Int)(n:Int)(hv:bq 1 (az l) v)(hl:l.length<9223372036854775807):aB CX 128 [v,.int .i64 n] (· = .bool (l.contains n)):=by
 have q:=(Iv v l n hv hl).rw;refine aL fx128 ?_;exact fm hv.snap
def find1E(g:eZ)(n:Int)(st:Bool)(hg:g.ok):aB CX 316 [.agg (eE g),.tptr st [.int .i64 n] 0] (· = .bool (g.id == n)):=by
 have c1:=hg.pv.cell;have c2:=hg.sv.cell;refine aL fx316 ?_;exact wf
def nk(l:List eZ)(n:Int):Nat->Option Nat
 | k=>match l with
  | []=>none
  | g::l=>if g.id=n then some k else nk l n (k+1)
theorem indexFE(v:AV)(gs:List eZ)(n:Int)(st:Bool)(hv:bq 4 (gs.map eE) v)(hok:∀g∈gs,g.ok)(hl:gs.length<9223372036854775807):aB CX 315 [v,.fn 316 [.tptr st [.int .i64 n] 0]] (· = .int .i64 (eX (nk gs n 0))):=by
 have hs:∀S,snap S (.tptr st [.int .i64 n] 0)=some (.tptr st [.int .i64 n] 0):=fun S=>by simp only[snap]
 have b1:CX.byRef 316=false:=br316;refine aL fx315 ?_;refine b8 (lk hv) ?_;refine aF [4,5,9,10,11,12,13,14,15,16,17,18] 8 gs (fun pre post=>nk gs n 0=nk post n pre.length) ?_ ?_ ?_ ?_
 .rfl
 .rfl
 .intro g G h2;rw[h2];simp only[aj,aq,ah,an,UC,UD];exact wf
 .intro g G pre x post h1 h2;rw[h2];subst h1;simp only[aj,aq,ah,an,UC,UD];have i1:=ay hv (X:=CX) ty41 ty218 rfl (eK eE pre x post) (k := .i64);have w1:=am (n:=pre.length) (by simp at hl;omega);have hx:=hok x (by simp);have c1:=hx.pv.cell;have c2:=hx.sv.cell;have s1:=hx.pv.snap;have s2:=hx.sv.snap;have q:=(find1E x n st hx).rw;simp only[eE]at q;by_cases hx:x.id=n
  .have Kd:(x.id == n)=true:=by simpa using hx
   rw[Kd]at q;have hh:ac (x.id=n):=⟨hx⟩;clear hx;refine wk ?_;simp only[go_sem];simp[nk,eX,hh.out]
  .have Kd:(x.id == n)=false:=by simpa using hx
   rw[Kd]at q;have hh:ac (¬x.id=n):=⟨hx⟩;clear hx;refine wk ?_;refine aA rfl ?_ ?_ ?_
   .rw[nk,if_neg hh.out,aH]
   .exact aQ
   .exact dk
def lG(gs:List eZ)(n:Int):Option eZ:=gs.find? fun g=>g.id == n
def noGrp:AV := .agg [.int .i64 0,.str .empty,.flat (.slice none 0 0),.flat (.slice none 0 0)]
theorem AY(gs:List eZ)(n:Int):∀k,(nk gs n k=none/\lG gs n=none)\/∃a g b,gs=a++g::b/\nk gs n k=some (k+a.length)/\lG gs n=some g:=by
 induction gs with
 | nil=>intro k;exact .inl ⟨rfl,rfl⟩
 | cons x gs ih=>
  intro k;by_cases h:x.id=n
  .refine .inr ⟨[],x,gs,rfl,?_,?_⟩
   .rw[nk,if_pos h];rfl
   .simp[lG,h]
  .have e:lG (x::gs) n=lG gs n:=by simp[lG,h]
   rw[nk,if_neg h,e];rcases ih (k+1) with ⟨h1,h2⟩|⟨a,g,b,h1,h2,h3⟩
   .exact .inl ⟨h1,h2⟩
   .exact .inr ⟨x::a,g,b,by rw[h1];rfl,by rw[h2];simp;omega,h3⟩
def findE(v:AV)(gs:List eZ)(n:Int)(hv:bq 4 (gs.map eE) v)(hok:∀g∈gs,g.ok)(Kk:∀g∈gs,g.pv.stab=true/\g.sv.stab=true)(hl:gs.length<9223372036854775807) :
  aB CX 293 [v,.int .i64 n] (· = match lG gs n with|some g=> .tup [.agg (eE g),.bool true]|none=> .tup [noGrp,.bool false]):=by
 have q:=(indexFE v gs n false hv hok hl).rw
 have hs:∀(C:ab),snap (.arr [[.int .i64 n]] 1 0 true::C) (.ptr 0 1 1 0 0)=some (.tptr false [.int .i64 n] 0):=fun C=>by
  simp[snap,g9,jP,AV.clean]
 rcases AY gs n 0 with ⟨h1,h2⟩|⟨a,g,b,h1,h2,h3⟩
 .rw[h2];rw[h1]at q;have z:(-1:Int)<0:=by omega
  have e:eX none = -1:=rfl;rw[e]at q;refine aL fx293 ?_;refine b8 hv.snap ?_;simp only[go_sem,fx];simp[dR,ce,bT,nF,dm,bI,dq,aW,AV.stab,noGrp]
 .rw[h3];rw[h2]at q;have K7:a.length<gs.length:=by rw[h1];simp
  have z:¬((a.length:Nat):Int)<0:=by omega
  have e:eX (some (0+a.length))=((a.length:Nat):Int):=by simp[eX]
  rw[e]at q;have NQ:g∈gs:=by rw[h1];simp
  have hx:=hok g NQ;have c1:=hx.pv.cell;have c2:=hx.sv.cell;obtain⟨t1,t2⟩:=Kk g NQ;have i1:=ay hv (X:=CX) ty41 ty218 rfl (n:=a.length) (row:=eE g) (k := .i64) (by rw[h1];exact eK eE a g b);refine aL fx293 ?_;refine b8 hv.snap ?_;simp only[go_sem,fx];have k1:∀S,aW S g.pv=some g.pv:=fun S=>by cases MR:g.pv<;>rw[MR]at t1<;>simp_all [aW,AV.stab]
  have k2:∀S,aW S g.sv=some g.sv:=fun S=>by cases MR:g.sv<;>rw[MR]at t2<;>simp_all [aW,AV.stab]
  have k3:∀(S:ab) (m:Int),aW S (.int .i64 m)=some (.int .i64 m):=fun _ _=>rfl;have k4:∀(S:ab) (m:ByteArray),aW S (.str m)=some (.str m):=fun _ _=>rfl;have k5:∀(S:ab) (m:Bool),bI S (.bool m)=some (.bool m):=fun _ _=>rfl;rw[if_pos (show dR _=true from rfl)];simp only[dm,bI,dq,k1,k2,k3,k4,k5,eE];simp[AV.stab]
end
section
attribute [local irreducible] bB cX cZ aB bS dE
attribute [local go_sem] bi and_self aR cY
structure ij where
 id:Int
 name:ByteArray
 mem:Bool
def fF(p:ij):List AV:=[.int .i64 p.id,.str p.name,.bool p.mem]
attribute [local go_sem] fF
def person1E(p:ij)(n:Int)(st:Bool):aB CX 268 [.agg (fF p),.tptr st [.int .i64 n] 0] (· = .bool (p.id == n)):=by
 refine aL fx268 ?_;exact wf
def zZ(l:List ij)(n:Int):Nat->Option Nat
 | k=>match l with
  | []=>none
  | g::l=>if g.id=n then some k else zZ l n (k+1)
def indexPE(v:AV)(ps:List ij)(n:Int)(st:Bool)(hv:bq 3 (ps.map fF) v)(hl:ps.length<9223372036854775807):aB CX 267 [v,.fn 268 [.tptr st [.int .i64 n] 0]] (· = .int .i64 (eX (zZ ps n 0))):=by
 have hs:∀S,snap S (.tptr st [.int .i64 n] 0)=some (.tptr st [.int .i64 n] 0):=fun S=>by simp only[snap]
 have b1:CX.byRef 268=false:=br268;refine aL fx267 ?_;refine b8 (lk hv) ?_;refine aF [4,5,9,10,11,12,13,14,15,16,17,18] 8 ps (fun pre post=>zZ ps n 0=zZ post n pre.length) ?_ ?_ ?_ ?_
 .rfl
 .rfl
 .intro g G h2;rw[h2];simp only[aj,aq,ah,an,UC,UD];exact wf
 .intro g G pre x post h1 h2;rw[h2];subst h1;simp only[aj,aq,ah,an,UC,UD];have i1:=ay hv (X:=CX) ty40 ty125 rfl (eK fF pre x post) (k := .i64);have w1:=am (n:=pre.length) (by simp at hl;omega);have q:=(person1E x n st).rw;simp only[fF]at q;by_cases hx:x.id=n
  .have Kd:(x.id == n)=true:=by simpa using hx
   rw[Kd]at q;have hh:ac (x.id=n):=⟨hx⟩;clear hx;refine wk ?_;simp only[go_sem];simp[zZ,eX,hh.out]
  .have Kd:(x.id == n)=false:=by simpa using hx
   rw[Kd]at q;have hh:ac (¬x.id=n):=⟨hx⟩;clear hx;refine wk ?_;refine aA rfl ?_ ?_ ?_
   .rw[zZ,if_neg hh.out,aH]
   .exact aQ
   .exact dk
def kH(ps:List ij)(n:Int):Option ij:=ps.find? fun p=>p.id == n
def noP:ij:=⟨0,.empty,false⟩
theorem HU(ps:List ij)(n:Int):∀k,(zZ ps n k=none/\kH ps n=none)\/∃a g b,ps=a++g::b/\zZ ps n k=some (k+a.length)/\kH ps n=some g:=by
 induction ps with
 | nil=>intro k;exact .inl ⟨rfl,rfl⟩
 | cons x gs ih=>
  intro k;by_cases h:x.id=n
  .refine .inr ⟨[],x,gs,rfl,?_,?_⟩
   .rw[zZ,if_pos h];rfl
   .simp[kH,h]
  .have e:kH (x::gs) n=kH gs n:=by simp[kH,h]
   rw[zZ,if_neg h,e];rcases ih (k+1) with ⟨h1,h2⟩|⟨a,g,b,h1,h2,h3⟩
   .exact .inl ⟨h1,h2⟩
   .exact .inr ⟨x::a,g,b,by rw[h1];rfl,by rw[h2];simp;omega,h3⟩
def Es(ps:List ij)(n:Int):ij:=(kH ps n).getD noP
def oe(ps:List ij)(n:Int):Bool:=(kH ps n).isSome
def GI(v:AV)(ps:List ij)(n:Int)(hv:bq 3 (ps.map fF) v)(hl:ps.length<9223372036854775807):aB CX 242 [v,.int .i64 n] (· = .tup [.agg (fF (Es ps n)),.bool (oe ps n)]):=by
 have q:=(indexPE v ps n false hv hl).rw
 have hs:∀(C:ab),snap (.arr [[.int .i64 n]] 1 0 true::C) (.ptr 0 1 1 0 0)=some (.tptr false [.int .i64 n] 0):=fun C=>by
  simp[snap,g9,jP,AV.clean]
 have k3:∀(S:ab) (m:Int),aW S (.int .i64 m)=some (.int .i64 m):=fun _ _=>rfl;have k4:∀(S:ab) (m:ByteArray),aW S (.str m)=some (.str m):=fun _ _=>rfl;have k5:∀(S:ab) (m:Bool),bI S (.bool m)=some (.bool m):=fun _ _=>rfl;have k6:∀(S:ab) (m:Bool),aW S (.bool m)=some (.bool m):=fun _ _=>rfl;rcases HU ps n 0 with ⟨h1,h2⟩|⟨a,g,b,h1,h2,h3⟩
 .rw[h1]at q;have z:(-1:Int)<0:=by omega
  have e:eX none = -1:=rfl;rw[e]at q;have e1:Es ps n=noP:=by simp[Es,h2]
  have e2:oe ps n=false:=by simp[oe,h2]
  rw[e1,e2];clear h1 h2 e1 e2;refine aL fx242 ?_;refine b8 hv.snap ?_;simp only[go_sem,fx];rw[if_pos (show dR _=true from rfl)];simp only[dm,bI,dq,k3,k4,k5,k6,fF,noP];simp[AV.stab]
 .rw[h2]at q;have K7:a.length<ps.length:=by rw[h1];simp
  have z:¬((a.length:Nat):Int)<0:=by omega
  have e:eX (some (0+a.length))=((a.length:Nat):Int):=by simp[eX]
  rw[e]at q;have i1:=ay hv (X:=CX) ty40 ty125 rfl (n:=a.length) (row:=fF g) (k := .i64) (by rw[h1];exact eK fF a g b);have e1:Es ps n=g:=by simp[Es,h3]
  have e2:oe ps n=true:=by simp[oe,h3]
  rw[e1,e2];clear h1 h2 h3 e1 e2;refine aL fx242 ?_;refine b8 hv.snap ?_;simp only[go_sem,fx];rw[if_pos (show dR _=true from rfl)];simp only[dm,bI,dq,k3,k4,k5,k6,fF];simp[AV.stab]
def sR(v:AV)(ps:List ij)(n:Int)(hv:bq 3 (ps.map fF) v)(hl:ps.length<9223372036854775807):aB CX 133 [v,.int .i64 n] (· = .tup [.agg (fF (Es ps n)),.bool (oe ps n)]):=by
 have k3:∀(S:ab) (m:Int),aW S (.int .i64 m)=some (.int .i64 m):=fun _ _=>rfl;have k4:∀(S:ab) (m:ByteArray),aW S (.str m)=some (.str m):=fun _ _=>rfl;have k5:∀(S:ab) (m:Bool),bI S (.bool m)=some (.bool m):=fun _ _=>rfl;have k6:∀(S:ab) (m:Bool),aW S (.bool m)=some (.bool m):=fun _ _=>rfl;refine aL fx133 ?_;refine b8 (lk hv) ?_;refine aF [5,6,10,11,12,13,14,15,16,17,18,19,20,21,22,23] 9 ps (fun _ post=>kH ps n=kH post n) ?_ ?_ ?_ ?_
 .rfl
 .rfl
 .intro g G h2;simp only[aj,aq,ah,an,UC,UD];have e1:Es ps n=noP:=by rw[Es,h2];rfl
  have e2:oe ps n=false:=by rw[oe,h2];rfl
  rw[e1,e2];clear h2 e1 e2;refine wk ?_;simp only[go_sem,fx];rw[if_pos (show dR _=true from rfl)];simp only[dm,bI,dq,k3,k4,k5,k6,fF,noP];simp[AV.stab]
 .intro g G pre x post h1 h2;subst h1;simp only[aj,aq,ah,an,UC,UD];have i1:=ay hv (X:=CX) ty40 ty125 rfl (eK fF pre x post) (k := .i64);have w1:=am (n:=pre.length) (by simp at hl;omega);by_cases hx:x.id=n
  .subst hx;have e0:kH (x::post) x.id=some x:=by simp[kH]
   have e1:Es (pre++x::post) x.id=x:=by rw[Es,h2,e0];rfl
   have e2:oe (pre++x::post) x.id=true:=by rw[oe,h2,e0];rfl
   rw[e1,e2];clear e0;have Kd:(x.id == x.id)=true:=by simp
   clear h2 e1 e2;refine wk ?_;simp only[go_sem,fx];rw[if_pos (show dR _=true from rfl)];simp only[dm,bI,dq,k3,k4,k5,k6,fF];simp[AV.stab]
  .have Kd:(x.id == n)=false:=by simpa using hx
   have hh:ac (kH (pre++x::post) n=kH post n):=⟨by rw[h2];simp[kH,hx]⟩;clear h2;refine wk ?_;refine aA rfl ?_ ?_ ?_
   .exact hh.out
   .exact aQ
   .exact dk
def jA(n:Int):Bool:=decide (1<=n) && decide (n<=1099511627776)
def kR(n:Int):aB CX 53 [.int .i64 n] (· = .bool (jA n)):=by
 unfold jA;refine aL fx53 ?_;simp only[UB,UE,UF,UH,Nat.reduceAdd,Nat.reduceSub,List.replicate];repeat' (first|refine dn ?_|refine ad rfl ?_|(refine dI fun A B a b=>?_;simp only[go_sem, *];(repeat' first|apply a.1|apply b.1|refine aV (fun h=>?_) fun h=>?_)<;>clear a b A B))
 all_goals
  simp only[go_sem];simp[*]
end
section
attribute [local irreducible] bB cX cZ aB bS dE
attribute [local go_sem] U1 Vj List.replicate UC Vp Nat.reduceMul Vg eF d9 bP bt ci bN cM ba aY aS aM aX and_self mo
def Option.map_map'{α:Type}(o:Option (List α))(a:List α)(p:α):(o.map (p :: ·)).map (a ++ ·)=o.map ((a++[p]) ++ ·):=by
 cases o<;>simp
def z8(l:List Nat):List Int:=l.map (fun n:Nat=>((n:Nat):Int))
def EX:Option (List Nat)->AV
 | some l=> .tup [.osl 1 (az (z8 l)),.bool true]
 | none=> .tup [.osl 1 [],.bool false]
theorem ptsE(s:ByteArray)(hs:s.size<=1048576):aB CX 152 [.str s] (· = EX (qq s.data.toList)):=by
 obtain⟨l,hl⟩:∃l,s.data.toList=l:=⟨_,rfl⟩;have IY:=wX hl;rw[hl];have k5:∀(S:ab) (m:Bool),bI S (.bool m)=some (.bool m):=fun _ _=>rfl;refine aL fx152 ?_;refine wk ?_
 refine aJ [2,3,6,7,8,9,10,11,12,13,14,15,16,17,18,19,20,21,22,23,24,25,26] (fun a:List UInt8×List UInt8×List Nat=>[(4,.sl 1 a.2.2.length 0 a.2.2.length 1),(5,.int .i64 (a.1.length:Int))]) (fun a G=> .arr [] 1 0 true :: .arr (az (z8 a.2.2)) 1 0 true::G)
  (fun a=>l=a.1++a.2.1/\a.2.2.length<=a.1.length/\qq l=(qq a.2.1).map (a.2.2 ++ ·)) (fun a=>a.2.1.length) ([],l,[]) ⟨rfl,UJ _,by cases qq l<;>simp⟩ ?_ ⟨[],rfl⟩ ?_
 .rfl
 rintro⟨pre,rest,out⟩ g G ⟨h1,h2,h3⟩;simp only at h1 h2 h3;rw[h3];simp only[aj,aq,ah,an,UC,UD];have Jl:(s.size:Int)=(l.length:Int):=by rw[IY]
 have MD:(z8 out).length=out.length:=by simp[z8]
 cases rest with
 | nil=>
  rw[UM]at h1;have e:(l.length:Int)=(pre.length:Int):=by rw[h1]
  rw[sP];clear h1 h3;refine wk ?_;simp only[go_sem,fx];simp[dR,ce,bT,dm,bI,k5,EX,az,z8,AV.stab]
 | cons c tl=>
  have lt1:(pre.length:Int)<(l.length:Int):=by rw[h1];simp;omega
  have q:=(fstE s hs (hl.trans h1)).rw;cases hf:jm (c::tl) with
  | none=>
   rw[hf,FG]at q;rw[oE hf];clear h1 h3 hf;repeat' (first|refine dn ?_|refine ad rfl ?_|(refine dI fun A B a b=>?_;simp only[go_sem, *,bC,bp];(repeat' first|apply a.1|apply b.1|refine aV (fun h=>?_) fun h=>?_)<;>clear a b A B))
   simp only[go_sem,fx];simp[dR,ce,bT,dm,bI,k5,EX,AV.stab]
  | some pn=>
   obtain⟨p,n⟩:=pn;rw[hf,FG]at q;have hn:=vl hf;have Qt:l.length=pre.length+(tl.length+1):=by rw[h1];simp
   simp only[UB]at hn;have b1:(out.length+1)*8<=140737488355328:=by omega
   have b2:out.length+1<=140737488355328:=by omega
   have z:((n:Int) == 0)=false:=by simp;omega
   have z2:¬(n:Int)=0:=by omega
   have w1:IntKind.wrap .i64 ((pre.length:Int)+(n:Int))=((pre.length+n:Nat):Int):=wI (n:=pre.length+n) (by omega)
   have hh:ac (l=(pre++(c::tl).take n)++(c::tl).drop n/\(pre++(c::tl).take n).length=pre.length+n/\(qq (c::tl)).map (out ++ ·)=(qq ((c::tl).drop n)).map ((out++[p]) ++ ·)):=by
    refine⟨⟨?_,?_,?_⟩⟩
    .rw[UX,VW];exact h1
    .simp only[UG,Wh,UB];omega
    .rw[oD hf,Option.map_map']
   have KX:out.length<=1048576:=by omega
   clear h1 h3 hf Qt;repeat' (first|refine dn ?_|refine ad rfl ?_|(refine dI fun A B a b=>?_;simp only[go_sem, *,bC,bp,aR,cY,b1];(repeat' first|apply a.1|apply b.1|refine aV (fun h=>?_) fun h=>?_)<;>clear a b A B))
   refine ax (pre++(c::tl).take n,(c::tl).drop n,out++[p]) ?_ ⟨hh.out.1,?_,hh.out.2.2⟩ ?_ ?_
   .simp only[VU,UB];omega
   .rw[hh.out.2.1];simp;omega
   ·((try simp only[bh,bJ,ah,an,UC,UD]);all_goals (first|rfl|(simp only[aH,aC,UI,hh.out.2.1];done)|(simp only[aH,aR,aC,UI,UG,UB,UE,UW,hh.out.2.1];first|done|rfl)))
   .exact⟨_,by simp[z8,az];rfl⟩
def okc(c:UInt8):Bool:=decide (32<=(c.toNat:Int)) && decide ((c.toNat:Int)≠127)
def yA(l:List UInt8):Bool:=l.all okc && ((qq l).isSome && (decide (1<=l.length) && decide (l.length<=32)))
theorem yz(s:ByteArray)(hs:s.size<=1048576):aB CX 84 [.str s] (· = .bool (yA s.data.toList)):=by
 have q:=(ptsE s hs).rw;obtain⟨l,hl⟩:∃l,s.data.toList=l:=⟨_,rfl⟩;have IY:=wX hl;rw[hl]at q ⊢;have Jl:(s.size:Int)=(l.length:Int):=by rw[IY]
 refine aL fx84 ?_;refine wk ?_;refine aF [2,6,7,8,9,10,11,12,13,14,15,16,17,18,19,20,21] 3 l (fun pre post=>l.all okc=post.all okc) ?_ ?_ ?_ ?_
 .rfl
 .rfl
 .intro g G h2;have hE:yA l=((qq l).isSome && (decide (1<=l.length) && decide (l.length<=32))):=by rw[yA,h2];rfl
  rw[hE];clear hE h2;simp only[aj,aq,ah,an,UC,UD];cases hp:qq l with
  | none=>
   rw[hp,EX]at q;repeat' (first|refine dn ?_|refine ad rfl ?_|(refine dI fun A B a b=>?_;simp only[go_sem, *,bC,bp];(repeat' first|apply a.1|apply b.1|refine aV (fun h=>?_) fun h=>?_)<;>clear a b A B))
   simp only[go_sem];rfl
  | some ps=>
   rw[hp,EX]at q;by_cases k1:(1:Int)<=(l.length:Int)
   .by_cases k2:(l.length:Int)<=32
    .repeat' (first|refine dn ?_|refine ad rfl ?_|(refine dI fun A B a b=>?_;simp only[go_sem, *,bC,bp];(repeat' first|apply a.1|apply b.1|refine aV (fun h=>?_) fun h=>?_)<;>clear a b A B))
     simp only[go_sem];simp;omega
    .repeat' (first|refine dn ?_|refine ad rfl ?_|(refine dI fun A B a b=>?_;simp only[go_sem, *,bC,bp];(repeat' first|apply a.1|apply b.1|refine aV (fun h=>?_) fun h=>?_)<;>clear a b A B))
     simp only[go_sem];simp;omega
   .repeat' (first|refine dn ?_|refine ad rfl ?_|(refine dI fun A B a b=>?_;simp only[go_sem, *,bC,bp];(repeat' first|apply a.1|apply b.1|refine aV (fun h=>?_) fun h=>?_)<;>clear a b A B))
    simp only[go_sem];simp;omega
 .intro g G pre x post h1 h2;simp only[aj,aq,ah,an,UC,UD];have i0:=kv (X:=CX) (k := .i64) ty9 (wY (hl.trans h1));have lt1:(pre.length:Int)<(l.length:Int):=by rw[h1];simp;omega
  have w1:=am (n:=pre.length) (by omega);have IW:ac (l=pre++x::post):=⟨h1⟩;have I7:ac (l.all okc=(x::post).all okc):=⟨h2⟩;clear h1 h2 q;by_cases k1:(x.toNat:Int)<32
  .refine wk ?_;simp only[go_sem];have e:okc x=false:=by simp[okc];omega
   rw[yA,I7.out,U1,e];try rfl
  by_cases k2:(x.toNat:Int)=127
  .have k2':((x.toNat:Int) == 127)=true:=by simpa using k2
   have hk:ac ((x.toNat:Int)=127):=⟨k2⟩;clear k2;refine wk ?_;simp only[go_sem];have e:okc x=false:=by have:=hk.out;simp[okc];omega
   rw[yA,I7.out,U1,e];try rfl
  .have k2':((x.toNat:Int) == 127)=false:=by simpa using k2
   refine wk ?_;refine aA IW.out ?_ ?_ ?_
   .have e:okc x=true:=by simp[okc];omega
    rw[I7.out,U1,e,VB]
   .exact aQ
   .exact dk
end
end Go.Eng
namespace Go.Eng.Fo
open Go.Proofs
section
attribute [local irreducible] bB cX cZ aB bS dE
abbrev El:=Int×Int
def encE(x:El):List AV:=[.int .i64 x.1,.int .i64 x.2]
def rowsD(T:List (List AV))(d:Array El):List (List AV):=d.toList.map encE++T
def Aa(x y:El):Bool:=decide (x.1<y.1)
abbrev cmpV:AV := .fn 219 []
def Bu:Go.Sort.SWO Aa where
 irrefl x:=by simp[Aa]
 trans x y z h1 h2:=by simp only[Aa,decide_eq_true_eq]at h1 h2 ⊢;omega
 ntrans x y z h1 h2:=by simp only[Aa,decide_eq_false_iff_not]at h1 h2 ⊢;omega
def cmpI(a b:Int):Int:=if a<b then -1 else if b<a then 1 else 0
def nan(a:Int):aB CX 194 [.int .i64 a] (· = .bool false):=by
 refine aL fx194 ?_;refine wk ?_;all_goals simp only[aO,aP,bg,cH,cb,cG,cI,cA,cE,aN,go_sem,and_self]
 all_goals simp[*]
def cmpE(x y:Int):aB CX 150 [.int .i64 x,.int .i64 y] (· = .int .i64 (cmpI x y)):=by
 refine aL fx150 ?_;simp only[UB,UE,UF,UH,Nat.reduceAdd,Nat.reduceSub,List.replicate];repeat' (first|refine dn ?_|refine ad rfl ?_|(refine dI fun A B a b=>?_;simp only[go_sem, *,(nan _).rw];(repeat' first|apply a.1|apply b.1|refine aV (fun h=>?_) fun h=>?_)<;>clear a b A B))
 all_goals simp only[aO,aP,bg,cH,cb,cG,cI,cA,cE,aN,go_sem,and_self]
 all_goals simp[cmpI, *]
theorem takeD{l:List AV}:List.take 0 l = []:=rfl
variable {T:List (List AV)}
def Left(T:List (List AV))(A C:ab)(n:Nat)(d:Array El)(S:ab):Prop:=d.size=n/\∃w C',w<=n+T.length/\S=A ++ .arr (rowsD T d) 2 w true::(C++C')
def Fu{A C G:ab}{n:Nat}{d:Array El}{S:ab}(h:Left T A (C++G) n d S):∃w C',d.size=n/\w<=n+T.length/\S=A ++ .arr (rowsD T d) 2 w true::(C++C'):=by
 obtain⟨h1,w,C',h2,h3⟩:=h;exact⟨w,G++C',h1,h2,by rw[h3,UX]⟩
end
end Go.Eng.Fo
namespace Go.Eng
abbrev fN:=Int×Int
def dX(s:fN):Bool:=decide (0<=s.1) && (decide (s.1<s.2) && decide (s.2<=86400000))
def bG{s:fN}:dX s=true↔0<=s.1/\s.1<s.2/\s.2<=86400000:=by simp[dX]
def Tm(l:List fN)(t:Int):Prop := ∃s∈l,s.1<=t/\t<s.2
def cQ{t:Int}:¬Tm [] t:=fun ⟨_,h,_⟩=>by cases h
def bw{x:fN}{l:List fN}{t:Int}:Tm (x::l) t↔(x.1<=t/\t<x.2)\/Tm l t:=by simp[Tm]
def mh{a b:List fN}{t:Int}:Tm (a++b) t↔Tm a t\/Tm b t:=by
 unfold Tm;constructor
 .rintro⟨s,h,h2⟩;rcases List.mem_append.mp h with h|h
  .exact .inl ⟨s,h,h2⟩
  .exact .inr ⟨s,h,h2⟩
 .rintro (⟨s,h,h2⟩|⟨s,h,h2⟩)
  .exact⟨s,by simp[h],h2⟩
  .exact⟨s,by simp[h],h2⟩
structure ee (l:List fN):Prop where
 rg:∀s∈l,dX s=true
 sep:l.Pairwise fun a b=>a.2<b.1
def fo:ee []:=⟨by simp,.nil⟩
def eO{x:fN}{l:List fN}:ee (x::l)↔dX x=true/\(∀y∈l,x.2<y.1)/\ee l:=by
 constructor
 .rintro⟨h1,h2⟩;have h3:=List.pairwise_cons.mp h2;exact⟨h1 x (by simp),h3.1,fun s hs=>h1 s (by simp[hs]),h3.2⟩
 .rintro⟨h1,h2,h3,h4⟩;refine⟨fun s hs=>?_,List.pairwise_cons.mpr ⟨h2,h4⟩⟩;rcases List.mem_cons.mp hs with e|e
  .subst e;exact h1
  .exact h3 s e
def gF{a b:List fN}:ee (a++b)↔ee a/\ee b/\∀x∈a,∀y∈b,x.2<y.1:=by
 constructor
 .rintro⟨h1,h2⟩;have h3:=List.pairwise_append.mp h2;exact⟨⟨fun s hs=>h1 s (by simp[hs]),h3.1⟩,⟨fun s hs=>h1 s (by simp[hs]),h3.2.1⟩,h3.2.2⟩
 .rintro⟨⟨h1,h2⟩,⟨h3,h4⟩,h5⟩;refine⟨fun s hs=>?_,List.pairwise_append.mpr ⟨h2,h4,h5⟩⟩;rcases List.mem_append.mp hs with e|e
  .exact h1 s e
  .exact h3 s e
def fZ{x:fN}:ee [x]↔dX x=true:=by rw[eO];simp[fo]
theorem lB:∀{a b:List fN},ee a->ee b->(∀t,Tm a t↔Tm b t)->a=b
 | [],[],_,_,_=>rfl
 | [],y::b,_,hb,h=>by
  obtain⟨h1,_,_⟩:=eO.mp hb;have:=bG.mp h1;exact absurd ((h y.1).mpr (bw.mpr (.inl ⟨by omega,by omega⟩))) cQ
 | x::a,[],ha,_,h=>by
  obtain⟨h1,_,_⟩:=eO.mp ha;have:=bG.mp h1;exact absurd ((h x.1).mp (bw.mpr (.inl ⟨by omega,by omega⟩))) cQ
 | x::a,y::b,ha,hb,h=>by
  obtain⟨r1,s1,n1⟩:=eO.mp ha;obtain⟨r2,s2,n2⟩:=eO.mp hb;have e1:=bG.mp r1;have e2:=bG.mp r2;have la:∀t,Tm a t->x.2<t:=fun t ⟨s,hs,h1,_⟩=>by have:=s1 s hs;omega
  have lb:∀t,Tm b t->y.2<t:=fun t ⟨s,hs,h1,_⟩=>by have:=s2 s hs;omega
  have f1:y.1<=x.1:=by
   rcases bw.mp ((h x.1).mp (bw.mpr (.inl ⟨by omega,by omega⟩))) with k|k
   .omega
   .have:=lb _ k;omega
  have f2:x.1<=y.1:=by
   rcases bw.mp ((h y.1).mpr (bw.mpr (.inl ⟨by omega,by omega⟩))) with k|k
   .omega
   .have:=la _ k;omega
  have g1:¬x.2<y.2:=fun Ja=>by
   rcases bw.mp ((h x.2).mpr (bw.mpr (.inl ⟨by omega,by omega⟩))) with k|k
   .omega
   .have:=la _ k;omega
  have g2:¬y.2<x.2:=fun Ja=>by
   rcases bw.mp ((h y.2).mp (bw.mpr (.inl ⟨by omega,by omega⟩))) with k|k
   .omega
   .have:=lb _ k;omega
  have Mz:x=y:=Prod.ext (by omega) (by omega);subst Mz;rw[lB n1 n2 fun t=>?_];constructor
  .intro k;rcases bw.mp ((h t).mp (bw.mpr (.inr k))) with k2|k2
   .have:=la t k;omega
   .exact k2
  .intro k;rcases bw.mp ((h t).mpr (bw.mpr (.inr k))) with k2|k2
   .have:=lb t k;omega
   .exact k2
def jz(b a:List fN)(s:fN):List fN->List fN
 | []=>b++s::a
 | x::l=>if x.2<s.1 then jz (b++[x]) a s l else if s.2<x.1 then jz b (a++[x]) s l else jz b a (min s.1 x.1,max s.2 x.2) l
def lY(l:List fN)(s:fN):List fN:=jz [] [] s l
theorem nj:∀(l b a:List fN) (s:fN),dX s=true->ee b->ee a->ee l->(∀x∈b,x.2<s.1)->(∀x∈a,s.2<x.1)->(∀x∈b,∀y∈l,x.2<y.1)->(∀x∈a,∀y∈l,x.2<y.1) ->
  ee (jz b a s l)/\∀t,Tm (jz b a s l) t↔Tm b t\/Tm a t\/Tm l t\/(s.1<=t/\t<s.2)
 | [],b,a,s,hs,hb,ha,_,h1,h2,_,_=>by
  have e:=bG.mp hs;refine⟨gF.mpr ⟨hb,eO.mpr ⟨hs,h2,ha⟩,fun x hx y hy=>?_⟩,fun t=>?_⟩
  .rcases List.mem_cons.mp hy with k|k
   .subst k;exact h1 x hx
   .have:=h1 x hx;have:=h2 y k;omega
  .unfold jz;rw[mh,bw];constructor
   .rintro (k|k|k)
    .exact .inl k
    .exact .inr (.inr (.inr k))
    .exact .inr (.inl k)
   .rintro (k|k|k|k)
    .exact .inl k
    .exact .inr (.inr k)
    .exact absurd k cQ
    .exact .inr (.inl k)
 | x::l,b,a,s,hs,hb,ha,hl,h1,h2,h3,h4=>by
  have e:=bG.mp hs;obtain⟨rx,sx,nl⟩:=eO.mp hl;have ex:=bG.mp rx;unfold jz;split
  .rename_i hc
   obtain⟨i1,i2⟩:=nj l (b++[x]) a s hs (gF.mpr ⟨hb,fZ.mpr rx,fun y hy z hz=>by
    have:=List.mem_singleton.mp hz;subst this;exact h3 y hy _ (by simp)⟩) ha nl (fun y hy=>by
    rcases List.mem_append.mp hy with k|k
    .exact h1 y k
    .have:=List.mem_singleton.mp k;subst this;exact hc) h2 (fun y hy z hz=>by
    rcases List.mem_append.mp hy with k|k
    .exact h3 y k z (by simp[hz])
    .have:=List.mem_singleton.mp k;subst this;exact sx z hz) (fun y hy z hz=>h4 y hy z (by simp[hz]))
   refine⟨i1,fun t=>?_⟩;rw[i2,mh,bw,bw];constructor
   .rintro ((k|k|k)|k|k|k)
    .exact .inl k
    .exact .inr (.inr (.inl (.inl k)))
    .exact absurd k cQ
    .exact .inr (.inl k)
    .exact .inr (.inr (.inl (.inr k)))
    .exact .inr (.inr (.inr k))
   .rintro (k|k|(k|k)|k)
    .exact .inl (.inl k)
    .exact .inr (.inl k)
    .exact .inl (.inr (.inl k))
    .exact .inr (.inr (.inl k))
    .exact .inr (.inr (.inr k))
  .rename_i hc;split
   .rename_i hd
    obtain⟨i1,i2⟩:=nj l b (a++[x]) s hs hb (gF.mpr ⟨ha,fZ.mpr rx,fun y hy z hz=>by
     have:=List.mem_singleton.mp hz;subst this;exact h4 y hy _ (by simp)⟩) nl h1 (fun y hy=>by
     rcases List.mem_append.mp hy with k|k
     .exact h2 y k
     .have:=List.mem_singleton.mp k;subst this;exact hd) (fun y hy z hz=>h3 y hy z (by simp[hz])) (fun y hy z hz=>by
     rcases List.mem_append.mp hy with k|k
     .exact h4 y k z (by simp[hz])
     .have:=List.mem_singleton.mp k;subst this;exact sx z hz)
    refine⟨i1,fun t=>?_⟩;rw[i2,mh,bw,bw];constructor
    .rintro (k|(k|k|k)|k|k)
     .exact .inl k
     .exact .inr (.inl k)
     .exact .inr (.inr (.inl (.inl k)))
     .exact absurd k cQ
     .exact .inr (.inr (.inl (.inr k)))
     .exact .inr (.inr (.inr k))
    .rintro (k|k|(k|k)|k)
     .exact .inl k
     .exact .inr (.inl (.inl k))
     .exact .inr (.inl (.inr (.inl k)))
     .exact .inr (.inr (.inl k))
     .exact .inr (.inr (.inr k))
   .rename_i hd
    obtain⟨i1,i2⟩:=nj l b a (min s.1 x.1,max s.2 x.2) (bG.mpr ⟨by simp only;omega,by simp only;omega,by simp only;omega⟩) hb ha nl (fun y hy=>by
     have:=h1 y hy;have:=h3 y hy x (by simp);simp only;omega) (fun y hy=>by
     have:=h2 y hy;have:=h4 y hy x (by simp);have:=bG.mp (ha.rg y hy);simp only;omega) (fun y hy z hz=>h3 y hy z (by simp[hz])) (fun y hy z hz=>h4 y hy z (by simp[hz]))
    refine⟨i1,fun t=>?_⟩;rw[i2,bw];simp only;constructor
    .rintro (k|k|k|k)
     .exact .inl k
     .exact .inr (.inl k)
     .exact .inr (.inr (.inl (.inr k)))
     .by_cases h:s.1<=t/\t<s.2
      .exact .inr (.inr (.inr h))
      .exact .inr (.inr (.inl (.inl (by omega))))
    .rintro (k|k|(k|k)|k)
     .exact .inl k
     .exact .inr (.inl k)
     .exact .inr (.inr (.inr (by omega)))
     .exact .inr (.inr (.inl k))
     .exact .inr (.inr (.inr (by omega)))
def AU{l:List fN}{s:fN}(hl:ee l)(hs:dX s=true):ee (lY l s)/\∀t,Tm (lY l s) t↔Tm l t\/(s.1<=t/\t<s.2):=by
 obtain⟨h1,h2⟩:=nj l [] [] s hs fo fo hl (by simp) (by simp) (by simp) (by simp);refine⟨h1,fun t=>?_⟩;unfold lY;rw[h2];constructor
 .rintro (k|k|k|k)
  .exact absurd k cQ
  .exact absurd k cQ
  .exact .inl k
  .exact .inr k
 .rintro (k|k)
  .exact .inr (.inr (.inl k))
  .exact .inr (.inr (.inr k))
def jw(l:List fN):List fN:=l.foldl (fun out x=>if dX x=true then lY out x else out) []
theorem qU:∀(l out:List fN),ee out->ee (l.foldl (fun out x=>if dX x=true then lY out x else out) out)/\∀t,Tm (l.foldl (fun out x=>if dX x=true then lY out x else out) out) t↔Tm out t\/Tm (l.filter fun x=>dX x) t
 | [],out,h=>⟨h,fun t=>⟨.inl,fun k=>k.resolve_right (by simpa using cQ)⟩⟩
 | x::l,out,h=>by
  rw[VD];by_cases hx:dX x=true
  .rw[if_pos hx,Vy,if_pos hx];obtain⟨i1,i2⟩:=AU h hx;obtain⟨j1,j2⟩:=qU l _ i1;refine⟨j1,fun t=>?_⟩;rw[j2,i2,bw];constructor
   .rintro ((k|k)|k)
    .exact .inl k
    .exact .inr (.inl k)
    .exact .inr (.inr k)
   .rintro (k|k|k)
    .exact .inl (.inl k)
    .exact .inl (.inr k)
    .exact .inr k
  .rw[if_neg hx,Vy,if_neg hx];exact qU l out h
def Tr(l:List fN)(t:Int):Prop:=Tm (l.filter fun x=>dX x) t
def iE(l:List fN):ee (jw l)/\∀t,Tm (jw l) t↔Tr l t:=by
 obtain⟨h1,h2⟩:=qU l [] fo;exact⟨h1,fun t=>by unfold jw;rw[h2];exact⟨fun k=>k.resolve_left cQ,.inr⟩⟩
def DK{l:List fN}(h:ee l):(l.filter fun x=>dX x)=l:=by
 rw[List.filter_eq_self];exact h.rg
def Hl{l:List fN}(h:ee l)(t:Int):Tr l t↔Tm l t:=by unfold Tr;rw[DK h]
def oI(pre:List fN)(y:fN):List fN->List fN
 | []=>pre++[y]
 | s::l=>if s.1<=y.2 then oI pre (y.1,max y.2 s.2) l else oI (pre++[y]) s l
def Fj:List fN->List fN
 | []=>[]
 | s::l=>oI [] s l
theorem q9:∀(l pre:List fN) (y:fN),ee (pre++[y])->(∀s∈l,dX s=true)->(∀s∈l,y.1<=s.1)->(l.Pairwise fun a b=>a.1<=b.1) ->
  ee (oI pre y l)/\∀t,Tm (oI pre y l) t↔Tm (pre++[y]) t\/Tm l t
 | [],pre,y,h,_,_,_=>⟨h,fun t=>⟨.inl,fun k=>k.resolve_right cQ⟩⟩
 | s::l,pre,y,h,hr,hy,hp=>by
  obtain⟨n1,n2,n3⟩:=gF.mp h;have ry:=bG.mp (fZ.mp n2);have rs:=bG.mp (hr s (by simp));have KK:=List.pairwise_cons.mp hp;have hys:=hy s (by simp);unfold oI;split
  .rename_i hc
   obtain⟨i1,i2⟩:=q9 l pre (y.1,max y.2 s.2) (gF.mpr ⟨n1,fZ.mpr (bG.mpr ⟨by simp only;omega,by simp only;omega,by simp only;omega⟩),fun x hx z hz=>by
    have:=List.mem_singleton.mp hz;subst this;exact n3 x hx y (by simp)⟩) (fun z hz=>hr z (by simp[hz])) (fun z hz=>hy z (by simp[hz])) KK.2
   refine⟨i1,fun t=>?_⟩;rw[i2,mh,mh,bw,bw,bw];simp only;constructor
   .rintro ((k|k|k)|k)
    .exact .inl (.inl k)
    .by_cases h2:t<y.2
     .exact .inl (.inr (.inl ⟨k.1,h2⟩))
     .exact .inr (.inl (by omega))
    .exact absurd k cQ
    .exact .inr (.inr k)
   .rintro ((k|k|k)|k|k)
    .exact .inl (.inl k)
    .exact .inl (.inr (.inl (by omega)))
    .exact absurd k cQ
    .exact .inl (.inr (.inl (by omega)))
    .exact .inr k
  .rename_i hc
   obtain⟨i1,i2⟩:=q9 l (pre++[y]) s (gF.mpr ⟨h,fZ.mpr (hr s (by simp)),fun x hx z hz=>by
    have:=List.mem_singleton.mp hz;subst this;rcases List.mem_append.mp hx with k|k
    .have:=n3 x k y (by simp);omega
    .have:=List.mem_singleton.mp k;subst this;omega⟩) (fun z hz=>hr z (by simp[hz])) KK.1 KK.2
   refine⟨i1,fun t=>?_⟩;rw[i2,mh (a:=pre++[y]),bw (l:=l),bw (l:=[])];constructor
   .rintro ((k|k|k)|k)
    .exact .inl k
    .exact .inr (.inl k)
    .exact absurd k cQ
    .exact .inr (.inr k)
   .rintro (k|k|k)
    .exact .inl (.inl k)
    .exact .inl (.inr (.inl k))
    .exact .inr k
theorem mrg_spec{l:List fN}(hr:∀s∈l,dX s=true)(hp:l.Pairwise fun a b=>a.1<=b.1):ee (Fj l)/\∀t,Tm (Fj l) t↔Tm l t:=by
 cases l with
 | nil=>exact⟨fo,fun t=>Iff.rfl⟩
 | cons s l=>
  have KK:=List.pairwise_cons.mp hp;obtain⟨h1,h2⟩:=q9 l [] s (fZ.mpr (hr s (by simp))) (fun z hz=>hr z (by simp[hz])) KK.1 KK.2;refine⟨h1,fun t=>?_⟩;show Tm (oI [] s l) t↔_;rw[h2,UH,bw (l:=l),bw (l:=[])];constructor
  .rintro ((k|k)|k)
   .exact .inl k
   .exact absurd k cQ
   .exact .inr k
  .rintro (k|k)
   .exact .inl (.inl k)
   .exact .inr k
def mrg_uni{l m:List fN}(h:m.Perm (l.filter fun x=>dX x))(hp:m.Pairwise fun a b=>a.1<=b.1):Fj m=jw l:=by
 have hr:∀s∈m,dX s=true:=fun s hs=>by
  have:=(h.mem_iff).mp hs;simpa using(List.mem_filter.mp this).2
 obtain⟨h1,h2⟩:=mrg_spec hr hp;obtain⟨h3,h4⟩:=iE l;refine lB h1 h3 fun t=>?_;rw[h2,h4];unfold Tr Tm;constructor
 .rintro⟨s,hs,k⟩;exact⟨s,h.mem_iff.mp hs,k⟩
 .rintro⟨s,hs,k⟩;exact⟨s,h.mem_iff.mpr hs,k⟩
end Go.Eng
