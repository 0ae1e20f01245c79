/- Part 1 of the texts behind this claim. -/
import Derived.Test.YtpdacimgcojgnaaGreatDoorCtxS
import Derived.Test.YtpdacimgcojgnaaGreatDoorEngV
import Derived.Test.YtpdacimgcojgnaaGreatDoorAt
import Derived.Test.YtpdacimgcojgnaaGreatDoorLu
import Derived.Test.YtpdacimgcojgnaaGreatDoorPt
set_option linter.all false

namespace Go.Eng
open Go.Proofs

structure Grp where
 id:Int
 name:ByteArray
 people:List Int
 subs:List Int
 pv:AV
 sv:AV
def encG (g:Grp):List AV:=[.int .i64 g.id,.str g.name,g.pv,g.sv]
structure Grp.ok (g:Grp):Prop where
 pv:SLs 1 (ints g.people) g.pv
 sv:SLs 1 (ints g.subs) g.sv

end Go.Eng

/- Groups and persons: finding, membership. -/
namespace Go.Eng
open Go.Proofs
attribute [local irreducible] wpC wpO wp1 EvV EvR wpL
attribute [local go_sem] ty3 ty4 ty9 ty24 ty29 ty68 ty119 br95 br96 allocK fz38 br124 fz183 br97 fz119 fz182 reduceIte Nat.reduceAdd Nat.reduceEqDiff Nat.reduceLT Nat.reduceLeDiff beq_iff_eq beq_eq_false_iff_ne Int.natCast_inj Bool.not_eq_false' zbD zbx zaE za9 zaw zas za7 zF zaB zaD zE zax zbw zP zH za8 zI zba zaC zbv zbu zL zar zR zaz zQ zay zS zaA za5 zat zae zbd zaG zbc zbb zbe zby zaF zaY zao zaX zaZ zav zaW zaV zaI zaK zaf zac zW z8 zbg zaJ boxK storeK zaq zaM zam zaN zbm zau zbz zbf zX zaa zaP zaQ zan zbn zaO zbr zaU zbp zbA zbs zbo zbq zaR zbC zaS zaT List.all_cons List.all_nil Bool.and_true Bool.and_self Bool.true_and z7 zaH List.set_cons_zero List.set_cons_succ List.length_cons List.length_nil List.nil_append List.cons_append stabL AV.stab fieldAddrA fieldA List.getElem?_cons_zero List.getElem?_cons_succ Nat.zero_add loadA rowOf Nat.le_refl and_self true_and and_true partA binA unA intBin eqBin eqCells eqCell Option.bind_some decide_true decide_false decide_eq_true_eq ite_not Bool.not_eq_true' decide_eq_false_iff_not Bool.false_eq_true Option.map_some Option.map_none Bool.not_true Bool.not_false buildA fillA patch List.take List.drop List.map_cons List.map_nil extK List.getD_cons_zero List.getD_cons_succ minmaxA minmaxGo zJ zV zak zU zai zT zal zaj zah zag zaL zbk zbi zbl zbj zbh bne Bool.false_and Bool.and_false ne_eq not_true_eq_false not_false_eq_true List.append_nil resultsR resultsL resultA za3 zap za2 za4 za0 za1 zZ zbK zad zO zD zbB

def idxOf (l:List Int) (n:Int):Nat→Option Nat
 | k=>match l with
  | []=>none
  | x::l=>if n=x then some k else idxOf l n (k+1)
def codeOf:Option Nat→Int
 | some k=>(k:Int)
 | none=> -1

theorem idxOf_contains (l:List Int) (n:Int):∀ k,(idxOf l n k).isSome=l.contains n:=by
 induction l with
 | nil=>intro k;rfl
 | cons x l ih=>
  intro k
  unfold idxOf
  by_cases h:n=x
  ·subst h;simp
  ·simp only [h,if_false,ih,List.contains_cons];simp [h]
theorem codeOf_pos (o:Option Nat):decide (0≤codeOf o)=o.isSome:=by
 cases o with
 | none=>rfl
 | some k=>simp [codeOf]

theorem indexE (v:AV) (l:List Int) (n:Int) (hv:SLs 1 (ints l) v) (hl:l.length<9223372036854775807):EvV CX 124 [v,.int .i64 n] (· = .int .i64 (codeOf (idxOf l n 0))):=by
 refine EvV.walk rfl fn124 rfl nt124 rfl ?_
 simp only [List.length_cons,List.length_nil,List.cons_append,List.nil_append,Nat.reduceAdd,Nat.reduceSub,List.replicate]
 repeat' (first|refine go1 ?_|refine za rfl ?_|(refine go2 fun A B a b=>?_;simp only [go_sem, *,zA hv];(repeat' first|apply a.1|apply b.1|refine iteI (fun h=>?_) fun h=>?_)<;>clear a b A B))
 refine zbS [4,5,9,10,11,12,13,14,15,16,17,18] 8 l (fun pre post=>idxOf l n 0=idxOf post n pre.length) ?_ ?_ ?_ ?_
 ·rfl
 ·rfl
 ·intro g G h2
  rw [h2];simp only [zo,zq,zd,zf,List.set_cons_zero,List.set_cons_succ]
  repeat' (first|refine go1 ?_|refine za rfl ?_|(refine go2 fun A B a b=>?_;simp only [go_sem, *,zc,List.length_map,Int.lt_irrefl];(repeat' first|apply a.1|apply b.1|refine iteI (fun h=>?_) fun h=>?_)<;>clear a b A B))
  simp only [go_sem]
  rfl
 ·intro g G pre x post h1 h2
  rw [h2];subst h1;simp only [zo,zq,zd,zf,List.set_cons_zero,List.set_cons_succ]
  have i1:=zbE hv (X:=CX) ty29 ty3 rfl (zb8 pre x post) (k := .i64)
  have w1:=zB (n:=pre.length) (by simp at hl;omega)
  by_cases hx:n=x
  ·subst hx
   repeat' (first|refine go1 ?_|refine za rfl ?_|(refine go2 fun A B a b=>?_;simp only [go_sem, *,zb,ze,zm,zp,zj,zc,List.length_map,zK,beq_self_eq_true];(repeat' first|apply a.1|apply b.1|refine iteI (fun h=>?_) fun h=>?_)<;>clear a b A B))
   simp only [go_sem]
   simp [idxOf,codeOf]
  ·have hx':(n == x)=false:=by simpa using hx
   have hh:Hold (¬n=x):=⟨hx⟩
   clear hx
   repeat' (first|refine go1 ?_|refine za rfl ?_|(refine go2 fun A B a b=>?_;simp only [go_sem, *,zb,ze,zm,zp,zj,zc,List.length_map,zK,hx'];(repeat' first|apply a.1|apply b.1|refine iteI (fun h=>?_) fun h=>?_)<;>clear a b A B))
   refine zbH rfl ?_ ?_ ?_
   ·rw [idxOf,if_neg hh.out,zn]
   ·((try simp only [zg,zi,zd,zf,List.set_cons_zero,List.set_cons_succ]);all_goals (first|rfl|(simp only [zn,zj,zc,List.length_map,List.length_append,List.length_cons,List.length_nil,Nat.zero_add];first|done|rfl)))
   ·first|exact⟨[],(List.append_nil _).symm⟩|exact⟨_,rfl⟩|(simp only [List.append_assoc,List.cons_append,List.nil_append];exact⟨_,rfl⟩)

theorem containsE (v:AV) (l:List Int) (n:Int) (hv:SLs 1 (ints l) v) (hl:l.length<9223372036854775807):EvV CX 97 [v,.int .i64 n] (· = .bool (l.contains n)):=by
 have q:=(indexE v l n hv hl).rw
 have e:decide (0≤codeOf (idxOf l n 0))=l.contains n:=by rw [codeOf_pos,idxOf_contains]
 refine EvV.walk rfl fn97 rfl nt97 rfl ?_
 simp only [List.length_cons,List.length_nil,List.cons_append,List.nil_append,Nat.reduceAdd,Nat.reduceSub,List.replicate]
 repeat' (first|refine go1 ?_|refine za rfl ?_|(refine go2 fun A B a b=>?_;simp only [go_sem, *,hv.snap];(repeat' first|apply a.1|apply b.1|refine iteI (fun h=>?_) fun h=>?_)<;>clear a b A B))
 simp only [go_sem,e]

theorem hasN (v:AV) (l:List Int) (n:Int) (hv:SLs 1 (ints l) v) (hl:l.length<9223372036854775807):EvV CX 64 [v,.int .i64 n] (· = .bool (l.contains n)):=by
 have q:=(containsE v l n hv hl).rw
 refine EvV.walk rfl fn64 rfl nt64 rfl ?_
 simp only [List.length_cons,List.length_nil,List.cons_append,List.nil_append,Nat.reduceAdd,Nat.reduceSub,List.replicate]
 repeat' (first|refine go1 ?_|refine za rfl ?_|(refine go2 fun A B a b=>?_;simp only [go_sem, *,hv.snap];(repeat' first|apply a.1|apply b.1|refine iteI (fun h=>?_) fun h=>?_)<;>clear a b A B))
 simp only [go_sem]

theorem find1E (g:Grp) (n:Int) (st:Bool) (hg:g.ok):EvV CX 96 [.agg (encG g),.tptr st [.int .i64 n] 0] (· = .bool (g.id == n)):=by
 have c1:=hg.pv.cell
 have c2:=hg.sv.cell
 refine EvV.walk rfl fn96 rfl nt96 rfl ?_
 simp only [List.length_cons,List.length_nil,List.cons_append,List.nil_append,Nat.reduceAdd,Nat.reduceSub,List.replicate]
 repeat' (first|refine go1 ?_|refine za rfl ?_|(refine go2 fun A B a b=>?_;simp only [go_sem, *,encG];(repeat' first|apply a.1|apply b.1|refine iteI (fun h=>?_) fun h=>?_)<;>clear a b A B))
 simp only [go_sem]

def gIdx (l:List Grp) (n:Int):Nat→Option Nat
 | k=>match l with
  | []=>none
  | g::l=>if g.id=n then some k else gIdx l n (k+1)

theorem indexFE (v:AV) (gs:List Grp) (n:Int) (st:Bool) (hv:SLs 4 (gs.map encG) v) (hok:∀ g∈gs,g.ok) (hl:gs.length<9223372036854775807):EvV CX 95 [v,.fn 96 [.tptr st [.int .i64 n] 0]] (· = .int .i64 (codeOf (gIdx gs n 0))):=by
 have hs:∀ S,snap S (.tptr st [.int .i64 n] 0)=some (.tptr st [.int .i64 n] 0):=fun S=>by simp only [snap]
 have b1:CX.byRef 96=false:=br96
 refine EvV.walk rfl fn95 rfl nt95 rfl ?_
 simp only [List.length_cons,List.length_nil,List.cons_append,List.nil_append,Nat.reduceAdd,Nat.reduceSub,List.replicate]
 repeat' (first|refine go1 ?_|refine za rfl ?_|(refine go2 fun A B a b=>?_;simp only [go_sem, *,zA hv];(repeat' first|apply a.1|apply b.1|refine iteI (fun h=>?_) fun h=>?_)<;>clear a b A B))
 refine zbS [4,5,9,10,11,12,13,14,15,16,17,18] 8 gs (fun pre post=>gIdx gs n 0=gIdx post n pre.length) ?_ ?_ ?_ ?_
 ·rfl
 ·rfl
 ·intro g G h2
  rw [h2];simp only [zo,zq,zd,zf,List.set_cons_zero,List.set_cons_succ]
  repeat' (first|refine go1 ?_|refine za rfl ?_|(refine go2 fun A B a b=>?_;simp only [go_sem, *,zc,List.length_map,Int.lt_irrefl];(repeat' first|apply a.1|apply b.1|refine iteI (fun h=>?_) fun h=>?_)<;>clear a b A B))
  simp only [go_sem]
  rfl
 ·intro g G pre x post h1 h2
  rw [h2];subst h1;simp only [zo,zq,zd,zf,List.set_cons_zero,List.set_cons_succ]
  have i1:=zbE hv (X:=CX) ty24 ty68 rfl (zcf encG pre x post) (k := .i64)
  have w1:=zB (n:=pre.length) (by simp at hl;omega)
  have hx:=hok x (by simp)
  have c1:=hx.pv.cell
  have c2:=hx.sv.cell
  have s1:=hx.pv.snap
  have s2:=hx.sv.snap
  have q:=(find1E x n st hx).rw
  simp only [encG] at q
  by_cases hx:x.id=n
  ·have hx':(x.id == n)=true:=by simpa using hx
   rw [hx'] at q
   have hh:Hold (x.id=n):=⟨hx⟩
   clear hx
   repeat' (first|refine go1 ?_|refine za rfl ?_|(refine go2 fun A B a b=>?_;simp only [go_sem, *,zb,ze,zm,zp,zj,zc,List.length_map,zK,encG];(repeat' first|apply a.1|apply b.1|refine iteI (fun h=>?_) fun h=>?_)<;>clear a b A B))
   simp only [go_sem]
   simp [gIdx,codeOf,hh.out]
  ·have hx':(x.id == n)=false:=by simpa using hx
   rw [hx'] at q
   have hh:Hold (¬x.id=n):=⟨hx⟩
   clear hx
   repeat' (first|refine go1 ?_|refine za rfl ?_|(refine go2 fun A B a b=>?_;simp only [go_sem, *,zb,ze,zm,zp,zj,zc,List.length_map,zK,encG];(repeat' first|apply a.1|apply b.1|refine iteI (fun h=>?_) fun h=>?_)<;>clear a b A B))
   refine zbH rfl ?_ ?_ ?_
   ·rw [gIdx,if_neg hh.out,zn]
   ·((try simp only [zg,zi,zd,zf,List.set_cons_zero,List.set_cons_succ]);all_goals (first|rfl|(simp only [zn,zj,zc,List.length_map,List.length_append,List.length_cons,List.length_nil,Nat.zero_add];first|done|rfl)))
   ·first|exact⟨[],(List.append_nil _).symm⟩|exact⟨_,rfl⟩|(simp only [List.append_assoc,List.cons_append,List.nil_append];exact⟨_,rfl⟩)

def gFind (gs:List Grp) (n:Int):Option Grp:=gs.find? fun g=>g.id == n
def noGrp:AV := .agg [.int .i64 0,.str .empty,.flat (.slice none 0 0),.flat (.slice none 0 0)]
theorem gIdx_find (gs:List Grp) (n:Int):∀ k,(gIdx gs n k=none∧gFind gs n=none)∨∃ a g b,gs=a++g::b∧gIdx gs n k=some (k+a.length)∧gFind gs n=some g:=by
 induction gs with
 | nil=>intro k;exact .inl ⟨rfl,rfl⟩
 | cons x gs ih=>
  intro k
  by_cases h:x.id=n
  ·refine .inr ⟨[],x,gs,rfl,?_,?_⟩
   ·rw [gIdx,if_pos h];rfl
   ·simp [gFind,h]
  ·have e:gFind (x::gs) n=gFind gs n:=by simp [gFind,h]
   rw [gIdx,if_neg h,e]
   rcases ih (k+1) with ⟨h1,h2⟩|⟨a,g,b,h1,h2,h3⟩
   ·exact .inl ⟨h1,h2⟩
   ·exact .inr ⟨x::a,g,b,by rw [h1];rfl,by rw [h2];simp;omega,h3⟩

theorem findE (v:AV) (gs:List Grp) (n:Int) (hv:SLs 4 (gs.map encG) v) (hok:∀ g∈gs,g.ok) (hst:∀ g∈gs,g.pv.stab=true∧g.sv.stab=true) (hl:gs.length<9223372036854775807) :
  EvV CX 63 [v,.int .i64 n] (· = match gFind gs n with|some g=> .tup [.agg (encG g),.bool true]|none=> .tup [noGrp,.bool false]):=by
 have q:=(indexFE v gs n false hv hok hl).rw
 have hs:∀ (C:Store),snap (.arr [[.int .i64 n]] 1 0 true::C) (.ptr 0 1 1 0 0)=some (.tptr false [.int .i64 n] 0):=fun C=>by
  simp [snap,rowOf,cleanL,AV.clean]
 rcases gIdx_find gs n 0 with ⟨h1,h2⟩|⟨a,g,b,h1,h2,h3⟩
 ·rw [h2]
  rw [h1] at q
  have z:(-1:Int)<0:=by omega
  have e:codeOf none = -1:=rfl
  rw [e] at q
  refine EvV.walk rfl fn63 rfl nt63 rfl ?_
  simp only [List.length_cons,List.length_nil,List.cons_append,List.nil_append,Nat.reduceAdd,Nat.reduceSub,List.replicate]
  repeat' (first|refine go1 ?_|refine za rfl ?_|(refine go2 fun A B a b=>?_;simp only [go_sem, *,hv.snap];(repeat' first|apply a.1|apply b.1|refine iteI (fun h=>?_) fun h=>?_)<;>clear a b A B))
  simp only [go_sem,zcv]
  simp [idsOK,ownIds,lentIds,cellIds,expTops,expTop,expCells,expCell,AV.stab,noGrp]
 ·rw [h3]
  rw [h2] at q
  have hal:a.length<gs.length:=by rw [h1];simp
  have z:¬((a.length:Nat):Int)<0:=by omega
  have e:codeOf (some (0+a.length))=((a.length:Nat):Int):=by simp [codeOf]
  rw [e] at q
  have hgm:g∈gs:=by rw [h1];simp
  have hx:=hok g hgm
  have c1:=hx.pv.cell
  have c2:=hx.sv.cell
  obtain⟨t1,t2⟩:=hst g hgm
  have i1:=zbE hv (X:=CX) ty24 ty68 rfl (n:=a.length) (row:=encG g) (k := .i64) (by rw [h1];exact zcf encG a g b)
  refine EvV.walk rfl fn63 rfl nt63 rfl ?_
  simp only [List.length_cons,List.length_nil,List.cons_append,List.nil_append,Nat.reduceAdd,Nat.reduceSub,List.replicate]
  repeat' (first|refine go1 ?_|refine za rfl ?_|(refine go2 fun A B a b=>?_;simp only [go_sem, *,hv.snap,encG];(repeat' first|apply a.1|apply b.1|refine iteI (fun h=>?_) fun h=>?_)<;>clear a b A B))
  simp only [go_sem,zcv]
  have k1:∀ S,expCell S g.pv=some g.pv:=fun S=>by cases hpv:g.pv<;>rw [hpv] at t1<;>simp_all [expCell,AV.stab]
  have k2:∀ S,expCell S g.sv=some g.sv:=fun S=>by cases hpv:g.sv<;>rw [hpv] at t2<;>simp_all [expCell,AV.stab]
  have k3:∀ (S:Store) (m:Int),expCell S (.int .i64 m)=some (.int .i64 m):=fun _ _=>rfl
  have k4:∀ (S:Store) (m:ByteArray),expCell S (.str m)=some (.str m):=fun _ _=>rfl
  have k5:∀ (S:Store) (m:Bool),expTop S (.bool m)=some (.bool m):=fun _ _=>rfl
  rw [if_pos (show idsOK _=true from rfl)]
  simp only [expTops,expTop,expCells,k1,k2,k3,k4,k5,encG]
  simp [AV.stab]

/- Persons; increasing lists as the code tests them. -/
open Go.Proofs
attribute [local go_sem] ty23 ty66 ty122 br99 br100 fz113
set_option maxHeartbeats 4000000

structure Psn where
 id:Int
 name:ByteArray
 mem:Bool
def encP (p:Psn):List AV:=[.int .i64 p.id,.str p.name,.bool p.mem]

theorem person1E (p:Psn) (n:Int) (st:Bool):EvV CX 100 [.agg (encP p),.tptr st [.int .i64 n] 0] (· = .bool (p.id == n)):=by
 refine EvV.walk rfl fn100 rfl nt100 rfl ?_
 simp only [List.length_cons,List.length_nil,List.cons_append,List.nil_append,Nat.reduceAdd,Nat.reduceSub,List.replicate]
 repeat' (first|refine go1 ?_|refine za rfl ?_|(refine go2 fun A B a b=>?_;simp only [go_sem, *,encP];(repeat' first|apply a.1|apply b.1|refine iteI (fun h=>?_) fun h=>?_)<;>clear a b A B))
 simp only [go_sem]

def pIdx (l:List Psn) (n:Int):Nat→Option Nat
 | k=>match l with
  | []=>none
  | g::l=>if g.id=n then some k else pIdx l n (k+1)

theorem indexPE (v:AV) (ps:List Psn) (n:Int) (st:Bool) (hv:SLs 3 (ps.map encP) v) (hl:ps.length<9223372036854775807):EvV CX 99 [v,.fn 100 [.tptr st [.int .i64 n] 0]] (· = .int .i64 (codeOf (pIdx ps n 0))):=by
 have hs:∀ S,snap S (.tptr st [.int .i64 n] 0)=some (.tptr st [.int .i64 n] 0):=fun S=>by simp only [snap]
 have b1:CX.byRef 100=false:=br100
 refine EvV.walk rfl fn99 rfl nt99 rfl ?_
 simp only [List.length_cons,List.length_nil,List.cons_append,List.nil_append,Nat.reduceAdd,Nat.reduceSub,List.replicate]
 repeat' (first|refine go1 ?_|refine za rfl ?_|(refine go2 fun A B a b=>?_;simp only [go_sem, *,zA hv];(repeat' first|apply a.1|apply b.1|refine iteI (fun h=>?_) fun h=>?_)<;>clear a b A B))
 refine zbS [4,5,9,10,11,12,13,14,15,16,17,18] 8 ps (fun pre post=>pIdx ps n 0=pIdx post n pre.length) ?_ ?_ ?_ ?_
 ·rfl
 ·rfl
 ·intro g G h2
  rw [h2];simp only [zo,zq,zd,zf,List.set_cons_zero,List.set_cons_succ]
  repeat' (first|refine go1 ?_|refine za rfl ?_|(refine go2 fun A B a b=>?_;simp only [go_sem, *,zc,List.length_map,Int.lt_irrefl];(repeat' first|apply a.1|apply b.1|refine iteI (fun h=>?_) fun h=>?_)<;>clear a b A B))
  simp only [go_sem]
  rfl
 ·intro g G pre x post h1 h2
  rw [h2];subst h1;simp only [zo,zq,zd,zf,List.set_cons_zero,List.set_cons_succ]
  have i1:=zbE hv (X:=CX) ty23 ty66 rfl (zcf encP pre x post) (k := .i64)
  have w1:=zB (n:=pre.length) (by simp at hl;omega)
  have q:=(person1E x n st).rw
  simp only [encP] at q
  by_cases hx:x.id=n
  ·have hx':(x.id == n)=true:=by simpa using hx
   rw [hx'] at q
   have hh:Hold (x.id=n):=⟨hx⟩
   clear hx
   repeat' (first|refine go1 ?_|refine za rfl ?_|(refine go2 fun A B a b=>?_;simp only [go_sem, *,zb,ze,zm,zp,zj,zc,List.length_map,zK,encP];(repeat' first|apply a.1|apply b.1|refine iteI (fun h=>?_) fun h=>?_)<;>clear a b A B))
   simp only [go_sem]
   simp [pIdx,codeOf,hh.out]
  ·have hx':(x.id == n)=false:=by simpa using hx
   rw [hx'] at q
   have hh:Hold (¬x.id=n):=⟨hx⟩
   clear hx
   repeat' (first|refine go1 ?_|refine za rfl ?_|(refine go2 fun A B a b=>?_;simp only [go_sem, *,zb,ze,zm,zp,zj,zc,List.length_map,zK,encP];(repeat' first|apply a.1|apply b.1|refine iteI (fun h=>?_) fun h=>?_)<;>clear a b A B))
   refine zbH rfl ?_ ?_ ?_
   ·rw [pIdx,if_neg hh.out,zn]
   ·((try simp only [zg,zi,zd,zf,List.set_cons_zero,List.set_cons_succ]);all_goals (first|rfl|(simp only [zn,zj,zc,List.length_map,List.length_append,List.length_cons,List.length_nil,Nat.zero_add];first|done|rfl)))
   ·first|exact⟨[],(List.append_nil _).symm⟩|exact⟨_,rfl⟩|(simp only [List.append_assoc,List.cons_append,List.nil_append];exact⟨_,rfl⟩)

def pFind (ps:List Psn) (n:Int):Option Psn:=ps.find? fun p=>p.id == n
def noP:Psn:=⟨0,.empty,false⟩
theorem pIdx_find (ps:List Psn) (n:Int):∀ k,(pIdx ps n k=none∧pFind ps n=none)∨∃ a g b,ps=a++g::b∧pIdx ps n k=some (k+a.length)∧pFind ps n=some g:=by
 induction ps with
 | nil=>intro k;exact .inl ⟨rfl,rfl⟩
 | cons x gs ih=>
  intro k
  by_cases h:x.id=n
  ·refine .inr ⟨[],x,gs,rfl,?_,?_⟩
   ·rw [pIdx,if_pos h];rfl
   ·simp [pFind,h]
  ·have e:pFind (x::gs) n=pFind gs n:=by simp [pFind,h]
   rw [pIdx,if_neg h,e]
   rcases ih (k+1) with ⟨h1,h2⟩|⟨a,g,b,h1,h2,h3⟩
   ·exact .inl ⟨h1,h2⟩
   ·exact .inr ⟨x::a,g,b,by rw [h1];rfl,by rw [h2];simp;omega,h3⟩
def psn (ps:List Psn) (n:Int):Psn:=(pFind ps n).getD noP
def isP (ps:List Psn) (n:Int):Bool:=(pFind ps n).isSome

theorem personE (v:AV) (ps:List Psn) (n:Int) (hv:SLs 3 (ps.map encP) v) (hl:ps.length<9223372036854775807):EvV CX 66 [v,.int .i64 n] (· = .tup [.agg (encP (psn ps n)),.bool (isP ps n)]):=by
 have q:=(indexPE v ps n false hv hl).rw
 have hs:∀ (C:Store),snap (.arr [[.int .i64 n]] 1 0 true::C) (.ptr 0 1 1 0 0)=some (.tptr false [.int .i64 n] 0):=fun C=>by
  simp [snap,rowOf,cleanL,AV.clean]
 have k3:∀ (S:Store) (m:Int),expCell S (.int .i64 m)=some (.int .i64 m):=fun _ _=>rfl
 have k4:∀ (S:Store) (m:ByteArray),expCell S (.str m)=some (.str m):=fun _ _=>rfl
 have k5:∀ (S:Store) (m:Bool),expTop S (.bool m)=some (.bool m):=fun _ _=>rfl
 have k6:∀ (S:Store) (m:Bool),expCell S (.bool m)=some (.bool m):=fun _ _=>rfl
 rcases pIdx_find ps n 0 with ⟨h1,h2⟩|⟨a,g,b,h1,h2,h3⟩
 ·rw [h1] at q
  have z:(-1:Int)<0:=by omega
  have e:codeOf none = -1:=rfl
  rw [e] at q
  have e1:psn ps n=noP:=by simp [psn,h2]
  have e2:isP ps n=false:=by simp [isP,h2]
  rw [e1,e2]
  clear h1 h2 e1 e2
  refine EvV.walk rfl fn66 rfl nt66 rfl ?_
  simp only [List.length_cons,List.length_nil,List.cons_append,List.nil_append,Nat.reduceAdd,Nat.reduceSub,List.replicate]
  repeat' (first|refine go1 ?_|refine za rfl ?_|(refine go2 fun A B a b=>?_;simp only [go_sem, *,hv.snap];(repeat' first|apply a.1|apply b.1|refine iteI (fun h=>?_) fun h=>?_)<;>clear a b A B))
  simp only [go_sem,zcv]
  rw [if_pos (show idsOK _=true from rfl)]
  simp only [expTops,expTop,expCells,k3,k4,k5,k6,encP,noP]
  simp [AV.stab]
 ·rw [h2] at q
  have hal:a.length<ps.length:=by rw [h1];simp
  have z:¬((a.length:Nat):Int)<0:=by omega
  have e:codeOf (some (0+a.length))=((a.length:Nat):Int):=by simp [codeOf]
  rw [e] at q
  have i1:=zbE hv (X:=CX) ty23 ty66 rfl (n:=a.length) (row:=encP g) (k := .i64) (by rw [h1];exact zcf encP a g b)
  have e1:psn ps n=g:=by simp [psn,h3]
  have e2:isP ps n=true:=by simp [isP,h3]
  rw [e1,e2]
  clear h1 h2 h3 e1 e2
  refine EvV.walk rfl fn66 rfl nt66 rfl ?_
  simp only [List.length_cons,List.length_nil,List.cons_append,List.nil_append,Nat.reduceAdd,Nat.reduceSub,List.replicate]
  repeat' (first|refine go1 ?_|refine za rfl ?_|(refine go2 fun A B a b=>?_;simp only [go_sem, *,hv.snap,encP];(repeat' first|apply a.1|apply b.1|refine iteI (fun h=>?_) fun h=>?_)<;>clear a b A B))
  simp only [go_sem,zcv]
  rw [if_pos (show idsOK _=true from rfl)]
  simp only [expTops,expTop,expCells,k3,k4,k5,k6,encP]
  simp [AV.stab]

theorem personR (v:AV) (ps:List Psn) (n:Int) (hv:SLs 3 (ps.map encP) v) (hl:ps.length<9223372036854775807):EvV CX 43 [v,.int .i64 n] (· = .tup [.agg (encP (psn ps n)),.bool (isP ps n)]):=by
 have k3:∀ (S:Store) (m:Int),expCell S (.int .i64 m)=some (.int .i64 m):=fun _ _=>rfl
 have k4:∀ (S:Store) (m:ByteArray),expCell S (.str m)=some (.str m):=fun _ _=>rfl
 have k5:∀ (S:Store) (m:Bool),expTop S (.bool m)=some (.bool m):=fun _ _=>rfl
 have k6:∀ (S:Store) (m:Bool),expCell S (.bool m)=some (.bool m):=fun _ _=>rfl
 refine EvV.walk rfl fn43 rfl nt43 rfl ?_
 simp only [List.length_cons,List.length_nil,List.cons_append,List.nil_append,Nat.reduceAdd,Nat.reduceSub,List.replicate]
 repeat' (first|refine go1 ?_|refine za rfl ?_|(refine go2 fun A B a b=>?_;simp only [go_sem, *,zA hv];(repeat' first|apply a.1|apply b.1|refine iteI (fun h=>?_) fun h=>?_)<;>clear a b A B))
 refine zbS [5,6,10,11,12,13,14,15,16,17,18,19,20,21,22,23] 9 ps (fun _ post=>pFind ps n=pFind post n) ?_ ?_ ?_ ?_
 ·rfl
 ·rfl
 ·intro g G h2
  simp only [zo,zq,zd,zf,List.set_cons_zero,List.set_cons_succ]
  have e1:psn ps n=noP:=by rw [psn,h2];rfl
  have e2:isP ps n=false:=by rw [isP,h2];rfl
  rw [e1,e2]
  clear h2 e1 e2
  repeat' (first|refine go1 ?_|refine za rfl ?_|(refine go2 fun A B a b=>?_;simp only [go_sem, *,zc,List.length_map,Int.lt_irrefl];(repeat' first|apply a.1|apply b.1|refine iteI (fun h=>?_) fun h=>?_)<;>clear a b A B))
  simp only [go_sem,zcv]
  rw [if_pos (show idsOK _=true from rfl)]
  simp only [expTops,expTop,expCells,k3,k4,k5,k6,encP,noP]
  simp [AV.stab]
 ·intro g G pre x post h1 h2
  subst h1;simp only [zo,zq,zd,zf,List.set_cons_zero,List.set_cons_succ]
  have i1:=zbE hv (X:=CX) ty23 ty66 rfl (zcf encP pre x post) (k := .i64)
  have w1:=zB (n:=pre.length) (by simp at hl;omega)
  by_cases hx:x.id=n
  ·subst hx
   have e0:pFind (x::post) x.id=some x:=by simp [pFind]
   have e1:psn (pre++x::post) x.id=x:=by rw [psn,h2,e0];rfl
   have e2:isP (pre++x::post) x.id=true:=by rw [isP,h2,e0];rfl
   rw [e1,e2]
   clear e0
   have hx':(x.id == x.id)=true:=by simp
   clear h2 e1 e2
   repeat' (first|refine go1 ?_|refine za rfl ?_|(refine go2 fun A B a b=>?_;simp only [go_sem, *,zb,ze,zm,zp,zj,zc,List.length_map,zK,encP,hx'];(repeat' first|apply a.1|apply b.1|refine iteI (fun h=>?_) fun h=>?_)<;>clear a b A B))
   simp only [go_sem,zcv]
   rw [if_pos (show idsOK _=true from rfl)]
   simp only [expTops,expTop,expCells,k3,k4,k5,k6,encP]
   simp [AV.stab]
  ·have hx':(x.id == n)=false:=by simpa using hx
   have hh:Hold (pFind (pre++x::post) n=pFind post n):=⟨by rw [h2];simp [pFind,hx]⟩
   clear h2
   repeat' (first|refine go1 ?_|refine za rfl ?_|(refine go2 fun A B a b=>?_;simp only [go_sem, *,zb,ze,zm,zp,zj,zc,List.length_map,zK,encP,hx'];(repeat' first|apply a.1|apply b.1|refine iteI (fun h=>?_) fun h=>?_)<;>clear a b A B))
   refine zbH rfl ?_ ?_ ?_
   ·exact hh.out
   ·((try simp only [zg,zi,zd,zf,List.set_cons_zero,List.set_cons_succ]);all_goals (first|rfl|(simp only [zn,zj,zc,List.length_map,List.length_append,List.length_cons,List.length_nil,Nat.zero_add];first|done|rfl)))
   ·first|exact⟨[],(List.append_nil _).symm⟩|exact⟨_,rfl⟩|(simp only [List.append_assoc,List.cons_append,List.nil_append];exact⟨_,rfl⟩)

def idOK (n:Int):Bool:=decide (1≤n) && decide (n≤1099511627776)
theorem identR (n:Int):EvV CX 55 [.int .i64 n] (· = .bool (idOK n)):=by
 unfold idOK
 refine EvV.walk rfl fn55 rfl nt55 rfl ?_
 simp only [List.length_cons,List.length_nil,List.cons_append,List.nil_append,Nat.reduceAdd,Nat.reduceSub,List.replicate]
 repeat' (first|refine go1 ?_|refine za rfl ?_|(refine go2 fun A B a b=>?_;simp only [go_sem, *];(repeat' first|apply a.1|apply b.1|refine iteI (fun h=>?_) fun h=>?_)<;>clear a b A B))
 all_goals
  simp only [go_sem]
  simp [*]

/- Consents: Check and At of the reference. -/
open Go.Proofs
attribute [local go_sem] ty25 ty34 ty53 br43 fz132 br73 fz145
set_option maxHeartbeats 4000000

def lastD (pre:List Con):Int:=(pre.getLast?.map Con.day).getD 0
theorem lastD_snoc (pre:List Con) (c:Con):lastD (pre++[c])=c.day:=by simp [lastD]
def errC (ps:List Psn) (d:Int) (c:Con):Int :=
 if isP ps c.person=true then if 0≤c.rc∧c.rc≤1099511627776 then if 1≤c.day∧c.day≤109573 then if 0≤c.kind∧c.kind≤2 then if d≤c.day then 0 else 10 else 14 else 12 else 2 else 9
def errCs (ps:List Psn):Int→List Con→Int
 | _,[]=>0
 | d,c::l=>if errC ps d c=0 then errCs ps c.day l else errC ps d c
def cnsF (ps:List Psn) (cs:List Con):Int:=if cs.length≤60 then errCs ps 0 cs else 11

theorem zcJ {id:Nat}{cs:List AV}{b:Bool}:adoptA id (.tup [.agg cs,.bool b])=(.tup [.agg cs,.bool b],[]):=rfl

theorem oneC {v w:AV}{cs pre post:List Con}{x:Con}{ps:List Psn}(hv:SLs 4 (cs.map encCn) v) (hw:SLs 3 (ps.map encP) w) (hps:ps.length≤1000) (hc:cs=pre++x::post) (hl:cs.length≤1000) :
  EvV CX 73 [w,v,.int .i64 pre.length] (· = .int .i64 (errC ps (lastD pre) x)):=by
 have hws:=hw.snap
 have hvs:=hv.snap
 have i0:=zbE hv (X:=CX) ty25 ty53 rfl (n:=pre.length) (row:=encCn x) (k := .i64) (by rw [hc];exact zcf encCn pre x post)
 have q:=(personR w ps x.person hw (by omega)).rw
 have hpl:pre.length<cs.length:=by rw [hc];simp
 by_cases k1:isP ps x.person=true
 rotate_left
 ·have k1:isP ps x.person=false:=by simpa using k1
  rw [k1] at q
  clear hc
  refine EvV.walk rfl fn73 rfl nt73 rfl ?_
  simp only [List.length_cons,List.length_nil,List.cons_append,List.nil_append,Nat.reduceAdd,Nat.reduceSub,List.replicate]
  repeat' (first|refine go1 ?_|refine za rfl ?_|(refine go2 fun A B a b=>?_;simp only [go_sem, *,encCn,↓zcJ,encP];(repeat' first|apply a.1|apply b.1|refine iteI (fun h=>?_) fun h=>?_)<;>clear a b A B))
  simp only [go_sem]
  simp [errC,k1]
 rw [k1] at q
 by_cases k2:x.rc<0
 ·clear hc
  refine EvV.walk rfl fn73 rfl nt73 rfl ?_
  simp only [List.length_cons,List.length_nil,List.cons_append,List.nil_append,Nat.reduceAdd,Nat.reduceSub,List.replicate]
  repeat' (first|refine go1 ?_|refine za rfl ?_|(refine go2 fun A B a b=>?_;simp only [go_sem, *,encCn,↓zcJ,encP];(repeat' first|apply a.1|apply b.1|refine iteI (fun h=>?_) fun h=>?_)<;>clear a b A B))
  simp only [go_sem]
  simp [errC,k1];omega
 by_cases k3:1099511627776<x.rc
 ·clear hc
  refine EvV.walk rfl fn73 rfl nt73 rfl ?_
  simp only [List.length_cons,List.length_nil,List.cons_append,List.nil_append,Nat.reduceAdd,Nat.reduceSub,List.replicate]
  repeat' (first|refine go1 ?_|refine za rfl ?_|(refine go2 fun A B a b=>?_;simp only [go_sem, *,encCn,↓zcJ,encP];(repeat' first|apply a.1|apply b.1|refine iteI (fun h=>?_) fun h=>?_)<;>clear a b A B))
  simp only [go_sem]
  simp [errC,k1];omega
 by_cases k4:x.day<1
 ·clear hc
  refine EvV.walk rfl fn73 rfl nt73 rfl ?_
  simp only [List.length_cons,List.length_nil,List.cons_append,List.nil_append,Nat.reduceAdd,Nat.reduceSub,List.replicate]
  repeat' (first|refine go1 ?_|refine za rfl ?_|(refine go2 fun A B a b=>?_;simp only [go_sem, *,encCn,↓zcJ,encP];(repeat' first|apply a.1|apply b.1|refine iteI (fun h=>?_) fun h=>?_)<;>clear a b A B))
  simp only [go_sem]
  simp [errC,k1];omega
 by_cases k5:109573<x.day
 ·clear hc
  refine EvV.walk rfl fn73 rfl nt73 rfl ?_
  simp only [List.length_cons,List.length_nil,List.cons_append,List.nil_append,Nat.reduceAdd,Nat.reduceSub,List.replicate]
  repeat' (first|refine go1 ?_|refine za rfl ?_|(refine go2 fun A B a b=>?_;simp only [go_sem, *,encCn,↓zcJ,encP];(repeat' first|apply a.1|apply b.1|refine iteI (fun h=>?_) fun h=>?_)<;>clear a b A B))
  simp only [go_sem]
  simp [errC,k1];omega
 by_cases k6:x.kind<0
 ·clear hc
  refine EvV.walk rfl fn73 rfl nt73 rfl ?_
  simp only [List.length_cons,List.length_nil,List.cons_append,List.nil_append,Nat.reduceAdd,Nat.reduceSub,List.replicate]
  repeat' (first|refine go1 ?_|refine za rfl ?_|(refine go2 fun A B a b=>?_;simp only [go_sem, *,encCn,↓zcJ,encP];(repeat' first|apply a.1|apply b.1|refine iteI (fun h=>?_) fun h=>?_)<;>clear a b A B))
  simp only [go_sem]
  simp [errC,k1];omega
 by_cases k7:2<x.kind
 ·clear hc
  refine EvV.walk rfl fn73 rfl nt73 rfl ?_
  simp only [List.length_cons,List.length_nil,List.cons_append,List.nil_append,Nat.reduceAdd,Nat.reduceSub,List.replicate]
  repeat' (first|refine go1 ?_|refine za rfl ?_|(refine go2 fun A B a b=>?_;simp only [go_sem, *,encCn,↓zcJ,encP];(repeat' first|apply a.1|apply b.1|refine iteI (fun h=>?_) fun h=>?_)<;>clear a b A B))
  simp only [go_sem]
  simp [errC,k1];omega
 rcases snoc_cases pre with rfl|⟨a,y,rfl⟩
 ·have z:¬(0:Int)<(([]:List Con).length:Int):=by simp
  clear hc hpl
  generalize ([]:List Con).length=n at *
  refine EvV.walk rfl fn73 rfl nt73 rfl ?_
  simp only [List.length_cons,List.length_nil,List.cons_append,List.nil_append,Nat.reduceAdd,Nat.reduceSub,List.replicate]
  repeat' (first|refine go1 ?_|refine za rfl ?_|(refine go2 fun A B a b=>?_;simp only [go_sem, *,encCn,↓zcJ,encP,Int.lt_irrefl];(repeat' first|apply a.1|apply b.1|refine iteI (fun h=>?_) fun h=>?_)<;>clear a b A B))
  simp only [go_sem]
  simp [errC,k1,lastD];omega
 have z:(0:Int)<((a++[y]).length:Int):=by rw [List.length_append];simp;try omega
 have w1:IntKind.wrap .i64 (((a++[y]).length:Int)-1)=(a.length:Int):=by
  rw [zu (by simp at hpl ⊢;try omega) (by simp at hpl ⊢;try omega)];simp
 have i1:=zbE hv (X:=CX) ty25 ty53 rfl (n:=a.length) (row:=encCn y) (k := .i64) (by rw [hc,List.append_assoc];exact zcf encCn a y (x::post))
 rw [lastD_snoc]
 clear hc
 generalize (a++[y]).length=n at *
 by_cases k8:x.day<y.day
 ·refine EvV.walk rfl fn73 rfl nt73 rfl ?_
  simp only [List.length_cons,List.length_nil,List.cons_append,List.nil_append,Nat.reduceAdd,Nat.reduceSub,List.replicate]
  repeat' (first|refine go1 ?_|refine za rfl ?_|(refine go2 fun A B a b=>?_;simp only [go_sem, *,encCn,↓zcJ,encP];(repeat' first|apply a.1|apply b.1|refine iteI (fun h=>?_) fun h=>?_)<;>clear a b A B))
  simp only [go_sem]
  simp [errC,k1];omega
 ·refine EvV.walk rfl fn73 rfl nt73 rfl ?_
  simp only [List.length_cons,List.length_nil,List.cons_append,List.nil_append,Nat.reduceAdd,Nat.reduceSub,List.replicate]
  repeat' (first|refine go1 ?_|refine za rfl ?_|(refine go2 fun A B a b=>?_;simp only [go_sem, *,encCn,↓zcJ,encP];(repeat' first|apply a.1|apply b.1|refine iteI (fun h=>?_) fun h=>?_)<;>clear a b A B))
  simp only [go_sem]
  simp [errC,k1];omega

theorem cnsR {v w:AV}{cs:List Con}{ps:List Psn}(hv:SLs 4 (cs.map encCn) v) (hw:SLs 3 (ps.map encP) w) (hps:ps.length≤1000):EvV CX 40 [w,v] (· = .int .i64 (cnsF ps cs)):=by
 have hws:=hw.snap
 have hvs:=hv.snap
 by_cases k1:60<(cs.length:Int)
 ·refine EvV.walk rfl fn40 rfl nt40 rfl ?_
  simp only [List.length_cons,List.length_nil,List.cons_append,List.nil_append,Nat.reduceAdd,Nat.reduceSub,List.replicate]
  repeat' (first|refine go1 ?_|refine za rfl ?_|(refine go2 fun A B a b=>?_;simp only [go_sem, *,zA hv,List.length_map];(repeat' first|apply a.1|apply b.1|refine iteI (fun h=>?_) fun h=>?_)<;>clear a b A B))
  simp only [go_sem]
  have:¬cs.length≤60:=by omega
  simp [cnsF,this]
 have hE:cnsF ps cs=errCs ps 0 cs:=by rw [cnsF,if_pos (by omega)]
 have hl:cs.length≤1000:=by omega
 rw [hE]
 clear hE
 refine EvV.walk rfl fn40 rfl nt40 rfl ?_
 simp only [List.length_cons,List.length_nil,List.cons_append,List.nil_append,Nat.reduceAdd,Nat.reduceSub,List.replicate]
 repeat' (first|refine go1 ?_|refine za rfl ?_|(refine go2 fun A B a b=>?_;simp only [go_sem, *,zA hv,List.length_map];(repeat' first|apply a.1|apply b.1|refine iteI (fun h=>?_) fun h=>?_)<;>clear a b A B))
 clear k1
 refine zbS [4,6,10,11,12,13,14,15,16,17,18,19,20,21,22] 5 cs (fun pre post=>errCs ps 0 cs=errCs ps (lastD pre) post) ?_ ?_ ?_ ?_
 ·rfl
 ·rfl
 ·intro g G hE
  rw [hE]
  simp only [zo,zq,zd,zf,List.set_cons_zero,List.set_cons_succ]
  repeat' (first|refine go1 ?_|refine za rfl ?_|(refine go2 fun A B a b=>?_;simp only [go_sem, *,Int.lt_irrefl,zA hv,List.length_map];(repeat' first|apply a.1|apply b.1|refine iteI (fun h=>?_) fun h=>?_)<;>clear a b A B))
  simp only [go_sem]
  rfl
 intro g G pre x post h1 hE
 have hpl:pre.length<cs.length:=by rw [h1];simp
 have lt1:(pre.length:Int)<(cs.length:Int):=by omega
 have w1:=zB (n:=pre.length) (by omega)
 have q:=(oneC hv hw hps h1 hl).rw
 have hh1:Hold (cs=pre++x::post):=⟨h1⟩
 have hhE:Hold (errCs ps 0 cs=errCs ps (lastD pre) (x::post)):=⟨hE⟩
 clear h1 hE hpl
 obtain⟨e,he⟩:∃ e,errC ps (lastD pre) x=e:=⟨_,rfl⟩
 rw [he] at q
 have hhe:Hold (errC ps (lastD pre) x=e):=⟨he⟩
 clear he
 by_cases k2:e=0
 ·subst k2
  simp only [zo,zq,zd,zf,List.set_cons_zero,List.set_cons_succ]
  repeat' (first|refine go1 ?_|refine za rfl ?_|(refine go2 fun A B a b=>?_;simp only [go_sem, *,zA hv,List.length_map];(repeat' first|apply a.1|apply b.1|refine iteI (fun h=>?_) fun h=>?_)<;>clear a b A B))
  refine zbH hh1.out ?_ ?_ ?_
  ·rw [hhE.out,errCs,if_pos hhe.out,lastD_snoc]
  ·((try simp only [zg,zi,zd,zf,List.set_cons_zero,List.set_cons_succ]);all_goals (first|rfl|(simp only [zn,zj,zc,List.length_map,List.length_append,List.length_cons,List.length_nil,Nat.zero_add];first|done|rfl)))
  ·first|exact⟨[],(List.append_nil _).symm⟩|exact⟨_,rfl⟩|(simp only [List.append_assoc,List.cons_append,List.nil_append];exact⟨_,rfl⟩)
 ·have b1:(e == 0)=false:=beq_false_of_ne k2
  simp only [zo,zq,zd,zf,List.set_cons_zero,List.set_cons_succ]
  repeat' (first|refine go1 ?_|refine za rfl ?_|(refine go2 fun A B a b=>?_;simp only [go_sem, *,zA hv,List.length_map];(repeat' first|apply a.1|apply b.1|refine iteI (fun h=>?_) fun h=>?_)<;>clear a b A B))
  simp only [go_sem]
  rw [hhE.out,errCs,hhe.out,if_neg k2]

/- Rights: what they are; Few of the reference. -/
open Go.Proofs
attribute [local go_sem] ty26 ty28 ty47 ty56 ty58 eq47
set_option maxHeartbeats 4000000

structure Ru where
 rc:Int
 sp:Int×Int
 lv:Int
 gv:AV
 gl:List Int
 un:Int
def encRu (x:Ru):List AV:=[.int .i64 x.rc,.int .i64 x.sp.1,.int .i64 x.sp.2,.int .i64 x.lv,x.gv,.int .i64 x.un]
structure Ru.ok (x:Ru):Prop where
 sl:SLs 1 (ints x.gl) x.gv
 st:x.gv.stab=true
structure RtV (pv gv cv rv:AV) (ps:List Psn) (gs:List Grp) (cs:List Con) (rs:List Ru):Prop where
 p:SLs 3 (ps.map encP) pv
 g:SLs 4 (gs.map encG) gv
 go:∀ g∈gs,g.ok
 gt:∀ g∈gs,g.pv.stab=true∧g.sv.stab=true
 c:SLs 4 (cs.map encCn) cv
 ca:consAV cv=some cs
 r:SLs 6 (rs.map encRu) rv
 ro:∀ x∈rs,x.ok

def fewG (g:Grp):Bool:=decide (g.name.size≤100) && decide (g.people.length≤50) && decide (g.subs.length≤25)
def fewRt (ps:List Psn) (gs:List Grp) (cs:List Con) (rs:List Ru):Bool :=
 decide (ps.length≤50) && decide (gs.length≤25) && decide (cs.length≤65) && decide (rs.length≤65) && ps.all (fun p=>decide (p.name.size≤100)) && gs.all fewG && rs.all (fun x=>decide (x.gl.length≤25))

theorem all_no {β:Type}{l:List β}{f:β→Bool}{x:β}(hx:x∈l) (h:f x=false):l.all f=false:=by
 cases e:l.all f with
 | false=>rfl
 | true=>rw [List.all_eq_true.1 e x hx] at h;cases h
theorem fewR {pv gv cv rv:AV}{ps:List Psn}{gs:List Grp}{cs:List Con}{rs:List Ru}(h:RtV pv gv cv rv ps gs cs rs):EvV CX 14 [.agg [pv,gv,cv,rv]] (· = .bool (fewRt ps gs cs rs)):=by
 have c1:=h.p.cell
 have c2:=h.g.cell
 have c3:=h.c.cell
 have c4:=h.r.cell
 have hE:fewRt ps gs cs rs=(decide (ps.length≤50) && decide (gs.length≤25) && decide (cs.length≤65) && decide (rs.length≤65) && ps.all (fun p=>decide (p.name.size≤100)) && gs.all fewG && rs.all (fun x=>decide (x.gl.length≤25))):=rfl
 by_cases k1:50<(ps.length:Int)
 ·rw [hE,decide_eq_false (show ¬ps.length≤50 by omega)]
  clear hE
  refine EvV.walk rfl fn14 rfl nt14 rfl ?_
  simp only [List.length_cons,List.length_nil,List.cons_append,List.nil_append,Nat.reduceAdd,Nat.reduceSub,List.replicate]
  repeat' (first|refine go1 ?_|refine za rfl ?_|(refine go2 fun A B a b=>?_;simp only [go_sem, *,zA h.p,List.length_map];(repeat' first|apply a.1|apply b.1|refine iteI (fun h=>?_) fun h=>?_)<;>clear a b A B))
  simp only [go_sem]
 by_cases k2:25<(gs.length:Int)
 ·rw [hE,decide_eq_false (show ¬gs.length≤25 by omega),Bool.and_false]
  clear hE
  refine EvV.walk rfl fn14 rfl nt14 rfl ?_
  simp only [List.length_cons,List.length_nil,List.cons_append,List.nil_append,Nat.reduceAdd,Nat.reduceSub,List.replicate]
  repeat' (first|refine go1 ?_|refine za rfl ?_|(refine go2 fun A B a b=>?_;simp only [go_sem, *,zA h.p,zA h.g,List.length_map];(repeat' first|apply a.1|apply b.1|refine iteI (fun h=>?_) fun h=>?_)<;>clear a b A B))
  simp only [go_sem]
 by_cases k3:65<(cs.length:Int)
 ·rw [hE,decide_eq_false (show ¬cs.length≤65 by omega),Bool.and_false]
  clear hE
  refine EvV.walk rfl fn14 rfl nt14 rfl ?_
  simp only [List.length_cons,List.length_nil,List.cons_append,List.nil_append,Nat.reduceAdd,Nat.reduceSub,List.replicate]
  repeat' (first|refine go1 ?_|refine za rfl ?_|(refine go2 fun A B a b=>?_;simp only [go_sem, *,zA h.p,zA h.g,zA h.c,List.length_map];(repeat' first|apply a.1|apply b.1|refine iteI (fun h=>?_) fun h=>?_)<;>clear a b A B))
  simp only [go_sem]
 by_cases k4:65<(rs.length:Int)
 ·rw [hE,decide_eq_false (show ¬rs.length≤65 by omega),Bool.and_false]
  clear hE
  refine EvV.walk rfl fn14 rfl nt14 rfl ?_
  simp only [List.length_cons,List.length_nil,List.cons_append,List.nil_append,Nat.reduceAdd,Nat.reduceSub,List.replicate]
  repeat' (first|refine go1 ?_|refine za rfl ?_|(refine go2 fun A B a b=>?_;simp only [go_sem, *,zA h.p,zA h.g,zA h.c,zA h.r,List.length_map];(repeat' first|apply a.1|apply b.1|refine iteI (fun h=>?_) fun h=>?_)<;>clear a b A B))
  simp only [go_sem]
 rw [decide_eq_true (show ps.length≤50 by omega),decide_eq_true (show gs.length≤25 by omega),decide_eq_true (show cs.length≤65 by omega),decide_eq_true (show rs.length≤65 by omega),Bool.and_self,Bool.and_self,Bool.and_self,Bool.true_and] at hE
 have hl:Hold (ps.length≤50∧gs.length≤25∧rs.length≤65):=⟨by omega⟩
 have hhE:Hold (fewRt ps gs cs rs=(ps.all (fun p=>decide (p.name.size≤100)) && gs.all fewG && rs.all (fun x=>decide (x.gl.length≤25)))):=⟨hE⟩
 clear hE
 obtain⟨R,hR⟩:∃ R,fewRt ps gs cs rs=R:=⟨_,rfl⟩
 have hhR:Hold (fewRt ps gs cs rs=R):=⟨hR⟩
 rw [hR]
 clear hR
 refine EvV.walk rfl fn14 rfl nt14 rfl ?_
 simp only [List.length_cons,List.length_nil,List.cons_append,List.nil_append,Nat.reduceAdd,Nat.reduceSub,List.replicate]
 repeat' (first|refine go1 ?_|refine za rfl ?_|(refine go2 fun A B a b=>?_;simp only [go_sem, *,zA h.p,zA h.g,zA h.c,zA h.r,List.length_map];(repeat' first|apply a.1|apply b.1|refine iteI (fun h=>?_) fun h=>?_)<;>clear a b A B))
 clear k1 k2 k3 k4
 refine zbS [2,3,32,33,34,35,36,37,38,39,40,41,42] 31 ps (fun pre _=>pre.all (fun p=>decide (p.name.size≤100))=true) ?_ ?_ ?_ ?_
 ·rfl
 ·rfl
 rotate_left
 ·intro g G pre x post h1 h2
  have hpl:pre.length<ps.length:=by rw [h1];simp
  have lt1:(pre.length:Int)<(ps.length:Int):=by omega
  have w1:=zB (n:=pre.length) (by have:=hl.out;omega)
  have i0:=zbE h.p (X:=CX) ty23 ty66 rfl (n:=pre.length) (row:=encP x) (k := .i64) (by rw [h1];exact zcf encP pre x post)
  have hh1:Hold (ps=pre++x::post):=⟨h1⟩
  clear h1 hpl
  by_cases k:100<(x.name.size:Int)
  ·clear h2
   simp only [zo,zq,zd,zf,List.set_cons_zero,List.set_cons_succ]
   repeat' (first|refine go1 ?_|refine za rfl ?_|(refine go2 fun A B a b=>?_;simp only [go_sem, *,encP,zbQ];(repeat' first|apply a.1|apply b.1|refine iteI (fun h=>?_) fun h=>?_)<;>clear a b A B))
   simp only [go_sem]
   rw [←hhR.out,hhE.out,all_no (x:=x) (by rw [hh1.out];simp) (decide_eq_false (show ¬x.name.size≤100 by omega))];rfl
  ·simp only [zo,zq,zd,zf,List.set_cons_zero,List.set_cons_succ]
   repeat' (first|refine go1 ?_|refine za rfl ?_|(refine go2 fun A B a b=>?_;simp only [go_sem, *,encP,zbQ];(repeat' first|apply a.1|apply b.1|refine iteI (fun h=>?_) fun h=>?_)<;>clear a b A B))
   refine zbH hh1.out ?_ ?_ ?_
   ·rw [List.all_append,h2];simp;omega
   ·((try simp only [zg,zi,zd,zf,List.set_cons_zero,List.set_cons_succ]);all_goals (first|rfl|(simp only [zn,zj,zc,List.length_map,List.length_append,List.length_cons,List.length_nil,Nat.zero_add];first|done|rfl)))
   ·first|exact⟨[],(List.append_nil _).symm⟩|exact⟨_,rfl⟩|(simp only [List.append_assoc,List.cons_append,List.nil_append];exact⟨_,rfl⟩)
 intro g G hP
 have hhP:Hold (ps.all (fun p=>decide (p.name.size≤100))=true):=⟨hP⟩
 clear hP
 simp only [zo,zq,zd,zf,List.set_cons_zero,List.set_cons_succ]
 repeat' (first|refine go1 ?_|refine za rfl ?_|(refine go2 fun A B a b=>?_;simp only [go_sem, *,Int.lt_irrefl,zA h.p,zA h.g,List.length_map];(repeat' first|apply a.1|apply b.1|refine iteI (fun h=>?_) fun h=>?_)<;>clear a b A B))
 refine zbS [2,4,47,48,49,50,51,52,53,54,55,56,57,58,59,60,61,62,63,64,65,66,67,68,69,70,71,72,73,74,75,76,77] 46 gs (fun pre _=>pre.all fewG=true) ?_ ?_ ?_ ?_
 ·rfl
 ·((try simp only [zg,zi,zd,zf,List.set_cons_zero,List.set_cons_succ]);all_goals (first|rfl|(simp only [zn,zj,zc,List.length_map,List.length_append,List.length_cons,List.length_nil,Nat.zero_add];first|done|rfl)))
 rotate_left
 ·intro g2 G2 pre x post h1 h2
  have hpl:pre.length<gs.length:=by rw [h1];simp
  have lt1:(pre.length:Int)<(gs.length:Int):=by omega
  have w1:=zB (n:=pre.length) (by have:=hl.out;omega)
  have i0:=zbE h.g (X:=CX) ty24 ty68 rfl (n:=pre.length) (row:=encG x) (k := .i64) (by rw [h1];exact zcf encG pre x post)
  have hxm:x∈gs:=by rw [h1];simp
  have hx:=h.go x hxm
  have d1:=hx.pv.cell
  have d2:=hx.sv.cell
  have s1:=hx.pv.snap
  have s2:=hx.sv.snap
  have hh1:Hold (gs=pre++x::post):=⟨h1⟩
  have hno:Hold (fewG x=false→R=false):=⟨fun e=>by rw [←hhR.out,hhE.out,all_no hxm e,Bool.and_false];rfl⟩
  clear h1 hpl hxm
  by_cases k1:100<(x.name.size:Int)
  ·have e:R=false:=hno.out (by (have:¬x.name.size≤100:=by omega);simp [fewG,this])
   rw [e]
   clear h2 e hno hhR hhE
   simp only [zo,zq,zd,zf,List.set_cons_zero,List.set_cons_succ]
   repeat' (first|refine go1 ?_|refine za rfl ?_|(refine go2 fun A B a b=>?_;simp only [go_sem, *,encG,zbQ];(repeat' first|apply a.1|apply b.1|refine iteI (fun h=>?_) fun h=>?_)<;>clear a b A B))
   simp only [go_sem]
  by_cases k2:50<(x.people.length:Int)
  ·have e:R=false:=hno.out (by (have:¬x.people.length≤50:=by omega);simp [fewG,this])
   rw [e]
   clear h2 e hno hhR hhE
   simp only [zo,zq,zd,zf,List.set_cons_zero,List.set_cons_succ]
   repeat' (first|refine go1 ?_|refine za rfl ?_|(refine go2 fun A B a b=>?_;simp only [go_sem, *,encG,zbQ,zA hx.pv,zc];(repeat' first|apply a.1|apply b.1|refine iteI (fun h=>?_) fun h=>?_)<;>clear a b A B))
   simp only [go_sem]
  by_cases k3:25<(x.subs.length:Int)
  ·have e:R=false:=hno.out (by (have:¬x.subs.length≤25:=by omega);simp [fewG,this])
   rw [e]
   clear h2 e hno hhR hhE
   simp only [zo,zq,zd,zf,List.set_cons_zero,List.set_cons_succ]
   repeat' (first|refine go1 ?_|refine za rfl ?_|(refine go2 fun A B a b=>?_;simp only [go_sem, *,encG,zbQ,zA hx.pv,zA hx.sv,zc];(repeat' first|apply a.1|apply b.1|refine iteI (fun h=>?_) fun h=>?_)<;>clear a b A B))
   simp only [go_sem]
  ·have e:fewG x=true:=by
    unfold fewG
    rw [decide_eq_true (show x.name.size≤100 by omega),decide_eq_true (show x.people.length≤50 by omega),decide_eq_true (show x.subs.length≤25 by omega)];rfl
   have hhe:Hold (fewG x=true):=⟨e⟩
   clear e hno
   simp only [zo,zq,zd,zf,List.set_cons_zero,List.set_cons_succ]
   repeat' (first|refine go1 ?_|refine za rfl ?_|(refine go2 fun A B a b=>?_;simp only [go_sem, *,encG,zbQ,zA hx.pv,zA hx.sv,zc];(repeat' first|apply a.1|apply b.1|refine iteI (fun h=>?_) fun h=>?_)<;>clear a b A B))
   refine zbH hh1.out ?_ ?_ ?_
   ·rw [List.all_append,h2];simp [hhe.out]
   ·((try simp only [zg,zi,zd,zf,List.set_cons_zero,List.set_cons_succ]);all_goals (first|rfl|(simp only [zn,zj,zc,List.length_map,List.length_append,List.length_cons,List.length_nil,Nat.zero_add];first|done|rfl)))
   ·first|exact⟨[],(List.append_nil _).symm⟩|exact⟨_,rfl⟩|(simp only [List.append_assoc,List.cons_append,List.nil_append];exact⟨_,rfl⟩)
 intro g2 G2 hQ
 have hhQ:Hold (gs.all fewG=true):=⟨hQ⟩
 clear hQ
 simp only [zo,zq,zd,zf,List.set_cons_zero,List.set_cons_succ]
 repeat' (first|refine go1 ?_|refine za rfl ?_|(refine go2 fun A B a b=>?_;simp only [go_sem, *,Int.lt_irrefl,zA h.g,zA h.r,List.length_map];(repeat' first|apply a.1|apply b.1|refine iteI (fun h=>?_) fun h=>?_)<;>clear a b A B))
 refine zbS [2,5,82,83,84,85,86,87,88,89,90,91,92,93] 81 rs (fun pre _=>pre.all (fun x=>decide (x.gl.length≤25))=true) ?_ ?_ ?_ ?_
 ·rfl
 ·((try simp only [zg,zi,zd,zf,List.set_cons_zero,List.set_cons_succ]);all_goals (first|rfl|(simp only [zn,zj,zc,List.length_map,List.length_append,List.length_cons,List.length_nil,Nat.zero_add];first|done|rfl)))
 ·intro g3 G3 hS
  have e:R=true:=by rw [←hhR.out,hhE.out,hhP.out,hhQ.out,hS];rfl
  rw [e]
  clear e hS hhR hhE
  simp only [zo,zq,zd,zf,List.set_cons_zero,List.set_cons_succ]
  repeat' (first|refine go1 ?_|refine za rfl ?_|(refine go2 fun A B a b=>?_;simp only [go_sem, *,Int.lt_irrefl];(repeat' first|apply a.1|apply b.1|refine iteI (fun h=>?_) fun h=>?_)<;>clear a b A B))
  simp only [go_sem]
 intro g3 G3 pre x post h1 h2
 have hpl:pre.length<rs.length:=by rw [h1];simp
 have lt1:(pre.length:Int)<(rs.length:Int):=by omega
 have w1:=zB (n:=pre.length) (by have:=hl.out;omega)
 have i0:=zbE h.r (X:=CX) ty26 ty58 rfl (n:=pre.length) (row:=encRu x) (k := .i64) (by rw [h1];exact zcf encRu pre x post)
 have hxm:x∈rs:=by rw [h1];simp
 have hx:=h.ro x hxm
 have d1:=hx.sl.cell
 have s1:=hx.sl.snap
 have hh1:Hold (rs=pre++x::post):=⟨h1⟩
 have hno:Hold (¬x.gl.length≤25→R=false):=⟨fun e=>by rw [←hhR.out,hhE.out,all_no hxm (f:=fun x=>decide (x.gl.length≤25)) (by simp only [decide_eq_false_iff_not];exact e),Bool.and_false]⟩
 clear h1 hpl hxm
 by_cases k1:25<(x.gl.length:Int)
 ·have e:R=false:=hno.out (by omega)
  rw [e]
  clear h2 e hno hhR hhE
  simp only [zo,zq,zd,zf,List.set_cons_zero,List.set_cons_succ]
  repeat' (first|refine go1 ?_|refine za rfl ?_|(refine go2 fun A B a b=>?_;simp only [go_sem, *,encRu,zA hx.sl,zc];(repeat' first|apply a.1|apply b.1|refine iteI (fun h=>?_) fun h=>?_)<;>clear a b A B))
  simp only [go_sem]
 ·clear hno
  simp only [zo,zq,zd,zf,List.set_cons_zero,List.set_cons_succ]
  repeat' (first|refine go1 ?_|refine za rfl ?_|(refine go2 fun A B a b=>?_;simp only [go_sem, *,encRu,zA hx.sl,zc];(repeat' first|apply a.1|apply b.1|refine iteI (fun h=>?_) fun h=>?_)<;>clear a b A B))
  refine zbH hh1.out ?_ ?_ ?_
  ·rw [List.all_append,h2];simp;omega
  ·((try simp only [zg,zi,zd,zf,List.set_cons_zero,List.set_cons_succ]);all_goals (first|rfl|(simp only [zn,zj,zc,List.length_map,List.length_append,List.length_cons,List.length_nil,Nat.zero_add];first|done|rfl)))
  ·first|exact⟨[],(List.append_nil _).symm⟩|exact⟨_,rfl⟩|(simp only [List.append_assoc,List.cons_append,List.nil_append];exact⟨_,rfl⟩)
end Go.Eng

/- Conversions between numbers, and from bytes to a string. -/
namespace Go.Eng
open Go.RowKit

def cvtK (v:AV) (k:IntKind) (dst:Option Tmp) (K:List AV→Store→Prop) (fr:List AV) (S:Store) (P:Prop):Prop :=
 match v with
 | .int _ n=>K (putA fr dst (.int k (k.wrap n))) S
 | _=>P
theorem zx {k k':IntKind}{n:Int}{dst:Option Tmp}{K:List AV→Store→Prop}{fr:List AV}{S:Store}{P:Prop}:cvtK (.int k' n) k dst K fr S P=K (putA fr dst (.int k (k.wrap n))) S:=rfl
theorem zw {X:Ctx}{d:Bool}{dst:Option Tmp}{ty:TypeId}{pos:String}{after:Array Edge}{g:Option (Nat×Bool)}{K:List AV→Store→Prop}{fr:List AV}{S:Store}{s t:TypeId}{x:Operand}{i j:TyI}{k:IntKind}(hs:X.ty s=some j) (ht:X.ty t=some i) (hk:i.desc = .int k) :
  wpK X d ⟨dst,.convert s t x,ty,pos,after,g⟩ dst K fr S=cvtK (evalA fr x) k dst K fr S (wp1 X d ⟨dst,.convert s t x,ty,pos,after,g⟩ (fun v S'=>K (putA fr dst v) S') fr S):=by
 obtain⟨a,b,c,e,f⟩:=i
 simp only at hk;subst hk
 unfold cvtK
 split
 ·rename_i k' n hv
  unfold wpK wp1
  simp only [popA,convA,hs,ht,hv]
 ·unfold wpK;rfl

def bsK (y:AV) (dst:Option Tmp) (K:List AV→Store→Prop) (fr:List AV) (S:Store) (P:Prop):Prop :=
 match y with
 | .sl b e off len sz=>match rowsOf S 1 (.sl b e off len sz) with
  | some (rows,_)=>match bytesOf rows with
   | some l=>K (putA fr dst (.str ⟨l.toArray⟩)) S
   | none=>False
  | none=>False
 | .tsl st sz rows=>match rowsOf S 1 (.tsl st sz rows) with
  | some (rows,_)=>match bytesOf rows with
   | some l=>K (putA fr dst (.str ⟨l.toArray⟩)) S
   | none=>False
  | none=>False
 | _=>P
theorem bsK_sl {b e off len sz:Nat}{dst:Option Tmp}{K:List AV→Store→Prop}{fr:List AV}{S:Store}{P:Prop}:bsK (.sl b e off len sz) dst K fr S P=match rowsOf S 1 (.sl b e off len sz) with
  | some (rows,_)=>match bytesOf rows with
   | some l=>K (putA fr dst (.str ⟨l.toArray⟩)) S
   | none=>False
  | none=>False:=rfl
theorem wpK_bs {X:Ctx}{d:Bool}{dst:Option Tmp}{ty:TypeId}{pos:String}{after:Array Edge}{g:Option (Nat×Bool)}{K:List AV→Store→Prop}{fr:List AV}{S:Store}{s t el:TypeId}{x:Operand}{i j e:TyI}
  (hs:X.ty s=some j) (ht:X.ty t=some i) (he:X.ty el=some e) (hj:j.desc = .slice el) (hi:i.desc = .str) (hd:e.desc = .int .u8) :
  wpK X d ⟨dst,.convert s t x,ty,pos,after,g⟩ dst K fr S=bsK (evalA fr x) dst K fr S (wp1 X d ⟨dst,.convert s t x,ty,pos,after,g⟩ (fun v S'=>K (putA fr dst v) S') fr S):=by
 obtain⟨a1,b1,c1,e1,f1⟩:=i
 obtain⟨a2,b2,c2,e2,f2⟩:=j
 obtain⟨a3,b3,c3,e3,f3⟩:=e
 simp only at hj hi hd;subst hj hi hd
 have go:∀ y,evalA fr x=y→convA X s t y=none→(∀ st,y≠.str st)→wpK X d ⟨dst,.convert s t x,ty,pos,after,g⟩ dst K fr S=match rowsOf S 1 y with
   | some (rows,_)=>match bytesOf rows with
    | some l=>K (putA fr dst (.str ⟨l.toArray⟩)) S
    | none=>False
   | none=>False:=by
  intro y hy hc hn
  subst hy
  have hp:popA X fr ⟨dst,.convert s t x,ty,pos,after,g⟩=none:=by simp only [popA,hc]
  rw [wpK_qop (match rowsOf S 1 (evalA fr x) with|some (rows,_)=>(bytesOf rows).map fun l=>(.str ⟨l.toArray⟩,[])|none=>none) hp (by
   simp only [qopA,hs,ht,he]
   cases rowsOf S 1 (evalA fr x)<;>rfl) rfl rfl rfl]
  cases rowsOf S 1 (evalA fr x) with
  | none=>simp only [pairK]
  | some rp=>
   obtain⟨rows,pr⟩:=rp
   simp only
   cases bytesOf rows with
   | none=>simp only [Option.map_none,pairK]
   | some l=>simp only [Option.map_some,z8,List.append_nil]
 unfold bsK
 split
 ·rename_i y1 b e off len sz hy;rw [go _ hy (by simp [convA,hs,ht]) (by simp)]
 ·rename_i y1 st sz rows hy;rw [go _ hy (by simp [convA,hs,ht]) (by simp)]
 ·unfold wpK;rfl
theorem bytesOf_nil:bytesOf []=some []:=rfl
theorem bytesOf_cons {n:Int}{rest:List (List AV)}:bytesOf ([.int .u8 n]::rest)=(bytesOf rest).map (UInt8.ofNat n.toNat :: ·):=rfl
theorem wI {n:Nat}(h:n<9223372036854775808):IntKind.wrap .i64 (n:Int)=n:=zu (by omega) (by omega)
theorem wB {n:Nat}(h:n<256):IntKind.wrap .u8 (n:Int)=n:=by
 simp [IntKind.wrap,IntKind.min,IntKind.max,IntKind.signed,IntKind.bits]
 omega
end Go.Eng

/- Names and persons. -/
namespace Go.Eng
open Go.Proofs
attribute [local irreducible] wpC wpO wp1 EvV EvR wpL
attribute [local go_sem] ty3 ty4 ty5 ty9 ty112 reduceIte Nat.reduceAdd Nat.reduceEqDiff Nat.reduceLT Nat.reduceLeDiff beq_iff_eq beq_eq_false_iff_ne Int.natCast_inj Bool.not_eq_false' zbD zbx zaE za9 zaw zas za7 zF zaB zaD zE zax zbw zP zH za8 zI zba zaC zbv zbu zL zar zR zaz zQ zay zS zaA za5 zat zae zbd zaG zbc zbb zbe zby zaF zaY zao zaX zaZ zav zaW zaV zaI zaK zaf zac zW z8 zbg zaJ boxK storeK zaq zaM zam zaN zbm zau zbz zbf zX zaa zaP zaQ zan zbn zaO zbr zaU zbp zbA zbs zbo zbq zaR zbC zaS zaT List.all_cons List.all_nil Bool.and_true Bool.and_self Bool.true_and z7 zaH List.set_cons_zero List.set_cons_succ List.length_cons List.length_nil List.nil_append List.cons_append stabL AV.stab fieldAddrA fieldA List.getElem?_cons_zero List.getElem?_cons_succ Nat.zero_add loadA rowOf Nat.le_refl and_self true_and and_true partA binA unA intBin eqBin eqCells eqCell Option.bind_some decide_true decide_false decide_eq_true_eq ite_not Bool.not_eq_true' decide_eq_false_iff_not Bool.false_eq_true Option.map_some Option.map_none Bool.not_true Bool.not_false buildA fillA patch List.take List.drop List.map_cons List.map_nil extK List.getD_cons_zero List.getD_cons_succ minmaxA minmaxGo zJ zV zak zU zai zT zal zaj zah zag zaL zbk zbi zbl zbj zbh bne Bool.false_and Bool.and_false ne_eq not_true_eq_false not_false_eq_true List.append_nil resultsR resultsL resultA za3 zap za2 za4 za0 za1 zZ zbK zad zO zD zbB
set_option maxHeartbeats 4000000

theorem toList_loop (s:ByteArray):∀ (k i:Nat) (r:List UInt8),s.size≤i+k→ByteArray.toList.loop s i r=r.reverse++s.data.toList.drop i:=by
 intro k
 induction k with
 | zero=>
  intro i r h
  unfold ByteArray.toList.loop
  rw [if_neg (by omega),List.drop_eq_nil_of_le (by simpa using h),List.append_nil]
 | succ k ih=>
  intro i r h
  unfold ByteArray.toList.loop
  split
  ·rename_i hi
   rw [ih _ _ (by omega),List.reverse_cons,List.append_assoc]
   have hi':i<s.data.toList.length:=by simpa using hi
   rw [List.drop_eq_getElem_cons hi']
   simp [ByteArray.get!,hi]
  ·rw [List.drop_eq_nil_of_le (by simp;omega),List.append_nil]
theorem toList_data (s:ByteArray):s.toList=s.data.toList:=by
 unfold ByteArray.toList
 rw [toList_loop s s.size 0 [] (by omega)];simp

theorem str_get {s:ByteArray}{pre post:List UInt8}{c:UInt8}(h:s.data.toList=pre++c::post):s[pre.length]? = some c:=by
 have hl:pre.length<s.size:=by
  have:=congrArg List.length h
  simp at this;omega
 rw [getElem?_pos s pre.length hl]
 have:s.data.toList[pre.length]? = some c:=by rw [h];simp
 have e:s[pre.length]=s.data[pre.length]'(by simpa using hl):=rfl
 rw [e]
 simpa [hl] using this
theorem str_len {s:ByteArray}{l:List UInt8}(h:s.data.toList=l):s.size=l.length:=by rw [←h];simp
theorem index_str {X:Ctx}{t:TypeId}{a c:Nat}{b:Bool}{d:List AV}{s:ByteArray}{n:Nat}{x:UInt8}{k:IntKind}(ht:X.ty t=some ⟨a,b,c,d,.str⟩) (h:s[n]? = some x):indexA X t (.str s) (.int k n)=some (.int .u8 (x.toNat:Int)):=by
 simp [indexA,ht,h]

def lowC (c:UInt8):Bool:=decide (97≤(c.toNat:Int)) && decide ((c.toNat:Int)≤122)
def nameC (c:UInt8):Bool:=lowC c || (decide (48≤(c.toNat:Int)) && decide ((c.toNat:Int)≤57)) || decide ((c.toNat:Int)=45) || decide ((c.toNat:Int)=95)
def nameL:List UInt8→Bool
 | []=>false
 | c::l=>decide (l.length+1≤32) && lowC c && l.all nameC

def nmC:List UInt8→Bool
 | []=>true
 | c::l=>lowC c && l.all nameC
theorem nmC_snoc (l:List UInt8) (x:UInt8):nmC (l++[x])=(nmC l && if l = [] then lowC x else nameC x):=by
 cases l with
 | nil=>simp [nmC]
 | cons c l=>simp [nmC,Bool.and_assoc]
theorem nmC_app (l m:List UInt8) (h:nmC l=false):nmC (l++m)=false:=by
 cases l with
 | nil=>simp [nmC] at h
 | cons c l=>
  simp only [nmC,List.cons_append,List.all_append] at h ⊢
  rw [←Bool.and_assoc,h,Bool.false_and]
theorem nameL_ok (l:List UInt8):nameL l=(nmC l && (decide (1≤l.length) && decide (l.length≤32))):=by
 cases l with
 | nil=>rfl
 | cons c l=>simp only [nameL,nmC,List.length_cons];cases lowC c<;>cases l.all nameC<;>simp

theorem nameR (s:ByteArray) (hs:s.size≤1048576):EvV CX 74 [.str s] (· = .bool (nameL s.data.toList)):=by
 obtain⟨l,hl⟩:∃ l,s.data.toList=l:=⟨_,rfl⟩
 have hlen:=str_len hl
 rw [hl]
 have hsz:(s.size:Int)=(l.length:Int):=by rw [hlen]
 refine EvV.walk rfl fn74 rfl nt74 rfl ?_
 simp only [List.length_cons,List.length_nil,List.cons_append,List.nil_append,Nat.reduceAdd,Nat.reduceSub,List.replicate]
 repeat' (first|refine go1 ?_|refine za rfl ?_|(refine go2 fun A B a b=>?_;simp only [go_sem, *];(repeat' first|apply a.1|apply b.1|refine iteI (fun h=>?_) fun h=>?_)<;>clear a b A B))
 refine zbS [2,4,5,6,7,8,9,10,11,12,13,14,15,16,17,18,19,20,21,22,23,24,25,26,27,28,29,30,31,32,33,34,35,36,37,38,39,40,41,42,43,44,45,46,47,48,49,50] 3 l (fun pre _=>nmC pre=true) ?_ ?_ ?_ ?_
 ·rfl
 ·rfl
 ·intro g G h2
  simp only [zo,zq,zd,zf,List.set_cons_zero,List.set_cons_succ]
  rw [nameL_ok,h2,Bool.true_and]
  repeat' (first|refine go1 ?_|refine za rfl ?_|(refine go2 fun A B a b=>?_;simp only [go_sem, *,zc,List.length_map,Int.lt_irrefl,zbQ];(repeat' first|apply a.1|apply b.1|refine iteI (fun h=>?_) fun h=>?_)<;>clear a b A B))
  ·simp only [go_sem]
   have:1≤l.length:=by omega
   simp [this]
   omega
  ·simp only [go_sem]
   have:¬1≤l.length:=by omega
   simp [this]
 ·intro g G pre x post h1 h2
  simp only [zo,zq,zd,zf,List.set_cons_zero,List.set_cons_succ]
  have i0:=index_str (X:=CX) (k := .i64) ty9 (str_get (hl.trans h1))
  have lt1:(pre.length:Int)<(l.length:Int):=by rw [h1];simp;omega
  have w1:=zB (n:=pre.length) (by omega)
  have hh:Hold (s.data.toList=l):=⟨hl⟩
  have hh1:Hold (l=pre++x::post):=⟨h1⟩
  have hh2:Hold (nmC pre=true):=⟨h2⟩
  clear hl h1 h2
  repeat' (first|refine go1 ?_|refine za rfl ?_|(refine go2 fun A B a b=>?_;simp only [go_sem, *,zbN,zbQ];(repeat' first|apply a.1|apply b.1|refine iteI (fun h=>?_) fun h=>?_)<;>clear a b A B))
  all_goals first
   |(refine zbH hh1.out ?_ ?_ ?_
     ·rw [nmC_snoc,hh2.out,Bool.true_and]
      by_cases hp:pre = []
      ·have:pre.length=0:=by rw [hp];rfl
       rw [if_pos hp];simp [lowC];omega
      ·have:pre.length≠0:=fun e=>hp (List.eq_nil_of_length_eq_zero e)
       rw [if_neg hp];simp [nameC,lowC];omega
     ·((try simp only [zg,zi,zd,zf,List.set_cons_zero,List.set_cons_succ]);all_goals (first|rfl|(simp only [zn,zj,zc,List.length_map,List.length_append,List.length_cons,List.length_nil,Nat.zero_add];first|done|rfl)))
     ·first|exact⟨[],(List.append_nil _).symm⟩|exact⟨_,rfl⟩|(simp only [List.append_assoc,List.cons_append,List.nil_append];exact⟨_,rfl⟩))
   |(simp only [go_sem]
     have e:nmC (pre++[x])=false:=by
      rw [nmC_snoc,hh2.out,Bool.true_and]
      by_cases hp:pre = []
      ·have:pre.length=0:=by rw [hp];rfl
       rw [if_pos hp];simp [lowC];omega
      ·have:pre.length≠0:=fun e=>hp (List.eq_nil_of_length_eq_zero e)
       rw [if_neg hp];simp [nameC,lowC];omega
     have e2:=nmC_app _ post e
     rw [nameL_ok,hh1.out,show pre++x::post=(pre++[x])++post by simp,e2,Bool.false_and])

/- The reference's scalars: encoded, first, Points. -/
open Go.Proofs
attribute [local go_sem] List.replicate Nat.one_mul Nat.reduceMul Nat.zero_mul bslA fz135 fz136 fz137 fz139 rowsFill
set_option maxHeartbeats 4000000

theorem scalE (p:Nat):EvV CX 136 [.int .i64 p] (· = .bool (scal p)):=by
 have h0:(0:Int)≤(p:Int):=by omega
 have e1:((p:Int)≤1114111)↔(p≤1114111):=by omega
 have e2:((p:Int)<55296)↔(p<55296):=by omega
 have e3:((57343:Int)<(p:Int))↔(57343<p):=by omega
 by_cases h1:p≤1114111<;>by_cases h2:p<55296<;>by_cases h3:57343<p
 all_goals
  refine EvV.walk rfl fn136 rfl nt136 rfl ?_
  simp only [List.length_cons,List.length_nil,List.cons_append,List.nil_append,Nat.reduceAdd,Nat.reduceSub,List.replicate]
  repeat' (first|refine go1 ?_|refine za rfl ?_|(refine go2 fun A B a b=>?_;simp only [go_sem, *];(repeat' first|apply a.1|apply b.1|refine iteI (fun h=>?_) fun h=>?_)<;>clear a b A B))
  simp only [go_sem]
  simp [scal,h1,h2,h3]

theorem encUE (p:Nat) (hp:p≤1114111):EvV CX 137 [.int .i64 p] (· = .str ⟨(encU p).toArray⟩):=by
 have z1:¬(64:Int)=0:=by omega
 have z2:¬(4096:Int)=0:=by omega
 have z3:¬(262144:Int)=0:=by omega
 have d1:Int.tdiv (p:Int) 64=((p / 64:Nat):Int):=rfl
 have d2:Int.tdiv (p:Int) 4096=((p / 4096:Nat):Int):=rfl
 have d3:Int.tdiv (p:Int) 262144=((p / 262144:Nat):Int):=rfl
 have m1:Int.tmod (p:Int) 64=((p % 64:Nat):Int):=rfl
 have m2:Int.tmod ((p / 64:Nat):Int) 64=((p / 64 % 64:Nat):Int):=rfl
 have m3:Int.tmod ((p / 4096:Nat):Int) 64=((p / 4096 % 64:Nat):Int):=rfl
 have w1:IntKind.wrap .i64 ((p / 64:Nat):Int)=((p / 64:Nat):Int):=wI (by omega)
 have w2:IntKind.wrap .i64 ((p / 4096:Nat):Int)=((p / 4096:Nat):Int):=wI (by omega)
 have w3:IntKind.wrap .i64 ((p / 262144:Nat):Int)=((p / 262144:Nat):Int):=wI (by omega)
 have a1:IntKind.wrap .i64 ((128:Int)+((p % 64:Nat):Int))=((128+p % 64:Nat):Int):=wI (n:=128+p % 64) (by omega)
 have a2:IntKind.wrap .i64 ((128:Int)+((p / 64 % 64:Nat):Int))=((128+p / 64 % 64:Nat):Int):=wI (n:=128+p / 64 % 64) (by omega)
 have a3:IntKind.wrap .i64 ((128:Int)+((p / 4096 % 64:Nat):Int))=((128+p / 4096 % 64:Nat):Int):=wI (n:=128+p / 4096 % 64) (by omega)
 have b1:IntKind.wrap .u8 ((128+p % 64:Nat):Int)=((128+p % 64:Nat):Int):=wB (by omega)
 have b2:IntKind.wrap .u8 ((128+p / 64 % 64:Nat):Int)=((128+p / 64 % 64:Nat):Int):=wB (by omega)
 have b3:IntKind.wrap .u8 ((128+p / 4096 % 64:Nat):Int)=((128+p / 4096 % 64:Nat):Int):=wB (by omega)
 by_cases h1:(p:Int)<128
 ·have b0:IntKind.wrap .u8 (p:Int)=(p:Int):=wB (by omega)
  refine EvV.walk rfl fn137 rfl nt137 rfl ?_
  simp only [List.length_cons,List.length_nil,List.cons_append,List.nil_append,Nat.reduceAdd,Nat.reduceSub,List.replicate]
  repeat' (first|refine go1 ?_|refine za rfl ?_|(refine go2 fun A B a b=>?_;simp only [go_sem, *,zx,zh ty112 rfl,zw ty3 ty5 rfl,zbJ,zbW,zbX,wpK_bs ty112 ty9 ty5 rfl rfl rfl,bsK_sl,zbI,bytesOf_cons,bytesOf_nil,Int.toNat_natCast,zab,zc,zC,List.take_length,Nat.zero_le,Bool.true_or];(repeat' first|apply a.1|apply b.1|refine iteI (fun h=>?_) fun h=>?_)<;>clear a b A B))
  simp only [go_sem,zx,zh ty112 rfl,zw ty3 ty5 rfl]
  rw [encU,if_pos (by omega)]
 by_cases h2:(p:Int)<2048
 ·have a0:IntKind.wrap .i64 ((192:Int)+((p / 64:Nat):Int))=((192+p / 64:Nat):Int):=wI (n:=192+p / 64) (by omega)
  have b0:IntKind.wrap .u8 ((192+p / 64:Nat):Int)=((192+p / 64:Nat):Int):=wB (by omega)
  refine EvV.walk rfl fn137 rfl nt137 rfl ?_
  simp only [List.length_cons,List.length_nil,List.cons_append,List.nil_append,Nat.reduceAdd,Nat.reduceSub,List.replicate]
  repeat' (first|refine go1 ?_|refine za rfl ?_|(refine go2 fun A B a b=>?_;simp only [go_sem, *,zx,zh ty112 rfl,zw ty3 ty5 rfl,zbJ,zbW,zbX,wpK_bs ty112 ty9 ty5 rfl rfl rfl,bsK_sl,zbI,bytesOf_cons,bytesOf_nil,Int.toNat_natCast,zab,zc,zC,List.take_length,Nat.zero_le,Bool.true_or];(repeat' first|apply a.1|apply b.1|refine iteI (fun h=>?_) fun h=>?_)<;>clear a b A B))
  simp only [go_sem,zx,zh ty112 rfl,zw ty3 ty5 rfl]
  rw [encU,if_neg (by omega),if_pos (by omega)]
 by_cases h3:(p:Int)<65536
 ·have a0:IntKind.wrap .i64 ((224:Int)+((p / 4096:Nat):Int))=((224+p / 4096:Nat):Int):=wI (n:=224+p / 4096) (by omega)
  have b0:IntKind.wrap .u8 ((224+p / 4096:Nat):Int)=((224+p / 4096:Nat):Int):=wB (by omega)
  refine EvV.walk rfl fn137 rfl nt137 rfl ?_
  simp only [List.length_cons,List.length_nil,List.cons_append,List.nil_append,Nat.reduceAdd,Nat.reduceSub,List.replicate]
  repeat' (first|refine go1 ?_|refine za rfl ?_|(refine go2 fun A B a b=>?_;simp only [go_sem, *,zx,zh ty112 rfl,zw ty3 ty5 rfl,zbJ,zbW,zbX,wpK_bs ty112 ty9 ty5 rfl rfl rfl,bsK_sl,zbI,bytesOf_cons,bytesOf_nil,Int.toNat_natCast,zab,zc,zC,List.take_length,Nat.zero_le,Bool.true_or];(repeat' first|apply a.1|apply b.1|refine iteI (fun h=>?_) fun h=>?_)<;>clear a b A B))
  simp only [go_sem,zx,zh ty112 rfl,zw ty3 ty5 rfl]
  rw [encU,if_neg (by omega),if_neg (by omega),if_pos (by omega)]
 ·have a0:IntKind.wrap .i64 ((240:Int)+((p / 262144:Nat):Int))=((240+p / 262144:Nat):Int):=wI (n:=240+p / 262144) (by omega)
  have b0:IntKind.wrap .u8 ((240+p / 262144:Nat):Int)=((240+p / 262144:Nat):Int):=wB (by omega)
  refine EvV.walk rfl fn137 rfl nt137 rfl ?_
  simp only [List.length_cons,List.length_nil,List.cons_append,List.nil_append,Nat.reduceAdd,Nat.reduceSub,List.replicate]
  repeat' (first|refine go1 ?_|refine za rfl ?_|(refine go2 fun A B a b=>?_;simp only [go_sem, *,zx,zh ty112 rfl,zw ty3 ty5 rfl,zbJ,zbW,zbX,wpK_bs ty112 ty9 ty5 rfl rfl rfl,bsK_sl,zbI,bytesOf_cons,bytesOf_nil,Int.toNat_natCast,zab,zc,zC,List.take_length,Nat.zero_le,Bool.true_or];(repeat' first|apply a.1|apply b.1|refine iteI (fun h=>?_) fun h=>?_)<;>clear a b A B))
  simp only [go_sem,zx,zh ty112 rfl,zw ty3 ty5 rfl]
  rw [encU,if_neg (by omega),if_neg (by omega),if_neg (by omega)]

def fstV:Option (Nat×Nat)→AV
 | some (p,n)=> .tup [.int .i64 p,.int .i64 n]
 | none=> .tup [.int .i64 (-1),.int .i64 0]

/- The reference's scalars: first, Points; labels. -/
open Go.Proofs
attribute [local go_sem] br136 br137 fz149
set_option maxHeartbeats 4000000

theorem slice_str {X:Ctx}{t:TypeId}{a c:Nat}{b:Bool}{d:List AV}{s:ByteArray}{k:IntKind}{i j:Nat}(ht:X.ty t=some ⟨a,b,c,d,.str⟩) (hij:i≤j) (hj:j≤s.size):sliceA X t (.str s) (some (.int k i)) (some (.int k j)) none=some (.str (s.extract i j)):=by
 simp [sliceA,ht,boundA,hij,hj]
theorem extract_toList (s:ByteArray) (i j:Nat):(s.extract i j).toList=(s.data.toList.drop i).take (j-i):=by
 rw [toList_data]
 have:(s.extract i j).data=s.data.extract i j:=by simp
 rw [this,Array.toList_extract]
theorem acc_step {p:Nat}{tl:List UInt8}{k:Nat}{b:UInt8}(h:tl[k]? = some b):accU p (tl.take (k+1))=accU p (tl.take k)*64+b.toNat % 64:=by
 rw [List.take_add_one,h]
 simp [accU,List.foldl_append]

theorem fstE (s:ByteArray) (hs:s.size≤1048576){pre tl:List UInt8}{c:UInt8}(hl:s.data.toList=pre++c::tl):EvV CX 125 [.str s,.int .i64 pre.length] (· = fstV (fstU (c::tl))):=by
 have hlen:=str_len hl
 simp only [List.length_append,List.length_cons] at hlen
 have i0:=index_str (X:=CX) (k := .i64) ty9 (str_get hl)
 have hc:=c.toNat_lt
 have w0:IntKind.wrap .i64 (c.toNat:Int)=(c.toNat:Int):=wI (by omega)
 have k3:∀ (S:Store) (m:Int),expTop S (.int .i64 m)=some (.int .i64 m):=fun _ _=>rfl
 refine EvV.walk rfl fn125 rfl nt125 rfl ?_
 simp only [List.length_cons,List.length_nil,List.cons_append,List.nil_append,Nat.reduceAdd,Nat.reduceSub,List.replicate]
 repeat' (first|refine go1 ?_|refine za rfl ?_|(refine zt fun A B a b=>?_;simp only [go_sem, *,zx,zw ty5 ty3 rfl,zbN,zbJ,zbW,zbX,zbQ];(repeat' first|apply a.1|refine iteI (fun h=>?_) fun h=>?_)<;>clear a b A B))
 refine zcn [13,14,15,16,17,18,19,20,21,22,23,24,25,26,27] (fun _:Unit=>[(6,.int .i64 ((hdU c.toNat).1:Int)),(7,.int .i64 ((hdU c.toNat).2:Int))]) (fun _ H=>H) (fun _=>True) ?_ ?_
 ·by_cases h1:(240:Int)≤(c.toNat:Int)
  ·have e:hdU c.toNat=(c.toNat-240,4):=by rw [hdU,if_pos (by omega)]
   have w1:IntKind.wrap .i64 ((c.toNat:Int)-240)=((c.toNat-240:Nat):Int):=by rw [zu (by omega) (by omega)];omega
   rw [e]
   clear e i0
   repeat' (first|refine go1 ?_|refine za rfl ?_|(refine go2 fun A B a b=>?_;simp only [go_sem, *,zx,zw ty5 ty3 rfl];(repeat' first|apply a.1|apply b.1|refine iteI (fun h=>?_) fun h=>?_)<;>clear a b A B))
   refine zM () trivial ?_ ⟨[],rfl⟩
   ((try simp only [zg,zi,zd,zf,List.set_cons_zero,List.set_cons_succ]);all_goals (first|rfl|(simp only [zn,zj,zc,List.length_map,List.length_append,List.length_cons,List.length_nil,Nat.zero_add];first|done|rfl)))
  by_cases h2:(224:Int)≤(c.toNat:Int)
  ·have e:hdU c.toNat=(c.toNat-224,3):=by rw [hdU,if_neg (by omega),if_pos (by omega)]
   have w1:IntKind.wrap .i64 ((c.toNat:Int)-224)=((c.toNat-224:Nat):Int):=by rw [zu (by omega) (by omega)];omega
   rw [e]
   clear e i0
   repeat' (first|refine go1 ?_|refine za rfl ?_|(refine go2 fun A B a b=>?_;simp only [go_sem, *,zx,zw ty5 ty3 rfl];(repeat' first|apply a.1|apply b.1|refine iteI (fun h=>?_) fun h=>?_)<;>clear a b A B))
   refine zM () trivial ?_ ⟨[],rfl⟩
   ((try simp only [zg,zi,zd,zf,List.set_cons_zero,List.set_cons_succ]);all_goals (first|rfl|(simp only [zn,zj,zc,List.length_map,List.length_append,List.length_cons,List.length_nil,Nat.zero_add];first|done|rfl)))
  by_cases h3:(192:Int)≤(c.toNat:Int)
  ·have e:hdU c.toNat=(c.toNat-192,2):=by rw [hdU,if_neg (by omega),if_neg (by omega),if_pos (by omega)]
   have w1:IntKind.wrap .i64 ((c.toNat:Int)-192)=((c.toNat-192:Nat):Int):=by rw [zu (by omega) (by omega)];omega
   rw [e]
   clear e i0
   repeat' (first|refine go1 ?_|refine za rfl ?_|(refine go2 fun A B a b=>?_;simp only [go_sem, *,zx,zw ty5 ty3 rfl];(repeat' first|apply a.1|apply b.1|refine iteI (fun h=>?_) fun h=>?_)<;>clear a b A B))
   refine zM () trivial ?_ ⟨[],rfl⟩
   ((try simp only [zg,zi,zd,zf,List.set_cons_zero,List.set_cons_succ]);all_goals (first|rfl|(simp only [zn,zj,zc,List.length_map,List.length_append,List.length_cons,List.length_nil,Nat.zero_add];first|done|rfl)))
  ·have e:hdU c.toNat=(c.toNat,1):=by rw [hdU,if_neg (by omega),if_neg (by omega),if_neg (by omega)]
   rw [e]
   clear e i0
   repeat' (first|refine go1 ?_|refine za rfl ?_|(refine go2 fun A B a b=>?_;simp only [go_sem, *,zx,zw ty5 ty3 rfl];(repeat' first|apply a.1|apply b.1|refine iteI (fun h=>?_) fun h=>?_)<;>clear a b A B))
   refine zM () trivial ?_ ⟨[],rfl⟩
   ((try simp only [zg,zi,zd,zf,List.set_cons_zero,List.set_cons_succ]);all_goals (first|rfl|(simp only [zn,zj,zc,List.length_map,List.length_append,List.length_cons,List.length_nil,Nat.zero_add];first|done|rfl)))
 rintro _ g0 G0 _
 have hn:=hdU_n c.toNat
 have hp0:=hdU_p (c:=c.toNat) hc
 have hF:fstU (c::tl)=if tl.length+1<(hdU c.toNat).2 then none else
  if scal (accU (hdU c.toNat).1 (tl.take ((hdU c.toNat).2-1)))=true∧encU (accU (hdU c.toNat).1 (tl.take ((hdU c.toNat).2-1)))=(c::tl).take (hdU c.toNat).2 then some (accU (hdU c.toNat).1 (tl.take ((hdU c.toNat).2-1)),(hdU c.toNat).2) else none:=rfl
 rw [hF]
 clear i0 hF w0
 generalize (hdU c.toNat).1=p0 at *
 generalize (hdU c.toNat).2=n at *
 have wa:IntKind.wrap .i64 ((pre.length:Int)+(n:Int))=((pre.length+n:Nat):Int):=wI (n:=pre.length+n) (by omega)
 have hsz:(s.size:Int)=((pre.length+(tl.length+1):Nat):Int):=by rw [hlen]
 simp only [zo,zq,zd,zf,List.set_cons_zero,List.set_cons_succ]
 by_cases ho:tl.length+1<n
 ·have z:(((pre.length+(tl.length+1):Nat):Int))<((pre.length+n:Nat):Int):=by omega
  rw [if_pos ho]
  clear hlen ho
  repeat' (first|refine go1 ?_|refine za rfl ?_|(refine go2 fun A B a b=>?_;simp only [go_sem, *,zx,zw ty5 ty3 rfl,zbN,zbJ,zbW,zbX,zbQ];(repeat' first|apply a.1|apply b.1|refine iteI (fun h=>?_) fun h=>?_)<;>clear a b A B))
  simp only [go_sem,zcv]
  rw [if_pos (show idsOK _=true from rfl)]
  simp only [expTops,k3,fstV]
 have z:¬(((pre.length+(tl.length+1):Nat):Int))<((pre.length+n:Nat):Int):=by omega
 have hon:n≤tl.length+1:=by omega
 rw [if_neg ho]
 clear ho
 repeat' (first|refine go1 ?_|refine za rfl ?_|(refine zt fun A B a b=>?_;simp only [go_sem, *,zx,zw ty5 ty3 rfl,zbN,zbJ,zbW,zbX,zbQ];(repeat' first|apply a.1|refine iteI (fun h=>?_) fun h=>?_)<;>clear a b A B))
 (refine zY fun A B hA hB=>?_;simp only [go_sem, *,zx,zw ty5 ty3 rfl];first|(refine hA.out ?_;clear hA hB A B)|(refine hB.out ?_;clear hA hB A B))
 repeat' (first|refine go1 ?_|refine za rfl ?_|(refine zt fun A B a b=>?_;simp only [go_sem, *,zx,zw ty5 ty3 rfl];(repeat' first|apply a.1|refine iteI (fun h=>?_) fun h=>?_)<;>clear a b A B))
 clear z
 refine zN [34,35,36,37,38,39,40,41,42,43,44,45,46,47,48] (fun i:Nat=>[(6,.int .i64 ((accU p0 (tl.take (i-1)):Nat):Int)),(8,.int .i64 (i:Int))]) (fun _ H=>H) (fun i=>1≤i∧i≤n) (fun i=>n-i) 1 ⟨Nat.le_refl _,hn.1⟩ ?_ ⟨_,rfl⟩ ?_
 ·((try simp only [zg,zi,zd,zf,List.set_cons_zero,List.set_cons_succ]);all_goals (first|rfl|(simp only [zn,zj,zc,List.length_map,List.length_append,List.length_cons,List.length_nil,Nat.zero_add];first|done|rfl)))
 rintro i g G ⟨h1,h2⟩
 simp only [zo,zq,zd,zf,List.set_cons_zero,List.set_cons_succ]
 have hacc:=accU_lt (tl.take (i-1)) p0
 have hlt:(tl.take (i-1)).length≤3:=by simp;omega
 have hpow:64 ^ (tl.take (i-1)).length≤262144:=Nat.le_trans (Nat.pow_le_pow_right (by omega) hlt) (by decide)
 have hbnd:accU p0 (tl.take (i-1))<67108864:=Nat.lt_of_lt_of_le hacc (Nat.le_trans (Nat.mul_le_mul (show p0+1≤256 by omega) hpow) (by decide))
 by_cases hi:i<n
 ·have hk:i-1<tl.length:=by omega
  obtain⟨b,hb⟩:∃ b,tl[i-1]? = some b:=⟨_,List.getElem?_eq_getElem hk⟩
  have hbl:=b.toNat_lt
  have hget:s[pre.length+i]? = some b:=by
   have e:s.data.toList=(pre++c::tl.take (i-1))++b::tl.drop i:=by
    rw [hl]
    have:tl=tl.take (i-1)++b::tl.drop i:=by
     have h3:=List.take_append_drop (i-1) tl
     have h4:tl.drop (i-1)=b::tl.drop i:=by
      rw [List.drop_eq_getElem_cons hk]
      have:tl[i-1]=b:=by rw [List.getElem?_eq_getElem hk] at hb;injection hb
      rw [this,show i-1+1=i by omega]
     rw [h4] at h3;exact h3.symm
    simp only [List.append_assoc,List.cons_append]
    rw [←this]
   have e2:=str_get e
   have e3:(pre++c::tl.take (i-1)).length=pre.length+i:=by simp;omega
   rw [e3] at e2;exact e2
  have i1:=index_str (X:=CX) (k := .i64) ty9 hget
  have lt1:(i:Int)<(n:Int):=by omega
  have w1:IntKind.wrap .i64 (((accU p0 (tl.take (i-1)):Nat):Int)*64)=((accU p0 (tl.take (i-1))*64:Nat):Int):=wI (n:=accU p0 (tl.take (i-1))*64) (by omega)
  have w2:IntKind.wrap .i64 ((pre.length:Int)+(i:Int))=((pre.length+i:Nat):Int):=wI (n:=pre.length+i) (by omega)
  have w3:IntKind.wrap .i64 (b.toNat:Int)=(b.toNat:Int):=wI (by omega)
  have m1:Int.tmod (b.toNat:Int) 64=((b.toNat % 64:Nat):Int):=rfl
  have z4:¬(64:Int)=0:=by omega
  have w4:IntKind.wrap .i64 (((accU p0 (tl.take (i-1))*64:Nat):Int)+((b.toNat % 64:Nat):Int))=((accU p0 (tl.take (i-1))*64+b.toNat % 64:Nat):Int):=wI (n:=accU p0 (tl.take (i-1))*64+b.toNat % 64) (by omega)
  have w5:=zB (n:=i) (by omega)
  have ha:=acc_step (p:=p0) hb
  rw [show i-1+1=i by omega] at ha
  have hha:Hold (accU p0 (tl.take i)=accU p0 (tl.take (i-1))*64+b.toNat % 64):=⟨ha⟩
  clear ha hb hget
  repeat' (first|refine go1 ?_|refine za rfl ?_|(refine go2 fun A B a b=>?_;simp only [go_sem, *,zx,zw ty5 ty3 rfl,zbN,zbJ,zbW,zbX,zbQ];(repeat' first|apply a.1|apply b.1|refine iteI (fun h=>?_) fun h=>?_)<;>clear a b A B))
  refine zy (i+1) (by omega) ⟨by omega,by omega⟩ ?_ ⟨_,rfl⟩
  ((try simp only [zg,zi,zd,zf,List.set_cons_zero,List.set_cons_succ]);all_goals (first|rfl|(simp only [zn,zc,List.length_map,Nat.add_sub_cancel,hha.out];done)|(simp only [zn,zj,zc,List.length_map,List.length_append,List.length_cons,List.length_nil,Nat.zero_add,Nat.add_sub_cancel,hha.out];first|done|rfl)))
 ·have hin:i=n:=by omega
  subst hin
  have lt1:¬(i:Int)<(i:Int):=by omega
  generalize hP:accU p0 (tl.take (i-1))=p at *
  have qs:=(scalE p).rw
  repeat' (first|refine go1 ?_|refine za rfl ?_|(refine zt fun A B a b=>?_;simp only [go_sem, *,zx,zw ty5 ty3 rfl];(repeat' first|apply a.1|refine iteI (fun h=>?_) fun h=>?_)<;>clear a b A B))
  (refine zY fun A B hA hB=>?_;simp only [go_sem, *,zx,zw ty5 ty3 rfl];first|(refine hA.out ?_;clear hA hB A B)|(refine hB.out ?_;clear hA hB A B))
  have hle:pre.length≤pre.length+i:=by omega
  have hle2:pre.length+i≤s.size:=by omega
  have sl:=slice_str (X:=CX) (k := .i64) (s:=s) ty9 hle hle2
  by_cases k1:scal p=true
  ·have hpm:p≤1114111:=by simp [scal] at k1;omega
   have qe:=(encUE p hpm).rw
   have hq:((⟨(encU p).toArray⟩:ByteArray).toList == (s.extract pre.length (pre.length+i)).toList)=decide (encU p=(c::tl).take i):=by
    rw [extract_toList,toList_data,hl,List.drop_left,Nat.add_sub_cancel_left]
    rw [Bool.eq_iff_iff];simp
   by_cases k2:encU p=(c::tl).take i
   ·have hd:decide (encU p=(c::tl).take i)=true:=by simpa using k2
    rw [hd] at hq
    rw [if_pos ⟨k1,k2⟩]
    clear hd hle hle2 hbnd hacc hlt hpow k2
    repeat' (first|refine go1 ?_|refine za rfl ?_|(refine go2 fun A B a b=>?_;simp only [go_sem, *,zx,zw ty5 ty3 rfl,zbN,zbJ,zbW,zbX,zbQ,strBin];(repeat' first|apply a.1|apply b.1|refine iteI (fun h=>?_) fun h=>?_)<;>clear a b A B))
    simp only [go_sem,zcv]
    rw [if_pos (show idsOK _=true from rfl)]
    simp only [expTops,k3,fstV]
   ·have hd:decide (encU p=(c::tl).take i)=false:=by simpa using k2
    rw [hd] at hq
    rw [if_neg (fun h=>k2 h.2)]
    clear hd hle hle2 hbnd hacc hlt hpow k2
    repeat' (first|refine go1 ?_|refine za rfl ?_|(refine go2 fun A B a b=>?_;simp only [go_sem, *,zx,zw ty5 ty3 rfl,zbN,zbJ,zbW,zbX,zbQ,strBin];(repeat' first|apply a.1|apply b.1|refine iteI (fun h=>?_) fun h=>?_)<;>clear a b A B))
    simp only [go_sem,zcv]
    rw [if_pos (show idsOK _=true from rfl)]
    simp only [expTops,k3,fstV]
  ·rw [if_neg (fun h=>k1 h.1)]
   have k1:scal p=false:=by simpa using k1
   clear hle hle2 hbnd hacc hlt hpow
   repeat' (first|refine go1 ?_|refine za rfl ?_|(refine go2 fun A B a b=>?_;simp only [go_sem, *,zx,zw ty5 ty3 rfl,zbN,zbJ,zbW,zbX,zbQ];(repeat' first|apply a.1|apply b.1|refine iteI (fun h=>?_) fun h=>?_)<;>clear a b A B))
   simp only [go_sem,zcv]
   rw [if_pos (show idsOK _=true from rfl)]
   simp only [expTops,k3,fstV]

/- The reference's Points, Label, People. -/
open Go.Proofs
attribute [local go_sem] ty29 br125 appK fz153 fz156 lenK_esl zcF zbV lenK_tsl nilsK zcL zcA zbI zcK br102 fz142
set_option maxHeartbeats 4000000

theorem Option.map_map' {α:Type}(o:Option (List α)) (a:List α) (p:α):(o.map (p :: ·)).map (a ++ ·)=o.map ((a++[p]) ++ ·):=by
 cases o<;>simp

def natI (l:List Nat):List Int:=l.map (fun n:Nat=>((n:Nat):Int))
def ptsV:Option (List Nat)→AV
 | some l=> .tup [.osl 1 (ints (natI l)),.bool true]
 | none=> .tup [.osl 1 [],.bool false]

theorem ptsE (s:ByteArray) (hs:s.size≤1048576):EvV CX 102 [.str s] (· = ptsV (pts s.data.toList)):=by
 obtain⟨l,hl⟩:∃ l,s.data.toList=l:=⟨_,rfl⟩
 have hlen:=str_len hl
 rw [hl]
 have k5:∀ (S:Store) (m:Bool),expTop S (.bool m)=some (.bool m):=fun _ _=>rfl
 refine EvV.walk rfl fn102 rfl nt102 rfl ?_
 simp only [List.length_cons,List.length_nil,List.cons_append,List.nil_append,Nat.reduceAdd,Nat.reduceSub,List.replicate]
 repeat' (first|refine go1 ?_|refine za rfl ?_|(refine go2 fun A B a b=>?_;simp only [go_sem, *,zr ty29 rfl,zk ty29 rfl,zh ty29 rfl];(repeat' first|apply a.1|apply b.1|refine iteI (fun h=>?_) fun h=>?_)<;>clear a b A B))
 refine zN [2,3,6,7,8,9,10,11,12,13,14,15,16,17,18,19,20,21,22,23,24,25,26] (fun a:List UInt8×List UInt8×List Nat=>[(4,.sl 1 a.2.2.length 0 a.2.2.length 1),(5,.int .i64 (a.1.length:Int))]) (fun a G=> .arr [] 1 0 true :: .arr (ints (natI a.2.2)) 1 0 true::G)
  (fun a=>l=a.1++a.2.1∧a.2.2.length≤a.1.length∧pts l=(pts a.2.1).map (a.2.2 ++ ·)) (fun a=>a.2.1.length) ([],l,[]) ⟨rfl,Nat.le_refl _,by cases pts l<;>simp⟩ ?_ ⟨[],rfl⟩ ?_
 ·rfl
 rintro⟨pre,rest,out⟩ g G ⟨h1,h2,h3⟩
 simp only at h1 h2 h3
 rw [h3]
 simp only [zo,zq,zd,zf,List.set_cons_zero,List.set_cons_succ]
 have hsz:(s.size:Int)=(l.length:Int):=by rw [hlen]
 have hnl:(natI out).length=out.length:=by simp [natI]
 cases rest with
 | nil=>
  rw [List.append_nil] at h1
  have e:(l.length:Int)=(pre.length:Int):=by rw [h1]
  rw [pts_nil]
  clear h1 h3
  repeat' (first|refine go1 ?_|refine za rfl ?_|(refine go2 fun A B a b=>?_;simp only [go_sem, *,zr ty29 rfl,zk ty29 rfl,zh ty29 rfl,zbN,zbJ,zbW,zbX,zbQ,Int.lt_irrefl];(repeat' first|apply a.1|apply b.1|refine iteI (fun h=>?_) fun h=>?_)<;>clear a b A B))
  simp only [go_sem,zcv]
  simp [idsOK,ownIds,lentIds,expTops,expTop,k5,ptsV,ints,natI,AV.stab]
 | cons c tl=>
  have lt1:(pre.length:Int)<(l.length:Int):=by rw [h1];simp;omega
  have q:=(fstE s hs (hl.trans h1)).rw
  cases hf:fstU (c::tl) with
  | none=>
   rw [hf,fstV] at q
   rw [pts_none hf]
   clear h1 h3 hf
   repeat' (first|refine go1 ?_|refine za rfl ?_|(refine go2 fun A B a b=>?_;simp only [go_sem, *,zr ty29 rfl,zk ty29 rfl,zh ty29 rfl,zbN,zbJ,zbW,zbX,zbQ,adoptL,adopt1];(repeat' first|apply a.1|apply b.1|refine iteI (fun h=>?_) fun h=>?_)<;>clear a b A B))
   simp only [go_sem,zcv]
   simp [idsOK,ownIds,lentIds,expTops,expTop,k5,ptsV,AV.stab]
  | some pn=>
   obtain⟨p,n⟩:=pn
   rw [hf,fstV] at q
   have hn:=fstU_n hf
   have hlp:l.length=pre.length+(tl.length+1):=by rw [h1];simp
   simp only [List.length_cons] at hn
   have b1:(out.length+1)*8≤140737488355328:=by omega
   have b2:out.length+1≤140737488355328:=by omega
   have z:((n:Int) == 0)=false:=by simp;omega
   have z2:¬(n:Int)=0:=by omega
   have w1:IntKind.wrap .i64 ((pre.length:Int)+(n:Int))=((pre.length+n:Nat):Int):=wI (n:=pre.length+n) (by omega)
   have hh:Hold (l=(pre++(c::tl).take n)++(c::tl).drop n∧(pre++(c::tl).take n).length=pre.length+n∧(pts (c::tl)).map (out ++ ·)=(pts ((c::tl).drop n)).map ((out++[p]) ++ ·)):=by
    refine⟨⟨?_,?_,?_⟩⟩
    ·rw [List.append_assoc,List.take_append_drop];exact h1
    ·simp only [List.length_append,List.length_take,List.length_cons];omega
    ·rw [pts_some hf,Option.map_map']
   have hl2:out.length≤1048576:=by omega
   clear h1 h3 hf hlp
   repeat' (first|refine go1 ?_|refine za rfl ?_|(refine go2 fun A B a b=>?_;simp only [go_sem, *,zr ty29 rfl,zk ty29 rfl,zh ty29 rfl,zbN,zbJ,zbW,zbX,zbQ,adoptL,adopt1,zb,ze,zm,zp,zj,zc,List.length_map,zK,zab,zC,List.take_length,Nat.zero_le,Bool.true_or,List.append_assoc];(repeat' first|apply a.1|apply b.1|refine iteI (fun h=>?_) fun h=>?_)<;>clear a b A B))
   refine zy (pre++(c::tl).take n,(c::tl).drop n,out++[p]) ?_ ⟨hh.out.1,?_,hh.out.2.2⟩ ?_ ?_
   ·simp only [List.length_drop,List.length_cons];omega
   ·rw [hh.out.2.1];simp;omega
   ·((try simp only [zg,zi,zd,zf,List.set_cons_zero,List.set_cons_succ]);all_goals (first|rfl|(simp only [zn,zc,List.length_map,hh.out.2.1];done)|(simp only [zn,zj,zc,List.length_map,List.length_append,List.length_cons,List.length_nil,Nat.zero_add,hh.out.2.1];first|done|rfl)))
   ·exact⟨_,by simp [natI,ints];rfl⟩

def okc (c:UInt8):Bool:=decide (32≤(c.toNat:Int)) && decide ((c.toNat:Int)≠127)
def labU (l:List UInt8):Bool:=l.all okc && ((pts l).isSome && (decide (1≤l.length) && decide (l.length≤32)))

theorem labelR (s:ByteArray) (hs:s.size≤1048576):EvV CX 68 [.str s] (· = .bool (labU s.data.toList)):=by
 have q:=(ptsE s hs).rw
 obtain⟨l,hl⟩:∃ l,s.data.toList=l:=⟨_,rfl⟩
 have hlen:=str_len hl
 rw [hl] at q ⊢
 have hsz:(s.size:Int)=(l.length:Int):=by rw [hlen]
 refine EvV.walk rfl fn68 rfl nt68 rfl ?_
 simp only [List.length_cons,List.length_nil,List.cons_append,List.nil_append,Nat.reduceAdd,Nat.reduceSub,List.replicate]
 repeat' (first|refine go1 ?_|refine za rfl ?_|(refine go2 fun A B a b=>?_;simp only [go_sem, *];(repeat' first|apply a.1|apply b.1|refine iteI (fun h=>?_) fun h=>?_)<;>clear a b A B))
 refine zbS [2,6,7,8,9,10,11,12,13,14,15,16,17,18,19,20,21] 3 l (fun pre post=>l.all okc=post.all okc) ?_ ?_ ?_ ?_
 ·rfl
 ·rfl
 ·intro g G h2
  have hE:labU l=((pts l).isSome && (decide (1≤l.length) && decide (l.length≤32))):=by rw [labU,h2];rfl
  rw [hE]
  clear hE h2
  simp only [zo,zq,zd,zf,List.set_cons_zero,List.set_cons_succ]
  cases hp:pts l with
  | none=>
   rw [hp,ptsV] at q
   repeat' (first|refine go1 ?_|refine za rfl ?_|(refine go2 fun A B a b=>?_;simp only [go_sem, *,zbN,zbJ,zbW,zbX,zbQ,Int.lt_irrefl,adoptL,adopt1];(repeat' first|apply a.1|apply b.1|refine iteI (fun h=>?_) fun h=>?_)<;>clear a b A B))
   simp only [go_sem]
   rfl
  | some ps=>
   rw [hp,ptsV] at q
   by_cases k1:(1:Int)≤(l.length:Int)
   ·by_cases k2:(l.length:Int)≤32
    ·repeat' (first|refine go1 ?_|refine za rfl ?_|(refine go2 fun A B a b=>?_;simp only [go_sem, *,zbN,zbJ,zbW,zbX,zbQ,Int.lt_irrefl,adoptL,adopt1];(repeat' first|apply a.1|apply b.1|refine iteI (fun h=>?_) fun h=>?_)<;>clear a b A B))
     simp only [go_sem]
     simp;omega
    ·repeat' (first|refine go1 ?_|refine za rfl ?_|(refine go2 fun A B a b=>?_;simp only [go_sem, *,zbN,zbJ,zbW,zbX,zbQ,Int.lt_irrefl,adoptL,adopt1];(repeat' first|apply a.1|apply b.1|refine iteI (fun h=>?_) fun h=>?_)<;>clear a b A B))
     simp only [go_sem]
     simp;omega
   ·repeat' (first|refine go1 ?_|refine za rfl ?_|(refine go2 fun A B a b=>?_;simp only [go_sem, *,zbN,zbJ,zbW,zbX,zbQ,Int.lt_irrefl,adoptL,adopt1];(repeat' first|apply a.1|apply b.1|refine iteI (fun h=>?_) fun h=>?_)<;>clear a b A B))
    simp only [go_sem]
    simp;omega
 ·intro g G pre x post h1 h2
  simp only [zo,zq,zd,zf,List.set_cons_zero,List.set_cons_succ]
  have i0:=index_str (X:=CX) (k := .i64) ty9 (str_get (hl.trans h1))
  have lt1:(pre.length:Int)<(l.length:Int):=by rw [h1];simp;omega
  have w1:=zB (n:=pre.length) (by omega)
  have hh1:Hold (l=pre++x::post):=⟨h1⟩
  have hh2:Hold (l.all okc=(x::post).all okc):=⟨h2⟩
  clear h1 h2 q
  by_cases k1:(x.toNat:Int)<32
  ·repeat' (first|refine go1 ?_|refine za rfl ?_|(refine go2 fun A B a b=>?_;simp only [go_sem, *,zbN,zbJ,zbW,zbX,zbQ];(repeat' first|apply a.1|apply b.1|refine iteI (fun h=>?_) fun h=>?_)<;>clear a b A B))
   simp only [go_sem]
   have e:okc x=false:=by simp [okc];omega
   rw [labU,hh2.out,List.all_cons,e];rfl
  by_cases k2:(x.toNat:Int)=127
  ·have k2':((x.toNat:Int) == 127)=true:=by simpa using k2
   have hk:Hold ((x.toNat:Int)=127):=⟨k2⟩
   clear k2
   repeat' (first|refine go1 ?_|refine za rfl ?_|(refine go2 fun A B a b=>?_;simp only [go_sem, *,zbN,zbJ,zbW,zbX,zbQ,k2'];(repeat' first|apply a.1|apply b.1|refine iteI (fun h=>?_) fun h=>?_)<;>clear a b A B))
   simp only [go_sem]
   have e:okc x=false:=by have:=hk.out;simp [okc];omega
   rw [labU,hh2.out,List.all_cons,e];rfl
  ·have k2':((x.toNat:Int) == 127)=false:=by simpa using k2
   repeat' (first|refine go1 ?_|refine za rfl ?_|(refine go2 fun A B a b=>?_;simp only [go_sem, *,zbN,zbJ,zbW,zbX,zbQ,k2'];(repeat' first|apply a.1|apply b.1|refine iteI (fun h=>?_) fun h=>?_)<;>clear a b A B))
   refine zbH hh1.out ?_ ?_ ?_
   ·have e:okc x=true:=by simp [okc];omega
    rw [hh2.out,List.all_cons,e,Bool.true_and]
   ·((try simp only [zg,zi,zd,zf,List.set_cons_zero,List.set_cons_succ]);all_goals (first|rfl|(simp only [zn,zj,zc,List.length_map,List.length_append,List.length_cons,List.length_nil,Nat.zero_add];first|done|rfl)))
   ·first|exact⟨[],(List.append_nil _).symm⟩|exact⟨_,rfl⟩|(simp only [List.append_assoc,List.cons_append,List.nil_append];exact⟨_,rfl⟩)

/- Labels, as the program tests them. -/
open Go.Proofs
attribute [local go_sem] ty113 fz182 br121 fz184 br89 br90 br91 fz109 fz110
set_option maxHeartbeats 4000000

/- The reference's People. -/
open Go.Proofs
attribute [local go_sem] ty23 ty34 ty66 br55 br68 fz148 fz150
set_option maxHeartbeats 4000000

def lastP (pre:List Psn):Psn:=pre.getLastD noP
def ordP (pre:List Psn) (x:Psn):Bool:=decide (pre = []) || decide ((lastP pre).id<x.id)
def errP (pre:List Psn) (x:Psn):Int:=if idOK x.id=true then if ordP pre x=true then if labU x.name.data.toList=true then 0 else 7 else 10 else 2
def errPF:List Psn→List Psn→Int
 | _,[]=>0
 | pre,x::post=>if errP pre x=0 then errPF (pre++[x]) post else errP pre x
def pplF (ps:List Psn):Int:=if ps.length≤40 then errPF [] ps else 11

theorem ordP_cases {w:AV}{ps pre post:List Psn}{x:Psn}(hw:SLs 3 (ps.map encP) w) (hl:ps.length<9223372036854775807) (hg:ps=pre++x::post) :
  (ordP pre x=true∧¬(0:Int)<(pre.length:Int)) ∨
  (ordP pre x=true∧¬x.id≤(lastP pre).id∧(0:Int)<(pre.length:Int)∧indexAddrA CX 23 w (.int .i64 (IntKind.wrap .i64 ((pre.length:Int)-1)))=some (.tptr (stOf w) (encP (lastP pre)) 0)) ∨
  (ordP pre x=false∧x.id≤(lastP pre).id∧(0:Int)<(pre.length:Int)∧indexAddrA CX 23 w (.int .i64 (IntKind.wrap .i64 ((pre.length:Int)-1)))=some (.tptr (stOf w) (encP (lastP pre)) 0)):=by
 by_cases hp:pre = []
 ·left;exact⟨by simp [ordP,hp],by simp [hp]⟩
 ·have z0:(0:Int)<(pre.length:Int):=by have:=List.length_pos_iff.mpr hp;omega
  have e:indexAddrA CX 23 w (.int .i64 (IntKind.wrap .i64 ((pre.length:Int)-1)))=some (.tptr (stOf w) (encP (lastP pre)) 0):=prev_sls (f:=encP) (by rw [←hg];exact hw) (by rw [←hg];omega) ty23 ty66 rfl noP z0
  by_cases hl:x.id≤(lastP pre).id
  ·right;right;exact⟨by simp [ordP,hp];omega,hl,z0,e⟩
  ·right;left;exact⟨by simp [ordP,hp];omega,hl,z0,e⟩

theorem peopleR {w:AV}{ps:List Psn}(hw:SLs 3 (ps.map encP) w) (hl:ps.length<9223372036854775807) (hn:∀ p∈ps,p.name.size≤1048576):EvV CX 37 [w] (· = .int .i64 (pplF ps)):=by
 by_cases k1:40<(ps.length:Int)
 ·refine EvV.walk rfl fn37 rfl nt37 rfl ?_
  simp only [List.length_cons,List.length_nil,List.cons_append,List.nil_append,Nat.reduceAdd,Nat.reduceSub,List.replicate]
  repeat' (first|refine go1 ?_|refine za rfl ?_|(refine zt fun A B a b=>?_;simp only [go_sem, *,zA hw,zb,ze,zm,zp,zj,zc,List.length_map,zK];(repeat' first|apply a.1|refine iteI (fun h=>?_) fun h=>?_)<;>clear a b A B))
  (refine zY fun A B hA hB=>?_;simp only [go_sem, *,zb,ze,zm,zp,zj,zc,List.length_map,zK];first|(refine hA.out ?_;clear hA hB A B)|(refine hB.out ?_;clear hA hB A B))
  repeat' (first|refine go1 ?_|refine za rfl ?_|(refine zt fun A B a b=>?_;simp only [go_sem, *];(repeat' first|apply a.1|refine iteI (fun h=>?_) fun h=>?_)<;>clear a b A B))
  simp only [go_sem]
  have:¬ps.length≤40:=by omega
  simp [pplF,this]
 have l40:ps.length≤40:=by omega
 have hE:pplF ps=errPF [] ps:=by rw [pplF,if_pos l40]
 rw [hE]
 clear hE
 refine EvV.walk rfl fn37 rfl nt37 rfl ?_
 simp only [List.length_cons,List.length_nil,List.cons_append,List.nil_append,Nat.reduceAdd,Nat.reduceSub,List.replicate]
 repeat' (first|refine go1 ?_|refine za rfl ?_|(refine zt fun A B a b=>?_;simp only [go_sem, *,zA hw,zb,ze,zm,zp,zj,zc,List.length_map,zK];(repeat' first|apply a.1|refine iteI (fun h=>?_) fun h=>?_)<;>clear a b A B))
 (refine zY fun A B hA hB=>?_;simp only [go_sem, *,zb,ze,zm,zp,zj,zc,List.length_map,zK];first|(refine hA.out ?_;clear hA hB A B)|(refine hB.out ?_;clear hA hB A B))
 repeat' (first|refine go1 ?_|refine za rfl ?_|(refine zt fun A B a b=>?_;simp only [go_sem, *,zA hw,zb,ze,zm,zp,zj,zc,List.length_map,zK];(repeat' first|apply a.1|refine iteI (fun h=>?_) fun h=>?_)<;>clear a b A B))
 clear k1
 refine zbS [2,3,10,11,12,13,14,15,16,17,18,19,20,21,22,23,24,25,26,27,28,29,30,31,32,33,34,35,36,37,38,39,40,41,42] 9 ps (fun pre post=>errPF [] ps=errPF pre post) ?_ ?_ ?_ ?_
 ·rfl
 ·rfl
 ·intro g G hE
  rw [hE]
  simp only [zo,zq,zd,zf,List.set_cons_zero,List.set_cons_succ]
  repeat' (first|refine go1 ?_|refine za rfl ?_|(refine go2 fun A B a b=>?_;simp only [go_sem, *,zc,List.length_map,Int.lt_irrefl];(repeat' first|apply a.1|apply b.1|refine iteI (fun h=>?_) fun h=>?_)<;>clear a b A B))
  simp only [go_sem]
  rfl
 intro g G pre x post h1 hE
 have i0:=zbE hw (X:=CX) ty23 ty66 rfl (n:=pre.length) (row:=encP x) (k := .i64) (by rw [h1];exact zcf encP pre x post)
 have lt1:(pre.length:Int)<(ps.length:Int):=by rw [h1];simp;omega
 have hpl:pre.length<ps.length:=by rw [h1];simp
 have w1:=zB (n:=pre.length) (by omega)
 have hxn:=hn x (by rw [h1];simp)
 have ho:=ordP_cases hw hl h1
 have hh1:Hold (ps=pre++x::post):=⟨h1⟩
 have hhE:Hold (errPF [] ps=errPF pre (x::post)):=⟨hE⟩
 have qi:=(identR x.id).rw
 have ql:=(labelR x.name hxn).rw
 clear h1 hE l40
 simp only [zo,zq,zd,zf,List.set_cons_zero,List.set_cons_succ]
 by_cases k1:idOK x.id=true
 rotate_left
 ·have k1:idOK x.id=false:=by simpa using k1
  clear ho ql
  repeat' (first|refine go1 ?_|refine za rfl ?_|(refine go2 fun A B a b=>?_;simp only [go_sem, *,zb,ze,zm,zp,zj,zc,List.length_map,zK,encP];(repeat' first|apply a.1|apply b.1|refine iteI (fun h=>?_) fun h=>?_)<;>clear a b A B))
  simp only [go_sem]
  rw [hhE.out,errPF];simp [errP,k1]
 rcases ho with ⟨k2,e1⟩|⟨k2,e1,e2,e3⟩|⟨k2,e1,e2,e3⟩
 rotate_right
 ·clear ql
  repeat' (first|refine go1 ?_|refine za rfl ?_|(refine go2 fun A B a b=>?_;simp only [go_sem, *,zb,ze,zm,zp,zj,zc,List.length_map,zK,encP];(repeat' first|apply a.1|apply b.1|refine iteI (fun h=>?_) fun h=>?_)<;>clear a b A B))
  simp only [go_sem]
  rw [hhE.out,errPF];simp [errP,k1,k2]
 all_goals
  by_cases k3:labU x.name.data.toList=true
  ·repeat' (first|refine go1 ?_|refine za rfl ?_|(refine go2 fun A B a b=>?_;simp only [go_sem, *,zb,ze,zm,zp,zj,zc,List.length_map,zK,encP];(repeat' first|apply a.1|apply b.1|refine iteI (fun h=>?_) fun h=>?_)<;>clear a b A B))
   refine zbH hh1.out ?_ ?_ ?_
   ·rw [hhE.out,errPF];simp [errP,k1,k2,k3]
   ·((try simp only [zg,zi,zd,zf,List.set_cons_zero,List.set_cons_succ]);all_goals (first|rfl|(simp only [zn,zj,zc,List.length_map,List.length_append,List.length_cons,List.length_nil,Nat.zero_add];first|done|rfl)))
   ·first|exact⟨[],(List.append_nil _).symm⟩|exact⟨_,rfl⟩|(simp only [List.append_assoc,List.cons_append,List.nil_append];exact⟨_,rfl⟩)
  ·have k3:labU x.name.data.toList=false:=by simpa using k3
   repeat' (first|refine go1 ?_|refine za rfl ?_|(refine go2 fun A B a b=>?_;simp only [go_sem, *,zb,ze,zm,zp,zj,zc,List.length_map,zK,encP];(repeat' first|apply a.1|apply b.1|refine iteI (fun h=>?_) fun h=>?_)<;>clear a b A B))
   simp only [go_sem]
   rw [hhE.out,errPF];simp [errP,k1,k2,k3]

/- Persons and recordings: People and Check, as the program and the reference test them. -/
open Go.Proofs
attribute [local go_sem] br57 br58 allocK fz111 fz112 ty31 br66 br92 fz114 fz115 fz116 br43 br74 fz160 fz162 fz172
set_option maxHeartbeats 4000000

theorem zcG {id:Nat}{cs:List AV}{b:Bool}:adoptA id (.tup [.agg cs,.bool b])=(.tup [.agg cs,.bool b],[]):=rfl
structure Rec where
 id:Int
 name:ByteArray
 len:Int
 day:Int
 sv:AV
 sp:List Int
def encRc (r:Rec):List AV:=[.int .i64 r.id,.str r.name,.int .i64 r.len,.int .i64 r.day,r.sv]
structure Rec.ok (r:Rec):Prop where
 sv:SLs 1 (ints r.sp) r.sv
 st:r.sv.stab=true
def timeOK (r:Rec):Bool:=decide (1≤r.len) && decide (r.len≤86400000)
def dayOK (r:Rec):Bool:=decide (1≤r.day) && decide (r.day≤109573)
def spkF (ps:List Psn):List Int→List Int→Int
 | _,[]=>0
 | pre,x::post=>if (0:Int)<(pre.length:Int)∧x≤pre.getLastD 0 then 10 else if isP ps x=true then spkF ps (pre++[x]) post else 9
def chkC (ps:List Psn) (r:Rec):Int :=
 if idOK r.id=true then if nameL r.name.data.toList=true then if timeOK r=true then if dayOK r=true then if r.sp = [] then 1 else spkF ps [] r.sp else 2 else 12 else 7 else 2

theorem checkRr {w:AV}{ps:List Psn}(hw:SLs 3 (ps.map encP) w) (hl:ps.length<9223372036854775807){r:Rec}(hr:r.ok) (hs:r.name.size≤1048576) (hsl:r.sp.length<9223372036854775807) :
  EvV CX 41 [w,.agg (encRc r)] (· = .int .i64 (chkC ps r)):=by
 have c1:=hr.sv.cell
 have hws:=hw.snap
 have qi:=(identR r.id).rw
 have qn:=(nameR r.name hs).rw
 cases k1:idOK r.id with
 | false=>
  rw [k1] at qi
  have e:chkC ps r=2:=by rw [chkC,k1];rfl
  rw [e]
  clear e k1
  refine EvV.walk rfl fn41 rfl nt41 rfl ?_
  simp only [List.length_cons,List.length_nil,List.cons_append,List.nil_append,Nat.reduceAdd,Nat.reduceSub,List.replicate]
  repeat' (first|refine go1 ?_|refine za rfl ?_|(refine go2 fun A B a b=>?_;simp only [go_sem, *,encP,encRc,zcG];(repeat' first|apply a.1|apply b.1|refine iteI (fun h=>?_) fun h=>?_)<;>clear a b A B))
  simp only [go_sem]
 | true=>
 rw [k1] at qi
 cases k2:nameL r.name.data.toList with
 | false=>
  rw [k2] at qn
  have e:chkC ps r=7:=by rw [chkC,k1,k2];rfl
  rw [e]
  clear e k1 k2
  refine EvV.walk rfl fn41 rfl nt41 rfl ?_
  simp only [List.length_cons,List.length_nil,List.cons_append,List.nil_append,Nat.reduceAdd,Nat.reduceSub,List.replicate]
  repeat' (first|refine go1 ?_|refine za rfl ?_|(refine go2 fun A B a b=>?_;simp only [go_sem, *,encP,encRc,zcG];(repeat' first|apply a.1|apply b.1|refine iteI (fun h=>?_) fun h=>?_)<;>clear a b A B))
  simp only [go_sem]
 | true=>
 rw [k2] at qn
 by_cases t1:r.len<1
 ·have e:chkC ps r=12:=by rw [chkC,k1,k2];simp [timeOK];omega
  rw [e]
  clear e k1 k2
  refine EvV.walk rfl fn41 rfl nt41 rfl ?_
  simp only [List.length_cons,List.length_nil,List.cons_append,List.nil_append,Nat.reduceAdd,Nat.reduceSub,List.replicate]
  repeat' (first|refine go1 ?_|refine za rfl ?_|(refine go2 fun A B a b=>?_;simp only [go_sem, *,encP,encRc,zcG];(repeat' first|apply a.1|apply b.1|refine iteI (fun h=>?_) fun h=>?_)<;>clear a b A B))
  simp only [go_sem]
 by_cases t2:86400000<r.len
 ·have e:chkC ps r=12:=by rw [chkC,k1,k2];simp [timeOK];omega
  rw [e]
  clear e k1 k2
  refine EvV.walk rfl fn41 rfl nt41 rfl ?_
  simp only [List.length_cons,List.length_nil,List.cons_append,List.nil_append,Nat.reduceAdd,Nat.reduceSub,List.replicate]
  repeat' (first|refine go1 ?_|refine za rfl ?_|(refine go2 fun A B a b=>?_;simp only [go_sem, *,encP,encRc,zcG];(repeat' first|apply a.1|apply b.1|refine iteI (fun h=>?_) fun h=>?_)<;>clear a b A B))
  simp only [go_sem]
 have kt:timeOK r=true:=by simp [timeOK];omega
 by_cases d1:r.day<1
 ·have e:chkC ps r=2:=by rw [chkC,k1,k2,kt];simp [dayOK];omega
  rw [e]
  clear e k1 k2 kt
  refine EvV.walk rfl fn41 rfl nt41 rfl ?_
  simp only [List.length_cons,List.length_nil,List.cons_append,List.nil_append,Nat.reduceAdd,Nat.reduceSub,List.replicate]
  repeat' (first|refine go1 ?_|refine za rfl ?_|(refine go2 fun A B a b=>?_;simp only [go_sem, *,encP,encRc,zcG];(repeat' first|apply a.1|apply b.1|refine iteI (fun h=>?_) fun h=>?_)<;>clear a b A B))
  simp only [go_sem]
 by_cases d2:109573<r.day
 ·have e:chkC ps r=2:=by rw [chkC,k1,k2,kt];simp [dayOK];omega
  rw [e]
  clear e k1 k2 kt
  refine EvV.walk rfl fn41 rfl nt41 rfl ?_
  simp only [List.length_cons,List.length_nil,List.cons_append,List.nil_append,Nat.reduceAdd,Nat.reduceSub,List.replicate]
  repeat' (first|refine go1 ?_|refine za rfl ?_|(refine go2 fun A B a b=>?_;simp only [go_sem, *,encP,encRc,zcG];(repeat' first|apply a.1|apply b.1|refine iteI (fun h=>?_) fun h=>?_)<;>clear a b A B))
  simp only [go_sem]
 have kd:dayOK r=true:=by simp [dayOK];omega
 by_cases k3:r.sp = []
 ·have e:chkC ps r=1:=by rw [chkC,k1,k2,kt,kd,if_pos k3];rfl
  have z:((r.sp.length:Int) == 0)=true:=by rw [k3];rfl
  rw [e]
  clear e k1 k2 kt kd k3
  refine EvV.walk rfl fn41 rfl nt41 rfl ?_
  simp only [List.length_cons,List.length_nil,List.cons_append,List.nil_append,Nat.reduceAdd,Nat.reduceSub,List.replicate]
  repeat' (first|refine go1 ?_|refine za rfl ?_|(refine go2 fun A B a b=>?_;simp only [go_sem, *,encP,encRc,zcG,zA hr.sv,zc];(repeat' first|apply a.1|apply b.1|refine iteI (fun h=>?_) fun h=>?_)<;>clear a b A B))
  simp only [go_sem]
 have e:chkC ps r=spkF ps [] r.sp:=by rw [chkC,k1,k2,kt,kd,if_neg k3];rfl
 have z:((r.sp.length:Int) == 0)=false:=by simp [k3]
 rw [e]
 clear e k1 k2 kt kd k3
 refine EvV.walk rfl fn41 rfl nt41 rfl ?_
 simp only [List.length_cons,List.length_nil,List.cons_append,List.nil_append,Nat.reduceAdd,Nat.reduceSub,List.replicate]
 repeat' (first|refine go1 ?_|refine za rfl ?_|(refine go2 fun A B a b=>?_;simp only [go_sem, *,encP,encRc,zcG,zA hr.sv,zc];(repeat' first|apply a.1|apply b.1|refine iteI (fun h=>?_) fun h=>?_)<;>clear a b A B))
 refine zbS [4,5,6,7,40,41,42,43,44,45,46,47,48,49,50,51,52,53,54,55,56,57,58,59,60,61,62,63,64,65,66,67,68,69,70] 39 r.sp (fun pre post=>spkF ps [] r.sp=spkF ps pre post) ?_ ?_ ?_ ?_
 ·rfl
 ·((try simp only [zg,zi,zd,zf,List.set_cons_zero,List.set_cons_succ]);all_goals (first|rfl|(simp only [zn,zj,zc,List.length_map,List.length_append,List.length_cons,List.length_nil,Nat.zero_add];first|done|rfl)))
 ·intro g G hE
  rw [hE]
  simp only [zo,zq,zd,zf,List.set_cons_zero,List.set_cons_succ]
  repeat' (first|refine go1 ?_|refine za rfl ?_|(refine go2 fun A B a b=>?_;simp only [go_sem, *,zc,List.length_map,Int.lt_irrefl];(repeat' first|apply a.1|apply b.1|refine iteI (fun h=>?_) fun h=>?_)<;>clear a b A B))
  simp only [go_sem]
  rfl
 intro g G pre x post h1 hE
 have i1:=zbE hr.sv (X:=CX) ty29 ty3 rfl (by rw [h1];exact zb8 pre x post) (k := .i64)
 have i2:=prev_ints (v:=r.sv) (pre:=pre) (x:=x) (post:=post) (by rw [←h1];exact hr.sv) (by rw [←h1];exact hsl) (X:=CX) ty29 ty3 rfl (k := .i64)
 have lt1:(pre.length:Int)<(r.sp.length:Int):=by rw [h1];simp;omega
 have w1:=zB (n:=pre.length) (by omega)
 have q:=(personR w ps x hw hl).rw
 have hh1:Hold (r.sp=pre++x::post):=⟨h1⟩
 rw [hE,spkF]
 clear h1 hE
 simp only [zo,zq,zd,zf,List.set_cons_zero,List.set_cons_succ]
 by_cases o:(0:Int)<(pre.length:Int)∧x≤pre.getLastD 0
 ·rw [if_pos o]
  obtain⟨o1,o2⟩:=o
  have i2:=i2 o1
  repeat' (first|refine go1 ?_|refine za rfl ?_|(refine go2 fun A B a b=>?_;simp only [go_sem, *,encP,encRc,zcG,zb,ze,zm,zp,zj,zc,List.length_map,zK];(repeat' first|apply a.1|apply b.1|refine iteI (fun h=>?_) fun h=>?_)<;>clear a b A B))
  simp only [go_sem]
 ·rw [if_neg o]
  have hx:(¬(0:Int)<(pre.length:Int))∨((0:Int)<(pre.length:Int)∧¬x≤pre.getLastD 0):=by omega
  clear o
  rcases hx with o1|⟨o1,o2⟩
  ·clear i2
   cases k:isP ps x with
   | true=>
    rw [k] at q
    rw [if_pos rfl]
    clear k
    repeat' (first|refine go1 ?_|refine za rfl ?_|(refine go2 fun A B a b=>?_;simp only [go_sem, *,encP,encRc,zcG,zb,ze,zm,zp,zj,zc,List.length_map,zK];(repeat' first|apply a.1|apply b.1|refine iteI (fun h=>?_) fun h=>?_)<;>clear a b A B))
    refine zbH hh1.out rfl ?_ ?_
    ·((try simp only [zg,zi,zd,zf,List.set_cons_zero,List.set_cons_succ]);all_goals (first|rfl|(simp only [zn,zj,zc,List.length_map,List.length_append,List.length_cons,List.length_nil,Nat.zero_add];first|done|rfl)))
    ·first|exact⟨[],(List.append_nil _).symm⟩|exact⟨_,rfl⟩|(simp only [List.append_assoc,List.cons_append,List.nil_append];exact⟨_,rfl⟩)
   | false=>
    rw [k] at q
    rw [if_neg (by simp)]
    clear k
    repeat' (first|refine go1 ?_|refine za rfl ?_|(refine go2 fun A B a b=>?_;simp only [go_sem, *,encP,encRc,zcG,zb,ze,zm,zp,zj,zc,List.length_map,zK];(repeat' first|apply a.1|apply b.1|refine iteI (fun h=>?_) fun h=>?_)<;>clear a b A B))
    simp only [go_sem]
  ·have i2:=i2 o1
   cases k:isP ps x with
   | true=>
    rw [k] at q
    rw [if_pos rfl]
    clear k
    repeat' (first|refine go1 ?_|refine za rfl ?_|(refine go2 fun A B a b=>?_;simp only [go_sem, *,encP,encRc,zcG,zb,ze,zm,zp,zj,zc,List.length_map,zK];(repeat' first|apply a.1|apply b.1|refine iteI (fun h=>?_) fun h=>?_)<;>clear a b A B))
    refine zbH hh1.out rfl ?_ ?_
    ·((try simp only [zg,zi,zd,zf,List.set_cons_zero,List.set_cons_succ]);all_goals (first|rfl|(simp only [zn,zj,zc,List.length_map,List.length_append,List.length_cons,List.length_nil,Nat.zero_add];first|done|rfl)))
    ·first|exact⟨[],(List.append_nil _).symm⟩|exact⟨_,rfl⟩|(simp only [List.append_assoc,List.cons_append,List.nil_append];exact⟨_,rfl⟩)
   | false=>
    rw [k] at q
    rw [if_neg (by simp)]
    clear k
    repeat' (first|refine go1 ?_|refine za rfl ?_|(refine go2 fun A B a b=>?_;simp only [go_sem, *,encP,encRc,zcG,zb,ze,zm,zp,zj,zc,List.length_map,zK];(repeat' first|apply a.1|apply b.1|refine iteI (fun h=>?_) fun h=>?_)<;>clear a b A B))
    simp only [go_sem]
end Go.Eng
