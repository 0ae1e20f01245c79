/- A function's run at arguments that are known, told beforehand: so that an example is run in two halves. -/
import Derived.Test.YtkahfcmeeloikaaGreatDoorCtxA
set_option linter.all false
set_option maxHeartbeats 1000000
namespace Go.Eng
open Go.RowKit
section
mutual
def eqA:AV->AV->Bool
 | .int k n,.int k' m=>decide (k=k') && decide (n=m)
 | .bool a,.bool b=>a == b
 | .str s,.str t=>decide (s=t)
 | .flat (.slice none 0 0),.flat (.slice none 0 0)=>true
 | .agg a,.agg b=>eqL a b
 | .tsl s z r,.tsl s' z' r'=>s == s' && (decide (z=z') && eqR r r')
 | _,_=>false
def eqL:List AV->List AV->Bool
 | [],[]=>true
 | a::l,b::m=>eqA a b && eqL l m
 | _,_=>false
def eqR:List (List AV)->List (List AV)->Bool
 | [],[]=>true
 | a::l,b::m=>eqL a b && eqR l m
 | _,_=>false
end
mutual
theorem eqA_eq:∀{a b:AV},eqA a b=true->a=b
 | a,b,h=>by
  unfold eqA at h;split at h
  .simp only[UT,decide_eq_true_eq]at h;rw[h.1,h.2]
  .rw[beq_iff_eq.1 h]
  .rw[of_decide_eq_true h]
  .rfl
  .rw[y8 h]
  .simp only[UT,decide_eq_true_eq,beq_iff_eq]at h;rw[h.1,h.2.1,eqR_eq h.2.2]
  .cases h
theorem y8:∀{a b:List AV},eqL a b=true->a=b
 | [],[],_=>rfl
 | a::l,b::m,h=>by
  simp only[eqL,UT]at h;rw[eqA_eq h.1,y8 h.2]
 | [],_::_,h=>by simp[eqL]at h
 | _::_,[],h=>by simp[eqL]at h
theorem eqR_eq:∀{a b:List (List AV)},eqR a b=true->a=b
 | [],[],_=>rfl
 | a::l,b::m,h=>by
  simp only[eqR,UT]at h;rw[y8 h.1,eqR_eq h.2]
 | [],_::_,h=>by simp[eqR]at h
 | _::_,[],h=>by simp[eqR]at h
end
def okRun:Option AV->AV->Bool
 | some r,q=>eqA r q
 | none,_=>false
def w7(X:dV)(f:FuncId)(n:Nat)(ex:List AV)(q:AV)(args:List AV)(S:ab):Option (AV×ab) :=
 if eqL args ex=true then some (q,S) else dj X n f args S
variable [aw]
theorem zY{P:Program}{X:dV}(hX:eC P X)(hF:mP P X){f:FuncId}{fn:Func}(hf:P.funcs[f]? = some fn)(JX:(fn.name == "runtime.NumGoroutine")=false)(hb:fn.body.isNone=false){n:Nat}{ex:List AV}{cs:List AV}
  (hs:∀S,dU S ex=some ex) (hc:okRun (iL (dj X n) f ex) (.agg cs)=true):bQ P f (w7 X f n ex (.agg cs)):=by
 refine⟨⟨fn,hf,JX,hb⟩,?_⟩;intro args S r S' hp base T B I w vs hrel I3;unfold w7 at hp;split at hp
 .rename_i h;obtain rfl:=y8 h;injection hp with hp;injection hp with q1 q2;subst q1 q2
  have h1:iL (dj X n) f args=some (.agg cs):=by
   revert hc;cases iL (dj X n) f args with
   | none=>intro hc;cases hc
   | some r=>intro hc;rw[eqA_eq hc]
  refine(wC (id:=S.length) (iM hX hF n) hrel kp.refl I3 (hs S) h1 ?_ ?_).mono ?_
  .intro b e hn;simp[dJ,bp,fG]at hn
  .intro k blk hk;simp[dJ,bp]at hk
  .rintro e w' ⟨u,T',B',I',h2,h3,h4,h5,_⟩;exact⟨u,T',B',I',h2,h3,h4,h5⟩
 .exact iM hX hF n f args S r S' hp base T B I w vs hrel I3
end
end Go.Eng
namespace Go.Eng
open Go.Proofs
section
set_option maxRecDepth 100000
noncomputable def exC:List AV:=match jQ (dj CXA 900) 16 [] with
 | some r=>match dU (fD 0 r).2 [(fD 0 r).1] with
  | some [.agg l]=>l
  | _=>[]
 | none=>[]
noncomputable def exP:List AV:=[.agg exC,.agg [.int .i64 0,.int .i64 10]]
noncomputable def exQ:List AV:=exC.take 8++(.tsl true 8 []::((exC.drop 9).take 1++(.flat (.slice none 0 0) :: .tsl true 5 [[.int .i64 1,.str ⟨#[112,108,117,114,97,108]⟩,.str ⟨#[]⟩,.tsl true 1 [],.tsl true 2 [[.int .i64 5,.int .i64 2]]]]::exC.drop 12)))
def exRun:okRun (iL (dj CXA 990) 7 exP) (.agg exQ)=true:=by kernel_rfl
def exSnap(S:ab):okRun ((dU S exP).map .agg) (.agg exP)=true:=by kernel_rfl
end
end Go.Eng
