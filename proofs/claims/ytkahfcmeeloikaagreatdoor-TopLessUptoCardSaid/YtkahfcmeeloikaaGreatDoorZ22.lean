/- Rules: segments in the classes of a context. -/
import Derived.Test.YtkahfcmeeloikaaGreatDoorZ17
set_option linter.all false
set_option maxHeartbeats 4000000
namespace Go.Eng
open Go.Proofs
section
attribute [local irreducible] bB cX cZ aB bS dE
attribute [local go_sem] reduceIte Nat.reduceAdd Nat.reduceEqDiff Nat.reduceLT Nat.reduceLeDiff beq_iff_eq beq_eq_false_iff_ne Int.natCast_inj WH iV Bn uj xm ud py xj lR ug ui lQ ue Bm ol mR xk mS xn uh Bl Bk ju mn oo om uf zy pD qV xK ux xI xH xL Bz uw vK sj vJ vL p9 vI vH uN vh rE nD im kG yi uQ IF ur ky vt rO vu y7 pV BP yd bz bH vy vA rV zn vx zr vE zp Cc zt zo zq vB Ce vC vD U1 Vj WC Bool.and_self VB dD iJ UC UD UB UE UH UF cq AV.stab iv rN VL Vx UW Du g9 UJ and_self true_and and_true gU zE unA ve kW cn kV Xb decide_true decide_false decide_eq_true_eq ite_not V8 decide_eq_false_iff_not U3 Vf Xg Wv WO sd tH gE List.take List.drop Vk Wb extK Wl WE kj kJ nI pj rL oT rJ oS rM rK rI rH vn yU yR yV yT yQ bne VM WF ne_eq not_true_eq_false not_false_eq_true UM aO aP bg cH cb cG cI cA cE aN rB u9 rh uX oM uW lV ir rz uV ng rq rn kP kO rm rj lW nf uZ uY rA yv jL kN na oL kM Fh qR oh lP Cd qS lenM sY sX
def ctxInM{v w:AV}{ss:List Sg}{cs:List Cs}{c:Cs}{k:Nat}(seg:Int)(hv:bq 2 (ss.map encS) v)(hw:bq 2 (cs.map wy) w)(hl:ss.length<=1000000)(hk:cs[k]? = some c):aB CX 362 [.agg [v,w],.int .i64 (k:Int),.int .i64 seg] (· = .bool (inS ss c.1 c.2 seg)):=by
 have c1:=hv.cell;have c2:=hw.cell;have s1:=hv.snap;have i1:=ay hw (X:=CX) ty118 ty174 rfl (n:=k) (row:=wy c) (k := .i64) (by simp[hk]);have q:=(inM v ss c.1 c.2 seg hv hl).rw;simp only[wy]at i1;clear hk;refine aL fx362 ?_;simp only[UB,UE,UF,UH,Nat.reduceAdd,Nat.reduceSub,List.replicate];repeat' (first|refine dn ?_|refine ad rfl ?_|(refine dI fun A B a b=>?_;simp only[go_sem, *];(repeat' first|apply a.1|apply b.1|refine aV (fun h=>?_) fun h=>?_)<;>clear a b A B))
 simp only[go_sem]
end
section
attribute [local irreducible] bB cX cZ aB bS dE
def qJ(ss:List Sg):List Int->List Cs->Bool
 | x::l,c::cs=>inS ss c.1 c.2 x && qJ ss l cs
 | _,_=>true
theorem fitsM{v w u:AV}{ss:List Sg}{cs:List Cs}{l:List Int}(hv:bq 2 (ss.map encS) v)(hw:bq 2 (cs.map wy) w)(hu:bq 1 (az l) u)(hl:ss.length<=1000000)(Jd:l.length<=cs.length)(hc:cs.length<=1048576) :
  aB CX 361 [.fn 362 [],.agg [v,w],u] (· = .bool (qJ ss l cs)):=by
 have c1:=hv.cell;have c2:=hw.cell;have s1:=hv.snap;have s2:=hw.snap;have hcH:ac (cs.length<=1048576/\l.length<=cs.length):=⟨hc,Jd⟩;have qi:ac (∀(k:Nat) (c:Cs) (seg:Int),cs[k]? = some c->aB CX 362 [.agg [v,w],.int .i64 (k:Int),.int .i64 seg] (· = .bool (inS ss c.1 c.2 seg))):=⟨fun k c seg h=>ctxInM seg hv hw hl h⟩;have L1:=@au _ _ _ hu;clear hl hc Jd;refine aL fx361 ?_;refine wk ?_;refine aF [6,7,8,12,13,14,15,16,17,18,19,20,21,22] 11 l (fun pre post=>qJ ss l cs=qJ ss post (cs.drop pre.length)) ?_ ?_ ?_ ?_
 .rfl
 .exact aQ
 .intro g G h2;rw[h2];simp only[qJ];clear h2;exact wf
 .intro g G pre x post h1 h2;have IZ:pre.length<l.length:=by rw[h1];simp
  have lt1:(pre.length:Int)<(l.length:Int):=by omega
  have w1:=am (n:=pre.length) (by have:=hcH.out;omega);have i1:=ay hu (X:=CX) ty31 ty3 rfl (n:=pre.length) (row:=[.int .i64 x]) (k := .i64) (by rw[h1];simp[az]);obtain⟨c,hc⟩:∃c,cs[pre.length]? = some c:=⟨_,UL (by have:=hcH.out;omega)⟩;have q:=(qi.out pre.length c x hc).rw
  have hd:cs.drop pre.length=c::cs.drop (pre.length+1):=by
   have Ja:=(UK.1 hc).1;rw[VT Ja]
   congr 1
   exact(UK.1 hc).2
  rw[hd,qJ]at h2;have IW:ac (l=pre++x::post):=⟨h1⟩;generalize inS ss c.1 c.2 x=b at*;clear h1 IZ hc hd;cases b with
  | false=>
   rw[h2];clear h2;exact wf
  | true=>
   have JD:ac (qJ ss l cs=qJ ss post (cs.drop (pre++[x]).length)):=⟨by rw[h2];simp⟩;clear h2;exact wf
end
section
attribute [local irreducible] bB cX cZ aB bS dE
attribute [local go_sem] and_self ge
theorem siteM{v w:AV}{ss:List Sg}{r:Rw}{l:List Int}{i:Nat}{x:Int}(hv:bq 2 (ss.map encS) v)(hw:bq 1 (az l) w)(h:r.ok)(MA:ss.length<=1000000)(hf:r.fl.length<=1048576)(h2:r.ll.length<=2/\r.rl.length<=2)(hl:l.length<=1048576)(hi:l[i]? = some x) :
  ∃b,(b=true->r.fl.contains x=true)/\aB CX 359 [.agg [v],.agg (ge r),w,.int .i64 (i:Int)] (· = .bool b):=by
 refine aB.boo ?_;have M4:i<l.length:=(UK.1 hi).1;cases hw with
 | esl e=>simp[az]at e;subst e;simp at hi
 | nil e=>simp[az]at e;subst e;simp at hi
 | rows st=>
 obtain⟨c1,c2,c3,c4⟩:=h.cells;have c0:=hv.cell;have s0:=hv.snap;have s1:=h.f.snap;have s3:=h.l.snap;have s4:=h.q.snap;have d3:=slsC h.l;have d4:=slsC h.q;have l3:=@au _ _ _ h.l;have l4:=@au _ _ _ h.q;have i1:=ay (.rows st:bq 1 (az l) (.tsl st 1 (az l))) (X:=CX) ty31 ty3 rfl (n:=i) (row:=[.int .i64 x]) (k := .i64) (by simp[az,hi]);have q:=(FD r.fv r.fl x h.f (by omega)).rw;have e1:=am (n:=i) (by omega);have e2:IntKind.wrap .i64 (((i+1:Nat):Int)+(r.rl.length:Int))=((i+1+r.rl.length:Nat):Int):=by rw[wrap_small (by omega) (by omega)];rfl
 rw[UI]at l3 l4;cases hc:r.fl.contains x with
 | false=>
  rw[hc]at q;clear hc hf MA hl hi M4 h hv h2;generalize IntKind.wrap .i64 ((i:Int)-(r.ll.length:Int))=z;refine aL fx359 ?_;exact wf
 | true=>
  rw[hc]at q;by_cases ha:r.ll.length<=i
  case neg=>
   obtain⟨z,e3,hz⟩:∃z,IntKind.wrap .i64 ((i:Int)-(r.ll.length:Int))=z/\z<0:=⟨_,rfl,by rw[wrap_small (by omega) (by omega)];omega⟩;clear hc hf MA hl hi M4 h hv h2 ha;refine aL fx359 ?_;exact wf
  have e3:IntKind.wrap .i64 ((i:Int)-(r.ll.length:Int))=((i-r.ll.length:Nat):Int):=by rw[wrap_small (by omega) (by omega)];omega
  have k1:¬((i-r.ll.length:Nat):Int)<0:=by omega
  by_cases hb:i+1+r.rl.length<=l.length
  case neg=>
   have k2:(l.length:Int)<((i+1+r.rl.length:Nat):Int):=by omega
   generalize i-r.ll.length=A at*;generalize i+1+r.rl.length=B at*;clear hc hf MA hl hi M4 h hv h2 ha hb;refine aL fx359 ?_;exact wf
  have k2:¬(l.length:Int)<((i+1+r.rl.length:Nat):Int):=by omega
  have p1:(l.take i).drop (i-r.ll.length)=(l.drop (i-r.ll.length)).take (i-(i-r.ll.length)):=by rw[List.drop_take]
  have q1:=(fitsM (u := .tsl st 1 (az ((l.take i).drop (i-r.ll.length)))) hv h.l (.rows st) MA (by simp;omega) (by omega)).rw;have q2:=(fitsM (u := .tsl st 1 (az ((l.take (i+1+r.rl.length)).drop (i+1)))) hv h.q (.rows st) MA (by simp;omega) (by omega)).rw;have z1:∀{k k'},dW CX 31 (.tsl st 1 (az l)) (some (.int k ((i-r.ll.length:Nat):Int))) (some (.int k' (i:Int))) none=some (.tsl st 1 (az ((l.take i).drop (i-r.ll.length)))):=Ay ty31 ty3 rfl (by omega) (by rw[aC];omega) (by rw[p1];simp[az]);have z2:∀{k k'},dW CX 31 (.tsl st 1 (az l)) (some (.int k ((i+1:Nat):Int))) (some (.int k' ((i+1+r.rl.length:Nat):Int))) none=some (.tsl st 1 (az ((l.take (i+1+r.rl.length)).drop (i+1)))):=Ay ty31 ty3 rfl (by omega) (by rw[aC];omega) (by rw[List.drop_take];simp[az]);generalize (l.take i).drop (i-r.ll.length)=M1 at*;generalize (l.take (i+1+r.rl.length)).drop (i+1)=M2 at*;generalize qJ ss M1 r.ll=B1 at*;generalize qJ ss M2 r.rl=B2 at*;generalize i-r.ll.length=A at*;generalize i+1+r.rl.length=B at*;clear hc hf MA hl hi M4 h hv h2 ha hb p1;have fin:=bcase r.be ((0:Int)<(A:Int));have Rj:=bcase r.en ((B:Int)<(l.length:Int));rcases fin with h1|⟨h1,h2⟩
  case inr=>clear Rj;refine aL fx359 ?_;exact wf
  rcases Rj with h3|⟨h3,h4⟩
  case inr=>rcases h1 with h1|⟨h1,h2⟩<;>(refine aL fx359 ?_;exact wf)
  rcases h1 with h1|⟨h1,h2⟩<;>rcases h3 with h3|⟨h3,h4⟩<;>(refine aL fx359 ?_;exact wf)
end
section
attribute [local irreducible] bB cX cZ aB bS dE
attribute [local go_sem] U1 Vj List.replicate UC Vp Nat.reduceMul Vg eF d9 bP bt ci bN cM ba aY aS aM aX and_self ge
theorem DC{n:Int}:∀{l:List Int}{k j:Nat},idxOf l n k=some j->k<=j/\j<k+l.length
 | [],k,j,h=>by simp[idxOf]at h
 | x::l,k,j,h=>by
  rw[idxOf]at h;by_cases e:n=x
  .simp only[e,if_true]at h;injection h with h;subst h;simp
  .simp only[e,if_false]at h;have:=DC h;simp only[UB];omega
def FA{l:List Int}{n:Int}(h:l.contains n=true):∃j,idxOf l n 0=some j/\j<l.length:=by
 have:=oO l n 0;rw[h]at this;obtain⟨j,hj⟩:=WS.1 this;exact⟨j,hj,by have:=DC hj;omega⟩
theorem applyM{v w:AV}{ss:List Sg}{r:Rw}{l:List Int}(hv:bq 2 (ss.map encS) v)(hw:bq 1 (az l) w)(h:r.ok)(MA:ss.length<=1000000)(hf:r.fl.length<=1048576)(h1:r.tl.length=r.fl.length)(h2:r.ll.length<=2/\r.rl.length<=2)(hl:l.length<=1048576) :
  ∃o,o.length<=l.length/\aB CX 356 [.agg [v],.agg (ge r),w] (· = .osl 1 (az o)):=by
 suffices hh:aB CX 356 [.agg [v],.agg (ge r),w] (fun x=> ∃o,x = .osl 1 (az o)/\o.length<=l.length) by
  obtain⟨x,⟨o,rfl,ho⟩,hx⟩:=hh.ex;exact⟨o,ho,hx⟩
 obtain⟨c1,c2,c3,c4⟩:=h.cells;have c0:=hv.cell;have c5:=hw.cell;have s0:=hv.snap;have s1:=h.f.snap;have s2:=h.t.snap;have s3:=h.l.snap;have s4:=h.q.snap;have s5:=hw.snap;have L5:=@au _ _ _ hw;have qs:ac (∀(i:Nat) (x:Int),l[i]? = some x->∃b,(b=true->r.fl.contains x=true)/\aB CX 359 [.agg [v],.agg (ge r),w,.int .i64 (i:Int)] (· = .bool b)):=⟨fun i x hi=>siteM hv hw h MA hf h2 hl hi⟩
 have qi:ac (∀x,r.fl.contains x=true->∃(j:Nat) (y:Int),(∀Q,aB CX 212 [r.fv,.int .i64 x] Q=Q (.int .i64 (j:Int)))/\∀{k:IntKind},aD CX 31 r.tv (.int k (j:Int))=some (.tptr (jW r.tv) [.int .i64 y] 0)):=⟨fun x hx=>by
  obtain⟨j,e,hj⟩:=FA hx;have q:=(indexE r.fv r.fl x h.f (by omega)).rw;rw[e]at q;exact⟨j,r.tl[j]'(by omega),q,fun {k}=>ay h.t ty31 ty3 rfl (n:=j) (k:=k) (by simp[az,show j<r.tl.length by omega])⟩⟩
 have JJ:ac (l.length<=1048576):=⟨hl⟩;have Jd:l.length<9223372036854775807:=by omega
 clear MA hf h1 h2 h hv hl;refine aL fx356 ?_;refine wk ?_;refine ct [8,9,13,14,15,16,17,18,19,20,21,22,23,24,25,26,27,28,29,30,31,32,33,34,35,36] 12 l (fun o:List Int=>[(7,.sl 3 o.length 0 o.length 1)]) (fun o G=> .arr [[v]] 1 0 v.stab :: .arr [[r.fv,r.tv,r.lv,r.rv,.bool r.be,.bool r.en]] 6 0 (r.fv.stab && (r.tv.stab && (r.lv.stab && r.rv.stab))) :: .arr [] 1 0 true :: .arr (az o) 1 0 true::G) (fun pre _ o=>o.length<=pre.length) ([]:List Int) hw Jd ty31 ty3 rfl ?_ ?_ ?_
 .exact UJ _
 .intro o g G h2;have hH:ac (o.length<=l.length):=⟨h2⟩;clear h2;exact wf
 .intro o g G pre x post IW lt1 w1 i1 h2;obtain⟨b,hb,q⟩:=qs.out pre.length x (by rw[IW.out];simp);have q:=q.rw;simp only[ge]at q;have a1:(o.length+1)*8<=140737488355328:=by have:=JJ.out;omega
  have a2:o.length+1<=140737488355328:=by have:=JJ.out;omega
  cases b with
  | false=>
   have hP:ac ((o++[x]).length<=(pre++[x]).length):=⟨by simp;omega⟩;clear h2 hb;exact wf
  | true=>
   obtain⟨j,y,q2,i2⟩:=qi.out x (hb rfl);cases hy:(y == 0) with
   | true=>
    have hP:ac (o.length<=(pre++[x]).length):=⟨by simp;omega⟩;clear h2 hb;exact wf
   | false=>
    have hP:ac ((o++[y]).length<=(pre++[x]).length):=⟨by simp;omega⟩;clear h2 hb;exact wf
end
section
attribute [local irreducible] bB cX cZ aB bS dE
attribute [local go_sem] bi cM and_self ge
def own_ints{S:ab}{b:Nat}{l:List Int}{w:Nat}(h:S[b]? = some (.arr (az l) 1 w true))(hw:w<=l.length):snap S (.sl b l.length 0 l.length 1)=some (.tsl false 1 (az l)):=by
 have e:(az l).take l.length=az l:=Vm (by rw[aC];exact UJ _);simp[jX,aM,h,aC,e,hw]
def lastM{v rv:AV}{ss:List Sg}{rs:List Rw}(hv:bq 2 (ss.map encS) v)(hr:bq 6 (rs.map ge) rv)(h:∀r∈rs,r.ok/\r.fl.length<=1048576/\r.tl.length=r.fl.length/\r.ll.length<=2/\r.rl.length<=2)(MA:ss.length<=1000000)(J5:rs.length<=1048576) :
  ∃L:List Int->List Int,∀(S:ab) (w:AV) (l:List Int),l.length<=1048576->(∀T,snap (S++T) w=some (.tsl false 1 (az l)))->(∀{a c:Nat}{b:Bool}{d:List AV}{el:TypeId},lenK (some ⟨a,b,c,d,.slice el⟩) w=some (.int .i64 (l.length:Int))) ->
   bS CX 352 [.agg [v],rv,w] S (fun u S'=> ∃G,S'=S++G/\(∀T,snap (S++(G++T)) u=some (.tsl false 1 (az (L l))))/\(∀{a c:Nat}{b:Bool}{d:List AV}{el:TypeId},lenK (some ⟨a,b,c,d,.slice el⟩) u=some (.int .i64 ((L l).length:Int)))/\(L l).length<=l.length):=by
 have hf:∀(r:Rw) (l:List Int),∃o:List Int,r∈rs->l.length<=1048576->o.length<=l.length/\∀Q,aB CX 356 [.agg [v],.agg (ge r),.tsl false 1 (az l)] Q=Q (.osl 1 (az o)):=by
  intro r l;by_cases k:r∈rs/\l.length<=1048576
  .obtain⟨k1,k2⟩:=k;obtain⟨h1,h2,h3,h4⟩:=h r k1;obtain⟨o,ho,q⟩:=applyM (w := .tsl false 1 (az l)) hv (.rows false) h1 MA h2 h3 h4 k2;exact⟨o,fun _ _=>⟨ho,q.rw⟩⟩
  .exact⟨[],fun a b=>absurd ⟨a,b⟩ k⟩
 have hf:ac (∃f:Rw->List Int->List Int,∀r l,r∈rs->l.length<=1048576->(f r l).length<=l.length/\∀Q,aB CX 356 [.agg [v],.agg (ge r),.tsl false 1 (az l)] Q=Q (.osl 1 (az (f r l)))):=⟨⟨fun r l=>(hf r l).choose,fun r l=>(hf r l).choose_spec⟩⟩
 have Mw:ac (∀r∈rs,r.fv.cell=true/\r.tv.cell=true/\r.lv.cell=true/\r.rv.cell=true/\(∀S,snap S r.fv=some r.fv)/\(∀S,snap S r.tv=some r.tv)/\(∀S,snap S r.lv=some r.lv)/\(∀S,snap S r.rv=some r.rv)):=⟨fun r hr=>by
  have h1:=(h r hr).1;obtain⟨c1,c2,c3,c4⟩:=h1.cells;exact⟨c1,c2,c3,c4,h1.f.snap,h1.t.snap,h1.l.snap,h1.q.snap⟩⟩
 clear h;obtain⟨f,hf⟩:=hf.out;have hf:ac (∀r l,r∈rs->l.length<=1048576->(f r l).length<=l.length/\∀Q,aB CX 356 [.agg [v],.agg (ge r),.tsl false 1 (az l)] Q=Q (.osl 1 (az (f r l)))):=⟨hf⟩;refine⟨fun l=>rs.foldl (fun l r=>f r l) l,?_⟩;intro S w l hl hs hn;have c0:=hv.cell;have c5:=hr.cell;have s0:=hv.snap;have s5:=hr.snap;have L5:=@au _ _ _ hr;have JJ:ac (l.length<=1048576):=⟨hl⟩;have Ke:ac (∀T,snap (S++T) w=some (.tsl false 1 (az l))):=⟨hs⟩;have Qp:ac (∀{a c:Nat}{b:Bool}{d:List AV}{el:TypeId},lenK (some ⟨a,b,c,d,.slice el⟩) w=some (.int .i64 (l.length:Int))):=⟨hn⟩;have Jd:rs.length<9223372036854775807:=by omega
 show bS CX 352 [.agg [v],rv,w] S (fun u S'=> ∃G,S'=S++G/\(∀T,snap (S++(G++T)) u=some (.tsl false 1 (az (rs.foldl (fun l r=>f r l) l))))/\(∀{a c:Nat}{b:Bool}{d:List AV}{el:TypeId},lenK (some ⟨a,b,c,d,.slice el⟩) u=some (.int .i64 ((rs.foldl (fun l r=>f r l) l).length:Int)))/\(rs.foldl (fun l r=>f r l) l).length<=l.length);generalize hR:rs.foldl (fun l r=>f r l) l=R;have KO:ac (rs.foldl (fun l r=>f r l) l=R):=⟨hR⟩;clear MA hv hl hs hn J5 hR;refine tY fx352 ?_;refine wk ?_;refine ct [8,12,13,14,15,16,17,18,19] 11 rs (fun s:AV×List Int×ab=>[(2,s.1)]) (fun s G=>S ++ .arr [[v]] 1 0 v.stab :: .arr [] 1 0 true::(s.2.2++G)) (fun _ post s=>post.foldl (fun l r=>f r l) s.2.1=R/\s.2.1.length<=l.length/\(∀T,snap (S ++ .arr [[v]] 1 0 v.stab :: .arr [] 1 0 true::(s.2.2++T)) s.1=some (.tsl false 1 (az s.2.1)))/\∀{a c:Nat}{b:Bool}{d:List AV}{el:TypeId},lenK (some ⟨a,b,c,d,.slice el⟩) s.1=some (.int .i64 (s.2.1.length:Int))) (w,l,[]) hr Jd ty29 ty120 rfl ?_ ?_ ?_
 .exact⟨KO.out,UJ _,fun T=>Ke.out _,Qp.out⟩
 .rintro⟨u,l',X⟩ g G ⟨h1,h2,h3,h4⟩;replace h1:l'=R:=h1;subst h1;have hH:ac (∃G',S ++ .arr [[v]] 1 0 v.stab :: .arr [] 1 0 true::(X++G)=S++G'/\(∀T,snap (S++(G'++T)) u=some (.tsl false 1 (az l')))/\(∀{a c:Nat}{b:Bool}{d:List AV}{el:TypeId},lenK (some ⟨a,b,c,d,.slice el⟩) u=some (.int .i64 (l'.length:Int)))/\l'.length<=l.length):=⟨⟨_,rfl,fun T=>by have:=h3 (G++T);simpa using this,h4,h2⟩⟩;clear h2 h3 h4;refine wk ?_;simp only[aO,aP,bg,aN,bH,bz];exact hH.out
 .rintro⟨u,l',X⟩ g G pre x post IW lt1 w1 i1 ⟨h1,h2,h3,h4⟩;have hx:x∈rs:=by rw[IW.out];simp
  obtain⟨c1,c2,c3,c4,s1,s2,s3,s4⟩:=Mw.out x hx;obtain⟨ho,q⟩:=hf.out x l' hx (by have:=JJ.out;have:l'.length<=l.length:=h2;omega);simp only[ge]at q;have Ri:∀T,snap (S ++ .arr [[v]] 1 0 v.stab :: .arr [] 1 0 true::(X++T)) u=some (.tsl false 1 (az l')):=h3;have Pq:ac (post.foldl (fun l r=>f r l) (f x l')=R):=⟨h1⟩;have JD:ac ((f x l').length<=l.length):=⟨UQ ho h2⟩;clear h1 h2 h3 h4 ho hx;generalize f x l'=o at*;refine wk ?_
  exact aE (σ:=AV×List Int×ab) (.sl (S.length+(X.length+(G.length+1)+1+1)) o.length 0 o.length 1,o,X++(G++[.arr [[x.fv,x.tv,x.lv,x.rv,.bool x.be,.bool x.en]] 6 1 (x.fv.stab && (x.tv.stab && (x.lv.stab && x.rv.stab))),.arr (az o) 1 0 true])) IW.out
   ⟨Pq.out,JD.out,fun T=>own_ints (by simp only[UX,cr,Vx,UF,VL]) (U9 _),fun {_ _ _ _ _}=>ci⟩ aQ ⟨[],by simp only[UM]⟩
end
section
attribute [local irreducible] bB cX cZ aB bS dE
attribute [local go_sem] bi and_self ge
theorem hasA{v:AV}{l:List Int}(n:Int)(hv:bq 1 (az l) v)(hl:l.length<=1048576):aB CX 347 [v,.int .i64 n] (· = .bool (l.contains n)):=by
 have L1:=@au _ _ _ hv;have Jd:l.length<9223372036854775807:=by omega
 refine aL fx347 ?_;refine wk ?_;refine iD [4,6,10,11,12,13,14,15,16] 9 l (fun _ post=>l.contains n=post.contains n) hv Jd ty31 ty3 rfl ?_ ?_
 .intro g G h2;rw[h2];clear h2;exact wf
 .intro g G pre x post IW lt1 w1 i1 h2;cases k:(x == n) with
  | true=>
   have e:l.contains n=true:=by rw[h2];simp at k;simp[k]
   rw[e];clear h2 e;exact wf
  | false=>
   have hP:ac (l.contains n=post.contains n):=⟨by rw[h2];simp at k;simp[Ne.symm k]⟩;clear h2;exact wf
def shrinksM{rv:AV}{rs:List Rw}(hr:bq 6 (rs.map ge) rv)(h:∀r∈rs,r.ok/\r.tl.length<=1048576)(hl:rs.length<=1048576):∃b,aB CX 345 [rv] (· = .bool b):=by
 refine aB.boo0 ?_;have L1:=@au _ _ _ hr;have Jd:rs.length<9223372036854775807:=by omega
 have hc:ac (∀r∈rs,r.fv.cell=true/\r.tv.cell=true/\r.lv.cell=true/\r.rv.cell=true/\(∀S,snap S r.tv=some r.tv)/\∀Q,aB CX 347 [r.tv,.int .i64 0] Q=Q (.bool (r.tl.contains 0))):=⟨fun r hr=>by
  obtain⟨h1,h2⟩:=h r hr;obtain⟨c1,c2,c3,c4⟩:=h1.cells;exact⟨c1,c2,c3,c4,h1.t.snap,(hasA 0 h1.t h2).rw⟩⟩
 clear h hl;refine aL fx345 ?_;refine wk ?_;refine iD [2,4,8,9,10,11,12,13,14] 7 rs (fun _ _=>True) hr Jd ty29 ty120 rfl ?_ ?_
 .intro g G _;exact wf
 .intro g G pre x post IW lt1 w1 i1 _;obtain⟨c1,c2,c3,c4,s1,q⟩:=hc.out x (by rw[IW.out];simp);generalize x.tl.contains 0=b at*;cases b<;>exact wf
def equalM{v w:AV}{l m:List Int}(hv:bq 1 (az l) v)(hw:bq 1 (az m) w)(hl:l.length<=1048576):aB CX 353 [v,w] (· = .bool (decide (l=m))):=by
 have L1:=@au _ _ _ hv;have L2:=@au _ _ _ hw;by_cases k:l.length=m.length
 case neg=>
  have k':¬(l.length:Int)=(m.length:Int):=by omega
  have e:decide (l=m)=false:=by simp;intro e;exact k (by rw[e])
  rw[e];clear e k hv hw hl;refine aL fx353 ?_;exact wf
 have k':(l.length:Int)=(m.length:Int):=by omega
 have Jd:l.length<9223372036854775807:=by omega
 have hk:ac (l.length=m.length):=⟨k⟩;rw[aC]at L2
 have hdr:ac (∀(pre post:List Int) (x:Int),l=pre++x::post->∃y,m[pre.length]? = some y/\m.drop pre.length=y::m.drop (pre.length+1)):=⟨fun pre post x h=>by
  have Ja:pre.length<m.length:=by rw[<-k,h];simp
  exact⟨m[pre.length],UL Ja,by rw[VT Ja]⟩⟩
 rw[<-k']at L2;clear k k';refine aL fx353 ?_;refine wk ?_;refine iD [4,5,14,15,16,17,18,19,20,21,22,23,24,25] 13 l (fun pre post=>decide (l=m)=decide (post=m.drop pre.length)) hv Jd ty31 ty3 rfl ?_ ?_
 .intro g G h2;have e:decide (l=m)=true:=by rw[h2,hk.out];simp
  rw[e];clear h2 e;exact wf
 .intro g G pre x post IW lt1 w1 i1 h2;obtain⟨y,hy,hd⟩:=hdr.out pre post x IW.out;have i2:=ay hw (X:=CX) ty31 ty3 rfl (n:=pre.length) (row:=[.int .i64 y]) (k := .i64) (by simp[az,hy]);rw[hd]at h2;clear hd hy;by_cases kx:x=y
  .subst kx;have hP:ac (decide (l=m)=decide (post=m.drop (pre++[x]).length)):=⟨by rw[h2];simp⟩;clear h2;exact wf
  .have e:decide (l=m)=false:=by rw[h2];simp[kx]
   rw[e];have kx':(x == y)=false:=by simpa using kx
   clear h2 e kx;exact wf
end
section
def mkKey{d dst ty pos after g K fr S l c}(hz:CX.frz pos=false):em CX d ⟨dst,.makeSlice 191 l c,ty,pos,after,g⟩ dst K fr S=fb (yk (CX.ty 191) (CX.ty 5) d S.length (ak fr l) (ak fr c)) dst K fr S:=by rw[ty191];exact qC ty191 rfl hz
def cvKey{d dst ty pos after g K fr S x}:em CX d ⟨dst,.convert 191 9 x,ty,pos,after,g⟩ dst K fr S=bsK (ak fr x) dst K fr S (cZ CX d ⟨dst,.convert 191 9 x,ty,pos,after,g⟩ (fun v S'=>K (cj fr dst v) S') fr S):=xp ty191 ty9 ty5 rfl rfl rfl
attribute [local irreducible] bB cX cZ aB bS dE
attribute [local go_sem] U1 Vj List.replicate UC Vp Nat.reduceMul Vg eF d9 zf bP bt ci bN ba aY aS aM aX and_self mkKey cvKey zB
def u8R(l:List Int):List (List AV):=l.map fun n=>[.int .u8 n]
def va(l:List Int):ByteArray:=⟨(l.map fun x=>UInt8.ofNat x.toNat).toArray⟩
theorem Ee:∀l:List Int,eM (u8R l)=some (l.map fun x=>UInt8.ofNat x.toNat)
 | []=>rfl
 | x::l=>by
  have:=Ee l;simp only[u8R,Vk]at this ⊢;simp only[eM,this];rfl
def EA(l:List Int):(u8R l).length=l.length:=by simp[u8R]
def u8_snoc(l:List Int)(x:Int):u8R (l++[x])=u8R l++[[.int .u8 x]]:=by simp[u8R]
theorem keyF_inj{l m:List Int}(hl:∀x∈l,0<=x/\x<256)(hm:∀x∈m,0<=x/\x<256)(h:va l=va m):l=m:=by
 have h1:(l.map fun x=>UInt8.ofNat x.toNat)=m.map fun x=>UInt8.ofNat x.toNat:=by
  have:=congrArg (fun b:ByteArray=>b.data.toList) h;simpa[va]using this
 clear h
 induction l generalizing m with
 | nil=>cases m with
  | nil=>rfl
  | cons y m=>simp at h1
 | cons x l ih=>cases m with
  | nil=>simp at h1
  | cons y m=>
   simp only[Vk,Wk]at h1;obtain⟨a1,a2⟩:=hl x (by simp);obtain⟨b1,b2⟩:=hm y (by simp)
   have e:x.toNat=y.toNat:=by
    have:=congrArg UInt8.toNat h1.1;simp only[UInt8.toNat_ofNat']at this;omega
   rw[ih (fun z hz=>hl z (by simp[hz])) (fun z hz=>hm z (by simp[hz])) h1.2,show x=y by omega]
def keyM{v:AV}{l:List Int}(hv:bq 1 (az l) v)(hl:l.length<=1048576)(hb:∀x∈l,0<=x/\x<256):aB CX 351 [v] (· = .str (va l)):=by
 have L1:=@au _ _ _ hv;have Jd:l.length<9223372036854775807:=by omega
 have mk:∀id,yk (CX.ty 191) (CX.ty 5) false id (.int .i64 0) (.int .i64 (l.length:Int))=some (.sl id 0 0 0 1,[.arr [] 1 0 true]):=by
  intro id;simp only[ty191,ty5,yk];by_cases k:(0:Int)=(l.length:Int)
  .rw[<-k];rfl
  .rw[if_neg (fun h=>k h.1),if_pos (by simp<;>omega)]
 simp only[ty191,ty5]at mk;have JJ:ac (l.length<=1048576):=⟨hl⟩;have MK:ac (∀x∈l,0<=x/\x<256):=⟨hb⟩;clear hl hb;refine aL fx351 ?_;refine wk ?_;refine ct [5,12,13,14,15,16,17,18,19,20] 11 l (fun o:List Int=>[(3,.sl 0 o.length 0 o.length 1)]) (fun o G=> .arr (u8R o) 1 0 true::G) (fun pre _ o=>o=pre) ([]:List Int) hv Jd ty31 ty3 rfl ?_ ?_ ?_
 .rfl
 .intro o g G h2;replace h2:o=l:=h2;subst h2;have e1:=Ee o;have e2:(u8R o).take o.length=u8R o:=Vm (by rw[EA];exact UJ _);have e3:=EA o;have e4:(⟨(o.map fun x=>UInt8.ofNat x.toNat).toArray⟩:ByteArray)=va o:=rfl;exact wf
 .intro o g G pre x post IW lt1 w1 i1 h2;replace h2:o=pre:=h2;subst h2;have a1:(o.length+1)*1<=140737488355328:=by have:=JJ.out;omega
  have a2:o.length+1<=140737488355328:=by have:=JJ.out;omega
  have e3:=EA o
  have e5:IntKind.wrap .u8 x=x:=by
   have:=MK.out x (by rw[IW.out];simp);simp[IntKind.wrap,IntKind.min,IntKind.max,IntKind.signed,IntKind.bits];omega
  refine wk ?_;exact aE (o++[x]) IW.out rfl aQ (by simp only[u8_snoc];exact⟨_,rfl⟩)
end
section
def BA(a y:Int):Int:=a.fdiv (2 ^ (min y.toNat (IntKind.bits .u32)))
def sK(a y:Int):Int:=IntKind.wrap .u32 (a*2 ^ (min y.toNat (IntKind.bits .u32)))
def tU(a b:Int):Int:=IntKind.wrap .u32 (((BitVec.ofInt (IntKind.bits .u32) a &&& BitVec.ofInt (IntKind.bits .u32) b).toNat:Nat):Int)
def IU(a b:Int):Int:=IntKind.wrap .u32 (((BitVec.ofInt (IntKind.bits .u32) a ||| BitVec.ofInt (IntKind.bits .u32) b).toNat:Nat):Int)
def shr_ok{a y:Int}(h:0<=y):iS .shr .u32 a y=some (.int .u32 (BA a y)):=by simp[iS,BA,show ¬y<0 by omega]
def shl_ok{a y:Int}(h:0<=y):iS .shl .u32 a y=some (.int .u32 (sK a y)):=by simp[iS,sK,show ¬y<0 by omega]
structure mQ where
 g:Lg
 B:dY
 B':dY
 id:Int
 w:List Int
 sh:Bool
 fi:Int
 wp:Nat
def mQ.row(s:mQ):List AV:=[s.g.sgv,.str s.g.onm,s.g.uv,s.g.lv,s.g.rv,.int .i64 s.g.nst,s.g.pv,s.g.fv,s.g.xv,.tsl true 1 (az s.w),.bool s.sh,.int .u32 s.fi,.mp 4,.fn 344 [.ptr 1 1 1 0 0,.ptr 2 1 1 0 0]]
def mQ.st(s:mQ)(m:List (AV×AV))(b:Bool)(G:ab):ab :=
 s.B :: .arr [[.int .i64 s.id]] 1 0 true :: .arr [[.bool b]] 1 1 true::s.B' :: .map m :: .arr [s.row] 14 s.wp false::G
attribute [local irreducible] bB cX cZ aB bS dE
attribute [local go_sem] bi and_self wx mQ.row mQ.st
def gK(ps:List Sp)(st cl:Int):Int:=ps.foldl (fun o x=>if ((x.2.1 == cl) && (tU (BA st x.1) 1 == 1))=true then IU o (sK 1 x.2.2) else o) 0
theorem afterM(s:mQ)(h5:s.wp<=1)(h:s.g.ok)(hp:s.g.ps.length<=1048576)(hN:wH s.g.nst s.g.ps s.g.fs)(st cl:Int)(m:List (AV×AV))(b:Bool)(G:ab) :
  bS CX 349 [.ptr 5 1 14 0 0,.int .u32 st,.int .i64 cl] (s.st m b G) (fun v S'=>v = .int .u32 (gK s.g.ps st cl)/\∃G',S'=s.st m b (G++G')):=by
 have MR:=h.p;have L1:=@au _ _ _ MR;have Jd:s.g.ps.length<9223372036854775807:=by omega
 have hn:ac (∀x∈s.g.ps,0<=x.1/\0<=x.2.2):=⟨fun x hx=>⟨(hN.st x hx).1,(hN.st x hx).2.2.1⟩⟩;obtain⟨c1,c2,c3,c4,c5,c6,c7⟩:=h.cells;generalize hR:gK s.g.ps st cl=R;have KO:ac (s.g.ps.foldl (fun o x=>if ((x.2.1 == cl) && (tU (BA st x.1) 1 == 1))=true then IU o (sK 1 x.2.2) else o) 0=R):=⟨hR⟩;clear hR hN h hp;refine tY fx349 ?_;refine wk ?_;refine ct [9,18,19,20,21,22,23,24,25,26,27,28,29,30,31,32,33,34,35,36,37,38] 17 s.g.ps (fun o:Int=>[(7,.int .u32 o)]) (fun _ G'=>s.B :: .arr [[.int .i64 s.id]] 1 0 true :: .arr [[.bool b]] 1 1 true::s.B' :: .map m :: .arr [s.row] 14 s.wp false::(G++G')) (fun _ post o=>post.foldl (fun o x=>if ((x.2.1 == cl) && (tU (BA st x.1) 1 == 1))=true then IU o (sK 1 x.2.2) else o) o=R) (0:Int) MR Jd ty30 ty176 rfl ?_ ?_ ?_
 .exact KO.out
 .intro o g G' h2;replace h2:o=R:=h2;subst h2;clear KO;refine wk ?_;simp only[aO,aP,bg,aN,bH,bz];exact⟨trivial,_,rfl⟩
 .intro o g G' pre x post IW lt1 w1 i1 h2;obtain⟨n1,n2⟩:=hn.out x (by rw[IW.out];simp);have z1:∀a,iS .shr .u32 a x.1=_:=fun a=>shr_ok n1;have z2:∀a,iS .shl .u32 a x.2.2=_:=fun a=>shl_ok n2;simp only[VD]at h2;clear n1 n2;cases k1:(x.2.1 == cl) with
  | false=>
   have hP:ac (post.foldl (fun o x=>if ((x.2.1 == cl) && (tU (BA st x.1) 1 == 1))=true then IU o (sK 1 x.2.2) else o) o=R):=⟨by rw[<-h2,k1];rfl⟩;clear h2;exact wf
  | true=>
   cases k2:(tU (BA st x.1) 1 == 1) with
   | false=>
    have hP:ac (post.foldl (fun o x=>if ((x.2.1 == cl) && (tU (BA st x.1) 1 == 1))=true then IU o (sK 1 x.2.2) else o) o=R):=⟨by rw[<-h2,k1,k2];rfl⟩;simp only[tU,IntKind.bits]at k2;clear h2;exact wf
   | true=>
    have hP:ac (post.foldl (fun o x=>if ((x.2.1 == cl) && (tU (BA st x.1) 1 == 1))=true then IU o (sK 1 x.2.2) else o) (IU o (sK 1 x.2.2))=R):=⟨by rw[<-h2,k1,k2];rfl⟩;simp only[tU,IntKind.bits]at k2;clear h2;exact wf
end
section
abbrev Pa:=Int×Int
def lL(p:Pa):List AV:=[.int .i64 p.1,.int .i64 p.2,.int .i64 0]
def Own(G:ab)(sz:Nat)(rows:List (List AV))(v:AV):Prop := ∃k w,v = .sl (k+1+1+1+1+1+1) rows.length 0 rows.length sz/\w<=rows.length/\∀T,(G++T)[k]? = some (.arr rows sz w true)
attribute [local irreducible] bB cX cZ aB bS dE
attribute [local go_sem] bi and_self lL mQ.row mQ.st
theorem found1M(s:mQ){ps:List Pa}{v bv:AV}{G:ab}(m:List (AV×AV))(hv:Own G 3 (ps.map lL) v)(hl:ps.length<=1048576) :
  bS CX 344 [v,bv,.ptr 1 1 1 0 0,.ptr 2 1 1 0 0] (s.st m false G) (fun u S'=>u = .bool (!(ps.any fun p=>p.1 == s.id))/\∃G',S'=s.st m (ps.any fun p=>p.1 == s.id) (G++G')):=by
 obtain⟨k,w,rfl,hw,hb⟩:=hv;rw[UI]at hw ⊢;have Jd:ps.length<9223372036854775807:=by omega
 have Qw:(ps.map lL).length=ps.length:=by simp
 generalize hR:(ps.any fun p=>p.1 == s.id)=R;have KO:ac ((false || ps.any fun p=>p.1 == s.id)=R):=⟨hR⟩;clear hR hl;refine tY fx344 ?_;refine wk ?_;refine cN [8,12,13,14,15,16,17,18,19] 11 ps (fun _:Bool=>[]) (fun b G'=>s.B :: .arr [[.int .i64 s.id]] 1 0 true :: .arr [[.bool b]] 1 1 true::s.B' :: .map m :: .arr [s.row] 14 s.wp false::(G++G')) (fun _ post b=>(b || post.any fun p=>p.1 == s.id)=R) false Jd ?_ ?_ ?_
 .exact KO.out
 .intro o g G' h2;have h2:o=R:=by simpa using h2
  subst h2;clear KO;refine wk ?_;simp only[aO,aP,bg,aN,bH,bz];exact⟨trivial,_,rfl⟩
 .intro o g G' pre x post IW lt1 w1 h2;have Jq:(ps.map lL)[pre.length]? = some (lL x):=by rw[IW.out];simp
  have IZ:pre.length<ps.length:=by omega
  have i1:∀{j:IntKind},aD CX 107 (.sl (k+1+1+1+1+1+1) ps.length 0 ps.length 3) (.int j (pre.length:Int))=some (.ptr (k+1+1+1+1+1+1) ps.length 3 pre.length 0):=fun {j}=>gu ty107 ty164 rfl lt1;cases k1:(x.1 == s.id) with
  | false=>
   have hP:ac ((o || post.any fun p=>p.1 == s.id)=R):=⟨by rw[<-h2];simp[k1]⟩;clear h2;exact wf
  | true=>
   have hP:ac ((true || post.any fun p=>p.1 == s.id)=R):=⟨by rw[<-h2];simp[k1]⟩;clear h2;exact wf
end
section
variable {F:List Int->Bool}{G:ab}{L:List (ByteArray×Bool)}{l:List Int}{rows:List (List AV)}{sz:Nat}{v:AV}
def xz(L:List (ByteArray×Bool)):List (AV×AV):=L.map fun p=>(.str p.1,.bool p.2)
def trM_snoc(L:List (ByteArray×Bool))(k:ByteArray)(b:Bool):xz (L++[(k,b)])=xz L++[(.str k,.bool b)]:=by simp[xz]
def lx(l:List Int):Prop := ∀x∈l,0<=x/\x<256
def eI(F:List Int->Bool)(L:List (ByteArray×Bool)):Prop := ∀p∈L,∃l,lx l/\p.1=va l/\p.2=F l
def A3(a b:ByteArray):iK (.str a) (.str b)=some (decide (a=b)):=by
 obtain⟨x⟩:=a;obtain⟨y⟩:=b;simp only[iK];congr 1;rw[show ((⟨x⟩:ByteArray) == ⟨y⟩)=(x == y) from rfl,Xu];simp
theorem xy(hl:lx l):∀{L:List (ByteArray×Bool)},eI F L->ef (.str (va l)) (xz L)=some none\/ef (.str (va l)) (xz L)=some (some (.bool (F l)))
 | [],_=> .inl rfl
 | p::L,h=>by
  have ih:=xy hl (L:=L) fun q hq=>h q (by simp[hq]);obtain⟨m,hm,e1,e2⟩:=h p (by simp);by_cases k:va l=p.1
  .right;have:l=m:=keyF_inj hl hm (by rw[k,e1]);subst this;simp[xz,ef,A3,e1,e2]
  .simp only[xz,Vk,ef,A3,k,decide_false];exact ih
def EB(h:eI F L)(hl:lx l):eI F (L++[(va l,F l)]):=by
 intro p hp;rcases UU.1 hp with hp|hp
 .exact h p hp
 .simp at hp;subst hp;exact⟨l,hl,rfl,rfl⟩
def Own.snap(h:Own G sz rows v)(a0 a1 a2 a3 a4 a5:dY)(T:ab):snap (a0::a1::a2::a3::a4::a5::(G++T)) v=some (.tsl false sz rows):=by
 obtain⟨k,w,rfl,hw,hb⟩:=h;simp[jX,aM,hb T,hw]
def Own.snap0(h:Own G sz rows v)(a0 a1 a2 a3 a4 a5:dY):Go.Eng.snap (a0::a1::a2::a3::a4::a5::G) v=some (.tsl false sz rows):=by
 have:=h.snap a0 a1 a2 a3 a4 a5 []
 rwa [UM]at this
theorem Own.lenK{G:ab}{sz:Nat}{rows:List (List AV)}{v:AV}(h:Own G sz rows v){a c:Nat}{b:Bool}{d:List AV}{el:TypeId}:Go.Eng.lenK (some ⟨a,b,c,d,.slice el⟩) v=some (.int .i64 (rows.length:Int)):=by
 obtain⟨k,w,rfl,hw,hb⟩:=h;exact ci
def zL(s:mQ)(Lf:List Int->List Int):Prop := ∀(S:ab) (w:AV) (l:List Int),l.length<=1048576->(∀T,snap (S++T) w=some (.tsl false 1 (az l)))->(∀{a c:Nat}{b:Bool}{d:List AV}{el:TypeId},lenK (some ⟨a,b,c,d,.slice el⟩) w=some (.int .i64 (l.length:Int))) ->
 bS CX 352 [.agg [s.g.sgv],s.g.rv,w] S (fun u S'=> ∃G,S'=S++G/\(∀T,snap (S++(G++T)) u=some (.tsl false 1 (az (Lf l))))/\(∀{a c:Nat}{b:Bool}{d:List AV}{el:TypeId},lenK (some ⟨a,b,c,d,.slice el⟩) u=some (.int .i64 ((Lf l).length:Int)))/\(Lf l).length<=l.length)
def nh(s:mQ)(Lf:List Int->List Int)(l:List Int):Bool:=decide ((0:Int)<((Lf l).length:Int)) && decide (Lf l=s.w)
attribute [local irreducible] bB cX cZ aB bS dE
attribute [local go_sem] and_self mQ.row mQ.st mB nY gp Fi Wy
def fitsS(s:mQ)(h5:s.wp<=1){Lf:List Int->List Int}(hg:s.g.ok)(hL:zL s Lf)(bb:Bool)(hv:Own G 1 (az l) v)(hl:l.length<=1048576)(hs:lx l)(hT:eI (nh s Lf) L) :
  bS CX 348 [.ptr 5 1 14 0 0,v] (s.st (xz L) bb G) (fun u S'=>u = .bool (nh s Lf l)/\∃L' G',eI (nh s Lf) L'/\S'=s.st (xz L') bb (G++G')):=by
 have q1:=(keyM (v := .tsl false 1 (az l)) (.rows false) hl hs).rw;have s1:=hv.snap;have s2:=hv.snap0;have n1:=@Own.lenK _ _ _ _ hv;rw[aC]at n1;obtain⟨c1,c2,c3,c4,c5,c6,c7⟩:=hg.cells;obtain⟨p1,p2,p3,p4,p5,p6,p7⟩:=hg.snaps;have KZ:=EB hT hs;rcases xy hs hT with hf|hf
 case inr=>
  have hH:ac (eI (nh s Lf) L):=⟨hT⟩;generalize nh s Lf l=R at*;clear KZ hT hL hs hl hv;refine tY fx348 ?_;refine wk ?_;simp only[aO,aP,bg,aN,bH,bz];exact⟨trivial,L,[],hH.out,by simp[mQ.st,mQ.row]⟩
 have hu:∀b,jc (.str (va l)) (.bool b) (xz L)=xz (L++[(va l,b)]):=fun b=>by rw[nA hf,trM_snoc]
 have IY:ac ((Lf l).length<=l.length->(Lf l).length<=1048576):=⟨fun h=>by omega⟩;have qe:ac ((Lf l).length<=1048576->∀Q,aB CX 353 [.tsl false 1 (az (Lf l)),.tsl true 1 (az s.w)] Q=Q (.bool (decide (Lf l=s.w)))):=⟨fun h=>(equalM (.rows false) (.rows true) h).rw⟩;have hB:nh s Lf l=(decide ((0:Int)<((Lf l).length:Int)) && decide (Lf l=s.w)):=rfl;have PH:=hL (s.st (xz L) bb G) v l hl (fun T=>by simp only[mQ.st,UF];exact s1 _ _ _ _ _ _ T) n1;have KZ:ac (eI (nh s Lf) (L++[(va l,nh s Lf l)])):=⟨KZ⟩;generalize nh s Lf l=R at*;generalize Lf l=o at*;clear hT hL hs hl hv;refine tY fx348 ?_;refine wk ?_;refine wr PH ?_;rintro u S' ⟨G1,rfl,KP,KT,hle⟩;have ql:=qe.out (IY.out hle);simp only[mQ.st,mQ.row,UF,UX]at KP;have hs0:=KP [];rw[UM]at hs0;clear PH hle;by_cases hk:(0:Int)<(o.length:Int)
 case neg=>
  have e:R=false:=by rw[hB,decide_eq_false hk];rfl
  subst e;clear hB ql;refine wk ?_;simp only[aO,aP,bg,aN,bH,bz];exact⟨trivial,_,_,KZ.out,rfl⟩
 rw[decide_eq_true hk,VB]at hB;rw[<-hB]at ql;clear hB;refine wk ?_;simp only[aO,aP,bg,aN,bH,bz];exact⟨trivial,_,_,KZ.out,rfl⟩
end
section
variable {e:En}{v:AV}{xs:List En}
def wK(xs:List En):Nat->Int->List Sn
 | 0,_=>[]
 | k+1,n=>match xs.find? fun e=>e.id == n with
  | none=>[]
  | some e=>if e.sl = [] then (if e.ma=0 then [] else wK xs k e.ma) else e.sl
def wL(xs:List En)(n:Int):Bool := !(wK xs (xs.length+1) n).isEmpty
def EG(l:List Sn):(l.map ga).all cq=true:=by
 rw[Vb];intro r hr;obtain⟨x,_,rfl⟩:=UZ.1 hr;rfl
theorem Gj(h:∀e∈xs,e.ok/\e.sl.length<=1048576):∀(k:Nat) (n:Int),Hs (xs.map aG) k n=some ((wK xs k n).map ga)
 | 0,_=>rfl
 | k+1,n=>by
  have e0:(xs.map aG).find? (FC n)=(xs.find? fun e=>e.id == n).map aG:=by
   rw[List.find?_map];congr 1
  rw[Hs,wK,e0];cases hf:xs.find? fun e=>e.id == n with
  | none=>rfl
  | some e=>
   obtain⟨h1,h2⟩:=h e (U8 hf);have e1:rowsOf [] 2 (BC (aG e))=some (e.sl.map ga,true):=h1.s.rowsOf [];have e2:Fr (aG e)=some e.ma:=rfl;simp only[Vf,e1,e2];cases hs:e.sl with
   | nil=>
    simp only[Wb,if_true];by_cases k0:e.ma=0
    .simp[k0]
    .simp only[k0,if_false];exact Gj h k e.ma
   | cons x l=>
    simp
def CQ{sz:Nat}{rows:List (List AV)}(h:bq sz rows v):v.clean=true:=by cases h<;>rfl
def EF(l:List Sn):(l.map ga).all Bv=true:=by
 rw[Vb];intro r hr;obtain⟨x,_,rfl⟩:=UZ.1 hr;rfl
def Im(h:e.ok)(hl:e.sl.length<=1048576):rR (aG e)=true:=by
 have e1:=h.s.rowsOf [];have e2:=h.s.cell;have e3:=CQ h.s;have e4:=EF e.sl;have e5:(e.sl.map ga).length<=1073741824:=by rw[UI];omega
 simp only[rR,aG,e1,e2,e3,e4,Bool.and_self,VB,decide_eq_true_eq];exact e5
theorem sensesM(n:Int)(hv:bq 8 (xs.map aG) v)(h:∀e∈xs,e.ok/\e.sl.length<=1048576)(hl:xs.length<=1000000) :
  ∃r,(∀Q,aB CX 354 [v,.int .i64 n] Q=Q r)/\((wL xs n=false/\r = .flat (.slice none 0 0))\/(wL xs n=true/\∃x l,r = .osl 2 (x::l))):=by
 have e1:=CQ hv;have e2:=hv.rowsOf []
 have e3:(xs.map aG).all rR=true:=by
  rw[Vb];intro r hr;obtain⟨x,hx,rfl⟩:=UZ.1 hr;exact Im (h x hx).1 (h x hx).2
 have e4:=Gj h ((xs.map aG).length+1) n;have e5:(xs.map aG).length<=1000000:=by simpa using hl
 have e6:wL xs n = !(wK xs ((xs.map aG).length+1) n).isEmpty:=by simp[wL]
 have st:=EG (wK xs ((xs.map aG).length+1) n);cases hw:wK xs ((xs.map aG).length+1) n with
 | nil=>
  rw[hw]at e4 e6;refine⟨.flat (.slice none 0 0),(aB.prim (p:=gD) (r := .flat (.slice none 0 0)) (S:=[]) rfl (by simp only[gD,e1,e2,if_true,if_pos (And.intro e3 e5),e4,Wb]) rfl).rw,.inl ⟨by rw[e6];rfl,rfl⟩⟩
 | cons x l=>
  rw[hw]at e4 e6 st;refine⟨.osl 2 (ga x::l.map ga),(aB.prim (p:=gD) (r := .sl 0 (ga x::l.map ga).length 0 (ga x::l.map ga).length 2) (S:=[]++[.arr (ga x::l.map ga) 2 0 true]) rfl (by simp only[gD,e1,e2,if_true,if_pos (And.intro e3 e5),e4,Vk];rfl) ?_).rw,.inr ⟨by rw[e6];rfl,_,_,rfl⟩⟩;simp[da,dR,ce,bT,bI]
def FI(e:En):List (List AV):=[e.fv]::e.al.map fun x=>[x.1]
attribute [local irreducible] bB cX cZ aB bS dE
attribute [local go_sem] U1 Vj List.replicate UC Vp Nat.reduceMul Vg eF d9 bP bt ci bN cM ba aY aS aM aX and_self aG
def formsM(h:e.ok)(hl:e.al.length<=1048576):aB CX 355 [.agg (aG e)] (· = .osl 1 (FI e)):=by
 obtain⟨c1,c2,c3,c4,c5⟩:=h.cells;have r1:=h.a.rowsOf;have d1:=slsC h.f;have a1:(1+e.al.length)*24<=140737488355328:=by omega
 have a2:1+e.al.length<=140737488355328:=by omega
 have t1:=h.ft;have t2:=h.at';by_cases k:e.al.length=0
 .have e1:FI e = [[e.fv]]:=by rw[FI,UO k];rfl
  rw[e1];clear e1;refine aL fx355 ?_;exact wf
 .have hc:e.al.length+1=1+e.al.length:=Nat.add_comm _ _;refine aL fx355 ?_;refine wk ?_;simp only[go_sem];rw[if_pos hc];rfl
end
section
variable {G:ab}{n sz:Nat}{rows:List (List AV)}{v:AV}
def ln(G:ab)(sz:Nat)(rows:List (List AV))(v:AV):Prop:=Own G sz rows v\/(rows = []/\v = .flat (.slice none 0 0))
def Own.mk'{k w:Nat}(hv:v = .sl (k+1+1+1+1+1+1) n 0 n sz)(hn:n=rows.length)(hw:w<=n)(hb:∀T,(G++T)[k]? = some (.arr rows sz w true)):Own G sz rows v:=by
 subst hn;exact⟨k,w,hv,hw,hb⟩
theorem ln.lenK{G:ab}{sz:Nat}{rows:List (List AV)}{v:AV}(h:ln G sz rows v){a c:Nat}{b:Bool}{d:List AV}{el:TypeId}:Go.Eng.lenK (some ⟨a,b,c,d,.slice el⟩) v=some (.int .i64 (rows.length:Int)):=by
 rcases h with h|⟨rfl,rfl⟩
 .exact h.lenK
 .rfl
theorem ln.rowsOf(h:ln G sz rows v)(a0 a1 a2 a3 a4 a5:dY)(T:ab):Go.Eng.rowsOf (a0::a1::a2::a3::a4::a5::(G++T)) sz v=some (rows,true):=by
 rcases h with ⟨k,w,rfl,hw,hb⟩|⟨rfl,rfl⟩
 .simp[aM,hb T,hw]
 .rfl
def fh(e:En):List (AV×List Int):=(e.fv,e.fl)::e.al
def DG(e:En):FI e=(fh e).map fun x=>[x.1]:=rfl
def qI(s:mQ)(b f:List Int):Bool := !(decide ((24:Int)<((b.length+f.length:Nat):Int))) && (s.sh || !(decide ((s.w.length:Int)<((b.length+f.length:Nat):Int))))
def stepG(s:mQ)(W:List Pa->Int->List Int->Bool)(id:Int)(ps:List Pa)(st:Int)(b:List Int):List (AV×List Int)->Nat->Bool
 | [],_=>false
 | x::l,i=>(qI s b x.2 && W (ps++[(id,(i:Int))]) st (b++x.2)) || stepG s W id ps st b l (i+1)
def zK(s:mQ)(Lf:List Int->List Int)(W:List Pa->Int->List Int->Bool)(n:Nat):Prop := ∀(ps:List Pa) (pv bv:AV) (st:Int) (b:List Int) (G:ab) (L:List (ByteArray×Bool)),ln G 3 (ps.map lL) pv->ln G 1 (az b) bv->ps.length+n=4->lx b->b.length<=24->eI (nh s Lf) L ->
 bS CX 346 [.ptr 5 1 14 0 0,pv,.int .u32 st,bv] (s.st (xz L) false G) (fun v S'=>v = .bool (!W ps st b)/\∃L' G',eI (nh s Lf) L'/\S'=s.st (xz L') (W ps st b) (G++G'))
attribute [local irreducible] bB cX cZ aB bS dE
attribute [local go_sem] U1 Vj List.replicate UC Vp Nat.reduceMul Vg eF d9 bP bt ci bN ba aY aS aM aX and_self mQ.row mQ.st aG lL
theorem stepS(s:mQ)(h5:s.wp<=1){Lf:List Int->List Int}{W:List Pa->Int->List Int->Bool}(hg:s.g.ok)(hx:∀e∈s.g.xs,e.ok/\e.sl.length<=1048576/\e.al.length<=1048576/\∀x∈fh e,lx x.2/\x.2.length<=1048576)(hl:s.g.xs.length<=1000000)(hW:zK s Lf W n)
  {e:En}(he:e∈s.g.xs) (ps:List Pa) (pv bv:AV) (st:Int) (b:List Int) (G:ab) (L:List (ByteArray×Bool)) (hp:ln G 3 (ps.map lL) pv) (hb:ln G 1 (az b) bv) (hn:ps.length+n=3) (hs:lx b) (JV:b.length<=24) (hT:eI (nh s Lf) L) :
  bS CX 350 [.ptr 5 1 14 0 0,.agg (aG e),pv,.int .u32 st,bv] (s.st (xz L) false G) (fun v S'=>v = .bool (!(wL s.g.xs e.id && stepG s W e.id ps st b (fh e) 0))/\∃L' G',eI (nh s Lf) L'/\S'=s.st (xz L') (wL s.g.xs e.id && stepG s W e.id ps st b (fh e) 0) (G++G')):=by
 obtain⟨h1,h2,h3,h4⟩:=hx e he;obtain⟨c1,c2,c3,c4,c5⟩:=h1.cells;obtain⟨p1,p2,p3,p4,p5,p6,p7⟩:=hg.snaps;obtain⟨r,q1,hr⟩:=sensesM e.id hg.x (fun e he=>⟨(hx e he).1,(hx e he).2.1⟩) hl;have q2:=(formsM h1 h3).rw;have t1:=h1.f.snap;have t2:=h1.a.snap;have t3:=h1.s.snap;have t4:=h1.l.snap;have t5:=h1.r.snap;have n1:=@ln.lenK _ _ _ _ hb;rw[aC]at n1;simp only[aG]at q2;rcases hr with ⟨hr,rfl⟩|⟨hr,x0,l0,rfl⟩
 .rw[hr];have KZ:ac (eI (nh s Lf) L):=⟨hT⟩;clear hp hb hn hs JV hT hW hx hl hg;refine tY fx350 ?_;refine wk ?_;simp only[aO,aP,bg,aN,bH,bz];exact⟨rfl,L,_,KZ.out,rfl⟩
 .rw[hr,VB];have z0:(((l0.length+1:Nat):Int) == 0)=false:=by simp;omega
  have I4:ac (∀x∈fh e,bq 1 (az x.2) x.1/\lx x.2/\x.2.length<=1048576):=⟨fun x hx=>by
   refine⟨?_,h4 x hx⟩;rcases U2.1 hx with rfl|hx
   .exact h1.f
   .exact(h1.ai x hx).1⟩
  have rb:=fun a0 a1 a2 a3 a4 a5 T=>hb.rowsOf a0 a1 a2 a3 a4 a5 T;have rp:=fun a0 a1 a2 a3 a4 a5 T=>hp.rowsOf a0 a1 a2 a3 a4 a5 T;have np:=@ln.lenK _ _ _ _ hp;have e1:(FI e).length=(fh e).length:=by simp[DG]
  have hgx:ac (∀i:Nat,(FI e)[i]? = ((fh e)[i]?).map fun x=>[x.1]):=⟨fun i=>by rw[DG,Vc]⟩;have JU:(fh e).length<9223372036854775807:=by simp[fh];omega
  have KZ:ac (eI (nh s Lf) L):=⟨hT⟩;have Q1:ac (zK s Lf W n):=⟨hW⟩;have MK:ac (lx b/\b.length<=24/\ps.length+n=3/\ln G 3 (ps.map lL) pv/\ln G 1 (az b) bv):=⟨hs,JV,hn,hp,hb⟩;generalize hR:stepG s W e.id ps st b (fh e) 0=R;have KO:ac (stepG s W e.id ps st b (fh e) 0=R):=⟨hR⟩;clear hp hb hn hs JV hT hW hx hl hg hR h1 h2 h3 h4 hr he;refine tY fx350 ?_;refine wk ?_;refine cN [10,11,12,13,14,15,30,31,32,33,34,35,36,37,38,39,40,41,42,43,44,45,46,47,48,49,50,51,52,53,54,55,56,57,58,59,60,61,62,63,64,65,66,67,68,69,70,71,72,73,74,75,76,77] 29 (fh e) (fun _:List (ByteArray×Bool)=>[]) (fun L G'=>s.B :: .arr [[.int .i64 s.id]] 1 0 true :: .arr [[.bool false]] 1 1 true::s.B' :: .map (xz L) :: .arr [s.row] 14 s.wp false::(G ++ .arr [[.int .i64 e.id,e.fv,.int .i64 e.cl,e.av,.int .i64 e.ma,e.sv,e.lv,e.rv]] 8 0 (e.fv.stab && (e.av.stab && (e.sv.stab && (e.lv.stab && e.rv.stab)))) :: .arr (x0::l0) 2 0 true :: .arr (FI e) 1 0 true::G')) (fun pre post L=>eI (nh s Lf) L/\stepG s W e.id ps st b post pre.length=R) L JU ?_ ?_ ?_
  .exact⟨KZ.out,KO.out⟩
  .intro L' g G' ⟨h1,h2⟩;have h2:false=R:=h2;subst h2;have KZ:ac (eI (nh s Lf) L'):=⟨h1⟩;refine wk ?_;simp only[aO,aP,bg,aN,bH,bz];exact⟨rfl,L',_,KZ.out,rfl⟩
  .intro L' g G' pre x post IW lt1 w1 ⟨h1,h2⟩;have Jq:=hgx.out pre.length;rw[show (fh e)[pre.length]? = some x by rw[IW.out];simp]at Jq;simp only[Vf]at Jq;obtain⟨f1,f2,f3⟩:=I4.out x (by rw[IW.out];simp);have L1:=@au _ _ _ f1;have rf:=f1.rowsOf;have JV:=MK.out.2.1;have IZ:pre.length<(fh e).length:=by omega
   have e2:IntKind.wrap .i64 ((b.length:Int)+(x.2.length:Int))=((b.length+x.2.length:Nat):Int):=by rw[wrap_small (by omega) (by omega)];rfl
   have i1:∀{j:IntKind},aD CX 61 (.sl (G.length+2+1+1+1+1+1+1) (fh e).length 0 (fh e).length 1) (.int j (pre.length:Int))=some (.ptr (G.length+2+1+1+1+1+1+1) (fh e).length 1 pre.length 0):=fun {j}=>gu ty61 ty31 rfl lt1;rw[stepG]at h2;have KZ:ac (eI (nh s Lf) L'):=⟨h1⟩;by_cases k1:(24:Int)<((b.length+x.2.length:Nat):Int)
   .have hP:ac (eI (nh s Lf) L'/\stepG s W e.id ps st b post (pre++[x]).length=R):=⟨KZ.out,by rw[<-h2,qI,decide_eq_true k1];simp⟩;clear h1 h2 KO JV;exact wf
   have go:((!s.sh)=true/\(s.w.length:Int)<((b.length+x.2.length:Nat):Int))\/qI s b x.2=true/\((!s.sh)=false\/(!s.sh)=true/\¬(s.w.length:Int)<((b.length+x.2.length:Nat):Int)):=by
    by_cases k3:(s.w.length:Int)<((b.length+x.2.length:Nat):Int)
    .cases MB:s.sh with
     | false=>exact .inl ⟨rfl,k3⟩
     | true=>exact .inr ⟨by rw[qI,decide_eq_false k1,MB];rfl,.inl rfl⟩
    .refine .inr ⟨by rw[qI,decide_eq_false k1,decide_eq_false k3];cases s.sh<;>rfl,?_⟩;cases MB:s.sh with
     | false=>exact .inr ⟨rfl,k3⟩
     | true=>exact .inl rfl
   rcases go with ⟨hk,k3⟩|⟨PA,go⟩
   .have e0:qI s b x.2=false:=by rw[qI,decide_eq_true k3,show s.sh=false by simpa using hk];simp
    have hP:ac (eI (nh s Lf) L'/\stepG s W e.id ps st b post (pre++[x]).length=R):=⟨KZ.out,by rw[<-h2,e0];simp⟩;clear h1 h2 KO JV;exact wf
   rw[PA,VB]at h2;have JP:ps.length<=4:=by have:=MK.out.2.2.1;omega
   have JQ:x.2.length<=24:=by omega
   have a1:b.length*8<=140737488355328:=by omega
   have a2:b.length<=140737488355328:=by omega
   have a3:(b.length+x.2.length)*8<=140737488355328:=by omega
   have a4:b.length+x.2.length<=140737488355328:=by omega
   have a5:x.2.length*8<=140737488355328:=by omega
   have a6:x.2.length<=140737488355328:=by omega
   have a7:ps.length*24<=140737488355328:=by omega
   have a8:ps.length<=140737488355328:=by omega
   have a9:(ps.length+1)*24<=140737488355328:=by omega
   have aa:ps.length<=140737488355327:=by omega
   clear JP JQ;have hlf:(b++x.2).length<=24:=by rw[UG];omega
   have Su:lx (b++x.2):=fun z hz=>(UU.1 hz).elim (MK.out.1 z) (f2 z);have SD:(ps++[(e.id,(pre.length:Int))]).length+n=4:=by have:=MK.out.2.2.1;simp;omega
   have OZ:ac (∀L2:List (ByteArray×Bool),W (ps++[(e.id,(pre.length:Int))]) st (b++x.2)=false->eI (nh s Lf) L2->eI (nh s Lf) L2/\stepG s W e.id ps st b post (pre++[x]).length=R):=⟨fun L2 e3 h3=>⟨h3,by rw[<-h2,e3];simp⟩⟩;have Sq:ac (W (ps++[(e.id,(pre.length:Int))]) st (b++x.2)=true->R=true):=⟨fun e3=>by rw[<-h2,e3];rfl⟩;clear h1 h2 KO hgx;have TY:=fun pv bv G=>Q1.out (ps++[(e.id,(pre.length:Int))]) pv bv st (b++x.2) G L';generalize W (ps++[(e.id,(pre.length:Int))]) st (b++x.2)=B at*;rcases go with hk|⟨hk,k3⟩
   all_goals
    ((try simp only[UB,UE,UF,UH,Nat.reduceAdd,Nat.reduceSub,List.replicate,aj,aq,ah,an,UC,UD]);repeat' (first|refine dn ?_|refine ad rfl ?_|(refine dI fun A B a b=>?_;simp only[go_sem, *];(repeat' first|apply a.1|apply b.1|refine aV (fun h=>?_) fun h=>?_)<;>clear a b A B)))
   all_goals refine wr (TY _ _ _ (.inl (Own.mk' (w:=0) rfl ?_ (U9 _) ?_)) (.inl (Own.mk' (w:=0) rfl ?_ (U9 _) ?_)) SD Su hlf KZ.out) ?_
   all_goals first
    |((simp only[UI,UG,UB,UE,aC])<;>omega)
    |(intro T;simp only[UX,UF,UH,cr,Vx,bZ,VL,Nat.reduceAdd];first|rfl|(simp_all [az,lL];done))
    | skip
   all_goals
    rintro v S' ⟨rfl,L2,G2,h3,rfl⟩;cases B with
    | false=>
     have hP:=ac.mk (OZ.out L2 rfl h3);exact wf
    | true=>
     have:=Sq.out rfl;subst this;have MM:=ac.mk h3;refine wk ?_;simp only[aO,aP,bg,aN,bH,bz];exact⟨rfl,L2,_,MM.out,rfl⟩
end
section
variable {G:ab}{rows:List (List AV)}{sz:Nat}{v:AV}
def Own.grow(h:Own G sz rows v)(T:ab):Own (G++T) sz rows v:=by
 obtain⟨k,w,rfl,hw,hb⟩:=h;exact⟨k,w,rfl,hw,fun T'=>by rw[UX];exact hb _⟩
def ln.own(h:ln G sz rows v)(h0:0<rows.length):Own G sz rows v:=by
 rcases h with h|⟨rfl,_⟩
 .exact h
 .simp at h0
def ln.grow(h:ln G sz rows v)(T:ab):ln (G++T) sz rows v:=by
 rcases h with ⟨k,w,rfl,hw,hb⟩|h
 .exact .inl ⟨k,w,rfl,hw,fun T'=>by rw[UX];exact hb _⟩
 .exact .inr h
def qz(s:mQ)(Lf:List Int->List Int)(ps:List Pa)(st:Int)(b:List Int):Bool :=
 decide ((0:Int)<(ps.length:Int)) && (!(tU st s.fi == 0) && (decide ((s.w.length:Int)<=(b.length:Int)) && (nh s Lf b && ps.any fun p=>p.1 == s.id)))
def ot(s:mQ)(Lf:List Int->List Int)(Fs:En->List Pa->Int->List Int->Bool)(ps:List Pa)(st:Int)(b:List Int):Bool :=
 qz s Lf ps st b || (!(decide (ps.length=4)) && s.g.xs.any fun e=> !(gK s.g.ps st e.cl == 0) && Fs e ps (gK s.g.ps st e.cl) b)
def StepOK(s:mQ)(Lf:List Int->List Int)(Fs:En->List Pa->Int->List Int->Bool)(n:Nat):Prop := ∀e∈s.g.xs,∀(ps:List Pa) (pv bv:AV) (st:Int) (b:List Int) (G:ab) (L:List (ByteArray×Bool)),ln G 3 (ps.map lL) pv->ln G 1 (az b) bv->ps.length+n=3->lx b->b.length<=24->eI (nh s Lf) L ->
 bS CX 350 [.ptr 5 1 14 0 0,.agg (aG e),pv,.int .u32 st,bv] (s.st (xz L) false G) (fun v S'=>v = .bool (!(Fs e ps st b))/\∃L' G',eI (nh s Lf) L'/\S'=s.st (xz L') (Fs e ps st b) (G++G'))
attribute [local irreducible] bB cX cZ aB bS dE
attribute [local go_sem] bi and_self mQ.row mQ.st aG lL
theorem walkS(s:mQ)(h5:s.wp<=1){Lf:List Int->List Int}{Fs:En->List Pa->Int->List Int->Bool}{n:Nat}(hg:s.g.ok)(hx:∀e∈s.g.xs,e.ok)(hl:s.g.xs.length<=1000000)(IZ:s.g.ps.length<=1048576)(hN:wH s.g.nst s.g.ps s.g.fs)(hL:zL s Lf)(hw:0<s.w.length)(hS:∀k,n=k+1->StepOK s Lf Fs k):zK s Lf (ot s Lf Fs) n:=by
 intro ps pv bv st b G L hp hb hn hs JV hT;have n1:=@ln.lenK _ _ _ _ hb;have n2:=@ln.lenK _ _ _ _ hp;rw[aC]at n1;have Qw:(ps.map lL).length=ps.length:=by simp
 have hlw:(az s.w).length=s.w.length:=aC _;generalize hR:ot s Lf Fs ps st b=R;have KO:ac (ot s Lf Fs ps st b=R):=⟨hR⟩;have Ji:ac (ln G 3 (ps.map lL) pv/\ln G 1 (az b) bv/\ps.length+n=4/\lx b/\b.length<=24/\eI (nh s Lf) L):=⟨hp,hb,hn,hs,JV,hT⟩;clear hR hp hb hn hs JV hT;refine tY fx346 ?_
 (try simp only[dD,iJ,UB,UE,UF,UH,Nat.reduceAdd,Nat.reduceSub,List.replicate,aj,aq,ah,an,UC,UD])
 refine gL (eU ?_);repeat' (first|refine ig ?_|(refine bK fun K hK=>?_;simp only[go_sem, *];first|(refine hK.out _ _ ?_;clear hK K)|(refine aV (fun h=>hK.out _ _ ?_) (fun h=>hK.out _ _ ?_)<;>clear hK K)))
 refine eo ?_;refine gL ?_;refine wW [12,13,14,15,16,17,18,19,20,21,22,23,24,25,26,27,28,29,30,31,32,33,34,35,36,37,38,39,40,41,42,43,44,45,46,47,48] (fun _:List (ByteArray×Bool)=>[]) (fun L G'=>s.B :: .arr [[.int .i64 s.id]] 1 0 true :: .arr [[.bool false]] 1 1 true::s.B' :: .map (xz L) :: .arr [s.row] 14 s.wp false::(G++G')) (fun L=>qz s Lf ps st b=false/\eI (nh s Lf) L) ?_ ?_
 .obtain⟨hp,hb,hn,hs,JV,hT⟩:=Ji.out;by_cases k1:(0:Int)<(ps.length:Int)
  case neg=>
   have hP:ac (qz s Lf ps st b=false/\eI (nh s Lf) L):=⟨by rw[qz,decide_eq_false k1];rfl,hT⟩;clear hp hb hn hs JV hT;refine wk ?_;exact eH L hP.out aQ ⟨[],by rw[UM];rfl⟩
  cases k2:(tU st s.fi == 0) with
  | true=>
   have hP:ac (qz s Lf ps st b=false/\eI (nh s Lf) L):=⟨by rw[qz,k2];simp,hT⟩;simp only[tU,IntKind.bits]at k2;clear hp hb hn hs JV hT;refine wk ?_;exact eH L hP.out aQ ⟨[],by rw[UM];rfl⟩
  | false=>
  by_cases k3:(s.w.length:Int)<=(b.length:Int)
  case neg=>
   have hP:ac (qz s Lf ps st b=false/\eI (nh s Lf) L):=⟨by rw[qz,decide_eq_false k3];simp,hT⟩;simp only[tU,IntKind.bits]at k2;clear hp hb hn hs JV hT;refine wk ?_;exact eH L hP.out aQ ⟨[],by rw[UM];rfl⟩
  have e0:qz s Lf ps st b=(nh s Lf b && ps.any fun p=>p.1 == s.id):=by rw[qz,decide_eq_true k1,decide_eq_true k3,k2];rfl
  have q1:=fitsS s h5 hg hL false (hb.own (by rw[aC];omega)) (by omega) hs hT;have q2:=fun m G1=>found1M (bv:=bv) s m ((hp.own (by rw[Qw];omega)).grow G1) (by omega);have e0:=ac.mk e0;simp only[tU,IntKind.bits]at k2;clear hp hb hn hs JV hT;refine wk ?_;refine wr q1 ?_;rintro u S' ⟨rfl,L1,G1,Q4,rfl⟩;have Q4:=ac.mk Q4;clear q1;cases hB:nh s Lf b with
  | false=>
   have hP:ac (qz s Lf ps st b=false/\eI (nh s Lf) L1):=⟨by rw[e0.out,hB];rfl,Q4.out⟩;refine wk ?_;exact eH L1 hP.out aQ ⟨_,rfl⟩
  | true=>
   rw[hB,VB]at e0;refine wk ?_;refine wr (q2 (xz L1) G1) ?_;rintro u S' ⟨rfl,G2,rfl⟩;generalize (ps.any fun p=>p.1 == s.id)=A at*;cases A with
   | true=>
    have e:R=true:=by rw[<-KO.out,ot,e0.out];rfl
    subst e;refine wk ?_;simp only[aO,aP,bg,aN,bH,bz];exact⟨rfl,L1,_,Q4.out,rfl⟩
   | false=>
    have hP:ac (qz s Lf ps st b=false/\eI (nh s Lf) L1):=⟨e0.out,Q4.out⟩;refine wk ?_;exact eH L1 hP.out aQ ⟨G1++G2,rfl⟩
 .rintro L' g G' ⟨h1,h2⟩;replace h1:qz s Lf ps st b=false:=h1;replace h2:ac (eI (nh s Lf) L'):=⟨h2⟩;have Pv:ot s Lf Fs ps st b=(!(decide (ps.length=4)) && s.g.xs.any fun e=> !(gK s.g.ps st e.cl == 0) && Fs e ps (gK s.g.ps st e.cl) b):=by rw[ot,h1,V9]
  rw[KO.out]at Pv;clear h1 KO;by_cases k4:ps.length=4
  .have e:R=false:=by rw[Pv,decide_eq_true k4];rfl
   subst e;have k5:(ps.length:Int)=4:=by omega
   clear Pv k4;refine wk ?_;simp only[aO,aP,bg,aN,bH,bz];exact⟨rfl,L',_,h2.out,rfl⟩
  obtain⟨k,hk⟩:∃k,n=k+1:=⟨n-1,by have:=Ji.out.2.2.1;omega⟩;have hSk:=ac.mk (hS k hk);have hwR:ac ((s.g.xs.any fun e=> !(gK s.g.ps st e.cl == 0) && Fs e ps (gK s.g.ps st e.cl) b)=R):=⟨by rw[Pv,decide_eq_false k4];simp⟩;have k5:¬(ps.length:Int)=4:=by omega
  have Pu:=ac.mk hx;have Lq:=ac.mk hg;have hNH:=ac.mk hN;have NB:=hg.x;have L1:=@au _ _ _ NB;have Jd:s.g.xs.length<9223372036854775807:=by omega
  obtain⟨p1,p2,p3,p4,p5,p6,p7⟩:=hg.snaps;clear Pv k4 hS hx hL hN hg hl;refine wk ?_;refine ct [8,10,11,59,60,61,62,63,64,65,66,67,68,69,70,71,72,73,74,75,76,77,78] 58 s.g.xs (fun _:List (ByteArray×Bool)=>[]) (fun L G'=>s.B :: .arr [[.int .i64 s.id]] 1 0 true :: .arr [[.bool false]] 1 1 true::s.B' :: .map (xz L) :: .arr [s.row] 14 s.wp false::(G++G')) (fun _ post L=>eI (nh s Lf) L/\(post.any fun e=> !(gK s.g.ps st e.cl == 0) && Fs e ps (gK s.g.ps st e.cl) b)=R) L' NB Jd ty34 ty66 rfl ?_ ?_ ?_
  .exact⟨h2.out,hwR.out⟩
  .intro L2 g2 G2 ⟨m1,m2⟩;have m2:false=R:=m2;subst m2;have m1:=ac.mk m1;refine wk ?_;simp only[aO,aP,bg,aN,bH,bz];exact⟨rfl,L2,_,m1.out,rfl⟩
  .intro L2 g2 G2 pre x post IW lt1 w1 i1 ⟨m1,m2⟩;have m1:=ac.mk m1;have Jg:x∈s.g.xs:=by rw[IW.out];simp
   obtain⟨c1,c2,c3,c4,c5⟩:=(Pu.out x Jg).cells;have qa:=fun G3=>afterM s h5 Lq.out IZ hNH.out st x.cl (xz L2) false G3;have qs:=fun G3=>hSk.out x Jg ps pv bv (gK s.g.ps st x.cl) b (G++G3) L2 (Ji.out.1.grow _) (Ji.out.2.1.grow _) (by have:=Ji.out.2.2.1;omega) Ji.out.2.2.2.1 Ji.out.2.2.2.2.1 m1.out;rw[V4]at m2;have m2:=ac.mk m2;refine wk ?_;refine wr (qa _) ?_;rintro v S' ⟨rfl,G3,rfl⟩;clear qa;cases k:(gK s.g.ps st x.cl == 0) with
   | true=>
    have hP:ac (eI (nh s Lf) L2/\(post.any fun e=> !(gK s.g.ps st e.cl == 0) && Fs e ps (gK s.g.ps st e.cl) b)=R):=⟨m1.out,by rw[<-m2.out,k];rfl⟩;clear qs;exact wf
   | false=>
    simp only[aG]at qs;refine wk ?_;refine wr (qs _) ?_;rintro v S' ⟨rfl,L3,G4,RZ,rfl⟩;have RZ:=ac.mk RZ;clear qs;cases hF:Fs x ps (gK s.g.ps st x.cl) b with
    | false=>
     have hP:ac (eI (nh s Lf) L3/\(post.any fun e=> !(gK s.g.ps st e.cl == 0) && Fs e ps (gK s.g.ps st e.cl) b)=R):=⟨RZ.out,by rw[<-m2.out,k,hF];rfl⟩;exact wf
    | true=>
     have e:R=true:=by rw[<-m2.out,k,hF];rfl
     subst e;refine wk ?_;simp only[aO,aP,bg,aN,bH,bz];exact⟨rfl,L3,_,RZ.out,rfl⟩
end
section
variable {Lf:List Int->List Int}{sh:Bool}{w:List Int}
def stepW(s:mQ)(W:List Pa->Int->List Int->Bool)(e:En)(ps:List Pa)(st:Int)(b:List Int):Bool:=wL s.g.xs e.id && stepG s W e.id ps st b (fh e) 0
def mV(s:mQ)(Lf:List Int->List Int):Nat->List Pa->Int->List Int->Bool
 | 0=>ot s Lf fun _ _ _ _=>false
 | n+1=>ot s Lf (stepW s (mV s Lf n))
theorem Gy(s:mQ)(h5:s.wp<=1)(hg:s.g.ok)(hx:∀e∈s.g.xs,e.ok/\e.sl.length<=1048576/\e.al.length<=1048576/\∀x∈fh e,lx x.2/\x.2.length<=1048576)(hl:s.g.xs.length<=1000000)(IZ:s.g.ps.length<=1048576)(hN:wH s.g.nst s.g.ps s.g.fs)(hL:zL s Lf)(hw:0<s.w.length):∀n,zK s Lf (mV s Lf n) n
 | 0=>walkS s h5 hg (fun e he=>(hx e he).1) hl IZ hN hL hw fun k h=>by omega
 | n+1=>walkS s h5 hg (fun e he=>(hx e he).1) hl IZ hN hL hw fun k h=>by
  obtain rfl:n=k:=by omega
  exact fun e he=>stepS s h5 hg hx hl (Gy s h5 hg hx hl IZ hN hL hw n) he
def finF(fs:List Int):Int:=fs.foldl (fun o q=>IU o (sK 1 q)) 0
def Lg.row(g:Lg):List AV:=[g.sgv,.str g.onm,g.uv,g.lv,g.rv,.int .i64 g.nst,g.pv,g.fv,g.xv]
def Lg.blk(g:Lg):dY := .arr [g.row] 9 0 (g.sgv.stab && (g.uv.stab && (g.lv.stab && (g.rv.stab && (g.pv.stab && (g.fv.stab && g.xv.stab))))))
def IA{b:Nat}:(AV.mp b).cells = [.mp b]:=rfl
def IB{f:FuncId}{l:List AV}:(AV.fn f l).cells = [.fn f l]:=rfl
def mkS(g:Lg)(sh:Bool)(w:List Int)(id:Int):mQ:=⟨g,g.blk,g.blk,id,w,sh,finF g.fs,if g.fs = [] then 0 else 1⟩
def jv(g:Lg)(Lf:List Int->List Int)(sh:Bool)(w:List Int)(id:Int):Bool:=decide (0<w.length) && (decide (w.length<=24) && mV (mkS g sh w id) Lf 4 [] 1 [])
attribute [local irreducible] bB cX cZ aB bS dE
attribute [local go_sem] bi and_self mQ.row mQ.st fU Lg.row Lg.blk IA IB
def runS{g:Lg}(id:Int)(hg:g.ok)(JU:g.fs.length<=1048576)(hN:wH g.nst g.ps g.fs)(MB:∀Q,aB CX 345 [g.rv] Q=Q (.bool sh))
  (hW:0<w.length->w.length<=24->zK (mkS g sh w id) Lf (mV (mkS g sh w id) Lf 4) 4) :
  bS CX 343 [.agg (fU g),.tsl true 1 (az w),.fn 344 [.ptr 1 1 1 0 0,.ptr 2 1 1 0 0]] [g.blk,.arr [[.int .i64 id]] 1 0 true,.arr [[.bool false]] 1 1 true]
   (fun _ S'=> ∃G,S'=g.blk :: .arr [[.int .i64 id]] 1 0 true :: .arr [[.bool (jv g Lf sh w id)]] 1 1 true::G):=by
 obtain⟨c1,c2,c3,c4,c5,c6,c7⟩:=hg.cells;obtain⟨p1,p2,p3,p4,p5,p6,p7⟩:=hg.snaps;have hlw:=aC w;have hfv:=hg.f;have L1:=@au _ _ _ hfv;have Jd:g.fs.length<9223372036854775807:=by omega
 have hq:ac (∀q∈g.fs,0<=q):=⟨fun q hq=>(hN.fi q hq).1⟩;have Lq:=ac.mk hg;clear hN hg JU;by_cases k1:w.length=0
 .have e:jv g Lf sh w id=false:=by rw[jv,k1];rfl
  rw[e];have k2:(w.length:Int)=0:=by omega
  clear hW e k1;refine tY fx343 ?_;refine wk ?_;simp only[aO,aP,bg,aN,bH,bz];exact⟨_,rfl⟩
 have k2:¬(w.length:Int)=0:=by omega
 by_cases k3:(24:Int)<(w.length:Int)
 .have e:jv g Lf sh w id=false:=by rw[jv,decide_eq_false (p:=w.length<=24) (by omega)];simp
  rw[e];clear hW e k1;refine tY fx343 ?_;refine wk ?_;simp only[aO,aP,bg,aN,bH,bz];exact⟨_,rfl⟩
 have e:jv g Lf sh w id=mV (mkS g sh w id) Lf 4 [] 1 []:=by rw[jv,decide_eq_true (p:=0<w.length) (by omega),decide_eq_true (p:=w.length<=24) (by omega)];rfl
 rw[e];have Q1:=ac.mk (fun G=>hW (by omega) (by omega) [] (.flat (.slice none 0 0)) (.flat (.slice none 0 0)) 1 [] G [] (.inr ⟨rfl,rfl⟩) (.inr ⟨rfl,rfl⟩) rfl (fun x hx=>by cases hx) (by simp) (fun p hp=>by cases hp));clear e k1 hW;refine tY fx343 ?_;refine wk ?_;refine ct [8,31,32,33,34,35,36,37,38,39,40,41,42,43] 30 g.fs (fun _:Int×Nat=>[]) (fun s G=>g.blk :: .arr [[.int .i64 id]] 1 0 true :: .arr [[.bool false]] 1 1 true::g.blk :: .map [] :: .arr [[g.sgv,.str g.onm,g.uv,g.lv,g.rv,.int .i64 g.nst,g.pv,g.fv,g.xv,.tsl true 1 (az w),.bool sh,.int .u32 s.1,.mp 4,.fn 344 [.ptr 1 1 1 0 0,.ptr 2 1 1 0 0]]] 14 s.2 false::G) (fun pre post s=>post.foldl (fun o q=>IU o (sK 1 q)) s.1=finF g.fs/\s.2=if pre = [] then 0 else 1) (0,0) hfv Jd ty31 ty3 rfl ?_ ?_ ?_
 .exact⟨rfl,rfl⟩
 .rintro⟨fi,wp⟩ g2 G ⟨h1,h2⟩;replace h1:fi=finF g.fs:=h1;replace h2:wp=if g.fs = [] then 0 else 1:=h2
  subst h1 h2;refine wk ?_;refine wr (Q1.out G) ?_;rintro v S' ⟨rfl,L,G',_,rfl⟩;refine wk ?_;simp only[aO,aP,bg,aN,bH,bz];exact⟨_,rfl⟩
 .rintro⟨fi,wp⟩ g2 G pre x post IW lt1 w1 i1 ⟨h1,h2⟩;replace h2:wp=if pre = [] then 0 else 1:=h2
  have h5:wp<=1:=by rw[h2];split<;>omega
  have z2:∀a,iS .shl .u32 a x=_:=fun a=>shl_ok (hq.out x (by rw[IW.out];simp));have hP:ac (post.foldl (fun o q=>IU o (sK 1 q)) (IU fi (sK 1 x))=finF g.fs):=⟨h1⟩;clear h1 h2;refine wk ?_;exact aE (σ:=Int×Nat) (IU fi (sK 1 x),1) IW.out ⟨hP.out,by simp⟩ aQ ⟨G,rfl⟩
def usesM{g:Lg}(id:Int)(hg:g.ok)(hx:∀e∈g.xs,e.ok/\e.sl.length<=1048576/\e.al.length<=1048576/\∀x∈fh e,lx x.2/\x.2.length<=1048576)(hl:g.xs.length<=1000000)(IZ:g.ps.length<=1048576)(JU:g.fs.length<=1048576)(hN:wH g.nst g.ps g.fs)(MB:∀Q,aB CX 345 [g.rv] Q=Q (.bool sh))(hL:∀s:mQ,s.g=g->zL s Lf) :
  aB CX 342 [.agg (fU g),.tsl true 1 (az w),.int .i64 id] (· = .bool (jv g Lf sh w id)):=by
 have q:=runS (w:=w) id hg JU hN MB (Lf:=Lf) (fun h1 h2=>Gy (mkS g sh w id) (by simp only[mkS];split<;>omega) hg hx hl IZ hN (hL _ rfl) h1 4);obtain⟨c1,c2,c3,c4,c5,c6,c7⟩:=hg.cells;generalize jv g Lf sh w id=R at*;clear hg hx hl IZ JU hN MB hL;refine aL fx342 ?_;refine wk ?_;refine wr q ?_;rintro v S' ⟨G,rfl⟩;exact wf
end
end Go.Eng
