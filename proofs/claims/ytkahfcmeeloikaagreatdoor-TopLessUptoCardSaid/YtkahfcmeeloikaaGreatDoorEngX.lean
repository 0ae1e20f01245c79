/- Short words for the steps of a walk: what a tactic block did in each text is the default proof of one premise here. -/
import Derived.Test.YtkahfcmeeloikaaGreatDoorEngU
import Derived.Test.YtkahfcmeeloikaaGreatDoorEngV
set_option linter.all false
set_option maxHeartbeats 1000000
namespace Go.Eng
variable {A B C:Prop}{S0:ab}{X:dV}{a b sz:Nat}{c:Code}{d:List AV}{e:Bool}{ei:mN}{k:IntKind}{rows:List (List AV)}{v:AV}
attribute [local irreducible] bB cX cZ aB bS dE
structure Rest (Q:Prop):Prop where
 out:Q
def aQ{P:Prop}(h:P:=by
 (try simp only[bh,bJ,ah,an,UC,UD])
 all_goals (first|rfl|(simp only[aH,aC,UI];first|done|rfl)|(simp only[aH,aR,aC,UI,UG,UB,UE,UW];first|done|rfl))):P:=h
def dk{P:Prop}(h:P:=by
 first|exact⟨[],(UM _).symm⟩|exact⟨_,rfl⟩|(simp only[UX,UF,UH];exact⟨_,rfl⟩)|(simp only[gH,Vv,UX,UF,UH];exact⟨_,rfl⟩)|(refine⟨[],?_⟩;simp only[UM];done)|(refine⟨[],?_⟩;simp only[UM];rfl)):P:=h
def wk{P Q:Prop}(q:Q)(h:Rest Q->P:=by
 intro h0
 (try simp only[dD,iJ,UB,UE,UF,UH,Nat.reduceAdd,Nat.reduceSub,List.replicate,aj,aq,ah,an,UC,UD])
 repeat' (first|refine dn ?_|refine ad rfl ?_|(refine dI fun A B a b=>?_;simp only[go_sem, *];(repeat' first|apply a.1|apply b.1|refine aV (fun h=>?_) fun h=>?_)<;>clear a b A B))
 exact h0.out):P:=h ⟨q⟩
theorem wf{P:Prop}(h:P:=by
 (try simp only[dD,iJ,UB,UE,UF,UH,Nat.reduceAdd,Nat.reduceSub,List.replicate,aj,aq,ah,an,UC,UD])
 repeat' (first|refine dn ?_|refine ad rfl ?_|(refine dI fun A B a b=>?_;simp only[go_sem, *];(repeat' first|apply a.1|apply b.1|refine aV (fun h=>?_) fun h=>?_)<;>clear a b A B))
 all_goals first
  |(refine aA ?_ ?_ ?_ ?_
    ·(apply ac.out;assumption)
    .first|exact trivial|(apply ac.out;assumption)
    .exact aQ
    .exact dk)
  |(refine aE ?_ ?_ ?_ ?_ ?_
    rotate_left
    ·(apply ac.out;assumption)
    ·(apply ac.out;assumption)
    .exact aQ
    .exact dk)
  |(refine gG ?_ ?_ ?_ ?_ ?_
    rotate_right 3
    rotate_left
    all_goals first|(apply ac.out;assumption)|skip
    all_goals first|exact aQ|exact dk)
  |(refine ax ?_ ?_ ?_ ?_ ?_
    rotate_right 3
    rotate_left
    all_goals first|(apply ac.out;assumption)|skip
    all_goals first|exact aQ|exact dk)
  |(simp only[go_sem];done)
  |(simp only[go_sem];exact⟨_,rfl⟩)
  |(simp only[go_sem];rfl)
  |(simp only[go_sem];(refine⟨_,rfl,?_⟩);apply ac.out;assumption)
  |(simp only[go_sem];exact⟨_,rfl,fun _=>trivial⟩)
  |(simp only[go_sem];(refine⟨_,rfl,fun h=>?_⟩);cases h;done)
  |(simp only[go_sem];(refine⟨_,rfl,fun _=>?_⟩);apply ac.out;assumption)
  |(simp only[go_sem];apply ac.out;assumption)):P:=h
def wr{f:FuncId}{args:List AV}{S:ab}{R N:AV->ab->Prop}{P:Prop}(hc:bS X f args S R)(k:∀v S',R v S'->N v S')(h:Rest (bS X f args S N)->P:=by
 intro h0;refine bK fun K hK=>?_;simp only[go_sem, *];exact bS.mono h0.out fun v S' hh=>hK.out _ _ hh):P:=h ⟨bS.mono hc k⟩
def iD{β:Type}{Q:Ex->List AV->ab->Prop}{fr0:List AV}(ix:List Nat)(pos:Nat)(l:List β)(P:List β->List β->Prop){f:β->List AV}(hv:bq sz (l.map f) v)(hl:l.length<9223372036854775807)
  {t el:TypeId}(ht:X.ty t=some ⟨a,e,b,d,.slice el⟩) (he:X.ty el=some ei) (hz:sz=ei.size)
  (Jo:∀(g:Nat->AV) (G:ab),P l []->bB X c (nS ix fr0 S0 pos (fun _=>[]) l P l [] Q) (ic ix g (ip fr0 [(pos,.int .i64 l.length)])) (S0++G))
  (J8:∀(g:Nat->AV) (G:ab) (pre:List β) (x:β) (post:List β),ac (l=pre++x::post)->(pre.length:Int)<(l.length:Int)->IntKind.wrap .i64 ((pre.length:Int)+1)=((pre.length+1:Nat):Int)->(∀{k:IntKind},aD X t v (.int k pre.length)=some (.tptr (jW v) (f x) 0))->P pre (x::post) ->
   bB X c (nS ix fr0 S0 pos (fun _=>[]) l P pre (x::post) Q) (ic ix g (ip fr0 [(pos,.int .i64 pre.length)])) (S0++G))
  (h0:P [] l:=by first|exact trivial|rfl) (hF:dh ix fr0=dh ix (ip fr0 [(pos,.int .i64 0)]):=by exact aQ):bB X (.loop c) Q fr0 S0 :=
 aF ix pos l P h0 hF Jo fun g G pre x post h1 h2=>by
  have IZ:pre.length<l.length:=by rw[h1];simp
  exact J8 g G pre x post ⟨h1⟩ (by omega) (am (by omega)) (fun {k}=>ay hv ht he hz (n:=pre.length) (row:=f x) (k:=k) (by rw[h1];simp)) h2
def wz{β σ:Type}(ix:List Nat)(fr0:List AV)(pos:Nat)(F:σ->List (Nat×AV))(SS:σ->ab->ab)(l:List β)(P:List β->List β->σ->Prop)(pre post:List β)(s:σ)(Q:Ex->List AV->ab->Prop):Ex->List AV->ab->Prop :=
 mz (LJ ix fr0 (fun a:(List β×List β)×σ=>(pos,.int .i64 a.1.1.length)::F a.2) (fun a=>SS a.2) (fun a=>l=a.1.1++a.1.2/\P a.1.1 a.1.2 a.2)) (fun a=>a.1.2.length) ((pre,post),s) Q
section
variable {β σ:Type}{ix:List Nat}{fr0:List AV}{pos:Nat}{F:σ->List (Nat×AV)}{SS:σ->ab->ab}{l pre post:List β}{P:List β->List β->σ->Prop}{s:σ}{x:β}{Q:Ex->List AV->ab->Prop}{fr:List AV}{S:ab}{id:Nat}
def aE(s':σ)(hl:l=pre++x::post)(h1:P (pre++[x]) post s')(h2:dh ix fr=dh ix (ip fr0 ((pos,.int .i64 (pre++[x]).length)::F s')))(h3:∃G,S=SS s' G):wz ix fr0 pos F SS l P pre (x::post) s Q .normal fr S :=
 ax (((pre++[x],post),s'):(List β×List β)×σ) (UV _) ⟨by simp[hl],h1⟩ h2 h3
instance:wJ (wz ix fr0 pos F SS l P pre post s Q .ret fr S) (Q .ret fr S):=⟨uU⟩
instance:wJ (wz ix fr0 pos F SS l P pre post s Q (.exit id) fr S) (Q (.exit id) fr S):=⟨ra⟩
theorem cN(ix:List Nat)(pos:Nat)(l:List β)(F:σ->List (Nat×AV))(SS:σ->ab->ab)(P:List β->List β->σ->Prop)(s0:σ)(hl:l.length<9223372036854775807)(h0:P [] l s0)
  (Jo:∀(s:σ) (g:Nat->AV) (G:ab),P l [] s->bB X c (wz ix fr0 pos F SS l P l [] s Q) (ic ix g (ip fr0 ((pos,.int .i64 l.length)::F s))) (SS s G))
  (J8:∀(s:σ) (g:Nat->AV) (G:ab) (pre:List β) (x:β) (post:List β),ac (l=pre++x::post)->(pre.length:Int)<(l.length:Int)->IntKind.wrap .i64 ((pre.length:Int)+1)=((pre.length+1:Nat):Int)->P pre (x::post) s ->
   bB X c (wz ix fr0 pos F SS l P pre (x::post) s Q) (ic ix g (ip fr0 ((pos,.int .i64 pre.length)::F s))) (SS s G))
  (hF:dh ix fr0=dh ix (ip fr0 ((pos,.int .i64 0)::F s0)):=by exact aQ) (hS:∃G,S0=SS s0 G:=by exact dk):bB X (.loop c) Q fr0 S0:=by
 refine aJ ix (fun a:(List β×List β)×σ=>(pos,.int .i64 a.1.1.length)::F a.2) (fun a=>SS a.2) (fun a=>l=a.1.1++a.1.2/\P a.1.1 a.1.2 a.2) (fun a=>a.1.2.length) (([],l),s0) ⟨rfl,h0⟩ hF hS ?_;rintro⟨⟨pre,post⟩,s⟩ g G ⟨h1,h2⟩;replace h1:l=pre++post:=h1;cases post with
 | nil=>
  rw[UM]at h1;subst h1;exact Jo s g G h2
 | cons x post=>
  have IZ:pre.length<l.length:=by rw[h1];simp
  exact J8 s g G pre x post ⟨h1⟩ (by omega) (am (by omega)) h2
def ct(ix:List Nat)(pos:Nat)(l:List β)(F:σ->List (Nat×AV))(SS:σ->ab->ab)(P:List β->List β->σ->Prop)(s0:σ){f:β->List AV}(hv:bq sz (l.map f) v)(hl:l.length<9223372036854775807)
  {t el:TypeId}(ht:X.ty t=some ⟨a,e,b,d,.slice el⟩) (he:X.ty el=some ei) (hz:sz=ei.size) (h0:P [] l s0)
  (Jo:∀(s:σ) (g:Nat->AV) (G:ab),P l [] s->bB X c (wz ix fr0 pos F SS l P l [] s Q) (ic ix g (ip fr0 ((pos,.int .i64 l.length)::F s))) (SS s G))
  (J8:∀(s:σ) (g:Nat->AV) (G:ab) (pre:List β) (x:β) (post:List β),ac (l=pre++x::post)->(pre.length:Int)<(l.length:Int)->IntKind.wrap .i64 ((pre.length:Int)+1)=((pre.length+1:Nat):Int)->(∀{k:IntKind},aD X t v (.int k pre.length)=some (.tptr (jW v) (f x) 0))->P pre (x::post) s ->
   bB X c (wz ix fr0 pos F SS l P pre (x::post) s Q) (ic ix g (ip fr0 ((pos,.int .i64 pre.length)::F s))) (SS s G))
  (hF:dh ix fr0=dh ix (ip fr0 ((pos,.int .i64 0)::F s0)):=by exact aQ) (hS:∃G,S0=SS s0 G:=by exact dk):bB X (.loop c) Q fr0 S0 :=
 cN ix pos l F SS P s0 hl h0 Jo (fun s g G pre x post h1 h2 h3 h4=>J8 s g G pre x post h1 h2 h3 (fun {k}=>ay hv ht he hz (n:=pre.length) (row:=f x) (k:=k) (by rw[h1.out];simp)) h4) hF hS
end
attribute [irreducible] wz
def gu{t el:TypeId}{c:Nat}{b:Bool}(ht:X.ty t=some ⟨a,b,c,d,.slice el⟩)(he:X.ty el=some ei){bb e len i:Nat}(hz:sz=ei.size)(h:(i:Int)<(len:Int)):aD X t (.sl bb e 0 len sz) (.int k (i:Int))=some (.ptr bb e sz i 0):=by
 simp[aD,ht,he,hz,h]
def Ga{id:Nat}{v:Value}:dJ id (.flat v)=(.flat v,[]):=rfl
def slsC(h:bq sz rows v):v.cells = [v]:=by cases h<;>rfl
def bcase(b:Bool)(p:Prop):(b=false\/b=true/\¬p)\/b=true/\p:=by
 by_cases k:p<;>cases b<;>simp[k]
def Ay{t el:TypeId}{c:Nat}{b:Bool}{st:Bool}{rows':List (List AV)}{n m:Nat}(ht:X.ty t=some ⟨a,b,c,d,.slice el⟩)(he:X.ty el=some ei)(hz:sz=ei.size)(hn:n<=m)(hm:m<=rows.length)(hr:(rows.drop n).take (m-n)=rows'){k':IntKind} :
  dW X t (.tsl st sz rows) (some (.int k n)) (some (.int k' m)) none=some (.tsl st sz rows'):=by
 subst hr;simp only[dW,ht,dM,he,hz,VS,Ww,if_true];rw[if_pos ⟨hn,hm,trivial⟩]
def lk(h:bq sz rows v) ⦃a c:Nat⦄ ⦃b:Bool⦄ ⦃d:List AV⦄ ⦃el:TypeId⦄ : lenK (some ⟨a,b,c,d,.slice el⟩) v=some (.int .i64 rows.length):=h.lenK rfl
def wkr{P Q:Prop}(h:Rest Q->P:=by
 intro h0
 (try simp only[dD,iJ,UB,UE,UF,UH,Nat.reduceAdd,Nat.reduceSub,List.replicate,aj,aq,ah,an,UC,UD])
 repeat' (first|refine dn ?_|refine ad rfl ?_|(refine dI fun A B a b=>?_;simp only[go_sem, *];(repeat' first|apply a.1|apply b.1|refine aV (fun h=>?_) fun h=>?_)<;>clear a b A B))
 exact h0.out):Rest Q->P:=h
def b8{P Q:Prop}(a:A)(q:Q)(h:A->Rest Q->P:=by intro _;exact wkr):P:=h a ⟨q⟩
def pz{P Q:Prop}(a:A)(b:B)(q:Q)(h:A->B->Rest Q->P:=by intro _ _;exact wkr):P:=h a b ⟨q⟩
def wk3{P Q:Prop}(a:A)(b:B)(c:C)(q:Q)(h:A->B->C->Rest Q->P:=by intro _ _ _;exact wkr):P:=h a b c ⟨q⟩
def wkSr{P Q:Prop}(h:Rest Q->P:=by
 intro h0
 (try simp only[dD,iJ,UB,UE,UF,UH,Nat.reduceAdd,Nat.reduceSub,List.replicate,aj,aq,ah,an,UC,UD])
 repeat' (first|refine dn ?_|refine ad rfl ?_|(refine gh fun A B a b=>?_;simp only[go_sem, *];(repeat' first|apply a.1|refine aV (fun h=>?_) fun h=>?_)<;>clear a b A B))
 exact h0.out):Rest Q->P:=h
def Cy{P Q:Prop}(q:Q)(h:Rest Q->P:=by exact wkSr):P:=h ⟨q⟩
def Ev{P Q:Prop}(a:A)(q:Q)(h:A->Rest Q->P:=by intro _;exact wkSr):P:=h a ⟨q⟩
def wkCr{P Q:Prop}(h:Rest Q->P:=by
 intro h0;refine kB fun A B hA hB=>?_;simp only[go_sem, *];first|(refine hA.out ?_;clear hA hB A B)|(refine hB.out ?_;clear hA hB A B)
 exact h0.out):Rest Q->P:=h
def wkC{P Q:Prop}(q:Q)(h:Rest Q->P:=by exact wkCr):P:=h ⟨q⟩
def fm{P:Prop}(a:A)(h:A->P:=by intro _;exact wf):P:=h a
def IS{P:Prop}(a:A)(b:B)(h:A->B->P:=by intro _ _;exact wf):P:=h a b
def wf3{P:Prop}(a:A)(b:B)(c:C)(h:A->B->C->P:=by intro _ _ _;exact wf):P:=h a b c
theorem vP{P:Prop}(h:P:=by
 first
 |(refine aA ?_ ?_ ?_ ?_
   ·(apply ac.out;assumption)
   .exact trivial
   .exact aQ
   .exact dk)
 |(simp only[go_sem];exact⟨_,rfl⟩)):P:=h
attribute [go_sem] reduceIte Nat.reduceAdd Nat.reduceEqDiff Nat.reduceLT Nat.reduceLeDiff beq_iff_eq beq_eq_false_iff_ne Int.natCast_inj WH iV Bn uj xm ud py xj lR ug ui lQ ue Bm ol mR xk mS xn uh Bl Bk ju mn oo om uf zy pD qV xK ux xI xH xL Bz uw vK sj vJ vL p9 vI vH uN vh rE nD im kG yi uQ IF ur ky vt rO vu y7 pV BP yd bz bH vy vA rV zn vx zr vE zp Cc zt zo zq vB Ce vC vD U1 Vj WC Bool.and_self VB dD iJ UC UD UB UE UH UF cq AV.stab iv rN VL Vx UW Du g9 UJ and_self true_and and_true gU zE unA ve kW cn kV Xb decide_true decide_false decide_eq_true_eq ite_not V8 decide_eq_false_iff_not U3 Vf Xg Wv WO sd tH gE List.take List.drop Vk Wb extK Wl WE kj kJ nI pj rL oT rJ oS rM rK rI rH vn yU yR yV yT yQ bne VM WF ne_eq not_true_eq_false not_false_eq_true UM aO aP bg cH cb cG cI cA cE aN rB u9 rh uX oM uW lV ir rz uV ng rq rn kP kO rm rj lW nf uZ uY rA yv jL kN na oL kM qR oh lP Cd qS lenM sY sX Ga Cv Ij Iz ci bN bP bt aX aY aS jf U9 bZ cr ly UX UG UI kK jX aM aC mE Vn Wu Int.lt_irrefl
end Go.Eng
