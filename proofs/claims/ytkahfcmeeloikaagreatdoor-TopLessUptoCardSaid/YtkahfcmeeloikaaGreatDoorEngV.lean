/- Loops over lists, and lists of numbers as values. -/
import Derived.Test.YtkahfcmeeloikaaGreatDoorEngQ
set_option linter.all false
set_option maxHeartbeats 1000000
namespace Go.Eng
open Go.RowKit
variable {args row:List AV}{e len n sz Je:Nat}{ei:mN}{f:FuncId}{fn:Func}{g:Nat->AV}{k:IntKind}{rows rows':List (List AV)}{st:Bool}{v:AV}
attribute [local irreducible] bB cX cZ aB bS dE
attribute [local go_sem] reduceIte Nat.reduceAdd Nat.reduceEqDiff Nat.reduceLT Nat.reduceLeDiff beq_iff_eq beq_eq_false_iff_ne Int.natCast_inj WH iV Bn uj xm ud py xj lR ug ui lQ ue Bm ol mR xk mS xn uh Bl Bk ju mn oo om uf zy pD qV xK ux xI xH xL Bz uw vK sj vJ vL p9 vI vH uN vh rE nD im kG yi uQ IF ur ky vt rO vu y7 pV BP yd bz bH vy vA rV zn vx zr vE zp Cc zt zo zq vB Ce vC vD U1 Vj WC Bool.and_self VB dD iJ UC UD UB UE UH UF cq AV.stab iv rN VL Vx UW Du g9 UJ and_self true_and and_true gU zE unA ve kW cn kV Xb decide_true decide_false decide_eq_true_eq ite_not V8 decide_eq_false_iff_not U3 Vf Xg Wv WO sd tH gE List.take List.drop Vk Wb extK Wl WE kj kJ nI pj rL oT rJ oS rM rK rI rH vn yU yR yV yT yQ bne VM WF ne_eq not_true_eq_false not_false_eq_true UM aO aP bg cH cb cG cI cA cE aN rB u9 rh uX oM uW lV ir rz uV ng rq rn kP kO rm rj lW nf uZ uY rA yv jL kN na oL kM qR oh lP Cd qS lenM sY sX
def ip(fr:List AV)(l:List (Nat×AV)):List AV:=l.foldl (fun fr p=>fr.set p.1 p.2) fr
def dh(ix:List Nat)(fr:List AV):List AV:=ix.foldl (fun fr i=>fr.set i .junk) fr
def ic(ix:List Nat)(g:Nat->AV)(fr:List AV):List AV:=ix.foldl (fun fr i=>fr.set i (g i)) fr
def an{fr:List AV}:ip fr []=fr:=rfl
def ah{fr:List AV}{i:Nat}{l:List (Nat×AV)}:ip fr ((i,v)::l)=ip (fr.set i v) l:=rfl
def bJ{fr:List AV}:dh [] fr=fr:=rfl
def bh{fr:List AV}{i:Nat}{l:List Nat}:dh (i::l) fr=dh l (fr.set i .junk):=rfl
def aq{fr:List AV}:ic [] g fr=fr:=rfl
def aj{fr:List AV}{i:Nat}{l:List Nat}:ic (i::l) g fr=ic l g (fr.set i (g i)):=rfl
theorem mf:∀{ix:List Nat}{fr:List AV},(dh ix fr).length=fr.length
 | [],_=>rfl
 | i::l,fr=>by rw[bh,mf,WV]
theorem th :∀{ix:List Nat}{fr:List AV},(ic ix g fr).length=fr.length
 | [],_=>rfl
 | i::l,fr=>by rw[aj,th,WV]
theorem rQ:∀{ix:List Nat}{fr:List AV}{j:Nat},j∉ix->(dh ix fr)[j]? = fr[j]?
 | [],_,_,_=>rfl
 | i::l,fr,j,h=>by
  simp only[U2,not_or]at h;rw[bh,rQ h.2,VF (fun e=>h.1 e.symm)]
theorem vj :∀{ix:List Nat}{fr:List AV}{j:Nat},j∉ix->(ic ix g fr)[j]? = fr[j]?
 | [],_,_,_=>rfl
 | i::l,fr,j,h=>by
  simp only[U2,not_or]at h;rw[aj,vj h.2,VF (fun e=>h.1 e.symm)]
theorem DE :∀{ix:List Nat}{fr:List AV}{j:Nat},j∈ix->j<fr.length->(ic ix g fr)[j]? = some (g j)
 | i::l,fr,j,h,hj=>by
  by_cases h2:j∈l
  .rw[aj];exact DE h2 (by rw[WV];exact hj)
  .simp only[U2,h2,or_false]at h;subst h;rw[aj,vj h2,Wn hj]
def jq{ix:List Nat}{fr fr0:List AV}(h:dh ix fr=dh ix fr0):fr=ic ix (eS fr) fr0:=by
 have hl:fr.length=fr0.length:=by have:=congrArg List.length h;rwa [mf,mf]at this
 apply List.ext_getElem?;intro j;by_cases hj:j∈ix
 .by_cases Mb:j<fr.length
  .rw[DE hj (by omega),eS,Ve,UL Mb];rfl
  .rw[VO (by omega),VO (by rw[th];omega)]
 .rw[vj hj,<-rQ hj (fr:=fr),h,rQ hj]
def LJ{α:Type}(ix:List Nat)(fr0:List AV)(F:α->List (Nat×AV))(SS:α->ab->ab)(P:α->Prop)(a:α)(fr:List AV)(S:ab):Prop :=
 P a/\dh ix fr=dh ix (ip fr0 (F a))/\∃G,S=SS a G
def aJ{X:dV}{α:Type}{c:Code}{Q:Ex->List AV->ab->Prop}{fr0:List AV}{S0:ab}(ix:List Nat)(F:α->List (Nat×AV))(SS:α->ab->ab)(P:α->Prop)(μ:α->Nat)(a0:α)
  (h0:P a0) (hF:dh ix fr0=dh ix (ip fr0 (F a0))) (hS:∃G,S0=SS a0 G)
  (h:∀a (g:Nat->AV) (G:ab),P a->bB X c (mz (LJ ix fr0 F SS P) μ a Q) (ic ix g (ip fr0 (F a))) (SS a G)):bB X (.loop c) Q fr0 S0:=by
 refine Ah (LJ ix fr0 F SS P) μ a0 ⟨h0,hF,hS⟩ ?_;rintro a fr S ⟨h1,h2,G,rfl⟩;rw[jq h2];exact h a _ _ h1
def ax{α:Type}{ix:List Nat}{fr0:List AV}{F:α->List (Nat×AV)}{SS:α->ab->ab}{P:α->Prop}{μ:α->Nat}{a:α}{Q:Ex->List AV->ab->Prop}{fr:List AV}{S:ab}
  (a':α) (hm:μ a'<μ a) (h1:P a') (h2:dh ix fr=dh ix (ip fr0 (F a'))) (h3:∃G,S=SS a' G):mz (LJ ix fr0 F SS P) μ a Q .normal fr S:=sZ a' ⟨h1,h2,h3⟩ hm
def Ca{α:Type}(ix:List Nat)(fr0:List AV)(F:α->List (Nat×AV))(SS:α->ab->ab)(P:α->Prop)(Q:Ex->List AV->ab->Prop):Ex->List AV->ab->Prop
 | .normal,fr,S=> ∃a,LJ ix fr0 F SS P a fr S
 | e,fr,S=>Q e fr S
def cutK_ret{α:Type}{ix:List Nat}{fr0:List AV}{F:α->List (Nat×AV)}{SS:α->ab->ab}{P:α->Prop}{Q:Ex->List AV->ab->Prop}{fr:List AV}{S:ab}(h:Q .ret fr S):Ca ix fr0 F SS P Q .ret fr S:=h
def Iu{α:Type}{ix:List Nat}{fr0:List AV}{F:α->List (Nat×AV)}{SS:α->ab->ab}{P:α->Prop}{Q:Ex->List AV->ab->Prop}{fr:List AV}{S:ab}{id:Nat}(h:Q (.exit id) fr S):Ca ix fr0 F SS P Q (.exit id) fr S:=h
def eH{α:Type}{ix:List Nat}{fr0:List AV}{F:α->List (Nat×AV)}{SS:α->ab->ab}{P:α->Prop}{Q:Ex->List AV->ab->Prop}{fr:List AV}{S:ab}
  (a:α) (h1:P a) (h2:dh ix fr=dh ix (ip fr0 (F a))) (h3:∃G,S=SS a G):Ca ix fr0 F SS P Q .normal fr S:=⟨a,h1,h2,h3⟩
theorem wW{X:dV}{α:Type}{c b:Code}{Q:Ex->List AV->ab->Prop}{fr0:List AV}{S0:ab}(ix:List Nat)(F:α->List (Nat×AV))(SS:α->ab->ab)(P:α->Prop)
  (h1:bB X c (Ca ix fr0 F SS P Q) fr0 S0)
  (h2:∀a (g:Nat->AV) (G:ab),P a->bB X b Q (ic ix g (ip fr0 (F a))) (SS a G)):bB X c (xN X b Q) fr0 S0:=by
 refine fk (fun e fr S h=>?_) h1;cases e with
 | normal=>
  obtain⟨a,k1,k2,G,rfl⟩:=h;refine eo ?_;rw[jq k2];exact h2 a _ _ k1
 | exit id=>exact Az h
 | ret=>exact xM h
theorem wpC_cutB{X:dV}{α:Type}{c:Code}{id:Nat}{Q:Ex->List AV->ab->Prop}{fr0:List AV}{S0:ab}(ix:List Nat)(F:α->List (Nat×AV))(SS:α->ab->ab)(P:α->Prop)
  (h1:bB X c (gJ id (Ca ix fr0 F SS P Q)) fr0 S0)
  (h2:∀a (g:Nat->AV) (G:ab),P a->Q .normal (ic ix g (ip fr0 (F a))) (SS a G)):bB X c (gJ id Q) fr0 S0:=by
 have key:∀fr S,Ca ix fr0 F SS P Q .normal fr S->Q .normal fr S:=by
  rintro fr S ⟨a,k1,k2,G,rfl⟩;rw[jq k2];exact h2 a _ _ k1
 refine fk (fun e fr S h=>?_) h1;cases e with
 | normal=>simp only[gJ]at h ⊢;exact key fr S h
 | exit Ki=>
  simp only[gJ]at h ⊢;split
  .rename_i hid;rw[if_pos hid]at h;exact key fr S h
  .rename_i hid;rw[if_neg hid]at h;exact h
 | ret=>simp only[gJ]at h ⊢;exact h
def LG{α:Type}(ix:List Nat)(fr0:List AV)(S0:ab)(F:α->List (Nat×AV))(P:α->Prop)(a:α)(fr:List AV)(S:ab):Prop :=
 P a/\dh ix fr=dh ix (ip fr0 (F a))/\∃G,S=S0++G
def iC{X:dV}{α:Type}{c:Code}{Q:Ex->List AV->ab->Prop}{fr0:List AV}{S0:ab}(ix:List Nat)(F:α->List (Nat×AV))(P:α->Prop)(μ:α->Nat)(a0:α)
  (h0:P a0) (hF:dh ix fr0=dh ix (ip fr0 (F a0)))
  (h:∀a (g:Nat->AV) (G:ab),P a->bB X c (mz (LG ix fr0 S0 F P) μ a Q) (ic ix g (ip fr0 (F a))) (S0++G)):bB X (.loop c) Q fr0 S0:=by
 refine Ah (LG ix fr0 S0 F P) μ a0 ⟨h0,hF,[],by rw[UM]⟩ ?_;rintro a fr S ⟨h1,h2,G,rfl⟩;rw[jq h2];exact h a _ _ h1
def gG{α:Type}{ix:List Nat}{fr0:List AV}{S0:ab}{F:α->List (Nat×AV)}{P:α->Prop}{μ:α->Nat}{a:α}{Q:Ex->List AV->ab->Prop}{fr:List AV}{S:ab}
  (a':α) (hm:μ a'<μ a) (h1:P a') (h2:dh ix fr=dh ix (ip fr0 (F a'))) (h3:∃G,S=S0++G):mz (LG ix fr0 S0 F P) μ a Q .normal fr S:=sZ a' ⟨h1,h2,h3⟩ hm
def nS{β:Type}(ix:List Nat)(fr0:List AV)(S0:ab)(pos:Nat)(E:List β->List (Nat×AV))(l:List β)(P:List β->List β->Prop)(pre post:List β)(Q:Ex->List AV->ab->Prop):Ex->List AV->ab->Prop :=
 mz (LG ix fr0 S0 (fun a:List β×List β=>(pos,.int .i64 a.1.length)::E a.1) (fun a=>l=a.1++a.2/\P a.1 a.2)) (fun a=>a.2.length) (pre,post) Q
section
variable {β:Type}{ix:List Nat}{fr0:List AV}{S0:ab}{pos:Nat}{E:List β->List (Nat×AV)}{l pre post:List β}{P:List β->List β->Prop}{Q:Ex->List AV->ab->Prop}{fr:List AV}{S:ab}
def Ip(h:Q .ret fr S):nS ix fr0 S0 pos E l P pre post Q .ret fr S:=uU h
def FR{id:Nat}(h:Q (.exit id) fr S):nS ix fr0 S0 pos E l P pre post Q (.exit id) fr S:=ra h
def aA{x:β}(hl:l=pre++x::post)(h1:P (pre++[x]) post)(h2:dh ix fr=dh ix (ip fr0 ((pos,.int .i64 (pre++[x]).length)::E (pre++[x]))))(h3:∃G,S=S0++G) :
  nS ix fr0 S0 pos E l P pre (x::post) Q .normal fr S :=
 gG (pre++[x],post) (UV _) ⟨by simp[hl],h1⟩ h2 h3
theorem uk{X:dV}{c:Code}(ix:List Nat)(pos:Nat)(E:List β->List (Nat×AV))(l:List β)(P:List β->List β->Prop)(h0:P [] l)
  (hF:dh ix fr0=dh ix (ip fr0 ((pos,.int .i64 0)::E [])))
  (Jo:∀(g:Nat->AV) (G:ab),P l []->bB X c (nS ix fr0 S0 pos E l P l [] Q) (ic ix g (ip fr0 ((pos,.int .i64 l.length)::E l))) (S0++G))
  (J8:∀(g:Nat->AV) (G:ab) (pre:List β) (x:β) (post:List β),l=pre++x::post->P pre (x::post) ->
   bB X c (nS ix fr0 S0 pos E l P pre (x::post) Q) (ic ix g (ip fr0 ((pos,.int .i64 pre.length)::E pre))) (S0++G)):bB X (.loop c) Q fr0 S0:=by
 refine iC ix (fun a:List β×List β=>(pos,.int .i64 a.1.length)::E a.1) (fun a=>l=a.1++a.2/\P a.1 a.2) (fun a=>a.2.length) ([],l) ⟨rfl,h0⟩ hF ?_;rintro⟨pre,post⟩ g G ⟨h1,h2⟩;simp only at h1 h2;cases post with
 | nil=>rw[UM]at h1;subst h1;exact Jo g G h2
 | cons x post=>exact J8 g G pre x post h1 h2
def aF{X:dV}{c:Code}(ix:List Nat)(pos:Nat)(l:List β)(P:List β->List β->Prop)(h0:P [] l)
  (hF:dh ix fr0=dh ix (ip fr0 [(pos,.int .i64 0)]))
  (Jo:∀(g:Nat->AV) (G:ab),P l []->bB X c (nS ix fr0 S0 pos (fun _=>[]) l P l [] Q) (ic ix g (ip fr0 [(pos,.int .i64 l.length)])) (S0++G))
  (J8:∀(g:Nat->AV) (G:ab) (pre:List β) (x:β) (post:List β),l=pre++x::post->P pre (x::post) ->
   bB X c (nS ix fr0 S0 pos (fun _=>[]) l P pre (x::post) Q) (ic ix g (ip fr0 [(pos,.int .i64 pre.length)])) (S0++G)):bB X (.loop c) Q fr0 S0 :=
 uk ix pos (fun _=>[]) l P h0 hF Jo J8
end
def fA{β:Type}(l:List β):l = []\/∃a x,l=a++[x]:=by
 rcases List.eq_nil_or_concat l with h|⟨a,x,h⟩
 .exact .inl h
 .exact .inr ⟨a,x,by simpa using h⟩
def az(l:List Int):List (List AV):=l.map fun n=>[.int .i64 n]
def aC(l:List Int):(az l).length=l.length:=by simp[az]
def gH(l m:List Int):az (l++m)=az l++az m:=by simp[az]
def dp(a:List Int)(x:Int)(b:List Int):(az (a++x::b))[a.length]? = some [.int .i64 x]:=by simp[az]
def eK{β:Type}(f:β->List AV)(a:List β)(x:β)(b:List β):((a++x::b).map f)[a.length]? = some (f x):=by simp
inductive bq (sz:Nat) (rows:List (List AV)):AV->Prop
 | rows (st:Bool):bq sz rows (.tsl st sz rows)
 | esl (h:rows = []):bq sz rows .esl
 | nil (h:rows = []):bq sz rows (.flat (.slice none 0 0))
theorem bq.cell(h:bq sz rows v):v.cell=true:=by cases h<;>rfl
theorem bq.snap(h:bq sz rows v)(S:ab):snap S v=some v:=by
 cases h<;>simp only[Go.Eng.snap]
theorem bq.lenK{sz:Nat}{rows:List (List AV)}{v:AV}(h:bq sz rows v){i:mN}{el:TypeId}(hd:i.desc = .slice el):Go.Eng.lenK (some i) v=some (.int .i64 rows.length):=by
 obtain⟨a,b,c,d,e⟩:=i;simp only at hd;subst hd;cases h with
 | rows st=>rfl
 | esl h=>subst h;rfl
 | nil h=>subst h;rfl
theorem bq.index(h:bq sz rows v){X:dV}{t el:TypeId}{i:mN}(ht:X.ty t=some i)(hd:i.desc = .slice el)(he:X.ty el=some ei)(hz:sz=ei.size)(hr:rows[n]? = some row) :
  ∃st,aD X t v (.int k n)=some (.tptr st row 0):=by
 obtain⟨a,b,c,d,e⟩:=i;simp only at hd;subst hd;cases h with
 | rows st=>exact⟨st,by simp[aD,ht,he,hz,hr]⟩
 | esl h=>subst h;simp at hr
 | nil h=>subst h;simp at hr
def jW:AV->Bool
 | .tsl st _ _=>st
 | _=>true
def au{sz:Nat}{rows:List (List AV)}{v:AV}(h:bq sz rows v){a c:Nat}{b:Bool}{d:List AV}{el:TypeId}:lenK (some ⟨a,b,c,d,.slice el⟩) v=some (.int .i64 rows.length):=h.lenK rfl
theorem ay(h:bq sz rows v){X:dV}{t el:TypeId}{a c:Nat}{b:Bool}{d:List AV}(ht:X.ty t=some ⟨a,b,c,d,.slice el⟩)(he:X.ty el=some ei)(hz:sz=ei.size)(hr:rows[n]? = some row) :
  aD X t v (.int k n)=some (.tptr (jW v) row 0):=by
 cases h with
 | rows st=>simp[aD,ht,he,hz,hr,jW]
 | esl h=>subst h;simp at hr
 | nil h=>subst h;simp at hr
theorem bq.rowsOf(h:bq sz rows v)(S:ab):rowsOf S sz v=some (rows,true):=by
 cases h with
 | rows st=>simp[Go.Eng.rowsOf]
 | esl h=>subst h;rfl
 | nil h=>subst h;rfl
def wrap_small{n:Int}(h : -9223372036854775808<=n)(h':n<=9223372036854775807):IntKind.wrap .i64 n=n:=by
 simp[IntKind.wrap,IntKind.min,IntKind.max,IntKind.signed,IntKind.bits];omega
def am(h:n<9223372036854775807):IntKind.wrap .i64 ((n:Int)+1)=((n+1:Nat):Int):=by
 rw[wrap_small (by omega) (by omega)];rfl
def aR{β:Type}(a:List β)(x:β)(b:List β):(a++x::b).length=a.length+(b.length+1):=by simp
def aH{β:Type}(a:List β)(x:β):(a++[x]).length=a.length+1:=by simp
def cY(a b:Nat):((a:Int)<((a+(b+1):Nat):Int))↔True:=by simp;omega
def aX{S:ab}:rowsOf S sz (.tsl st Je rows)=if Je=sz then some (rows,true) else none:=rfl
theorem aM{S:ab}{b off:Nat}:rowsOf S sz (.sl b e off len Je)=match S[b]? with
  | some (.arr rows sz'' wep pr)=>if Je=sz/\sz''=sz/\wep<=e/\off+len<=e/\e<=rows.length then some ((rows.drop off).take len,pr) else none
  | _=>none:=rfl
def aY{S:ab}:rowsOf S sz .esl=some ([],true):=rfl
def aS{S:ab}:rowsOf S sz (.flat (.slice none 0 0))=some ([],true):=rfl
def bN{a c:Nat}{b:Bool}{d:List AV}{el:TypeId}:lenK (some ⟨a,b,c,d,.slice el⟩) (.tsl st sz rows)=some (.int .i64 rows.length):=rfl
def ci{bb o:Nat}{a c:Nat}{b:Bool}{d:List AV}{el:TypeId}:lenK (some ⟨a,b,c,d,.slice el⟩) (.sl bb e o len sz)=some (.int .i64 len):=rfl
def bP{a c:Nat}{b:Bool}{d:List AV}{el:TypeId}:lenK (some ⟨a,b,c,d,.slice el⟩) .esl=some (.int .i64 (0:Nat)):=rfl
def bt{a c:Nat}{b:Bool}{d:List AV}{el:TypeId}:lenK (some ⟨a,b,c,d,.slice el⟩) (.flat (.slice none 0 0))=some (.int .i64 (0:Nat)):=rfl
def kK{a c:Nat}{b:Bool}{d:List AV}{s:ByteArray}:lenK (some ⟨a,b,c,d,.str⟩) (.str s)=some (.int .i64 s.size):=rfl
def app1(h:n<=1099511627776):(n+1)*8<=140737488355328/\n+1<=140737488355328:=by omega
def qW{X:dV}{t el:TypeId}{a c:Nat}{b:Bool}{d:List AV}(ht:X.ty t=some ⟨a,b,c,d,.slice el⟩)(he:X.ty el=some ei)(hz:sz=ei.size)(hn:n<=rows.length)(hr:rows.drop n=rows') :
  dW X t (.tsl st sz rows) (some (.int k n)) none none=some (.tsl st sz rows'):=by
 subst hr;simp only[dW,ht,dM,he,hz,VS,Ww,if_true];rw[if_pos ⟨hn,UJ _,trivial⟩,Vm (by simp)]
def slice_to{X:dV}{t el:TypeId}{a c:Nat}{b:Bool}{d:List AV}(ht:X.ty t=some ⟨a,b,c,d,.slice el⟩)(he:X.ty el=some ei)(hz:sz=ei.size)(hn:n<=rows.length)(hr:rows.take n=rows') :
  dW X t (.tsl st sz rows) none (some (.int k n)) none=some (.tsl st sz rows'):=by
 subst hr;simp only[dW,ht,dM,he,hz,VS,Ww,if_true];rw[if_pos ⟨U9 _,hn,trivial⟩];rfl
def AS(l:List Int)(n:Nat):(az l).drop n=az (l.drop n):=by simp[az]
def mE(l:List Int)(n:Nat):(az l).take n=az (l.take n):=by simp[az]
def hG{β:Type}{f:β->List AV}{pre post:List β}{x:β}(h:bq sz ((pre++x::post).map f) v)(hl:(pre++x::post).length<9223372036854775807){X:dV}{t el:TypeId}{a c:Nat}{b:Bool}{d:List AV}(ht:X.ty t=some ⟨a,b,c,d,.slice el⟩)(he:X.ty el=some ei)(hz:sz=ei.size)(y:β)(h0:(0:Int)<(pre.length:Int)) :
  aD X t v (.int k (IntKind.wrap .i64 ((pre.length:Int)-1)))=some (.tptr (jW v) (f (pre.getLastD y)) 0):=by
 rcases fA pre with rfl|⟨pre,z,rfl⟩
 .simp at h0
 .simp only[UG,UB,UE]at hl
  have e:IntKind.wrap .i64 (((pre++[z]).length:Int)-1)=(pre.length:Int):=by
   rw[wrap_small (by simp<;>omega) (by simp<;>omega)];simp
  rw[e];exact ay h ht he hz (by simp)
def AK{pre post:List Int}{x:Int}(h:bq 1 (az (pre++x::post)) v)(hl:(pre++x::post).length<9223372036854775807){X:dV}{t el:TypeId}{a c:Nat}{b:Bool}{d:List AV}(ht:X.ty t=some ⟨a,b,c,d,.slice el⟩)(he:X.ty el=some ei)(hz:1=ei.size)(h0:(0:Int)<(pre.length:Int)) :
  aD X t v (.int k (IntKind.wrap .i64 ((pre.length:Int)-1)))=some (.tptr (jW v) [.int .i64 (pre.getLastD 0)] 0) :=
 hG (f:=fun n=>[AV.int .i64 n]) h hl ht he hz 0 h0
attribute [irreducible] nS Ca
class wJ (P:Prop) (Q:outParam Prop):Prop where
 h:Q->P
def dn{P Q:Prop}[i:wJ P Q](h:Q):P:=i.h h
section
variable {X:dV}{d:Bool}{ops:Array Oper}{a b c:Code}{i id:Nat}{l:List Oper}{rl:List ResultVar}{Q:Ex->List AV->ab->Prop}{R:AV->ab->Prop}{fr:List AV}{S:ab}{U:List AV->ab->Prop}
def gh{o:Oper}{rest:List Oper}(h:∀(A:List AV->ab->Prop) (B:Prop),ac (∀fr S,cX X d ops rest U fr S->A fr S)->ac True->op1 X d ops o A fr S):cX X d ops (o::rest) U fr S:=bK fun K hK=>h K True hK ⟨trivial⟩
class Go2 (P:Prop) (F1 F2:outParam (List AV->ab->Prop)) (G:outParam ((List AV->ab->Prop)->(List AV->ab->Prop)->Prop)):Prop where
 h:(∀A B:List AV->ab->Prop,ac (∀fr S,F1 fr S->A fr S)->ac (∀fr S,F2 fr S->B fr S)->G A B)->P
def dI{P:Prop}{F1 F2:List AV->ab->Prop}{G:(List AV->ab->Prop)->(List AV->ab->Prop)->Prop}[i:Go2 P F1 F2 G](h:∀A B:List AV->ab->Prop,ac (∀fr S,F1 fr S->A fr S)->ac (∀fr S,F2 fr S->B fr S)->G A B):P:=i.h h
instance {o:Oper}{rest:List Oper}:Go2 (cX X d ops (o::rest) U fr S) (cX X d ops rest U) (fun _ _=>True) (fun A _=>op1 X d ops o A fr S):=⟨fun h=>bK fun K hK=>h K (fun _ _=>True) hK ⟨fun _ _ h=>h⟩⟩
theorem Iw{A B A' B':Prop}(hA:A->A')(hB:B->B')(h:qM v A B):qM v A' B':=by
 unfold qM at h ⊢;split at h
 .rename_i t;cases t with
  | true=>exact hA h
  | false=>exact hB h
 .exact h
instance {c:Operand}:Go2 (bB X (.cond c a b) Q fr S) (bB X a Q) (bB X b Q) (fun A B=>qM (ak fr c) (A fr S) (B fr S)):=⟨fun h=>kB fun _ _ hA hB=>Iw hA.out hB.out (h (bB X a Q) (bB X b Q) ⟨fun _ _ h=>h⟩ ⟨fun _ _ h=>h⟩)⟩
instance:wJ (bB X (.seq a b) Q fr S) (bB X a (xN X b Q) fr S):=⟨gL⟩
instance:wJ (bB X (.region i ⟨l⟩ d) Q fr S) (cX X d ⟨l⟩ l (Q .normal) fr S):=⟨eU⟩
instance:wJ (bB X (.block id a) Q fr S) (bB X a (gJ id Q) fr S):=⟨Ai⟩
instance:wJ (bB X (.scope a) Q fr S) (bB X a Q fr S):=⟨Hq⟩
instance {t:Nat}:wJ (bB X (.label t) Q fr S) (Q .normal fr (oR (eS fr t) S)):=⟨Hr⟩
instance:wJ (bB X .skip Q fr S) (Q .normal fr S):=⟨Cw⟩
instance:wJ (bB X .ret Q fr S) (Q .ret fr S):=⟨wV⟩
instance:wJ (bB X (.exit id) Q fr S) (Q (.exit id) fr S):=⟨wpC_exit⟩
instance:wJ (cX X d ops [] U fr S) (U fr S):=⟨ig⟩
instance:wJ (xN X b Q .normal fr S) (bB X b Q fr S):=⟨eo⟩
instance:wJ (xN X b Q .ret fr S) (Q .ret fr S):=⟨xM⟩
instance:wJ (xN X b Q (.exit id) fr S) (Q (.exit id) fr S):=⟨Az⟩
instance:wJ (gJ id Q .normal fr S) (Q .normal fr S):=⟨Af⟩
instance:wJ (gJ id Q .ret fr S) (Q .ret fr S):=⟨F4⟩
instance:wJ (gJ id Q (.exit id) fr S) (Q .normal fr S):=⟨Eh⟩
instance:wJ (tG X rl R .ret fr S) (qX (aO X ⟨fr,S⟩ rl) S R):=⟨tF⟩
instance:wJ (tG X rl R .normal fr S) (qX (aO X ⟨fr,S⟩ rl) S R):=⟨DJ⟩
instance {α:Type}{J:α->List AV->ab->Prop}{μ:α->Nat}{a:α}:wJ (mz J μ a Q .ret fr S) (Q .ret fr S):=⟨uU⟩
instance {α:Type}{J:α->List AV->ab->Prop}{μ:α->Nat}{a:α}:wJ (mz J μ a Q (.exit id) fr S) (Q (.exit id) fr S):=⟨ra⟩
instance {β:Type}{ix:List Nat}{fr0:List AV}{S0:ab}{pos:Nat}{E:List β->List (Nat×AV)}{l pre post:List β}{P:List β->List β->Prop}:wJ (nS ix fr0 S0 pos E l P pre post Q .ret fr S) (Q .ret fr S):=⟨Ip⟩
instance {β:Type}{ix:List Nat}{fr0:List AV}{S0:ab}{pos:Nat}{E:List β->List (Nat×AV)}{l pre post:List β}{P:List β->List β->Prop}:wJ (nS ix fr0 S0 pos E l P pre post Q (.exit id) fr S) (Q (.exit id) fr S):=⟨FR⟩
instance {α:Type}{ix:List Nat}{fr0:List AV}{F:α->List (Nat×AV)}{SS:α->ab->ab}{P:α->Prop}:wJ (Ca ix fr0 F SS P Q .ret fr S) (Q .ret fr S):=⟨cutK_ret⟩
instance {α:Type}{ix:List Nat}{fr0:List AV}{F:α->List (Nat×AV)}{SS:α->ab->ab}{P:α->Prop}:wJ (Ca ix fr0 F SS P Q (.exit id) fr S) (Q (.exit id) fr S):=⟨Iu⟩
end
structure Fx (X:dV) (f:FuncId) (fn:Func) (n:Nat):Prop where
 p:X.prim f=none
 f:X.fn f=some fn
 n:fn.ntmps=n
def aL{X:dV}(a:Fx X f fn n){c:Code}{rl:List ResultVar}{R:AV->Prop}(h:bB X c (tG X rl (iw R)) (args++List.replicate (n-args.length) (.flat undef)) [])
  (hb:fn.body=some c:=by rfl) (hr:fn.results=⟨rl⟩:=by rfl) (hd:X.deco f c=c:=by rfl):aB X f args R:=aB.walkD a.p a.f hb a.n hr hd h
def tY{X:dV}(a:Fx X f fn n){c:Code}{rl:List ResultVar}{S:ab}{R:AV->ab->Prop}(h:bB X c (tG X rl R) (args++List.replicate (n-args.length) (.flat undef)) S)
  (hb:fn.body=some c:=by rfl) (hr:fn.results=⟨rl⟩:=by rfl) (hd:X.deco f c=c:=by rfl):bS X f args S R:=bS.walkD a.p a.f hb a.n hr hd h
end Go.Eng
