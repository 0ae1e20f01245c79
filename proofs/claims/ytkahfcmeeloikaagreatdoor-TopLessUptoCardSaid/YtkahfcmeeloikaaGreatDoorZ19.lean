/- Groups: Below, Members, In, Of. -/
import Derived.Test.YtkahfcmeeloikaaGreatDoorZ18
set_option linter.all false
set_option maxHeartbeats 4000000
namespace Go.Eng
open Go.Proofs
section
variable {gs:List eZ}{n x:Int}{v:AV}
attribute [local irreducible] bB cX cZ aB bS dE
attribute [local go_sem] bi cM U1 Vj List.replicate UC Vp Nat.reduceMul Vg eF d9 bP bt ci bN ba aY aS aM aX and_self cells_fn aR cY vr
open Classical in
noncomputable def below(gs:List eZ)(n:Int):List Int:=bU ((gs.map (·.id)).filter fun x=>decide (Cr gs n x))
def GX :isG gs n=true↔n∈gs.map (·.id):=by
 unfold isG lG;rw[List.find?_isSome];simp
def Cr.isG(h:Cr gs n x):isG gs x=true:=by cases h<;>assumption
def jk :x∈below gs n↔Cr gs n x:=by
 unfold below;rw[mem_sorted,VE];constructor
 .intro h;simpa using h.2
 .intro h;exact⟨GX.mp h.isG,by simpa using h⟩
def zF(gs:List eZ)(n:Int):wT (below gs n):=fj _
def vG(gs:List eZ)(n:Int):(below gs n).length<=gs.length:=by
 refine UQ (mU _) (UQ (U0 _ _) (by simp))
theorem Ei{m:List Int}(h:VR gs (fnd gs n).subs n [] m):bU m=below gs n:=by
 refine gM (fj _) (zF gs n) fun x=>?_;rw[mem_sorted,jk];obtain⟨new,e,r,c⟩:=h.ex;simp only[UH]at e;subst e;refine⟨r x,fun hx=>?_⟩
 induction hx with
 | one h1 hg=>exact h.top _ h1 hg
 | step _ h1 hg ih=>exact c _ ih _ h1 hg
theorem belowE(h:ko v gs)(n:Int):∃r,Ag (below gs n) r/\aB CX 292 [v,.int .i64 n] (· = r):=by
 have hv:=h.sl.cell;have JA:v.cells = [v]:=by have:=h.sl;cases this<;>rfl
 have hm:MOk gs []:=⟨by simp,by simp⟩
 suffices hs:aB CX 292 [v,.int .i64 n] (Ag (below gs n)) by
  exact hs.ex
 refine aL fx292 ?_;simp only[UB,UE,UF,UH,Nat.reduceAdd,Nat.reduceSub,List.replicate];refine Cy ?_;refine bK fun K hK=>?_;simp only[go_sem];refine bS.mono (visitE h gs.length n [] _ (by simp) hm (.nil _ _ _ _ _ _ _ [] (U9 _) (U9 _) (UJ _))) ?_;rintro _ S' ⟨rfl,m,sm,vm⟩;refine hK.out _ _ ?_;clear hK K;have NL:=vm.ok.len;have Kr:=h.len;cases sm with
 | nil w0 w w2 b0 b b2 X T h0 hw h2=>
  obtain⟨r,hr,hq⟩:=sJ (.flat (.slice none 0 0)) [] (.nil rfl) (by simp);have q:=hq.rw;rw[Ei vm]at hr;clear hq;cases hr with
  | own=>
   refine Ev @aI ?_;simp only[go_sem,q,aI];exact .own
  | part=>
   refine Ev @aI ?_;simp only[go_sem,q,aI];exact .part
  | nil hl=>
   refine Ev @aI ?_;simp only[go_sem,q,aI];exact .nil hl
 | cons w0 w w2 b0 b b2 y m X T T' h0 hw h2=>
  obtain⟨r,hr,hq⟩:=sJ (.tsl false 1 (az (y::m))) (y::m) (.rows false) (by omega);have q:=hq.rw;rw[Ei vm]at hr;clear hq;cases hr with
  | own=>
   refine Ev @aI ?_;simp only[go_sem,q,aI];exact .own
  | part=>
   refine Ev @aI ?_;simp only[go_sem,q,aI];exact .part
  | nil hl=>
   refine Ev @aI ?_;simp only[go_sem,q,aI];exact .nil hl
def jS(gs:List eZ)(l:List Int):List Int:=l.flatMap fun x=>(fnd gs x).people
noncomputable def ej(gs:List eZ)(n:Int):List Int:=bU (jS gs (n::below gs n))
def ji(gs:List eZ)(l:List Int)(x:Int):jS gs (l++[x])=jS gs l++(fnd gs x).people:=by simp[jS]
theorem uF(h:ko v gs):∀l:List Int,(jS gs l).length<=l.length*1050000
 | []=>by simp[jS]
 | x::l=>by
  have:=uF h l;have:=B5 h x;simp only[jS,VX,UG,UB]at*;omega
theorem membersE(h:ko v gs)(n:Int):∃r,Ag (ej gs n) r/\aB CX 269 [v,.int .i64 n] (· = r):=by
 suffices hs:aB CX 269 [v,.int .i64 n] (Ag (ej gs n)) by
  exact hs.ex
 have hv:=h.sl.cell;have J3:=fun S=>h.sl.snap (S:=S);obtain⟨r,hr,hq⟩:=belowE h n;have q:=hq.rw;clear hq;unfold ej;have JV:=vG gs n;have Kr:=h.len;obtain⟨B,hB⟩:∃B,below gs n=B:=⟨_,rfl⟩;rw[hB]at hr JV ⊢;refine aL fx269 ?_;simp only[UB,UE,UF,UH,Nat.reduceAdd,Nat.reduceSub,List.replicate];refine gL (eU ?_);repeat' (first|refine ig ?_|(refine bK fun K hK=>?_;simp only[go_sem, *];first|(refine hK.out _ _ ?_;clear hK K)|(refine aV (fun h=>hK.out _ _ ?_) (fun h=>hK.out _ _ ?_)<;>clear hK K)))
 refine eo ?_;refine gL (eU ?_);repeat' (first|refine ig ?_|(refine bK fun K hK=>?_;simp only[go_sem, *];first|(refine hK.out _ _ ?_;clear hK K)|(refine aV (fun h=>hK.out _ _ ?_) (fun h=>hK.out _ _ ?_)<;>clear hK K)))
 refine eo ?_;have b1:(1+B.length)*8<=140737488355328:=by omega
 have b2:1+B.length<=140737488355328:=by omega
 have eB:(az B).length=0↔B = []:=by rw[aC];simp
 refine gL ?_;refine gL ?_;refine wW [10,11,12,13,14] (fun _:Unit=>[(15,.sl 2 (1+B.length) 0 (1+B.length) 1),(16,.int .i64 ((1+B.length:Nat):Int)),(17,.int .i64 0)]) (fun _ H=> .arr [] 1 0 true :: .arr [] 1 0 true :: .arr (az (n::B)) 1 0 true::H) (fun _=>True) ?_ ?_
 .cases hr with
  | own=>
   refine eU ?_;repeat' (first|refine ig ?_|(refine bK fun K hK=>?_;simp only[go_sem, *,aI];first|(refine hK.out _ _ ?_;clear hK K)|(refine aV (fun h=>hK.out _ _ ?_) (fun h=>hK.out _ _ ?_)<;>clear hK K)))
   all_goals
    try (have hz:=UO ‹B.length=0›;subst hz)
    refine eH () trivial ?_ ⟨_,rfl⟩;exact aQ
  | part=>
   refine eU ?_;repeat' (first|refine ig ?_|(refine bK fun K hK=>?_;simp only[go_sem, *,aI];first|(refine hK.out _ _ ?_;clear hK K)|(refine aV (fun h=>hK.out _ _ ?_) (fun h=>hK.out _ _ ?_)<;>clear hK K)))
   all_goals
    try (have hz:=UO ‹B.length=0›;subst hz)
    refine eH () trivial ?_ ⟨_,rfl⟩;exact aQ
  | nil hl=>
   subst hl;refine eU ?_;repeat' (first|refine ig ?_|(refine bK fun K hK=>?_;simp only[go_sem, *,aI];first|(refine hK.out _ _ ?_;clear hK K)|(refine aV (fun h=>hK.out _ _ ?_) (fun h=>hK.out _ _ ?_)<;>clear hK K)))
   refine eH () trivial ?_ ⟨_,rfl⟩;exact aQ
 .rintro _ g G _;simp only[aj,aq,ah,an,UC,UD];have PH:1+B.length=(n::B).length:=by simp;omega
  have Uh:(n::B).length<=1001:=by simp;omega
  rw[PH];clear PH b1 b2 eB JV hB q hr;generalize n::B=L at*;refine Ai ?_
  refine aJ [7,8,9,18,19,20,21,22,23,24,25,26,27,28,29,30,31] (fun p:List Int×List Int=>[(5,.sl 1 (jS gs p.1).length 0 (jS gs p.1).length 1),(17,.int .i64 p.1.length)]) (fun p H=> .arr [] 1 0 true :: .arr (az (jS gs p.1)) 1 0 true :: .arr (az L) 1 0 true::H)
   (fun p=>L=p.1++p.2) (fun p=>p.2.length) ([],L) rfl ?_ ⟨_,rfl⟩ ?_
  .rfl
  rintro⟨pre,post⟩ g G h1;simp only at h1;subst h1;simp only[aj,aq,ah,an,UC,UD];have IZ:=uF h pre;cases post with
  | nil=>
   simp only[UM]at*;obtain⟨r,hr,hq⟩:=sJ (.tsl false 1 (az (jS gs pre))) (jS gs pre) (.rows false) (by omega);have q:=hq.rw;clear hq;cases hr with
   | own=>
    refine b8 @aI ?_;simp only[go_sem,q,aI];exact .own
   | part=>
    refine b8 @aI ?_;simp only[go_sem,q,aI];exact .part
   | nil hl=>
    refine b8 @aI ?_;simp only[go_sem,q,aI];exact .nil hl
  | cons x post=>
   have i1:=idxS (b:=2) (n:=pre.length+(post.length+1)) (off:=0) (len:=pre.length+(post.length+1)) (j:=pre.length) (k := .i64) (by omega);have i2:=dp pre x post;have lt0:pre.length<pre.length+(post.length+1):=by omega
   have w1:=am (n:=pre.length) (by simp at Uh;omega);have q:=(findU h x).rw;have g1:=vp h x;have c1:=g1.pv.cell;have c2:=g1.sv.cell;have p3:=B5 h x;have r1:=fun S=>g1.pv.rowsOf S;have b1:((jS gs pre).length+(fnd gs x).people.length)*8<=140737488355328:=by simp at Uh;omega
   have b2:(jS gs pre).length+(fnd gs x).people.length<=140737488355328:=by simp at Uh;omega
   repeat' (first|refine dn ?_|refine ad rfl ?_|(refine dI fun A B a b=>?_;simp only[go_sem, *,aI,bj,eE];(repeat' first|apply a.1|apply b.1|refine aV (fun h=>?_) fun h=>?_)<;>clear a b A B))
   .have e:=UO h;refine ax (pre++[x],post) (UV _) (by simp) ?_ ?_
    ·((try simp only[bh,bJ,ah,an,UC,UD]);all_goals (first|rfl|(simp only[aH,aC,UI,ji,h,Wj];done)|(simp only[aH,aR,aC,UI,UG,UB,UE,UW,ji,h,Wj];first|done|rfl)))
    .simp only[ji,e,UM];exact⟨_,rfl⟩
   .refine ax (pre++[x],post) (UV _) (by simp) ?_ ?_
    ·((try simp only[bh,bJ,ah,an,UC,UD]);all_goals (first|rfl|(simp only[aH,aC,UI,ji];done)|(simp only[aH,aR,aC,UI,UG,UB,UE,UW,ji];first|done|rfl)))
    .simp only[ji,gH];exact⟨_,rfl⟩
end
section
attribute [local irreducible] bB cX cZ aB bS dE
attribute [local go_sem] and_self aR cY vr
def Dn{v:AV}{gs:List eZ}(h:ko v gs)(n:Int):(ej gs n).length<=106050000:=by
 have h1:=mU (jS gs (n::below gs n));have h2:=uF h (n::below gs n);have h3:=vG gs n;have h4:=h.len;unfold ej;simp only[UB]at h2;omega
theorem inE{v:AV}{gs:List eZ}(h:ko v gs)(n p:Int):aB CX 243 [v,.int .i64 n,.int .i64 p] (· = .bool ((ej gs n).contains p)):=by
 have hv:=h.sl.cell;have J3:=fun S=>h.sl.snap (S:=S);have hl:=Dn h n;obtain⟨r,hr,hq⟩:=membersE h n;have q:=hq.rw;clear hq;cases hr with
 | own=>
  have q2:=(FD (.tsl false 1 (az (ej gs n))) _ p (.rows false) (by omega)).rw;refine aL fx243 ?_;exact fm @aI
 | part=>
  have q2:=(FD (.tsl true 1 (az (ej gs n))) _ p (.rows true) (by omega)).rw;refine aL fx243 ?_;exact fm @aI
 | nil hl=>
  have q2:=(FD (.flat (.slice none 0 0)) (ej gs n) p (.nil (by rw[hl];rfl)) (by omega)).rw;refine aL fx243 ?_;refine b8 @aI ?_;simp only[go_sem];rw[hl]
end
end Go.Eng
namespace Go.Eng
section
variable {gs:List eZ}
def fP(gs:List eZ)(out more:List Int):List Int:=out.foldl (fun more x=>if isG gs x then bU (more++(fnd gs x).subs) else more) more
def uA(gs:List eZ):Nat->List Int->List Int
 | 0,out=>out
 | k+1,out=>uA gs k (fP gs out out)
def mg(gs:List eZ)(n:Int):List Int:=uA gs gs.length (if isG gs n then bU (fnd gs n).subs else [])
theorem yj{gs:List eZ}:∀{out more:List Int},wT more->wT (fP gs out more)
 | [],_,h=>h
 | x::out,more,h=>by
  unfold fP;rw[VD];refine yj (out:=out) ?_;split
  .exact fj _
  .exact h
theorem kr{gs:List eZ}{y:Int}:∀{out more:List Int},y∈fP gs out more↔y∈more\/∃x∈out,isG gs x=true/\y∈(fnd gs x).subs
 | [],more=>by simp[fP]
 | x::out,more=>by
  unfold fP;rw[VD];have ih:=fun m=>kr (gs:=gs) (y:=y) (out:=out) (more:=m);unfold fP at ih;rw[ih];by_cases hx:isG gs x=true
  .rw[if_pos hx,mem_sorted,UU];constructor
   .rintro ((h|h)|⟨z,h1,h2⟩)
    .exact .inl h
    .exact .inr ⟨x,by simp,hx,h⟩
    .exact .inr ⟨z,by simp[h1],h2⟩
   .rintro (h|⟨z,h1,h2,h3⟩)
    .exact .inl (.inl h)
    .rcases List.mem_cons.mp h1 with e|e
     .subst e;exact .inl (.inr h3)
     .exact .inr ⟨z,e,h2,h3⟩
  .rw[if_neg hx];constructor
   .rintro (h|⟨z,h1,h2⟩)
    .exact .inl h
    .exact .inr ⟨z,by simp[h1],h2⟩
   .rintro (h|⟨z,h1,h2,h3⟩)
    .exact .inl h
    .rcases List.mem_cons.mp h1 with e|e
     .subst e;exact absurd h2 hx
     .exact .inr ⟨z,e,h2,h3⟩
def Clo(gs:List eZ):Prop := ∀g∈gs,∀s∈g.subs,isG gs s=true
def Clo.fnd{gs:List eZ}(h:Clo gs){n s:Int}(hs:s∈(fnd gs n).subs):isG gs s=true:=by
 rcases fK gs n with ⟨_,e⟩|⟨_,_,e⟩
 .rw[e]at hs;simp[noG]at hs
 .exact h _ e s hs
def zP(gs:List eZ)(out:List Int):Prop := ∀x∈out,isG gs x=true->∀s∈(Go.Eng.fnd gs x).subs,s∈out
theorem rnd_spec(hc:Clo gs)(n:Int):∀(k:Nat) (out:List Int),wT out->(∀x∈out,Cr gs n x)->(zP gs out\/gs.length+1<=k+out.length) ->
  wT (uA gs k out)/\(∀x∈uA gs k out,Cr gs n x)/\zP gs (uA gs k out)/\∀x∈out,x∈uA gs k out:=by
 intro k
 induction k with
 | zero=>
  intro out hu hr hk;refine⟨hu,hr,?_,fun x hx=>hx⟩;rcases hk with hk|hk
  .exact hk
  .exfalso;have:out.length<=(gs.map (·.id)).length:=kq (sE hu) fun x hx=>GX.mp (hr x hx).isG;simp at this;omega
 | succ k ih=>
  intro out hu hr hk;have hu':wT (fP gs out out):=yj hu
  have JT:∀x∈fP gs out out,Cr gs n x:=by
   intro x hx;rcases kr.mp hx with h|⟨z,h1,h2,h3⟩
   .exact hr x h
   .exact .step (hr z h1) h3 (hc.fnd h3)
  have J4:∀x∈out,x∈fP gs out out:=fun x hx=>kr.mpr (.inl hx)
  have JK:zP gs (fP gs out out)\/gs.length+1<=k+(fP gs out out).length:=by
   by_cases JA:zP gs out
   .left
    have e:fP gs out out=out:=gM hu' hu fun x=>by
     rw[kr];constructor
     .rintro (h|⟨z,h1,h2,h3⟩)
      .exact h
      .exact JA z h1 h2 x h3
     .exact .inl
    rw[e];exact JA
   .right;have NN:=hk.resolve_left JA
    have:out.length+1<=(fP gs out out).length:=by
     have Ja:∃y,y∈fP gs out out/\y∉out:=by
      apply VG;intro Km;apply JA;intro x hx hg s hs;apply VG;intro MT;exact Km ⟨s,kr.mpr (.inr ⟨x,hx,hg,hs⟩),MT⟩
     obtain⟨y,hy,hyn⟩:=Ja
     have:(y::out).length<=(fP gs out out).length:=kq (List.nodup_cons.mpr ⟨hyn,sE hu⟩) fun x hx=>by
      rcases List.mem_cons.mp hx with e|e
      .subst e;exact hy
      .exact J4 x e
     simpa using this
    omega
  obtain⟨i1,i2,i3,i4⟩:=ih (fP gs out out) hu' JT JK;exact⟨i1,i2,i3,fun x hx=>i4 x (J4 x hx)⟩
theorem Bb(hc:Clo gs)(n:Int):mg gs n=below gs n:=by
 unfold mg;by_cases hg:isG gs n=true
 .rw[if_pos hg];have hr:∀x∈bU (fnd gs n).subs,Cr gs n x:=fun x hx=> .one ((mem_sorted _ _).mp hx) (hc.fnd ((mem_sorted _ _).mp hx))
  have hk:zP gs (bU (fnd gs n).subs)\/gs.length+1<=gs.length+(bU (fnd gs n).subs).length:=by
   cases h:bU (fnd gs n).subs with
   | nil=>left;intro x hx;cases hx
   | cons x l=>right;simp only[UB];omega
  obtain⟨h1,h2,h3,h4⟩:=rnd_spec hc n gs.length _ (fj _) hr hk;refine gM h1 (zF gs n) fun x=>?_;rw[jk];refine⟨h2 x,fun hx=>?_⟩
  induction hx with
  | one h JN=>exact h4 _ ((mem_sorted _ _).mpr h)
  | step hy h JN ih=>exact h3 _ ih hy.isG _ h
 .rw[if_neg hg]
  have e:(fnd gs n).subs = []:=by
   rcases fK gs n with ⟨_,e⟩|⟨e,_⟩
   .rw[e];rfl
   .exact absurd e hg
  have e1:∀k,uA gs k [] = []:=by
   intro k;induction k with
   | zero=>rfl
   | succ k ih=>rw[uA];exact ih
  rw[e1];refine gM kD (zF gs n) fun x=>?_;rw[jk];constructor
  .intro h;cases h
  .intro hx;exfalso
   induction hx with
   | one h JN=>rw[e]at h;cases h
   | step hy h JN ih=>exact ih
def gA(gs:List eZ)(l:List Int)(out:List Int):List Int:=l.foldl (fun out x=>if isG gs x then bU (out++(fnd gs x).people) else out) out
def eG(gs:List eZ)(n:Int):List Int:=if isG gs n then gA gs (put (mg gs n) n) [] else []
theorem Ap{gs:List eZ}:∀{l out:List Int},wT out->wT (gA gs l out)
 | [],_,h=>h
 | x::l,out,h=>by
  unfold gA;rw[VD];refine Ap (l:=l) ?_;split
  .exact fj _
  .exact h
theorem yq{gs:List eZ}{y:Int}:∀{l out:List Int},y∈gA gs l out↔y∈out\/∃x∈l,y∈(fnd gs x).people
 | [],out=>by simp[gA]
 | x::l,out=>by
  unfold gA;rw[VD];have ih:=fun m=>yq (gs:=gs) (y:=y) (l:=l) (out:=m);unfold gA at ih;rw[ih];by_cases hx:isG gs x=true
  .rw[if_pos hx,mem_sorted,UU];constructor
   .rintro ((h|h)|⟨z,h1,h2⟩)
    .exact .inl h
    .exact .inr ⟨x,by simp,h⟩
    .exact .inr ⟨z,by simp[h1],h2⟩
   .rintro (h|⟨z,h1,h3⟩)
    .exact .inl (.inl h)
    .rcases List.mem_cons.mp h1 with e|e
     .subst e;exact .inl (.inr h3)
     .exact .inr ⟨z,e,h3⟩
  .rw[if_neg hx]
   have e0:(fnd gs x).people = []:=by
    rcases fK gs x with ⟨_,e⟩|⟨e,_⟩
    .rw[e];rfl
    .exact absurd e hx
   constructor
   .rintro (h|⟨z,h1,h2⟩)
    .exact .inl h
    .exact .inr ⟨z,by simp[h1],h2⟩
   .rintro (h|⟨z,h1,h3⟩)
    .exact .inl h
    .rcases List.mem_cons.mp h1 with e|e
     .subst e;rw[e0]at h3;cases h3
     .exact .inr ⟨z,e,h3⟩
def wg{n y:Int}:y∈ej gs n↔y∈(fnd gs n).people\/∃x,Cr gs n x/\y∈(fnd gs x).people:=by
 unfold ej jS;rw[mem_sorted,Wp];constructor
 .rintro⟨x,h1,h2⟩;rcases List.mem_cons.mp h1 with e|e
  .subst e;exact .inl h2
  .exact .inr ⟨x,jk.mp e,h2⟩
 .rintro (h|⟨x,h1,h2⟩)
  .exact⟨n,by simp,h⟩
  .exact⟨x,by simp[jk.mpr h1],h2⟩
def yp(gs:List eZ)(n:Int):wT (ej gs n):=fj _
theorem Dp(hc:Clo gs)(n:Int):eG gs n=ej gs n:=by
 unfold eG;by_cases hg:isG gs n=true
 .rw[if_pos hg,Bb hc];refine gM (Ap kD) (yp gs n) fun y=>?_;rw[yq,wg];constructor
  .rintro (h|⟨x,h1,h2⟩)
   .cases h
   .rcases (pO _ _ _).mp h1 with e|e
    .subst e;exact .inl h2
    .exact .inr ⟨x,jk.mp e,h2⟩
  .rintro (h|⟨x,h1,h2⟩)
   .exact .inr ⟨n,(pO _ _ _).mpr (.inl rfl),h⟩
   .exact .inr ⟨x,(pO _ _ _).mpr (.inr (jk.mpr h1)),h2⟩
 .rw[if_neg hg]
  have e:fnd gs n=noG:=by
   rcases fK gs n with ⟨_,e⟩|⟨e,_⟩
   .exact e
   .exact absurd e hg
  refine gM kD (yp gs n) fun y=>?_;rw[wg];constructor
  .intro h;cases h
  .rintro (h|⟨x,h1,h2⟩)
   .rw[e]at h;cases h
   .exfalso;clear h2
    induction h1 with
    | one h JN=>rw[e]at h;cases h
    | step hy h JN ih=>exact ih
end
end Go.Eng
namespace Go.Eng
open Go.Proofs
section
variable {gs:List eZ}{l:List Int}{v:AV}
attribute [local irreducible] bB cX cZ aB bS dE
attribute [local go_sem] cM and_self aR cY eE
def DI(h:ko v gs)(n:Int):aB CX 114 [v,.int .i64 n] (· = .int .i64 (eX (nk gs n 0))):=by
 have hv:=h.sl;have hl:=h.len;refine aL fx114 ?_;refine b8 (lk hv) ?_;refine aF [4,5,9,10,11,12,13,14,15,16,17,18,19] 8 gs (fun pre post=>nk gs n 0=nk post n pre.length) ?_ ?_ ?_ ?_
 .rfl
 .rfl
 .intro g G h2;rw[h2];simp only[aj,aq,ah,an,UC,UD];exact wf
 .intro g G pre x post h1 h2;rw[h2];have i1:=ay hv (X:=CX) ty41 ty218 rfl (by rw[h1];exact eK eE pre x post) (k := .i64);have w1:=am (n:=pre.length) (by simp[h1]at hl;omega);have lt1:(pre.length:Int)<(gs.length:Int):=by rw[h1];simp;omega
  have IW:ac (gs=pre++x::post):=⟨h1⟩;clear h1;simp only[aj,aq,ah,an,UC,UD];by_cases hx:x.id=n
  .have hh:ac (x.id=n):=⟨hx⟩;have Kd:(x.id == n)=true:=by simpa using hx
   clear hx h2;refine wk ?_;simp only[go_sem];rw[nk,if_pos hh.out];try rfl
  .have hh:ac (¬x.id=n):=⟨hx⟩;have Kd:(x.id == n)=false:=by simpa using hx
   have I7:ac (nk gs n 0=nk (x::post) n pre.length):=⟨h2⟩;clear hx h2;refine wk ?_;refine aA IW.out ?_ ?_ ?_
   .rw[nk,if_neg hh.out,aH]
   .exact aQ
   .exact dk
def uT{β:Type}(f:β->List AV){l a b:List β}{x:β}(h:l=a++x::b):(l.map f)[a.length]? = some (f x):=by rw[h];exact eK f a x b
def kT(gs:List eZ)(n:Int):(isG gs n=false/\eX (nk gs n 0) = -1)\/∃a b,isG gs n=true/\gs=a++fnd gs n::b/\eX (nk gs n 0)=(a.length:Int):=by
 rcases AY gs n 0 with ⟨h1,h2⟩|⟨a,g,b,h1,h2,h3⟩
 .exact .inl ⟨by simp[isG,h2],by rw[h1];rfl⟩
 .refine .inr ⟨a,b,by simp[isG,h3],?_,by rw[h2];simp[eX]⟩;rw[fnd,h3];exact h1
def IQ(gs:List eZ)(l:List Int):Prop:=wT l/\∀x∈l,x∈gs.flatMap (·.subs)
theorem HA(h:∀g∈gs,g.subs.length<=1050000):(gs.flatMap (·.subs)).length<=gs.length*1050000:=by
 induction gs with
 | nil=>simp
 | cons g gs ih=>
  have h1:=h g (by simp);have h2:=ih fun x hx=>h x (by simp[hx]);simp only[VX,UG,UB];omega
theorem IQ.len(h:IQ gs l)(hg:ko v gs):l.length<=106000000:=by
 have h1:=kq (sE h.1) h.2;have h2:=HA hg.subs;have:=hg.len;omega
def IQ.more(h:IQ gs l)(x:Int):IQ gs (bU (l++(fnd gs x).subs)):=by
 refine⟨fj _,fun y hy=>?_⟩;rw[mem_sorted,UU]at hy;rcases hy with hy|hy
 .exact h.2 y hy
 .rcases fK gs x with ⟨_,e⟩|⟨_,_,e⟩
  .rw[e]at hy;simp[noG]at hy
  .exact List.mem_flatMap.mpr ⟨_,e,hy⟩
def Fk(gs:List eZ)(x:Int)(out more:List Int):fP gs (x::out) more=fP gs out (if isG gs x then bU (more++(fnd gs x).subs) else more):=rfl
def GZ{S G:ab}{b:Nat}{x:dY}(h:S[b]? = some x):(S++G)[b]? = some x:=by
 rw[UN (UK.1 h).1];exact h
theorem Hf(h:ko v gs)(n:Int):aB CX 116 [v,.int .i64 n] (· = .osl 1 (az (mg gs n))):=by
 have hv:=h.sl.cell;have J3:=fun S=>h.sl.snap (S:=S);have Kr:=h.len;unfold mg;have q:=(DI h n).rw;obtain⟨out0,h0⟩:∃o,(if isG gs n=true then bU (fnd gs n).subs else [])=o:=⟨_,rfl⟩
 have PB:IQ gs out0:=by
  rw[<-h0];split
  .have:=IQ.more (gs:=gs) (l:=[]) ⟨kD,by simp⟩ n;simpa using this
  .exact⟨kD,by simp⟩
 rw[h0];refine aL fx116 ?_;refine Cy ?_;refine wW [13,14,15,16,17,18,19,20] (fun p:Nat×ab=>[(5,.sl p.1 out0.length 0 out0.length 1)]) (fun p _=>p.2) (fun p=>p.2[p.1]? = some (.arr (az out0) 1 0 true)) ?_ ?_
 .rcases kT gs n with ⟨e1,e2⟩|⟨a,b,e1,e2,e3⟩
  .rw[e1]at h0;subst h0;have z:¬(0:Int)<=-1:=by omega
   rw[e2];clear q e1 e2;refine wk ?_;refine eH (1,_) ?_ ?_ ⟨[],rfl⟩
   .rfl
   .exact aQ
  .rw[e1]at h0;simp only[if_true]at h0;have i1:=ay h.sl (X:=CX) ty41 ty218 rfl (n:=a.length) (row:=eE (fnd gs n)) (k := .i64) (uT eE e2);have z:(0:Int)<=(a.length:Int):=by omega
   have g0:=vp h n;have gl:=B6 h n;have q2:=(By _ _ g0.sv (by omega)).rw;rw[h0]at q2;have s2:=g0.sv.snap;rw[e3];clear q e1 e2 e3 h0;refine wk ?_;refine eH (2,_) ?_ ?_ ⟨[],rfl⟩
   .rfl
   .exact aQ
 rintro⟨b0,S0⟩ g G Ks;simp only at Ks;simp only[aj,aq,ah,an,UC,UD];clear q h0;refine Ev (lk h.sl) ?_
 refine aJ [7,8,9,24,25,26,27,28,29,30,31,32,33,34,35,36,37,38,39,40,41,42,43,44,45,46,47,48] (fun p:Nat×List Int×Nat×ab=>[(5,.sl p.2.2.1 p.2.1.length 0 p.2.1.length 1),(23,.int .i64 p.1)]) (fun p _=>p.2.2.2)
  (fun p=>p.1<=gs.length/\IQ gs p.2.1/\uA gs (gs.length-p.1) p.2.1=uA gs gs.length out0/\p.2.2.2[p.2.2.1]? = some (.arr (az p.2.1) 1 0 true)) (fun p=>gs.length-p.1) (0,out0,b0,S0) ⟨U9 _,PB,rfl,Ks⟩ ?_ ⟨[],rfl⟩ ?_
 .exact aQ
 rintro⟨k,out,b,S⟩ g G ⟨hk,hi,hr,hb⟩;simp only at hk hi hr hb;rw[<-hr];clear hr Ks PB;simp only[aj,aq,ah,an,UC,UD];by_cases KE:k=gs.length
 .subst KE;rw[W7,uA];refine wk ?_;simp only[go_sem,hb]
 have lt1:(k:Int)<(gs.length:Int):=by omega
 have IY:=hi.len h;refine wk ?_
 refine aJ [8,9,29,30,31,32,33,34,35,36,37,38,39,40,41,42,43,44,45,46] (fun p:List Int×List Int×List Int×Nat×ab=>[(7,.sl p.2.2.2.1 p.2.2.1.length 0 p.2.2.1.length 1),(28,.int .i64 p.1.length)]) (fun p _=>p.2.2.2.2)
  (fun p=>out=p.1++p.2.1/\IQ gs p.2.2.1/\fP gs p.2.1 p.2.2.1=fP gs out out/\p.2.2.2.2[b]? = some (.arr (az out) 1 0 true)/\p.2.2.2.2[p.2.2.2.1]? = some (.arr (az p.2.2.1) 1 0 true)) (fun p=>p.2.1.length) ([],out,out,b,S) ⟨rfl,hi,rfl,hb,hb⟩ ?_ ⟨[],rfl⟩ ?_
 .exact aQ
 rintro⟨pre,post,more,b2,S2⟩ g G ⟨h1,h2,h3,h4,h5⟩;simp only at h1 h2 h3 h4 h5;clear hb;simp only[aj,aq,ah,an,UC,UD];cases post with
 | nil=>
  rw[UM]at h1;have e:(out.length:Int)=(pre.length:Int):=by rw[h1]
  have hh:ac (fP gs out out=more):=⟨h3.symm⟩;clear h1 h3;have w1:=am (n:=k) (by omega);refine wk ?_;refine ax (k+1,more,b2,S2) (by simp only;omega) ⟨by simp only;omega,h2,?_,h5⟩ ?_ ⟨[],rfl⟩
  .obtain⟨j,hj⟩:∃j,gs.length-k=j+1:=⟨gs.length-k-1,by omega⟩;have OS:gs.length-(k+1)=j:=by omega
   simp only[OS,hj,uA,hh.out]
  .exact aQ
 | cons x post=>
  have Qt:pre.length<out.length:=by rw[h1];simp
  have i1:=idxS (b:=b) (n:=out.length) (off:=0) (len:=out.length) (j:=pre.length) (k := .i64) Qt;have i2:(az out)[pre.length]? = some [.int .i64 x]:=by rw[h1];exact dp pre x post
  have lt2:(pre.length:Int)<(out.length:Int):=by omega
  have w1:=am (n:=pre.length) (by omega);have q:=(DI h x).rw;have IW:ac (out=(pre++[x])++post):=⟨by rw[h1];simp⟩;have hm:=h2.len h;clear h1;rw[Fk]at h3;rcases kT gs x with ⟨e1,e2⟩|⟨a,c,e1,e2,e3⟩
  .rw[e1]at h3;rw[e2]at q;have JG:ac (fP gs post more=fP gs out out):=⟨h3⟩;have z:¬(0:Int)<=-1:=by omega
   clear h3 e1 e2;refine wk ?_;refine ax (pre++[x],post,more,b2,S2) (UV _) ⟨IW.out,h2,JG.out,h4,h5⟩ ?_ ⟨[],rfl⟩
   .exact aQ
  .rw[e1]at h3;rw[e3]at q;have JG:ac (fP gs post (bU (more++(fnd gs x).subs))=fP gs out out):=⟨h3⟩;have z:(0:Int)<=(a.length:Int):=by omega
   have j1:=ay h.sl (X:=CX) ty41 ty218 rfl (n:=a.length) (row:=eE (fnd gs x)) (k := .i64) (uT eE e2);have g0:=vp h x;have gl:=B6 h x;have s2:=g0.sv.snap;have q2:=(union1 (.tsl false 1 (az more)) _ more _ (.rows false) g0.sv (by omega) (by omega)).rw;clear h3 e1 e2 e3;refine wk ?_;refine ax (pre++[x],post,bU (more++(fnd gs x).subs),S2.length,_) (UV _) ⟨IW.out,h2.more x,JG.out,GZ h4,?_⟩ ?_ ⟨[],rfl⟩
   .simp
   .exact aQ
end
section
variable {gs:List eZ}{l:List Int}{v:AV}
attribute [local irreducible] bB cX cZ aB bS dE
attribute [local go_sem] cM and_self eE
def InP(gs:List eZ)(l:List Int):Prop:=wT l/\∀x∈l,x∈gs.flatMap (·.people)
theorem ppl_flat(h:∀g∈gs,g.people.length<=1050000):(gs.flatMap (·.people)).length<=gs.length*1050000:=by
 induction gs with
 | nil=>simp
 | cons g gs ih=>
  have h1:=h g (by simp);have h2:=ih fun x hx=>h x (by simp[hx]);simp only[VX,UG,UB];omega
theorem InP.len(h:InP gs l)(hg:ko v gs):l.length<=106000000:=by
 have h1:=kq (sE h.1) h.2;have h2:=ppl_flat hg.ppl;have:=hg.len;omega
def InP.more(h:InP gs l)(x:Int):InP gs (bU (l++(fnd gs x).people)):=by
 refine⟨fj _,fun y hy=>?_⟩;rw[mem_sorted,UU]at hy;rcases hy with hy|hy
 .exact h.2 y hy
 .rcases fK gs x with ⟨_,e⟩|⟨_,_,e⟩
  .rw[e]at hy;simp[noG]at hy
  .exact List.mem_flatMap.mpr ⟨_,e,hy⟩
def vQ(gs:List eZ)(x:Int)(l out:List Int):gA gs (x::l) out=gA gs l (if isG gs x then bU (out++(fnd gs x).people) else out):=rfl
theorem GA :∀(k:Nat){out:List Int},IQ gs out->IQ gs (uA gs k out)
 | 0,_,h=>h
 | k+1,out,h=>by
  refine GA k ⟨yj h.1,fun y hy=>?_⟩;rcases kr.mp hy with h1|⟨x,h1,h2,h3⟩
  .exact h.2 y h1
  .rcases fK gs x with ⟨_,e⟩|⟨_,_,e⟩
   .rw[e]at h3;simp[noG]at h3
   .exact List.mem_flatMap.mpr ⟨_,e,h3⟩
def II(gs:List eZ)(n:Int):IQ gs (mg gs n):=by
 unfold mg;refine GA _ ?_;split
 .have:=IQ.more (gs:=gs) (l:=[]) ⟨kD,by simp⟩ n;simpa using this
 .exact⟨kD,by simp⟩
theorem Aq :∀(l:List Int){out:List Int},InP gs out->InP gs (gA gs l out)
 | [],_,h=>h
 | x::l,out,h=>by
  rw[vQ];refine Aq l ?_;split
  .exact h.more x
  .exact h
def Do(gs:List eZ)(n:Int):InP gs (eG gs n):=by
 unfold eG;split
 .exact Aq _ ⟨kD,by simp⟩
 .exact⟨kD,by simp⟩
theorem HZ(h:ko v gs)(n:Int):aB CX 182 [v,.int .i64 n] (· = .osl 1 (az (eG gs n))):=by
 have hv:=h.sl.cell;have J3:=fun S=>h.sl.snap (S:=S);have Kr:=h.len;unfold eG;have q:=(DI h n).rw;rcases kT gs n with ⟨e1,e2⟩|⟨a,b,e1,e2,e3⟩
 .rw[e2]at q;rw[e1];have z:(-1:Int)<0:=by omega
  clear e1 e2;refine aL fx182 ?_;exact wf
 have qb:=(Hf h n).rw;have hbi:=(II gs n).len h;have qp:=(HP false (mg gs n) n (by omega)).rw;have IZ:=BG (mg gs n) n;rw[if_pos e1];rw[e3]at q;obtain⟨B,hB⟩:∃B,mg gs n=B:=⟨_,rfl⟩;obtain⟨all,hA⟩:∃A,put B n=A:=⟨_,rfl⟩;rw[hB]at qb qp hbi IZ ⊢;rw[hA]at qp IZ ⊢;have z:¬(a.length:Int)<0:=by omega
 clear e1 e2 e3 hB hA;refine aL fx182 ?_;refine wk ?_
 refine aJ [7,8,21,22,23,24,25,26,27,28,29,30,31,32,33,34,35,36,37,38] (fun p:List Int×List Int×List Int×Nat×ab=>[(6,.sl p.2.2.2.1 p.2.2.1.length 0 p.2.2.1.length 1),(20,.int .i64 p.1.length)]) (fun p _=>p.2.2.2.2)
  (fun p=>all=p.1++p.2.1/\InP gs p.2.2.1/\gA gs p.2.1 p.2.2.1=gA gs all []/\p.2.2.2.2[2]? = some (.arr (az all) 1 0 true)/\p.2.2.2.2[p.2.2.2.1]? = some (.arr (az p.2.2.1) 1 0 true)) (fun p=>p.2.1.length) ([],all,[],3,[.arr [] 1 0 true,.arr (az B) 1 0 true,.arr (az all) 1 0 true,.arr [] 1 0 true]) ⟨rfl,⟨kD,by simp⟩,rfl,rfl,rfl⟩ ?_ ⟨[],rfl⟩ ?_
 .exact aQ
 clear q qb qp;rintro⟨pre,post,out,b2,S2⟩ g G ⟨h1,h2,h3,h4,h5⟩;simp only at h1 h2 h3 h4 h5;simp only[aj,aq,ah,an,UC,UD];cases post with
 | nil=>
  rw[UM]at h1;have e:(all.length:Int)=(pre.length:Int):=by rw[h1]
  have hh:ac (gA gs all []=out):=⟨h3.symm⟩;rw[hh.out];clear h1 h3;refine wk ?_;simp only[go_sem,h5]
 | cons x post=>
  have Qt:pre.length<all.length:=by rw[h1];simp
  have i1:=idxS (b:=2) (n:=all.length) (off:=0) (len:=all.length) (j:=pre.length) (k := .i64) Qt;have i2:(az all)[pre.length]? = some [.int .i64 x]:=by rw[h1];exact dp pre x post
  have lt2:(pre.length:Int)<(all.length:Int):=by omega
  have w1:=am (n:=pre.length) (by omega);have q:=(DI h x).rw;have IW:ac (all=(pre++[x])++post):=⟨by rw[h1];simp⟩;have hm:=h2.len h;clear h1;rw[vQ]at h3;rcases kT gs x with ⟨e1,e2⟩|⟨a,c,e1,e2,e3⟩
  .rw[e1]at h3;rw[e2]at q;have JG:ac (gA gs post out=gA gs all []):=⟨h3⟩;have z:¬(0:Int)<=-1:=by omega
   clear h3 e1 e2;refine wk ?_;refine ax (pre++[x],post,out,b2,S2) (UV _) ⟨IW.out,h2,JG.out,h4,h5⟩ ?_ ⟨[],rfl⟩
   .exact aQ
  .rw[e1]at h3;rw[e3]at q;have JG:ac (gA gs post (bU (out++(fnd gs x).people))=gA gs all []):=⟨h3⟩;have z:(0:Int)<=(a.length:Int):=by omega
   have j1:=ay h.sl (X:=CX) ty41 ty218 rfl (n:=a.length) (row:=eE (fnd gs x)) (k := .i64) (uT eE e2);have g0:=vp h x;have gl:=B5 h x;have s2:=g0.pv.snap;have q2:=(union1 (.tsl false 1 (az out)) _ out _ (.rows false) g0.pv (by omega) (by omega)).rw;clear h3 e1 e2 e3;refine wk ?_;refine ax (pre++[x],post,bU (out++(fnd gs x).people),S2.length,_) (UV _) ⟨IW.out,h2.more x,JG.out,GZ h4,?_⟩ ?_ ⟨[],rfl⟩
   .simp
   .exact aQ
def inRE(h:ko v gs)(n p:Int):aB CX 135 [v,.int .i64 n,.int .i64 p] (· = .bool ((eG gs n).contains p)):=by
 have hv:=h.sl.cell;have J3:=fun S=>h.sl.snap (S:=S);have q:=(HZ h n).rw;have hl:=(Do gs n).len h;have q2:=(has1 (.tsl false 1 (az (eG gs n))) _ p (.rows false) (by omega)).rw;refine aL fx135 ?_;exact wf
end
section
attribute [local irreducible] bB cX cZ aB bS dE
def yx(pre:List eZ):eZ:=pre.getLastD noG
def Fb(pre:List eZ)(x:eZ):Bool:=decide (pre = []) || decide ((yx pre).id<x.id)
def vv(ps:List ij)(pre:List eZ)(x:eZ):Int :=
 if jA x.id=true then if Fb pre x=true then if sT x.name.data.toList=true then if Hx x.people=true then if x.people.all (oe ps)=true then if Hx x.subs=true then 0 else 10 else 9 else 10 else 7 else 10 else 2
def FB(n:Int):(jA n=true/\¬n<1/\¬1099511627776<n)\/(jA n=false/\n<1)\/(jA n=false/\¬n<1/\1099511627776<n):=by
 unfold jA;by_cases h:n<1
 .right;left;exact⟨by simp;omega,h⟩
 .by_cases h2:1099511627776<n
  .right;right;exact⟨by simp;omega,h,h2⟩
  .left;exact⟨by simp;omega,h,h2⟩
def Fa{v:AV}{gs pre post:List eZ}{x:eZ}(h:ko v gs)(hg:gs=pre++x::post) :
  (Fb pre x=true/\¬(0:Int)<(pre.length:Int)) \/
  (Fb pre x=true/\¬x.id<=(yx pre).id/\(0:Int)<(pre.length:Int)/\aD CX 41 v (.int .i64 (IntKind.wrap .i64 ((pre.length:Int)-1)))=some (.tptr (jW v) (eE (yx pre)) 0)) \/
  (Fb pre x=false/\x.id<=(yx pre).id/\(0:Int)<(pre.length:Int)/\aD CX 41 v (.int .i64 (IntKind.wrap .i64 ((pre.length:Int)-1)))=some (.tptr (jW v) (eE (yx pre)) 0)):=by
 have Kr:=h.len;by_cases hp:pre = []
 .left;exact⟨by simp[Fb,hp],by simp[hp]⟩
 .have z0:(0:Int)<(pre.length:Int):=by have:=List.length_pos_iff.mpr hp;omega
  have e:aD CX 41 v (.int .i64 (IntKind.wrap .i64 ((pre.length:Int)-1)))=some (.tptr (jW v) (eE (yx pre)) 0):=hG (f:=eE) (by rw[<-hg];exact h.sl) (by rw[<-hg];omega) ty41 ty218 rfl noG z0;by_cases hl:x.id<=(yx pre).id
  .right;right;exact⟨by simp[Fb,hp];omega,hl,z0,e⟩
  .right;left;exact⟨by simp[Fb,hp];omega,hl,z0,e⟩
end
section
attribute [local irreducible] bB cX cZ aB bS dE
attribute [local go_sem] bi and_self eE aR cY fF
def oneR{v w:AV}{gs pre post:List eZ}{x:eZ}{ps:List ij}(h:ko v gs)(hw:bq 3 (ps.map fF) w)(JP:ps.length<=1000)(hg:gs=pre++x::post)(hn:x.name.size<=1048576):aB CX 113 [w,v,.int .i64 pre.length] (· = .int .i64 (vv ps pre x)):=by
 have i0:=ay h.sl (X:=CX) ty41 ty218 rfl (n:=pre.length) (row:=eE x) (k := .i64) (uT eE hg);have hx:=h.ok x (by rw[hg];simp);have c1:=hx.pv.cell;have c2:=hx.sv.cell;have s1:=hx.pv.snap;have s2:=hx.sv.snap;have IZ:=h.ppl x (by rw[hg];simp);have KJ:=h.subs x (by rw[hg];simp);have Ow:=hw.snap;have ho:=Fa h hg;clear hg;have qn:=(GM x.name (by omega)).rw;have qp:=(up1 _ _ hx.pv (by omega)).rw;have qs:=(up1 _ _ hx.sv (by omega)).rw;have qi:=(kR x.id).rw;clear hn;rcases FB x.id with ⟨k1,a1,a2⟩|⟨k1,a1⟩|⟨k1,a1,a2⟩
 rotate_left
 .clear ho qn qp qs;refine aL fx113 ?_;refine wk ?_;simp only[go_sem];simp[vv,k1]
 .clear ho qn qp qs;refine aL fx113 ?_;refine wk ?_;simp only[go_sem];simp[vv,k1]
 rcases ho with ⟨k2,e1⟩|⟨k2,e1,e2,e3⟩|⟨k2,e1,e2,e3⟩
 rotate_right
 .clear qn qp qs;refine aL fx113 ?_;refine wk ?_;simp only[go_sem];simp[vv,k1,k2]
 all_goals
  by_cases k3:sT x.name.data.toList=true
  rotate_left
  .have k3:sT x.name.data.toList=false:=by simpa using k3
   clear qp qs;refine aL fx113 ?_;refine wk ?_;simp only[go_sem];simp[vv,k1,k2,k3]
  by_cases k4:Hx x.people=true
  rotate_left
  .have k4:Hx x.people=false:=by simpa using k4
   clear qs;refine aL fx113 ?_;refine wk ?_;simp only[go_sem];simp[vv,k1,k2,k3,k4]
  refine aL fx113 ?_;refine b8 (lk hx.pv) ?_;clear qn qp qi;refine aF [6,8,9,10,44,45,46,47,48,49,50,51,52,53,54,55,56,57,58] 43 x.people (fun _ post=>x.people.all (oe ps)=post.all (oe ps)) ?_ ?_ ?_ ?_
  .rfl
  .rfl
  .intro g G hE;simp only[aj,aq,ah,an,UC,UD];have k5:x.people.all (oe ps)=true:=by rw[hE];rfl
   clear hE;refine Cy ?_;refine wkC ?_;refine Cy ?_;by_cases k6:Hx x.subs=true
   .refine wk ?_;simp only[go_sem];simp only[vv,k1,k2,k3,k4,k5,k6,if_true]
   .have k6:Hx x.subs=false:=by simpa using k6
    refine wk ?_;simp only[go_sem];simp[vv,k1,k2,k3,k4,k5,k6]
  .intro g G pr y po h1 hE;simp only[aj,aq,ah,an,UC,UD];have j1:=ay hx.pv (X:=CX) ty31 ty3 rfl (by rw[h1];exact dp pr y po) (k := .i64);have lt1:(pr.length:Int)<(x.people.length:Int):=by rw[h1];simp;omega
   have w1:=am (n:=pr.length) (by omega);have q:=(sR w ps y hw (by omega)).rw;have IW:ac (x.people=pr++y::po):=⟨h1⟩;have JL:ac (x.people.all (oe ps)=(y::po).all (oe ps)):=⟨hE⟩;clear h1 hE;by_cases k5:oe ps y=true
   .refine b8 @bj ?_;refine aA IW.out ?_ ?_ ?_
    .rw[JL.out,U1,k5,VB]
    .exact aQ
    .exact dk
   .have k5:oe ps y=false:=by simpa using k5
    refine b8 @bj ?_;simp only[go_sem];have e:x.people.all (oe ps)=false:=by rw[JL.out,U1,k5,VM]
    simp[vv,k1,k2,k3,k4,e]
end
section
attribute [local irreducible] bB cX cZ aB bS dE
def wQ(ps:List ij):List eZ->List eZ->Int
 | _,[]=>0
 | pre,x::post=>if vv ps pre x=0 then wQ ps (pre++[x]) post else vv ps pre x
noncomputable def od(ps:List ij)(gs:List eZ):Int :=
 if gs.length<=20 then if wQ ps [] gs=0 then if gs.all (fun g=>g.subs.all (isG gs))=true then if gs.any (fun g=>(below gs g.id).contains g.id)=true then 17 else 0 else 9 else wQ ps [] gs else 11
end
section
attribute [local irreducible] bB cX cZ aB bS dE
attribute [local go_sem] and_self aR cY eE
def clo_of{gs:List eZ}(h:gs.all (fun g=>g.subs.all (isG gs))=true):Clo gs:=by
 intro g hg s hs;simp only[Vb]at h;exact h g hg s hs
def checkR{v w:AV}{gs:List eZ}{ps:List ij}(h:ko v gs)(hw:bq 3 (ps.map fF) w)(JP:ps.length<=1000)(hn:∀g∈gs,g.name.size<=1048576):aB CX 58 [w,v] (· = .int .i64 (od ps gs)):=by
 have J3:=fun S=>h.sl.snap (S:=S);have Ow:=hw.snap;have Kr:=h.len;by_cases k1:20<(gs.length:Int)
 .refine aL fx58 ?_;refine b8 (lk h.sl) ?_;simp only[go_sem];have:¬gs.length<=20:=by omega
  simp[od,this]
 have l20:gs.length<=20:=by omega
 refine aL fx58 ?_;refine b8 (lk h.sl) ?_;have NM:ac (gs.length<=20):=⟨l20⟩;clear k1 l20;refine aF [4,5,6,16,17,18,19,20,21,22,23,24,25] 15 gs (fun pre post=>wQ ps [] gs=wQ ps pre post) ?_ ?_ ?_ ?_
 .rfl
 .rfl
 rotate_left
 .intro g G pre x post h1 hE;have lt1:(pre.length:Int)<(gs.length:Int):=by rw[h1];simp;omega
  have w1:=am (n:=pre.length) (by rw[h1]at Kr;simp at Kr;omega);have q:=(oneR h hw JP h1 (hn x (by rw[h1];simp))).rw;have IW:ac (gs=pre++x::post):=⟨h1⟩;have JL:ac (wQ ps [] gs=wQ ps pre (x::post)):=⟨hE⟩;clear h1 hE;obtain⟨e,he⟩:∃e,vv ps pre x=e:=⟨_,rfl⟩;have NP:ac (vv ps pre x=e):=⟨he⟩;rw[he]at q;clear he;simp only[aj,aq,ah,an,UC,UD];by_cases k2:e=0
  .subst k2;have z:((0:Int) != 0)=false:=rfl;refine wk ?_;refine aA IW.out ?_ ?_ ?_
   .rw[JL.out,wQ,if_pos NP.out]
   .exact aQ
   .exact dk
  .refine wk ?_;simp only[go_sem];have e1:wQ ps [] gs=e:=by rw[JL.out,wQ,NP.out,if_neg k2]
   simp[od,NM.out,e1,k2]
 intro g G hE;have JL:ac (wQ ps [] gs=0):=⟨hE⟩;clear hE;refine b8 (lk h.sl) ?_;refine aF [4,7,8,29,30,31,32,33,34,35,36,37,38,39,40,41,42,43,44,45,46,47,48,49,50,51,52] 28 gs (fun pre post=>gs.all (fun g=>g.subs.all (isG gs))=post.all (fun g=>g.subs.all (isG gs))) ?_ ?_ ?_ ?_
 .rfl
 .rfl
 rotate_left
 .intro g G pre x post h1 hE;have i0:=ay h.sl (X:=CX) ty41 ty218 rfl (n:=pre.length) (row:=eE x) (k := .i64) (uT eE h1);have lt1:(pre.length:Int)<(gs.length:Int):=by rw[h1];simp;omega
  have w1:=am (n:=pre.length) (by rw[h1]at Kr;simp at Kr;omega);have Jg:x∈gs:=by rw[h1];simp
  have hx:=h.ok x Jg;have KJ:=h.subs x Jg;have c1:=hx.pv.cell;have c2:=hx.sv.cell;have s1:=hx.pv.snap;have s2:=hx.sv.snap;have IW:ac (gs=pre++x::post):=⟨h1⟩;have JL:ac (gs.all (fun g=>g.subs.all (isG gs))=(x::post).all (fun g=>g.subs.all (isG gs))):=⟨hE⟩;clear h1 hE Jg;refine wk3 @bj @aI (lk hx.sv) ?_;refine aF [4,8,38,39,40,41,42,43,44,45,46,47,48,49,50,51] 37 x.subs (fun _ post=>x.subs.all (isG gs)=post.all (isG gs)) ?_ ?_ ?_ ?_
  .rfl
  .rfl
  .intro g' G' hS;have RO:ac (x.subs.all (isG gs)=true):=⟨by rw[hS];rfl⟩;clear hS;refine wk ?_;refine aA IW.out ?_ ?_ ?_
   .rw[JL.out,U1,RO.out,VB]
   .exact aQ
   .exact dk
  .intro g' G' pr y po h2 hS;have j1:=ay hx.sv (X:=CX) ty31 ty3 rfl (by rw[h2];exact dp pr y po) (k := .i64);have lt2:(pr.length:Int)<(x.subs.length:Int):=by rw[h2];simp;omega
   have w2:=am (n:=pr.length) (by omega);have q:=(DI h y).rw;have I7:ac (x.subs=pr++y::po):=⟨h2⟩;have RO:ac (x.subs.all (isG gs)=(y::po).all (isG gs)):=⟨hS⟩;clear h2 hS;simp only[aj,aq,ah,an,UC,UD];rcases kT gs y with ⟨k5,e2⟩|⟨a,b,k5,e2,e3⟩
   rotate_left
   .rw[e3]at q;have z:¬(a.length:Int)<0:=by omega
    clear e2 e3;refine pz @bj @aI ?_;refine aA I7.out ?_ ?_ ?_
    .rw[RO.out,U1,k5,VB]
    .exact aQ
    .exact dk
   .rw[e2]at q;have z:(-1:Int)<0:=by omega
    clear e2;refine pz @bj @aI ?_;simp only[go_sem];have e:gs.all (fun g=>g.subs.all (isG gs))=false:=by rw[JL.out,U1,RO.out,U1,k5,VM,VM]
    have e':¬gs.all (fun g=>g.subs.all (isG gs))=true:=by rw[e];decide
    rw[od,if_pos NM.out,if_pos (by assumption:ac (wQ ps [] gs=0)).out,if_neg e']
 intro g' G' hA;have OW:ac (gs.all (fun g=>g.subs.all (isG gs))=true):=⟨by rw[hA];rfl⟩;clear hA;simp only[aj,aq,ah,an,UC,UD];generalize G++G'=G0;refine b8 (lk h.sl) ?_;refine aF [4,9,56,57,58,59,60,61,62,63,64,65,66,67,68,69,70,71] 55 gs (fun pre post=>gs.any (fun g=>(below gs g.id).contains g.id)=post.any (fun g=>(below gs g.id).contains g.id)) ?_ ?_ ?_ ?_
 .rfl
 .rfl
 .intro g G hE;have RP:ac (gs.any (fun g=>(below gs g.id).contains g.id)=false):=⟨by rw[hE];rfl⟩;clear hE;refine wk ?_;simp only[go_sem];have e':¬gs.any (fun g=>(below gs g.id).contains g.id)=true:=by rw[RP.out];decide
  rw[od,if_pos NM.out,if_pos JL.out,if_pos OW.out,if_neg e']
 .intro g G pre x post h1 hE;have i0:=ay h.sl (X:=CX) ty41 ty218 rfl (n:=pre.length) (row:=eE x) (k := .i64) (uT eE h1);have lt1:(pre.length:Int)<(gs.length:Int):=by rw[h1];simp;omega
  have w1:=am (n:=pre.length) (by rw[h1]at Kr;simp at Kr;omega);have Jg:x∈gs:=by rw[h1];simp
  have hx:=h.ok x Jg;have c1:=hx.pv.cell;have c2:=hx.sv.cell;have s1:=hx.pv.snap;have s2:=hx.sv.snap;have IW:ac (gs=pre++x::post):=⟨h1⟩;have RP:ac (gs.any (fun g=>(below gs g.id).contains g.id)=(x::post).any (fun g=>(below gs g.id).contains g.id)):=⟨hE⟩;have JV:=vG gs x.id;have q:=(Hf h x.id).rw;rw[Bb (clo_of OW.out)]at q;clear h1 hE Jg;simp only[aj,aq,ah,an,UC,UD];obtain⟨GG,NZ⟩:∃GG,GG=G0++G:=⟨_,rfl⟩;rw[<-NZ];have hhG:ac (GG=G0++G):=⟨NZ⟩;clear NZ;have q2:=(has1 (.tsl false 1 (az (below gs x.id))) _ x.id (.rows false) (by omega)).rw;by_cases k5:(below gs x.id).contains x.id=true
  .rw[k5]at q2;refine pz @bj @aI ?_;simp only[go_sem];have e:gs.any (fun g=>(below gs g.id).contains g.id)=true:=by rw[RP.out,V4,k5,Wu]
   rw[od,if_pos NM.out,if_pos JL.out,if_pos OW.out,if_pos e]
  .have k5:(below gs x.id).contains x.id=false:=by simpa using k5
   rw[k5]at q2;refine pz @bj @aI ?_;refine aA IW.out ?_ ?_ ?_
   .rw[RP.out,V4,k5,V9]
   .exact aQ
   .rw[hhG.out];exact dk
end
section
attribute [local irreducible] bB cX cZ aB bS dE
attribute [local go_sem] and_self List.any_nil
def known(gs:List eZ)(n:Int):Bool:=gs.any fun g=>g.id == n
attribute [local go_sem] known
def exists44(v:AV)(gs:List eZ)(n:Int)(hv:bq 4 (gs.map eE) v)(hl:gs.length<9223372036854775807):aB CX 165 [v,.int .i64 n] (· = .bool (known gs n)):=by
 refine aL fx165 ?_;refine b8 (lk hv) ?_;refine aF [4,6,7,8,9,10,11,12,13,14,15,16,17,18] 5 gs (fun _ post=>known gs n=known post n) ?_ ?_ ?_ ?_
 .rfl
 .rfl
 .intro g G h2;rw[h2];simp only[aj,aq,ah,an,UC,UD];exact fm (lk hv)
 .intro g G pre x post h1 h2;rw[h2];subst h1;simp only[aj,aq,ah,an,UC,UD];have i1:=ay hv (X:=CX) ty41 ty218 rfl (eK eE pre x post) (k := .i64);have w1:=am (n:=pre.length) (by simp at hl;omega);repeat' (first|refine dn ?_|refine ad rfl ?_|(refine dI fun A B a b=>?_;simp only[go_sem, *,aR,cY,au hv,eE];(repeat' first|apply a.1|apply b.1|refine aV (fun h=>?_) fun h=>?_)<;>clear a b A B))
  .simp only[go_sem];simp[known,h]
  .refine aA rfl ?_ ?_ ?_
   .simp[known,h]
   .exact aQ
   .exact dk
def jp(gs:List eZ):List Int->List Int->Int
 | _,[]=>0
 | pre,n::l=>if (0:Int)<(pre.length:Int)/\n<=pre.getLastD 0 then 10 else if known gs n=true then jp gs (pre++[n]) l else 9
end
section
attribute [local irreducible] bB cX cZ aB bS dE
def lc(groups:List eZ)(lv:Int)(gs:List Int)(un:Int):Int :=
 if lv<0\/3<lv then 14 else if lv≠2/\(0:Int)<(gs.length:Int) then 1 else if lv=2/\(gs.length:Int)=0 then 4
 else if jp groups [] gs≠0 then jp groups [] gs else if un<0\/109573<un then 12 else 0
theorem check15(v gv:AV)(groups:List eZ)(lv un:Int)(gs:List Int)(hv:bq 4 (groups.map eE) v)(hw:bq 1 (az gs) gv)(hg:groups.length<9223372036854775807)(hl:gs.length<9223372036854775807) :
  aB CX 119 [v,.agg [.int .i64 lv,gv,.int .i64 un]] (· = .int .i64 (lc groups lv gs un)):=by
 have c1:=hw.cell;refine aL fx119 ?_;simp only[UB,UE,UF,UH,Nat.reduceAdd,Nat.reduceSub,List.replicate];repeat' (first|refine dn ?_|refine ad rfl ?_|(refine dI fun A B a b=>?_;simp only[go_sem, *,au hw,aC,hw.snap,hv.snap];(repeat' first|apply a.1|apply b.1|refine aV (fun h=>?_) fun h=>?_)<;>clear a b A B))
 all_goals first
  |(exfalso;omega)
  |(simp only[aO,aP,bg,cH,cb,cG,cI,cA,cE,aN,go_sem,and_self];simp only[lc, *,if_true,if_false,true_or,or_true,and_true,true_and,ne_eq,not_true_eq_false,not_false_eq_true,false_and,and_false,or_self,false_or,or_false,U3,VB,WC,VM,WF,Wu,Bool.or_true,V9,Bool.or_false,Wv,WO,decide_true,decide_false,not_false_iff,reduceIte];(try simp);done)
  | skip
 all_goals
  have hF:lc groups lv gs un=if jp groups [] gs≠0 then jp groups [] gs else if un<0\/109573<un then 12 else 0:=by
   unfold lc;rw[if_neg (by omega),if_neg (by omega),if_neg (by omega)]
  rw[hF];clear hF;refine aF [4,32,33,34,35,36,37,38,39,40,41,42,43,44,45,46,47,48,49,50,51,52,53,54,55,56,57,58,59,60,61,62] 5 gs (fun pre post=>jp groups [] gs=jp groups pre post) ?_ ?_ ?_ ?_
  .rfl
  .rfl
  .intro g G h2;rw[h2];simp only[aj,aq,ah,an,UC,UD];repeat' (first|refine dn ?_|refine ad rfl ?_|(refine dI fun A B a b=>?_;simp only[go_sem, *,aC,UI,Int.lt_irrefl,UH,au hw];(repeat' first|apply a.1|apply b.1|refine aV (fun h=>?_) fun h=>?_)<;>clear a b A B))
   all_goals simp only[aO,aP,bg,cH,cb,cG,cI,cA,cE,aN,go_sem,and_self]
   all_goals simp[jp, *]
  .intro g G pre x post h1 h2;rw[h2];subst h1;simp only[aj,aq,ah,an,UC,UD];have i1:=ay hw (X:=CX) ty31 ty3 rfl (dp pre x post) (k := .i64);have i2:=AK hw hl (X:=CX) ty31 ty3 rfl (k := .i64);have w1:=am (n:=pre.length) (by simp at hl;omega);repeat' (first|refine dn ?_|refine ad rfl ?_|(refine dI fun A B a b=>?_;simp only[go_sem, *,bZ,cr,ly,jf,aR,aC,UI,cY,UH,au hw,hv.snap,(exists44 v groups x hv hg).rw];(repeat' first|apply a.1|apply b.1|refine aV (fun h=>?_) fun h=>?_)<;>clear a b A B))
   all_goals first
    |(simp only[aO,aP,bg,cH,cb,cG,cI,cA,cE,aN,go_sem,and_self]
      simp only[jp, *,false_and,and_false,if_true,if_false,U3];simp;done)
    |(refine aA rfl ?_ ?_ ?_
      .have Km:¬((0:Int)<(pre.length:Int)/\x<=pre.getLastD 0):=by rintro⟨_,_⟩;contradiction
       rw[jp,if_neg Km,if_pos (by simpa using h)]
      .exact aQ
      .exact dk)
end
section
attribute [local irreducible] bB cX cZ aB bS dE
attribute [local go_sem] and_self fe fE
def rightN(a b:Int):aB CX 118 [.agg [.int .i64 a,.int .i64 b]] (· = .bool (dX (a,b))):=by
 refine aL fx118 ?_;simp only[UB,UE,UF,UH,Nat.reduceAdd,Nat.reduceSub,List.replicate];repeat' (first|refine dn ?_|refine ad rfl ?_|(refine dI fun A B a b=>?_;simp only[go_sem, *];(repeat' first|apply a.1|apply b.1|refine aV (fun h=>?_) fun h=>?_)<;>clear a b A B))
 all_goals simp only[go_sem]
 all_goals simp[dX, *]
def spOK(s:Int×Int):Bool:=((s.1 == 0) && (s.2 == 0)) || dX s
def z7(x:Ru)(r:lO):Bool:=(r.id == x.rc) && decide (r.len<x.sp.2)
def kF(recs:List lO)(gs:List eZ)(x:Ru):Int :=
 if jA x.rc=true then if spOK x.sp=true then if recs.any (z7 x)=true then 12 else lc gs x.lv x.gl x.un else 12 else 2
def gW(recs:List lO)(gs:List eZ):List Ru->Int
 | []=>0
 | x::l=>if kF recs gs x=0 then gW recs gs l else kF recs gs x
noncomputable def mL(ps:List ij)(recs:List lO)(gs:List eZ)(cs:List gw)(rs:List Ru):Int :=
 if qv ps=0 then if iH ps recs=0 then if od ps gs=0 then if qB ps cs=0 then if rs.length<=60 then gW recs gs rs else 11 else qB ps cs else od ps gs else iH ps recs else qv ps
theorem ruleR{pv gv cv rv u:AV}{ps:List ij}{gs:List eZ}{cs:List gw}{rs:List Ru}{recs:List lO}(h:Hm pv gv cv rv ps gs cs rs)(hu:bq 5 (recs.map fE) u)(hok:∀r∈recs,r.ok)(hl:recs.length<=1000)(Kr:gs.length<=1000)(x:Ru)(hx:x.ok)(JQ:x.gl.length<=1050000) :
  aB CX 60 [u,.agg [pv,gv,cv,rv],.agg (fe x)] (· = .int .i64 (kF recs gs x)):=by
 have c1:=h.p.cell;have c2:=h.g.cell;have c3:=h.c.cell;have c4:=h.r.cell;have c5:=hx.sl.cell;have s2:=h.g.snap;have s5:=hx.sl.snap;have su:=hu.snap;have qi:=(kR x.rc).rw;have qr:=(rightN x.sp.1 x.sp.2).rw;have qc:=(check15 gv x.gv gs x.lv x.un x.gl h.g hx.sl (by omega) (by omega)).rw;have hE:kF recs gs x=if jA x.rc=true then if spOK x.sp=true then if recs.any (z7 x)=true then 12 else lc gs x.lv x.gl x.un else 12 else 2:=rfl
 have hS:spOK x.sp=(((x.sp.1 == 0) && (x.sp.2 == 0)) || dX (x.sp.1,x.sp.2)):=rfl;cases k1:jA x.rc with
 | false=>
  rw[k1]at hE qi;rw[hE];clear hE hS k1;refine aL fx60 ?_;exact wf
 | true=>
  rw[k1,if_pos rfl]at hE;rw[k1]at qi;clear k1
  have ways:((x.sp.1 == 0)=true/\(x.sp.2 == 0)=true)\/((x.sp.1 == 0)=true/\(x.sp.2 == 0)=false)\/(x.sp.1 == 0)=false:=by
   cases (x.sp.1 == 0)<;>cases (x.sp.2 == 0)<;>simp
  cases k2:spOK x.sp with
  | false=>
   rw[k2]at hE;rw[hE]
   have k3:dX (x.sp.1,x.sp.2)=false:=by
    cases e:dX (x.sp.1,x.sp.2) with
    | false=>rfl
    | true=>rw[hS,e,Bool.or_true]at k2;cases k2
   rw[k3]at qr;clear hE;rcases ways with ⟨b1,b2⟩|⟨b1,b2⟩|b1
   .rw[hS,b1,b2]at k2;cases k2
   all_goals
    clear hS k2 k3;refine aL fx60 ?_;exact wf
  | true=>
   rw[k2,if_pos rfl]at hE;obtain⟨R,hR⟩:∃R,kF recs gs x=R:=⟨_,rfl⟩;have JL:ac (R=if recs.any (z7 x)=true then 12 else lc gs x.lv x.gl x.un):=⟨by rw[<-hR,hE]⟩;rw[hR];clear hE hR
   have qr2:((x.sp.1 == 0)=true/\(x.sp.2 == 0)=true)\/(((x.sp.1 == 0)=true/\(x.sp.2 == 0)=false)\/(x.sp.1 == 0)=false)/\dX (x.sp.1,x.sp.2)=true:=by
    rcases ways with w|w|w
    .exact .inl w
    .refine .inr ⟨.inl w,?_⟩;rw[hS,w.1,w.2]at k2;exact k2
    .refine .inr ⟨.inr w,?_⟩;rw[hS,w]at k2;exact k2
   clear ways k2 hS;rcases qr2 with ⟨b1,b2⟩|⟨⟨b1,b2⟩|b1,k3⟩;all_goals (try rw[k3]at qr)
   all_goals (try clear k3)
   all_goals
    refine aL fx60 ?_;refine b8 (lk hu) ?_;refine aF [6,7,25,26,27,28,29,30,31,32,33,34,35,36,37,38,39,40,41,42,43,44,45,46] 24 recs (fun pre _=>pre.any (z7 x)=false) ?_ ?_ ?_ ?_
    .rfl
    .rfl
    .intro g G hA;have e:R=lc gs x.lv x.gl x.un:=by rw[JL.out,hA];rfl
     rw[e];clear e hA JL;exact wf
    .intro g G pre r post h1 hA;have IZ:pre.length<recs.length:=by rw[h1];simp
     have lt1:(pre.length:Int)<(recs.length:Int):=by omega
     have w1:=am (n:=pre.length) (by omega);have i0:=ay hu (X:=CX) ty85 ty70 rfl (n:=pre.length) (row:=fE r) (k := .i64) (by rw[h1];exact eK fE pre r post);have Sy:r∈recs:=by rw[h1];simp
     have hr:=hok r Sy;have d1:=hr.sv.cell;have IW:ac (recs=pre++r::post):=⟨h1⟩;have NA:ac (z7 x r=true->R=12):=⟨fun e=>by rw[JL.out,if_pos (VQ.2 ⟨r,Sy,e⟩)]⟩;have Km:ac (z7 x r=false->(pre++[r]).any (z7 x)=false):=⟨fun e=>by rw[Xv,hA];simp[e]⟩;have ho:z7 x r=((r.id == x.rc) && decide (r.len<x.sp.2)):=rfl;clear h1 IZ hA Sy JL;cases e1:(r.id == x.rc) with
     | false=>
      rw[e1]at ho;have I7:=Km.out ho;have M6:ac ((pre++[r]).any (z7 x)=false):=⟨I7⟩;clear ho I7 NA Km;refine wk ?_;refine aA IW.out M6.out ?_ ?_
      .exact aQ
      .exact dk
     | true=>
      by_cases e2:r.len<x.sp.2
      .have e:R=12:=NA.out (by rw[ho,e1];simp[e2]);rw[e];clear e ho NA Km;exact wf
      .have M6:ac ((pre++[r]).any (z7 x)=false):=⟨Km.out (by rw[ho,e1];simp[e2])⟩;clear ho NA Km;refine wk ?_;refine aA IW.out M6.out ?_ ?_
       .exact aQ
       .exact dk
end
section
variable {cs:List gw}{cv gv pv rv:AV}{gs:List eZ}{ps:List ij}{rs:List Ru}
attribute [local irreducible] bB cX cZ aB bS dE
def iZ(h:jC ps gs cs rs=true) :
  ps.length<=50/\gs.length<=25/\cs.length<=65/\rs.length<=65/\(∀p∈ps,p.name.size<=1048576)/\(∀g∈gs,g.name.size<=1048576/\g.people.length<=1048576/\g.subs.length<=1048576)/\∀x∈rs,x.gl.length<=1048576:=by
 simp only[jC,UT,decide_eq_true_eq,Vb,fewG]at h;obtain⟨⟨⟨⟨⟨⟨h1,h2⟩,h3⟩,h4⟩,h5⟩,h6⟩,h7⟩:=h;exact⟨h1,h2,h3,h4,h5,fun g hg=>⟨(h6 g hg).1.1,(h6 g hg).1.2,(h6 g hg).2⟩,h7⟩
def Hm.gsok(h:Hm pv gv cv rv ps gs cs rs)(hf:jC ps gs cs rs=true):ko gv gs :=
 ⟨h.g,h.go,h.gt,by have:=(iZ hf).2.1;omega,fun g hg=>by have:=((iZ hf).2.2.2.2.2.1 g hg).2.2;omega,fun g hg=>by have:=((iZ hf).2.2.2.2.2.1 g hg).2.1;omega⟩
def chkR45{u:AV}{recs:List lO}(h:Hm pv gv cv rv ps gs cs rs)(hu:bq 5 (recs.map fE) u)(hok:∀r∈recs,r.ok)(hl:recs.length<=1000)(hf:jC ps gs cs rs=true)
  (qrec:aB CX 57 [pv,u] (· = .int .i64 (iH ps recs))):aB CX 23 [u,.agg [pv,gv,cv,rv]] (· = .int .i64 (mL ps recs gs cs rs)):=by
 obtain⟨f1,f2,f3,f4,f5,f6,f7⟩:=iZ hf;have MJ:=h.gsok hf;have c1:=h.p.cell;have c2:=h.g.cell;have c3:=h.c.cell;have c4:=h.r.cell;have s1:=h.p.snap;have s2:=h.g.snap;have s3:=h.c.snap;have s4:=h.r.snap;have su:=hu.snap;have q1:=(GJ h.p (by omega) (fun p hp=>by have:=f5 p hp;omega)).rw;have q2:=qrec.rw;have q3:=(checkR MJ h.p (by omega) (fun g hg=>by have:=(f6 g hg).1;omega)).rw;have q4:=(cnsR h.c h.p (by omega)).rw;have hE:mL ps recs gs cs rs=if qv ps=0 then if iH ps recs=0 then if od ps gs=0 then if qB ps cs=0 then if rs.length<=60 then gW recs gs rs else 11 else qB ps cs else od ps gs else iH ps recs else qv ps:=rfl
 generalize qv ps=e1 at*;generalize iH ps recs=e2 at*;generalize od ps gs=e3 at*;generalize qB ps cs=e4 at*;clear qrec MJ;obtain⟨R,hR⟩:∃R,mL ps recs gs cs rs=R:=⟨_,rfl⟩;rw[hR]at hE ⊢;clear hR;by_cases k1:e1=0
 rotate_left
 .rw[if_neg k1]at hE;have b1:(e1 == 0)=false:=beq_false_of_ne k1;rw[hE];clear hE k1;refine aL fx23 ?_;exact wf
 subst k1;rw[if_pos rfl]at hE;by_cases k1:e2=0
 rotate_left
 .rw[if_neg k1]at hE;have b1:(e2 == 0)=false:=beq_false_of_ne k1;rw[hE];clear hE k1;refine aL fx23 ?_;exact wf
 subst k1;rw[if_pos rfl]at hE;by_cases k1:e3=0
 rotate_left
 .rw[if_neg k1]at hE;have b1:(e3 == 0)=false:=beq_false_of_ne k1;rw[hE];clear hE k1;refine aL fx23 ?_;exact wf
 subst k1;rw[if_pos rfl]at hE;by_cases k1:e4=0
 rotate_left
 .rw[if_neg k1]at hE;have b1:(e4 == 0)=false:=beq_false_of_ne k1;rw[hE];clear hE k1;refine aL fx23 ?_;exact wf
 subst k1;rw[if_pos rfl]at hE;by_cases k1:60<(rs.length:Int)
 .rw[if_neg (by omega)]at hE;rw[hE];clear hE;refine aL fx23 ?_;exact fm (lk h.r)
 rw[if_pos (by omega)]at hE;have JL:ac (R=gW recs gs rs):=⟨hE⟩;clear hE;refine aL fx23 ?_;refine b8 (lk h.r) ?_;clear k1;refine aF [4,5,6,44,45,46,47,48,49,50,51,52,53,54,55,56,57] 43 rs (fun _ post=>gW recs gs rs=gW recs gs post) ?_ ?_ ?_ ?_
 .rfl
 .rfl
 .intro g G hA;have e:R=0:=by rw[JL.out,hA];rfl
  rw[e];clear e hA JL;exact wf
 intro g G pre x post h1 hA;have IZ:pre.length<rs.length:=by rw[h1];simp
 have lt1:(pre.length:Int)<(rs.length:Int):=by omega
 have w1:=am (n:=pre.length) (by omega);have i0:=ay h.r (X:=CX) ty43 ty55 rfl (n:=pre.length) (row:=fe x) (k := .i64) (by rw[h1];exact eK fe pre x post);have Jg:x∈rs:=by rw[h1];simp
 have hx:=h.ro x Jg;have d1:=hx.sl.cell;have t1:=hx.sl.snap;have q5:=(ruleR h hu hok hl (by omega) x hx (by have:=f7 x Jg;omega)).rw;have IW:ac (rs=pre++x::post):=⟨h1⟩;have OW:ac (gW recs gs rs=gW recs gs (x::post)):=⟨hA⟩;clear h1 IZ hA Jg;obtain⟨e,he⟩:∃e,kF recs gs x=e:=⟨_,rfl⟩;rw[he]at q5;have NP:ac (kF recs gs x=e):=⟨he⟩;clear he;simp only[fe]at i0 q5;by_cases k2:e=0
 .subst k2;refine b8 (lk h.r) ?_;refine aA IW.out ?_ ?_ ?_
  .rw[OW.out,gW,if_pos NP.out]
  .exact aQ
  .exact dk
 .have b1:(e == 0)=false:=beq_false_of_ne k2;have eR:R=e:=by rw[JL.out,OW.out,gW,NP.out,if_neg k2]
  rw[eR];clear eR OW NP JL k2;exact fm (lk h.r)
end
section
variable {cs:List gw}{gs:List eZ}{ps:List ij}{rs:List Ru}
attribute [local irreducible] bB cX cZ aB bS dE
def check42L{v w:AV}(h:bq 4 (gs.map eE) v)(hw:bq 3 (ps.map fF) w)(k:(20:Int)<(gs.length:Int)):aB CX 58 [w,v] (· = .int .i64 11):=by
 refine aL fx58 ?_;exact fm (lk h)
structure Hn (ps:List ij) (gs:List eZ) (cs:List gw) (rs:List Ru):Prop where
 p:ps.length<=1048576
 pn:∀p∈ps,p.name.size<=1048576
 g:gs.length<=1048576
 gi:∀g∈gs,g.name.size<=1048576/\g.people.length<=1048576/\g.subs.length<=1048576
 c:cs.length<=1048576
 r:rs.length<=1048576
 ri:∀x∈rs,x.gl.length<=1048576
def Hn.few(h:Hn ps gs cs rs)(h1:ps.length<=50)(h2:gs.length<=25)(h3:cs.length<=65)(h4:rs.length<=65):jC ps gs cs rs=true:=by
 simp only[jC,UT,decide_eq_true_eq,Vb,fewG];exact⟨⟨⟨⟨⟨⟨h1,h2⟩,h3⟩,h4⟩,h.pn⟩,fun g hg=>⟨⟨(h.gi g hg).1,(h.gi g hg).2.1⟩,(h.gi g hg).2.2⟩⟩,h.ri⟩
def Eb{pv gv cv rv u:AV}{recs:List lO}(h:Hm pv gv cv rv ps gs cs rs)(hf:Hn ps gs cs rs)(hu:bq 5 (recs.map fE) u)(hok:∀r∈recs,r.ok)(hl:recs.length<=1000)
  (qrec:aB CX 57 [pv,u] (· = .int .i64 (iH ps recs))):∃e,(e=0->mL ps recs gs cs rs=0/\jC ps gs cs rs=true)/\aB CX 23 [u,.agg [pv,gv,cv,rv]] (· = .int .i64 e):=by
 by_cases hs:ps.length<=50/\gs.length<=25/\cs.length<=65/\rs.length<=65
 .have I4:=hf.few hs.1 hs.2.1 hs.2.2.1 hs.2.2.2;exact⟨_,fun e=>⟨e,I4⟩,chkR45 h hu hok hl I4 qrec⟩
 have c1:=h.p.cell;have c2:=h.g.cell;have c3:=h.c.cell;have c4:=h.r.cell;have s1:=h.p.snap;have s2:=h.g.snap;have s3:=h.c.snap;have s4:=h.r.snap;have su:=hu.snap;have hr:=h.r;have q1:=(GJ h.p (by have:=hf.p;omega) hf.pn).rw;have q2:=qrec.rw;have NJ:qv ps=0->ps.length<=40:=fun h=>by unfold qv at h;split at h;assumption;cases h
 have JE:qB ps cs=0->cs.length<=60:=fun h=>by unfold qB at h;split at h;assumption;cases h
 refine aB.int ?_;by_cases k1:qv ps=0
 case neg=>
  have b1:(qv ps == 0)=false:=beq_false_of_ne k1;have hk:ac (qv ps≠0):=⟨k1⟩;generalize qv ps=e1 at*;clear k1 NJ JE h hf qrec hs;refine aL fx23 ?_;refine wk ?_;simp only[aO,aP,bg,cH,cb,cG,cI,cA,cE,aN,go_sem,and_self];exact⟨_,rfl,fun h=>absurd h hk.out⟩
 have MS:=NJ k1;rw[k1]at q1;by_cases k2:iH ps recs=0
 case neg=>
  have b1:(iH ps recs == 0)=false:=beq_false_of_ne k2;have hk:ac (iH ps recs≠0):=⟨k2⟩;generalize iH ps recs=e1 at*;clear k1 k2 NJ JE h hf qrec hs MS;refine aL fx23 ?_;refine wk ?_;simp only[aO,aP,bg,cH,cb,cG,cI,cA,cE,aN,go_sem,and_self];exact⟨_,rfl,fun h=>absurd h hk.out⟩
 rw[k2]at q2;by_cases k3:(20:Int)<(gs.length:Int)
 .have q3:=(check42L h.g h.p k3).rw;clear k1 k2 NJ JE h hf qrec hs MS k3;refine aL fx23 ?_;exact wf
 have MJ:ko gv gs:=⟨h.g,h.go,h.gt,by omega,fun g hg=>by have:=(hf.gi g hg).2.2;omega,fun g hg=>by have:=(hf.gi g hg).2.1;omega⟩;have q3:=(checkR MJ h.p (by omega) (fun g hg=>(hf.gi g hg).1)).rw;have q4:=(cnsR h.c h.p (by omega)).rw;by_cases k4:od ps gs=0
 case neg=>
  have b1:(od ps gs == 0)=false:=beq_false_of_ne k4;have hk:ac (od ps gs≠0):=⟨k4⟩;generalize od ps gs=e1 at*;clear k1 k2 NJ JE h hf qrec hs MS k3 k4 MJ;refine aL fx23 ?_;refine wk ?_;simp only[aO,aP,bg,cH,cb,cG,cI,cA,cE,aN,go_sem,and_self];exact⟨_,rfl,fun h=>absurd h hk.out⟩
 rw[k4]at q3;by_cases k5:qB ps cs=0
 case neg=>
  have b1:(qB ps cs == 0)=false:=beq_false_of_ne k5;have hk:ac (qB ps cs≠0):=⟨k5⟩;generalize qB ps cs=e1 at*;clear k1 k2 NJ JE h hf qrec hs MS k3 k4 k5 MJ;refine aL fx23 ?_;refine wk ?_;simp only[aO,aP,bg,cH,cb,cG,cI,cA,cE,aN,go_sem,and_self];exact⟨_,rfl,fun h=>absurd h hk.out⟩
 have TJ:=JE k5;rw[k5]at q4;have k6:60<(rs.length:Int):=by omega
 clear k1 k2 NJ JE h hf qrec hs MS k3 k4 k5 MJ TJ;refine aL fx23 ?_;exact fm (lk hr)
end
end Go.Eng
