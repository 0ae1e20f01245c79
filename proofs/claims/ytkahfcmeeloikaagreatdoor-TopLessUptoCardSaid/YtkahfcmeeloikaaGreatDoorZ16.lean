/- slices.Compact at ints, num.Sorted. -/
import Derived.Test.YtkahfcmeeloikaaGreatDoorZ15
set_option linter.all false
set_option maxHeartbeats 4000000
namespace Go.Eng
open Go.Proofs
section
variable {K:List AV->ab->Prop}{S:ab}{X:dV}{after:Array Edge}{b i len n off sz:Nat}{d pr:Bool}{dst:Option Tmp}{fr:List AV}{g:Option (Nat×Bool)}{k:IntKind}{pos:String}{rows:List (List AV)}{v:AV}
attribute [local irreducible] bB cX cZ aB bS dE
attribute [local go_sem] cM and_self AG mr HM dropD takeD encE
set_option maxRecDepth 20000
def eA:List Int->List Int
 | []=>[]
 | [x]=>[x]
 | x::y::l=>if x=y then eA (y::l) else x::eA (y::l)
theorem wpK_clear{ty:TypeId}{s:Operand}{t el:TypeId}{i ei:mN}{e wep:Nat}
  (ht:X.ty t=some i) (hd:i.desc = .slice el) (he:X.ty el=some ei) (hs:ak fr s = .sl b e off len sz) (hb:S[b]? = some (.arr rows sz wep pr))
  (h1:rows.length=e) (h2:wep<=e) (h3:sz=ei.size) (h4:ei.zero.length=sz) (h5:off+len<=e) (h6:len≠0)
  (hk:K (cj fr dst (.tup [])) (S.set b (.arr (rows.take off++List.replicate len ei.zero++rows.drop (off+len)) sz e pr))) :
  em X d ⟨dst,.call ⟨.builtin .clear,⟨[s]⟩,⟨[t]⟩⟩,ty,pos,after,g⟩ dst K fr S:=by
 obtain⟨a,bb,c,z,dd⟩:=i;simp only at hd;subst hd;rw[sB rfl rfl rfl rfl rfl];simp only[iz,ht,hs,he,hb];rw[if_pos ⟨h1,h2,h3,trivial,h4,h5⟩,if_neg h6];exact hk
def idxS{j:Nat}(h:j<len):aD CX 31 (.sl b n off len 1) (.int k j)=some (.ptr b n 1 (off+j) 0):=by
 have:(j:Int)<len:=by omega
 simp[aD,ty31,ty3,this]
attribute [local go_sem] idxS
theorem slcFrom(h0:0<i)(h:i<n):dW CX 31 (.sl b n 0 n 1) (some (.int k i)) none none=some (.sl b n i (n-i) 1):=by
 have h1:¬i=0:=by omega
 have h2:¬i=n:=by omega
 have h3:i<=n:=by omega
 simp[dW,ty31,ty3,dM,h1,h2,h3]
theorem slcTo(h:i<=n):dW CX 31 (.sl b n 0 n 1) none (some (.int k i)) none=some (.sl b n 0 i 1):=by
 simp[dW,ty31,ty3,dM,h]
def jB(d:Array Int)(i:Nat):List Int:=d.toList.drop i
def eV{d:Array Int}(h:i<d.size):jB d i=d[i]! :: jB d (i+1):=by
 unfold jB;rw[VT (by simpa using h)];simp[h]
def vo{d:Array Int}(h:d.size<=i):jB d i = []:=by simp[jB,h]
theorem ze(x:Int)(l:List Int):eA (x::l)=x::(eA (x::l)).tail:=by
 induction l generalizing x with
 | nil=>rfl
 | cons y l ih=>
  rw[eA];split
  .rename_i h;subst h;exact ih x
  .rfl
theorem take_set{l:List Int}{x:Int}(h:i<l.length):(l.set i x).take (i+1)=l.take i++[x]:=by
 rw[WB,List.take_set_of_le (UJ _)];simp[h]
theorem compE(A C:ab)(d:Array El)(n w:Nat)(hn:d.size=n)(hw:w<=n)(Le:n<4294967296) :
  bS CX 209 [.sl A.length n 0 n 1] (A ++ .arr (rowsD d) 1 w true::C)
   (fun v S=> ∃k d' w' C',v = .sl A.length n 0 k 1/\k<=n/\d'.size=n/\w'<=n/\S=A ++ .arr (rowsD d') 1 w' true::(C++C')/\d'.toList.take k=eA d.toList/\(k=n->d'=d)):=by
 by_cases h2:n<2
 .have PL:(n:Int)<2:=by omega
  refine tY fx209 ?_;refine wk ?_;simp only[go_sem];refine⟨n,d,w,[.arr [] 1 0 true],rfl,UJ _,hn,hw,rfl,?_,fun _=>rfl⟩;rw[Vm (by simp[hn])];obtain⟨l⟩:=d
  match l,hn with
  | [],_=>rfl
  | [x],_=>rfl
  | x::y::l,hn=>simp at hn;omega
 have PL:¬(n:Int)<2:=by omega
 refine tY fx209 ?_;refine wk ?_
 refine aJ [2,4,5,10,11,12,13,14,15,16,17,18,19,20,21,22,23,24,25,26,27,28,29,30,31,32,33,34,35,36,37,38,39,40,41,42,43,44,45,46,47,48,49,50,51,52,53,54,55,56,57,58,59] (fun i:Nat=>[(3,.int .i64 i)]) (fun _ G=>A ++ .arr (rowsD d) 1 w true::(C++G))
  (fun i=>0<i/\i<=n/\eA d.toList=d.toList.take (i-1)++eA (jB d (i-1))) (fun i=>n-i) 1 ⟨by omega,by omega,by simp[jB]⟩ ?_ ?_ ?_
 .rfl
 .exact⟨[.arr [] 1 0 true],rfl⟩
 rintro i g G ⟨PB,KF,hE⟩;simp only[aj,aq,ah,an,UC,UD];by_cases Ja:i<n
 .have S3:(i:Int)<(n:Int):=by omega
  have w1:IntKind.wrap .i64 ((i:Int)-1)=((i-1:Nat):Int):=by rw[wrap_small (by omega) (by omega)];omega
  have w2:=am (n:=i) (by omega);have j1:i-1<n:=by omega
  have e0:jB d (i-1)=d[i-1]! :: d[i]! :: jB d (i+1):=by
   rw[eV (by omega),show i-1+1=i by omega,eV (by omega)]
  by_cases JS:d[i]! = d[i-1]!
  .have s1:=slcFrom (b:=A.length) (n:=n) (i:=i) (k := .i64) PB Ja;have hh:ac (d[i]! = d[i-1]!):=⟨JS⟩;have QP:(d[i]! == d[i-1]!)=true:=by simpa using JS
   clear JS;refine wk ?_;have JS:=hh.out
   have hE1:eA d.toList=d.toList.take i++(eA (jB d i)).tail:=by
    have e1:eA (jB d (i-1))=eA (jB d i):=by
     rw[e0,JS,eA,if_pos rfl,eV (d:=d) (i:=i) (by omega),JS]
    rw[hE,e1]
    have:d.toList.take i=d.toList.take (i-1)++[d[i-1]!]:=by
     conv=>lhs;rw[show i=i-1+1 by omega]
     rw[WB];simp[show i-1<d.size by omega]
    rw[this,UX,eV (d:=d) (i:=i) (by omega),JS]
    conv=>lhs;rw[ze]
    rfl
   refine aJ [29,30,31,32,33,34,35,36,37,38,39,40,41,42,43,44,45,46,47,48,49,50,51,52,53] (fun p:Nat×Nat×Array Int×Nat=>[(3,.int .i64 p.1),(5,.int .i64 p.2.1)]) (fun p H=>A ++ .arr (rowsD p.2.2.1) 1 p.2.2.2 true::(C++H))
    (fun p=>i<=p.1/\1<=p.2.1/\p.1+1<=i+p.2.1/\p.2.1<=n-i/\p.2.2.1.size=n/\p.2.2.2<=n/\(∀j,i+p.2.1<=j+1->j<n->p.2.2.1[j]! = d[j]!)/\eA d.toList=p.2.2.1.toList.take p.1++(eA (jB d (i+p.2.1-1))).tail)
    (fun p=>n-p.2.1) (i,1,d,w) ⟨UJ _,UJ _,by simp only;omega,by simp only;omega,hn,hw,fun _ _ _=>rfl,hE1⟩ ?_ ?_ ?_
   .rfl
   .exact⟨_,rfl⟩
   clear hE hE1;rintro⟨i',k,d',w'⟩ g H ⟨hi1,hk1,Tj,MF,LD,Lx,QZ,hE⟩;simp only at hi1 hk1 Tj MF LD Lx QZ hE;simp only[aj,aq,ah,an,UC,UD];have i1:i'<n:=by omega
   by_cases hk:k<n-i
   .have NN:(k:Int)<((n-i:Nat):Int):=by omega
    have y1:IntKind.wrap .i64 ((k:Int)-1)=((k-1:Nat):Int):=by rw[wrap_small (by omega) (by omega)];omega
    have y2:=am (n:=k) (by omega);have y3:=am (n:=i') (by omega);have y4:k-1<n-i:=by omega
    have y5:i+k<n:=by omega
    have y6:i+(k-1)<n:=by omega
    have g1:=QZ (i+k) (by omega) y5;have g2:=QZ (i+(k-1)) (by omega) y6
    have f1:jB d (i+k-1)=d[i+(k-1)]! :: d[i+k]! :: jB d (i+k+1):=by
     rw[eV (by omega),show i+k-1+1=i+k by omega,eV (by omega),show i+k-1=i+(k-1) by omega]
    have f2:jB d (i+(k+1)-1)=d[i+k]! :: jB d (i+k+1):=by
     rw[show i+(k+1)-1=i+k by omega,eV (by omega)]
    obtain⟨x,hx⟩:∃x,d[i+(k-1)]! = x:=⟨_,rfl⟩;obtain⟨y,hy⟩:∃y,d[i+k]! = y:=⟨_,rfl⟩;rw[hx]at f1 g2;rw[hy]at f1 f2 g1;clear hx hy JS QP hh;rw[f1]at hE;by_cases Mz:y=x
    .subst Mz;refine wk ?_;refine ax (i',k+1,d',w') (by simp only;omega) ⟨hi1,by simp only;omega,by simp only;omega,by simp only;omega,LD,Lx,fun j h1 h2=>QZ j (by simp only at h1;omega) h2,?_⟩ ?_ ⟨_,rfl⟩
     .simp only[f2];rw[hE,eA,if_pos rfl]
     .exact aQ
    .have hxy':(y == x)=false:=by simpa using Mz
     have Sc:¬x=y:=fun e=>Mz e.symm;have I7:ac (¬y=x):=⟨Mz⟩;clear Mz;refine wk ?_;refine ax (i'+1,k+1,d'.setIfInBounds i' y,n) (by simp only;omega) ⟨by simp only;omega,by simp only;omega,by simp only;omega,by simp only;omega,by simp[LD],UJ _,fun j h1 h2=>?_,?_⟩ ?_ ⟨_,rfl⟩
     .simp only at h1
      have:(d'.setIfInBounds i' y)[j]! = d'[j]! := by
       have I8:i'≠j:=by omega
       simp[Array.getElem!_eq_getD,Array.getD,LD,h2,Array.getElem_setIfInBounds_ne,I8]
      rw[this];exact QZ j (by omega) h2
     .simp only[f2];rw[hE,eA,if_neg Sc,List.tail_cons,Wo,take_set (by simp;omega),UX]
      conv=>lhs;rw[ze]
      rfl
     .exact aQ
   .have NN:¬(k:Int)<((n-i:Nat):Int):=by omega
    have KE:i+k-1=n-1:=by omega
    have s2:=slcFrom (b:=A.length) (n:=n) (i:=i') (k := .i64) (by omega) i1;have s3:=slcTo (b:=A.length) (n:=n) (i:=i') (k := .i64) (by omega)
    have R5:eA d.toList=d'.toList.take i':=by
     rw[hE,KE,eV (d:=d) (i:=n-1) (by omega),vo (d:=d) (by omega)];simp[eA]
    clear JS QP hh;refine wk ?_;refine bK fun K hK=>?_;simp only[iV];refine wpK_clear ty31 rfl ty3 rfl (bZ.trans rfl) (by rw[mr];exact LD) Lx rfl rfl (by omega) (by omega) ?_;refine hK.out _ _ ?_;clear hK K
    have ed:(rowsD d').take i'++List.replicate (n-i') [AV.int .i64 0]++(rowsD d').drop (i'+(n-i'))=rowsD (d'.toList.take i'++List.replicate (n-i') 0).toArray:=by
     rw[WG (by rw[mr];omega)];simp[rowsD,encE,Xr]
    simp only[ly,UC,ed];refine wk ?_;simp only[go_sem];refine⟨i',(d'.toList.take i'++List.replicate (n-i') 0).toArray,n,H,rfl,by omega,by simp[LD];omega,UJ _,rfl,?_,fun e=>by omega⟩;rw[R5];show (d'.toList.take i'++List.replicate (n-i') 0).take i'=_;rw[Wg (by simp[LD];omega),List.take_take,Nat.min_self]
  .refine wk ?_;refine ax (i+1) (by first|omega|(simp only;omega)) ⟨by omega,by omega,?_⟩ ?_ ⟨_,rfl⟩
   .rw[hE,e0,eA,if_neg (fun e=>JS e.symm),show i+1-1=i by omega,eV (d:=d) (i:=i) (by omega)]
    have:d.toList.take i=d.toList.take (i-1)++[d[i-1]!]:=by
     conv=>lhs;rw[show i=i-1+1 by omega]
     rw[WB];simp[show i-1<d.size by omega]
    rw[this,UX];rfl
   .exact aQ
 .have S3:¬(i:Int)<(n:Int):=by omega
  refine wk ?_;have hin':i=n:=by omega
  simp only[go_sem];refine⟨n,d,w,G,rfl,UJ _,hn,hw,rfl,?_,fun _=>rfl⟩;rw[Vm (by simp[hn]),hE,eV (by omega),vo (by omega)]
  conv=>lhs;rw[<-VW (i-1) d.toList]
  congr 1
  have:=eV (d:=d) (i:=i-1) (by omega);rw[vo (d:=d) (i:=i-1+1) (by omega)]at this;exact this
def compNil(S:ab):bS CX 209 [.flat (.slice none 0 0)] S (fun v S'=>v = .flat (.slice none 0 0)/\∃G,S'=S++G):=by
 have z:((0:Nat):Int)<2:=by omega
 refine tY fx209 ?_;exact wf
inductive Ag (l:List Int):AV->Prop
 | own:Ag l (.osl 1 (az l))
 | part:Ag l (.tsl true 1 (az l))
 | nil (h:l = []):Ag l (.flat (.slice none 0 0))
def bU(l:List Int):List Int:=eA (lS l)
def Bo{ty:TypeId} :
  em X d ⟨dst,.assign (.const .nilFunc),ty,pos,after,g⟩ dst K fr S=K (cj fr dst (.flat .nilFunc)) S:=(dL (some (.flat .nilFunc)) rfl rfl rfl rfl rfl).trans im
attribute [local go_sem] Bo
theorem bq.clean(h:bq sz rows v):v.clean=true:=by cases h<;>simp[AV.clean]
def Gk(v:AV)(S:ab)(hc:v.cell=true):bS CX 211 [v] S (fun r S'=>r = .fn 248 [.ptr S.length 1 1 0 0]/\∃pr,S'=S++[.arr [[v]] 1 0 pr]):=by
 have JA:(v.cells) = [v]:=by cases v<;>first|rfl|(simp[AV.cell]at hc)
 refine tY fx211 ?_;exact wf
def CO(h:S[b]? = some (.arr [[v]] 1 0 pr))(hc:v.clean=true):snap S (.ptr b 1 1 0 0)=some (.tptr false [v] 0):=by
 simp[snap,g9,h,jP,hc]
def sJ(v:AV)(l:List Int)(hv:bq 1 (az l) v)(hl:l.length<4294967296):∃r,Ag (bU l) r/\aB CX 174 [v] (· = r):=by
 have q:=(srtE v l false hv hl).rw;have c1:=hv.cell;have c2:=hv.clean;by_cases h:l = []
 .subst h;have e:nW (lS []) = .flat (.slice none 0 0):=by simp[nW,lS]
  rw[e]at q;refine⟨.flat (.slice none 0 0),.nil (by simp[bU,lS,eA]),?_⟩;refine aL fx174 ?_;simp only[UB,UE,UF,UH,Nat.reduceAdd,Nat.reduceSub,List.replicate];refine Cy ?_;refine bK fun K hK=>?_;simp only[go_sem];refine bS.mono (Gk v _ c1) ?_;rintro _ _ ⟨rfl,pr,rfl⟩;refine hK.out _ _ ?_;clear hK K;refine bK fun K hK=>?_;simp only[go_sem];have hs:snap [dY.arr [] 1 0 true,dY.arr [[v]] 1 0 pr] (.ptr 1 1 1 0 0)=some (.tptr false [v] 0):=CO rfl c2;have ha:∀id,dJ id (.flat (.slice none 0 0))=(.flat (.slice none 0 0),[]):=fun _=>rfl;simp only[hs,q,ha];refine hK.out _ _ ?_;clear hK K;refine bK fun K hK=>?_;simp only[go_sem];refine bS.mono (compNil _) ?_;rintro _ _ ⟨rfl,G,rfl⟩;refine hK.out _ _ ?_;clear hK K;refine wk ?_;simp only[go_sem];simp[iw,da,dR,ce,bI,AV.stab]
 .have e:nW (lS l) = .osl 1 (az (lS l)):=by rw[nW,if_neg (by rw[Gr];exact h)]
  rw[e]at q;obtain⟨n,hn⟩:∃n,(lS l).length=n:=⟨_,rfl⟩;have MU:n<4294967296:=by rw[<-hn,wZ];exact hl
  have run:∀r,(∀k (d':Array Int) w' S,k<=n->d'.size=n->w'<=n->S[2]? = some (.arr (rowsD d') 1 w' true)->d'.toList.take k=bU l->(k=n->d'=(lS l).toArray)->iw (· = r) (.sl 2 n 0 k 1) S)->aB CX 174 [v] (· = r):=by
   intro r OZ;refine aL fx174 ?_;simp only[UB,UE,UF,UH,Nat.reduceAdd,Nat.reduceSub,List.replicate];refine Cy ?_;refine bK fun K hK=>?_;simp only[go_sem];refine bS.mono (Gk v _ c1) ?_;rintro _ _ ⟨rfl,pr,rfl⟩;refine hK.out _ _ ?_;clear hK K;refine bK fun K hK=>?_;simp only[go_sem];have hs:snap [dY.arr [] 1 0 true,dY.arr [[v]] 1 0 pr] (.ptr 1 1 1 0 0)=some (.tptr false [v] 0):=CO rfl c2;simp only[hs,q,p9,aC,hn];refine hK.out _ _ ?_;clear hK K;refine bK fun K hK=>?_;simp only[go_sem];refine bS.mono (compE [.arr [] 1 0 true,.arr [[v]] 1 0 pr] [] (lS l).toArray n 0 (by simp[hn]) (U9 _) (by omega)) ?_;rintro _ _ ⟨k,d',w',C',rfl,hk,hd,hw,rfl,hE,Us⟩;refine hK.out _ _ ?_;clear hK K;refine wk ?_;simp only[aO,aP,bg,aN,bz,bH];refine OZ k d' w' _ hk hd hw ?_ hE Us;rfl
  have JY:∀(k:Nat) (d':Array Int),k<=n->d'.size=n->d'.toList.take k=bU l->k=(bU l).length:=fun k d' hk hd hE=>by
   rw[<-hE,Wh,VV,hd];omega
  by_cases LQ:(bU l).length=n
  .refine⟨.osl 1 (az (bU l)),.own,run _ fun k d' w' S hk hd hw hS hE Us=>?_⟩;have MF:k=n:=by rw[JY k d' hk hd hE,LQ]
   subst MF;have PC:rowsD d'=az (bU l):=by rw[sM,<-hE,Vm (by simp[hd])]
   rw[cA,hS];simp only;rw[if_pos ⟨trivial,by rw[mr,hd],hw,rfl⟩,PC]
  .refine⟨.tsl true 1 (az (bU l)),.part,run _ fun k d' w' S hk hd hw hS hE Us=>?_⟩;have MF:¬k=n:=fun e=>LQ (by rw[<-JY k d' hk hd hE,e]);have PC:(rowsD d').take k=az (bU l):=by rw[sM,mE,hE]
   have Jr:rowsOf S 1 (.sl 2 n 0 k 1)=some (az (bU l),true):=by
    rw[aM,hS];simp only;rw[if_pos ⟨trivial,trivial,hw,by omega,by rw[mr,hd];exact UJ _⟩,WN,PC]
   unfold iw;simp[da,dR,ce,bT,bI,MF,aW,Jr]
end
end Go.Eng
namespace Go.Eng
def cells_fn{f:FuncId}{l:List AV}:(AV.fn f l).cells = [.fn f l]:=rfl
def aI{id:Nat}:dJ id (.flat (.slice none 0 0))=(.flat (.slice none 0 0),[]):=rfl
def vr{R:AV->Prop}{S:ab}:iw R (.flat (.slice none 0 0)) S=R (.flat (.slice none 0 0)):=by simp[iw,da,dR,ce,bI,AV.stab]
def wT(l:List Int):Prop:=l.Pairwise (· < ·)
theorem gM:∀{a b:List Int},wT a->wT b->(∀x,x∈a↔x∈b)->a=b
 | [],[],_,_,_=>rfl
 | [],y::b,_,_,h=>absurd ((h y).mpr (by simp)) (by simp)
 | x::a,[],_,_,h=>absurd ((h x).mp (by simp)) (by simp)
 | x::a,y::b,ha,hb,h=>by
  have TT:=List.pairwise_cons.mp ha;have JC:=List.pairwise_cons.mp hb
  have Mz:x=y:=by
   have h1:=(h x).mp (by simp);have h2:=(h y).mpr (by simp);rcases List.mem_cons.mp h1 with h1|h1
   .exact h1
   .rcases List.mem_cons.mp h2 with h2|h2
    .exact h2.symm
    .have:=TT.1 _ h2;have:=JC.1 _ h1;omega
  subst Mz;rw[gM TT.2 JC.2 fun z=>?_];constructor
  .intro hz;have:=(h z).mp (by simp[hz]);rcases List.mem_cons.mp this with e|e
   .subst e;have:=TT.1 _ hz;omega
   .exact e
  .intro hz;have:=(h z).mpr (by simp[hz]);rcases List.mem_cons.mp this with e|e
   .subst e;have:=JC.1 _ hz;omega
   .exact e
theorem uS(n:Int):∀l:List Int,n∈eA l↔n∈l
 | []=>by simp[eA]
 | [x]=>by simp[eA]
 | x::y::l=>by
  rw[eA];have ih:=uS n (y::l);split
  .rename_i h;subst h;rw[ih];simp
  .rw[U2,ih];simp
theorem DS:∀{l:List Int},l.Pairwise (·<=·)->wT (eA l)
 | [],_=>by simp[eA,wT]
 | [x],_=>by simp[eA,wT]
 | x::y::l,h=>by
  rw[eA];have h':=List.pairwise_cons.mp h;have ih:=DS h'.2;split
  .exact ih
  .rename_i I8;refine List.pairwise_cons.mpr ⟨fun z hz=>?_,ih⟩;rw[uS]at hz;have h2:=List.pairwise_cons.mp h'.2;have:=h'.1 y (by simp);rcases List.mem_cons.mp hz with e|e
   .subst e;omega
   .have:=h2.1 z e;omega
def srt_le(l:List Int):(lS l).Pairwise (·<=·):=by
 have:=List.pairwise_mergeSort (le:=fun x y:Int=>decide (x<=y)) (by intro a b c;simp;omega) (by intro a b;simp;omega) l;exact this.imp (by simp)
def mem_srt(n:Int)(l:List Int):n∈lS l↔n∈l:=(List.mergeSort_perm l _).mem_iff
def fj(l:List Int):wT (bU l):=DS (srt_le l)
def mem_sorted(n:Int)(l:List Int):n∈bU l↔n∈l:=by rw[bU,uS,mem_srt]
theorem A5:∀l:List Int,(eA l).length<=l.length
 | []=>by simp[eA]
 | [x]=>by simp[eA]
 | x::y::l=>by
  rw[eA];have ih:=A5 (y::l);split
  .simp only[UB]at*;omega
  .simp only[UB]at*;omega
def mU(l:List Int):(bU l).length<=l.length:=by
 have:=A5 (lS l);rw[wZ]at this;exact this
def HD{l m:List Int}(h:∀x,x∈l↔x∈m):bU l=bU m:=gM (fj l) (fj m) fun x=>by rw[mem_sorted,mem_sorted,h]
end Go.Eng
namespace Go.Eng
open Go.Proofs
section
attribute [local irreducible] bB cX cZ aB bS dE
attribute [local go_sem] and_self List.contains_nil
def has1(v:AV)(l:List Int)(n:Int)(hv:bq 1 (az l) v)(hl:l.length<9223372036854775807):aB CX 115 [v,.int .i64 n] (· = .bool (l.contains n)):=by
 refine aL fx115 ?_;refine b8 (lk hv) ?_;refine aF [4,5,9,10,11,12,13,14,15,16,17] 8 l (fun _ post=>l.contains n=post.contains n) ?_ ?_ ?_ ?_
 .rfl
 .rfl
 .intro g G h2;rw[h2];simp only[aj,aq,ah,an,UC,UD];exact wf
 .intro g G pre x post h1 h2;rw[h2];subst h1;simp only[aj,aq,ah,an,UC,UD];have i1:=ay hv (X:=CX) ty31 ty3 rfl (dp pre x post) (k := .i64);have w1:=am (n:=pre.length) (by simp at hl;omega);repeat' (first|refine dn ?_|refine ad rfl ?_|(refine dI fun A B a b=>?_;simp only[go_sem, *,aR,cY];(repeat' first|apply a.1|apply b.1|refine aV (fun h=>?_) fun h=>?_)<;>clear a b A B))
  .simp only[go_sem,Xk]
   simp_all
  .refine aA rfl ?_ ?_ ?_
   .have:¬n=x:=fun e=>h e.symm;rw[Xk];simp[this]
   .exact aQ
   .exact dk
theorem same1(v w:AV)(l m:List Int)(hv:bq 1 (az l) v)(hw:bq 1 (az m) w)(hl:l.length<9223372036854775807):aB CX 199 [v,w] (· = .bool (decide (l=m))):=by
 refine aL fx199 ?_;simp only[UB,UE,UF,UH,Nat.reduceAdd,Nat.reduceSub,List.replicate];repeat' (first|refine dn ?_|refine ad rfl ?_|(refine dI fun A B a b=>?_;simp only[go_sem, *,au hv,au hw];(repeat' first|apply a.1|apply b.1|refine aV (fun h=>?_) fun h=>?_)<;>clear a b A B))
 .have IY:=h;clear h;refine aF [4,5,14,15,16,17,18,19,20,21,22,23,24,25] 13 l (fun pre post=> ∃Kh,m=pre++Kh) ?_ ?_ ?_ ?_
  .exact⟨m,rfl⟩
  .rfl
  .intro g G h2;obtain⟨Kh,h2⟩:=h2;have:Kh = []:=by have:=congrArg List.length h2;simp at this;exact UO (by omega)
   subst this;simp only[UM]at h2;subst h2;simp only[aj,aq,ah,an,UC,UD];exact wf
  .intro g G pre x post h1 h2;obtain⟨Kh,h2⟩:=h2;cases Kh with
   | nil=>subst h1 h2;simp at IY
   | cons y Kh=>
    subst h1 h2;simp only[aj,aq,ah,an,UC,UD];have i1:=ay hv (X:=CX) ty31 ty3 rfl (dp pre x post) (k := .i64);have i2:=ay hw (X:=CX) ty31 ty3 rfl (dp pre y Kh) (k := .i64);have w1:=am (n:=pre.length) (by simp at hl;omega);repeat' (first|refine dn ?_|refine ad rfl ?_|(refine dI fun A B a b=>?_;simp only[go_sem, *,aR,cY];(repeat' first|apply a.1|apply b.1|refine aV (fun h=>?_) fun h=>?_)<;>clear a b A B))
    .subst h;refine aA rfl ?_ ?_ ?_
     .exact⟨Kh,by simp⟩
     ·((try simp only[bh,bJ,ah,an,UC,UD]);all_goals (first|rfl|(simp only[aH,aC,UI];done)|(simp only[aH,aR,aC,UI,UG,UB,UE,UW];first|done|rfl)))
     .first|exact⟨[],(UM _).symm⟩|exact⟨_,rfl⟩|(simp only[UX,UF,UH];exact⟨_,rfl⟩)
    .simp only[go_sem];simp[h]
 .simp only[go_sem];have:l≠m:=by rintro rfl;simp at h
  simp[this]
end
section
attribute [local irreducible] bB cX cZ aB bS dE
attribute [local go_sem] U1 Vj List.replicate UC Vp Nat.reduceMul Vg eF d9 bP bt ci bN cM ba aY aS aM aX and_self
def put:List Int->Int->List Int
 | [],n=>[n]
 | x::l,n=>if x<n then x::put l n else if x=n then n::l else n::x::l
theorem BG:∀(l:List Int) (n:Int),(put l n).length<=l.length+1
 | [],n=>by simp[put]
 | x::l,n=>by
  unfold put;split
  .simp only[UB];have:=BG l n;omega
  .split<;>simp
theorem HP(st:Bool)(l:List Int)(n:Int)(hl:l.length<=1099511627776):aB CX 197 [.tsl st 1 (az l),.int .i64 n] (· = .osl 1 (az (put l n))):=by
 have hv:bq 1 (az l) (.tsl st 1 (az l)) := .rows st;refine aL fx197 ?_;refine wk ?_
 refine aJ [7,8,9,10,11,12,13,14,15,16,17,18,19,20,21,22,23,24,25,26,27] (fun a:List Int×List Int=>[(5,.sl 1 a.1.length 0 a.1.length 1),(6,.int .i64 a.1.length)]) (fun a G=> .arr [] 1 0 true :: .arr (az a.1) 1 0 true::G)
  (fun a=>l=a.1++a.2/\put l n=a.1++put a.2 n) (fun a=>a.2.length) ([],l) ⟨rfl,rfl⟩ ?_ ?_ ?_
 .rfl
 .exact⟨[],rfl⟩
 rintro⟨pre,post⟩ g G ⟨h1,h2⟩;simp only at h1 h2;rw[h2];subst h1;simp only[aj,aq,ah,an,UC,UD];simp only[UG]at hl;cases post with
 | nil=>
  simp only[UM]at*;obtain⟨b1,b2⟩:=app1 (n:=pre.length) (by omega);have i3:=qW (X:=CX) (st:=st) (n:=pre.length) (k := .i64) ty31 ty3 rfl (rows:=az pre) (rows':=[]) (by rw[aC];exact UJ _) (by simp[az]);simp only[UE,Wj]at hl;repeat' (first|refine dn ?_|refine ad rfl ?_|(refine dI fun A B a b=>?_;simp only[go_sem, *,aR,cY,b1];(repeat' first|apply a.1|apply b.1|refine aV (fun h=>?_) fun h=>?_)<;>clear a b A B))
  .simp only[go_sem];simp[put,az]
 | cons x post=>
  obtain⟨b1,b2⟩:=app1 (n:=pre.length) (by omega);have b3:(pre.length+1+post.length)*8<=140737488355328:=by simp only[UB]at hl;omega
  have b4:pre.length+1+post.length<=140737488355328:=by omega
  have b5:(pre.length+1+(post.length+1))*8<=140737488355328:=by simp only[UB]at hl;omega
  have b6:pre.length+1+(post.length+1)<=140737488355328:=by omega
  have i1:=ay hv (X:=CX) ty31 ty3 rfl (dp pre x post) (k := .i64);have w1:=am (n:=pre.length) (by omega);have i3:=qW (X:=CX) (st:=st) (n:=pre.length) (k := .i64) ty31 ty3 rfl (rows:=az (pre++x::post)) (rows':=az (x::post)) (by rw[aC];simp) (by rw[AS];simp);have i4:=qW (X:=CX) (st:=st) (n:=pre.length+1) (k := .i64) ty31 ty3 rfl (rows:=az (pre++x::post)) (rows':=az post) (by rw[aC];simp) (by rw[AS,<-WZ];simp);by_cases hx:x=n
  .subst hx;repeat' (first|refine dn ?_|refine ad rfl ?_|(refine dI fun A B a b=>?_;simp only[go_sem, *,aR,cY,b1,beq_self_eq_true];(repeat' first|apply a.1|apply b.1|refine aV (fun h=>?_) fun h=>?_)<;>clear a b A B))
   all_goals
    simp only[go_sem, *];simp[put,az,UO, *]<;>try omega
  .repeat' (first|refine dn ?_|refine ad rfl ?_|(refine dI fun A B a b=>?_;simp only[go_sem, *,aR,cY,b1];(repeat' first|apply a.1|apply b.1|refine aV (fun h=>?_) fun h=>?_)<;>clear a b A B))
   .refine ax (pre++[x],post) (UV _) ⟨by simp,by simp[put,h]⟩ ?_ ?_
    .exact aQ
    .exact⟨_,by simp only[gH];rfl⟩
   all_goals
    simp only[go_sem];simp[put,az, *]<;>try omega
end
end Go.Eng
namespace Go.Eng
theorem pO(x n:Int):∀l:List Int,x∈put l n↔x=n\/x∈l
 | []=>by simp[put]
 | y::l=>by
  unfold put;have ih:=pO x n l;split
  .rw[U2,ih,U2];constructor
   .rintro (h|h|h)
    .exact .inr (.inl h)
    .exact .inl h
    .exact .inr (.inr h)
   .rintro (h|h|h)
    .exact .inr (.inl h)
    .exact .inl h
    .exact .inr (.inr h)
  .split
   .rename_i h;subst h;simp
   .simp
theorem put_up{n:Int}:∀{l:List Int},wT l->wT (put l n)
 | [],_=>by simp[put,wT]
 | y::l,h=>by
  have h':=List.pairwise_cons.mp h;unfold put;split
  .rename_i hy;refine List.pairwise_cons.mpr ⟨fun z hz=>?_,put_up h'.2⟩;rcases (pO z n l).mp hz with e|e
   .omega
   .exact h'.1 z e
  .split
   .rename_i h1 h2;subst h2;exact h
   .rename_i h1 h2;refine List.pairwise_cons.mpr ⟨fun z hz=>?_,h⟩;rcases List.mem_cons.mp hz with e|e
    .omega
    .have:=h'.1 z e;omega
theorem Ds(x:Int):∀(b out:List Int),x∈b.foldl put out↔x∈out\/x∈b
 | [],out=>by simp
 | y::b,out=>by
  rw[VD,Ds x b,pO,U2];constructor
  .rintro ((h|h)|h)
   .exact .inr (.inl h)
   .exact .inl h
   .exact .inr (.inr h)
  .rintro (h|h|h)
   .exact .inl (.inr h)
   .exact .inl (.inl h)
   .exact .inr h
theorem GE:∀(b out:List Int),wT out->wT (b.foldl put out)
 | [],_,h=>h
 | x::b,out,h=>GE b (put out x) (put_up h)
def GF{b out:List Int}(h:wT out):b.foldl put out=bU (out++b) :=
 gM (GE b out h) (fj _) fun x=>by rw[Ds,mem_sorted,UU]
def kD:wT []:=List.Pairwise.nil
def sortR_eq(l:List Int):l.foldl put []=bU l:=GF kD
def Hy(a b:List Int):b.foldl put (bU a)=bU (a++b):=by
 rw[GF (fj a)];exact HD fun x=>by rw[UU,UU,mem_sorted]
def sE{l:List Int}(h:wT l):l.Nodup:=h.imp (by intro a b h e;omega)
end Go.Eng
namespace Go.Eng
open Go.Proofs
section
attribute [local irreducible] bB cX cZ aB bS dE
def Hx:List Int->Bool
 | x::y::l=>decide (x<y) && Hx (y::l)
 | _=>true
end
section
attribute [local irreducible] bB cX cZ aB bS dE
attribute [local go_sem] cM and_self aR cY aH
def AJ(a out:List Int)(x:Int):(a++[x]).foldl put out=put (a.foldl put out) x:=by simp[Xp]
theorem xV:∀(a out:List Int),(a.foldl put out).length<=out.length+a.length
 | [],out=>by simp
 | x::a,out=>by
  have h1:=xV a (put out x);have h2:=BG out x;simp only[VD,UB];omega
theorem By(v:AV)(a:List Int)(hv:bq 1 (az a) v)(ha:a.length<=1099511627776):aB CX 154 [v] (· = .osl 1 (az (bU a))):=by
 rw[<-sortR_eq];refine aL fx154 ?_;refine b8 (lk hv) ?_
 refine aJ [4,8,9,10,11,12,13,14,15,16] (fun a:List Int×List Int×List dY=>[(3,.sl (a.2.2.length+1) (a.1.foldl put []).length 0 (a.1.foldl put []).length 1),(7,.int .i64 a.1.length)]) (fun a G=> .arr [] 1 0 true::(a.2.2 ++ .arr (az (a.1.foldl put [])) 1 0 true::G))
  (fun p=>a=p.1++p.2.1) (fun a=>a.2.1.length) ([],a,[]) rfl ?_ ?_ ?_
 .rfl
 .exact⟨[],rfl⟩
 rintro⟨pre,post,G1⟩ g G h1;simp only at h1;subst h1;simp only[aj,aq,ah,an,UC,UD];cases post with
 | nil=>
  simp only[UM]at*;exact wf
 | cons x post=>
  have i1:=ay hv (X:=CX) ty31 ty3 rfl (dp pre x post) (k := .i64);have w1:=am (n:=pre.length) (by simp at ha;omega);have m1:=xV pre [];have p1:=(HP false (pre.foldl put []) x (by simp at ha m1;omega)).rw;refine b8 hv.snap ?_;have e:=AJ pre [] x;refine ax (pre++[x],post,G1 ++ .arr (az (pre.foldl put [])) 1 0 true::G) (UV _) (by simp) ?_ ?_
  ·((try simp only[bh,bJ,ah,an,UC,UD]);all_goals (first|rfl|(simp only[aH,aC,UI,e];done)|(simp only[aH,aR,aC,UI,UG,UB,UE,UW,e];first|done|rfl)))
  .exact⟨[],by simp[e]⟩
theorem union1(v w:AV)(a b:List Int)(hv:bq 1 (az a) v)(hw:bq 1 (az b) w)(ha:a.length<=1099511627)(hb:b.length<=1099511627):aB CX 164 [v,w] (· = .osl 1 (az (bU (a++b)))):=by
 rw[<-Hy];have q:=(By v a hv (by omega)).rw;have hl:=mU a;obtain⟨A,hA⟩:∃A,bU a=A:=⟨_,rfl⟩;rw[hA]at q hl ⊢;clear hA;refine aL fx164 ?_;refine pz (lk hw) hv.snap ?_
 refine aJ [6,12,13,14,15,16,17,18,19,20] (fun a:List Int×List Int×List dY=>[(5,.sl (a.2.2.length+1) (a.1.foldl put A).length 0 (a.1.foldl put A).length 1),(11,.int .i64 a.1.length)]) (fun a G=> .arr [] 1 0 true::(a.2.2 ++ .arr (az (a.1.foldl put A)) 1 0 true::G))
  (fun p=>b=p.1++p.2.1) (fun a=>a.2.1.length) ([],b,[]) rfl ?_ ?_ ?_
 .exact aQ
 .exact⟨[],rfl⟩
 rintro⟨pre,post,G1⟩ g G h1;simp only at h1;subst h1;simp only[aj,aq,ah,an,UC,UD];cases post with
 | nil=>
  simp only[UM]at*;exact wf
 | cons x post=>
  have i1:=ay hw (X:=CX) ty31 ty3 rfl (dp pre x post) (k := .i64);have w1:=am (n:=pre.length) (by simp at hb;omega);have m1:=xV pre A;have p1:=(HP false (pre.foldl put A) x (by simp at hb m1;omega)).rw;clear q;refine pz hv.snap hw.snap ?_;have e:=AJ pre A x;refine ax (pre++[x],post,G1 ++ .arr (az (pre.foldl put A)) 1 0 true::G) (UV _) (by simp) ?_ ?_
  ·((try simp only[bh,bJ,ah,an,UC,UD]);all_goals (first|rfl|(simp only[aH,aC,UI,e];done)|(simp only[aH,aR,aC,UI,UG,UB,UE,UW,e];first|done|rfl)))
  .exact⟨[],by simp[e]⟩
theorem up1(v:AV)(l:List Int)(hv:bq 1 (az l) v)(hl:l.length<9223372036854775807):aB CX 110 [v] (· = .bool (Hx l)):=by
 cases l with
 | nil=>
  refine aL fx110 ?_;refine b8 (lk hv) ?_;refine aJ [2,4,5,6,7,8,9,10,11,12,13,14,15,16,17,18,19] (fun _:Unit=>[(3,.int .i64 1)]) (fun _ H=>H) (fun _=>True) (fun _=>0) () trivial ?_ ⟨_,rfl⟩ ?_
  .rfl
  rintro _ g G _;simp only[aj,aq,ah,an,UC,UD];have z:¬(1:Int)<((0:Nat):Int):=by omega
  exact fm (lk hv)
 | cons x0 l0=>
 refine aL fx110 ?_;refine b8 (lk hv) ?_
 refine aJ [2,4,5,6,7,8,9,10,11,12,13,14,15,16,17,18,19] (fun p:List Int×Int×List Int=>[(3,.int .i64 ((p.1.length+1:Nat):Int))]) (fun _ H=>H)
  (fun p=>x0::l0=p.1++p.2.1::p.2.2/\Hx (x0::l0)=Hx (p.2.1::p.2.2)) (fun p=>p.2.2.length) ([],x0,l0) ⟨rfl,rfl⟩ ?_ ⟨_,rfl⟩ ?_
 .rfl
 rintro⟨pre,x,post⟩ g G ⟨h1,h2⟩;simp only at h1 h2;rw[h2];generalize x0::l0=l at*;clear h2;subst h1;simp only[aj,aq,ah,an,UC,UD];cases post with
 | nil=>
  have z:¬((pre.length+1:Nat):Int)<((pre.length+1:Nat):Int):=by omega
  exact fm (lk hv)
 | cons y post=>
  have i1:=ay hv (X:=CX) ty31 ty3 rfl (dp pre x (y::post)) (k := .i64);have LY:bq 1 (az ((pre++[x])++y::post)) v:=by rw[UX];exact hv
  have i2:=ay LY (X:=CX) ty31 ty3 rfl (dp (pre++[x]) y post) (k := .i64);rw[aH]at i2;have z:((pre.length+1:Nat):Int)<((pre++x::y::post).length:Int):=by simp;omega
  have zz:=z;simp only[UG,UB]at zz;have KX:pre.length+2<9223372036854775807:=by simp at hl;omega
  have w1:=am (n:=pre.length+1) (by omega);have w2:IntKind.wrap .i64 (((pre.length+1:Nat):Int)-1)=(pre.length:Int):=by rw[wrap_small (by omega) (by omega)];omega
  clear LY;by_cases Mz:x<y
  .have h3:¬y<=x:=by omega
   refine b8 (lk hv) ?_;refine ax (pre++[x],y,post) (UV _) ⟨by simp,?_⟩ ?_ ⟨_,rfl⟩
   .simp only[Hx,decide_eq_true Mz,VB]
   .exact aQ
  .have h3:y<=x:=by omega
   refine b8 (lk hv) ?_;simp only[go_sem];simp only[Hx,decide_eq_false Mz,VM]
end
section
attribute [local irreducible] bB cX cZ aB bS dE
end
section
attribute [local irreducible] bB cX cZ aB bS dE
attribute [local go_sem] and_self aR cY
def mq(ss:List Sg)(l:List Int):Int:=if l.length=0 then 4 else if 24<l.length then 5 else if l.all (tf ss)=true then 0 else 19
theorem wordR(v w:AV)(ss:List Sg)(l:List Int)(hv:bq 2 (ss.map encS) v)(hw:bq 1 (az l) w)(hl:l.length<9223372036854775807):aB CX 198 [.agg [v],w] (· = .int .i64 (mq ss l)):=by
 have c1:=hv.cell;have s1:=hv.snap;by_cases k0:l.length=0
 .have z:((l.length:Int) == 0)=true:=by rw[k0];rfl
  have e:mq ss l=4:=by rw[mq,if_pos k0]
  rw[e];clear e k0;refine aL fx198 ?_;exact fm (lk hw)
 have z:((l.length:Int) == 0)=false:=beq_false_of_ne (by omega);by_cases k1:24<l.length
 .have z1:(24:Int)<(l.length:Int):=by omega
  have e:mq ss l=5:=by rw[mq,if_neg k0,if_pos k1]
  rw[e];clear e k0 k1;refine aL fx198 ?_;exact fm (lk hw)
 have z1:¬(24:Int)<(l.length:Int):=by omega
 have e:mq ss l=if l.all (tf ss)=true then 0 else 19:=by rw[mq,if_neg k0,if_neg k1]
 rw[e];clear e k0 k1;refine aL fx198 ?_;refine b8 (lk hw) ?_;refine aF [4,5,15,16,17,18,19,20,21,22,23,24] 14 l (fun pre post=>l.all (tf ss)=post.all (tf ss)) ?_ ?_ ?_ ?_
 .rfl
 .exact aQ
 .intro g G h2;rw[h2];simp only[aj,aq,ah,an,UC,UD];exact wf
 .intro g G pre x post h1 h2;have i1:=ay hw (X:=CX) ty31 ty3 rfl (by rw[h1];exact dp pre x post) (k := .i64);have w1:=am (n:=pre.length) (by have:=congrArg List.length h1;simp at this;omega);have lt1:(pre.length:Int)<(l.length:Int):=by rw[h1];simp;omega
  have q:=(isR v ss x hv).rw;have IW:ac (l=pre++x::post):=⟨h1⟩;rw[h2,U1];have I7:ac (l.all (tf ss)=(x::post).all (tf ss)):=⟨h2⟩;clear h1 h2;simp only[aj,aq,ah,an,UC,UD];cases hx:tf ss x with
  | true=>
   have JG:ac (l.all (tf ss)=post.all (tf ss)):=⟨by rw[I7.out,U1,hx,VB]⟩;rw[hx]at q;rw[VB,<-JG.out];clear hx;refine wk ?_;refine aA IW.out JG.out ?_ ?_
   .exact aQ
   .exact dk
  | false=>
   rw[hx]at q;rw[VM,if_neg (by simp)];clear hx;exact wf
end
section
variable {e:En}{ss:List Sg}{v:AV}
attribute [local irreducible] bB cX cZ aB bS dE
attribute [local go_sem] and_self aG
structure kn (n:Nat) (e:En):Prop where
 id:1<=e.id
 f:∀x∈e.fl,1<=x/\x<=n
 a:∀y∈e.al,∀x∈y.2,1<=x/\x<=n
def Cx{l:List Int}(h:mq ss l=0):∀x∈l,1<=x/\x<=ss.length:=by
 unfold mq at h;split at h
 .cases h
 split at h
 .cases h
 split at h
 .rename_i hh;intro x hx;have:=Vb.1 hh x hx;simpa[tf]using this
 .cases h
theorem wordsE(hv:bq 2 (ss.map encS) v)(h:e.ok)(hf:e.few):∃x,(x=0->kn ss.length e)/\aB CX 155 [.agg [v],.agg (aG e)] (· = .int .i64 x):=by
 refine aB.int ?_;obtain⟨c1,c2,c3,c4,c5⟩:=h.cells;have c0:=hv.cell;have s0:=hv.snap;have q1:=(kR e.id).rw;have q2:=(wordR v e.fv ss e.fl hv h.f (Vu hf.f (by decide))).rw;have s1:=h.f.snap;have ha:=h.a;have hH:ac (e.ok/\e.few):=⟨h,hf⟩;have hid:ac (jA e.id=true->1<=e.id):=⟨fun h=>by simp[jA]at h;omega⟩;have O0:ac (mq ss e.fl=0->∀x∈e.fl,1<=x/\x<=(ss.length:Int)):=⟨Cx⟩;generalize jA e.id=b1 at*;generalize mq ss e.fl=b2 at*;clear h hf;cases b1 with
 | false=>
  refine aL fx155 ?_;exact wf
 | true=>
 by_cases k2:b2=0
 case neg=>
  refine aL fx155 ?_;refine wk ?_;simp only[go_sem];exact⟨_,rfl,fun h=>absurd h k2⟩
 subst k2;by_cases k3:e.cl<1
 .refine aL fx155 ?_;exact wf
 by_cases k4:20<e.cl
 .refine aL fx155 ?_;exact wf
 by_cases k5:(3:Int)<(e.al.length:Int)
 .refine aL fx155 ?_;exact fm (lk ha)
 have hl:ac (e.al.length<=3):=⟨by omega⟩;refine aL fx155 ?_;refine b8 (lk ha) ?_;refine aF [4,7,8,32,33,34,35,36,37,38,39,40,41,42,43,44,45,46,47,48,49,50,51,52,53,54,55,56,57,58,59,60,61,62,63,64,65,66,67,68,69,70,71,72] 6 e.al (fun pre _=> ∀y∈pre,∀x∈y.2,1<=x/\x<=(ss.length:Int)) ?_ ?_ ?_ ?_
 .intro y h;cases h
 .exact aQ
 .intro g G hP;have hP:ac (kn ss.length e):=⟨hid.out rfl,O0.out rfl,hP⟩;exact fm (lk ha)
 .intro g G pre y post h1 hP;have Jz:ac (∀y∈pre,∀x∈y.2,1<=x/\x<=(ss.length:Int)):=⟨hP⟩;have IZ:pre.length<e.al.length:=by rw[h1];simp
  have lt1:(pre.length:Int)<(e.al.length:Int):=by omega
  have w1:=am (n:=pre.length) (by have:=hl.out;omega);have i1:=ay ha (X:=CX) ty61 ty31 rfl (n:=pre.length) (row:=[y.1]) (k := .i64) (by rw[h1];simp);have hy:=hH.out.1.ai y (by rw[h1];simp);have hyl:=hH.out.2.ai y (by rw[h1];simp);have q3:=(wordR v y.1 ss y.2 hv hy.1 (by omega)).rw;have q4:=(same1 y.1 e.fv y.2 e.fl hy.1 hH.out.1.f (by omega)).rw;have sy:=hy.1.snap;have cy:=hy.1.cell;have IW:ac (e.al=pre++y::post):=⟨h1⟩;have hyy:ac (mq ss y.2=0->∀x∈y.2,1<=x/\x<=(ss.length:Int)):=⟨Cx⟩;have hyH:ac (bq 1 (az y.2) y.1/\y.2.length<=1048576):=⟨hy.1,hyl⟩;generalize mq ss y.2=b3 at*;clear hP h1 hy hyl;by_cases k6:b3=0
  case neg=>
   refine b8 (lk ha) ?_;simp only[go_sem];exact⟨_,rfl,fun h=>absurd h k6⟩
  subst k6;by_cases k7:y.2=e.fl
  .exact fm (lk ha)
  refine b8 (lk ha) ?_;refine iC [4,57,58,59,60,61,62,63,64,65,66,67,68,69,70,71,72] (fun k:Nat=>[(8,.int .i64 (k:Int))]) (fun k=>k<=pre.length) (fun k=>pre.length-k) 0 (U9 _) ?_ ?_
  .exact aQ
  intro k g2 H hk;replace hk:k<=pre.length:=hk;by_cases JY:k<pre.length
  .have lt2:(k:Int)<(pre.length:Int):=by omega
   have w2:=am (n:=k) (by have:=hl.out;omega);obtain⟨z,hz⟩:∃z,pre[k]? = some z:=⟨_,UL JY⟩;have Np:z∈e.al:=by rw[IW.out];exact V5 _ (Vs hz)
   have i2:=ay ha (X:=CX) ty61 ty31 rfl (n:=k) (row:=[z.1]) (k := .i64) (by rw[IW.out,Vv,UN (by simpa using JY),Vc,hz];rfl);have K0:=hH.out.1.ai z Np;have q5:=(same1 y.1 z.1 y.2 z.2 hyH.out.1 K0.1 (by have:=hyH.out.2;omega)).rw;have sz:=K0.1.snap;have hm:ac (pre.length-(k+1)<pre.length-k/\k+1<=pre.length):=⟨by omega⟩;clear hk JY hz Np K0;by_cases k8:y.2=z.2
   .exact fm (lk ha)
   .refine b8 (lk ha) ?_;refine gG (k+1) hm.out.1 hm.out.2 ?_ ?_
    .exact aQ
    .exact dk
  .have MD:¬(k:Int)<(pre.length:Int):=by omega
   clear hk JY;refine b8 (lk ha) ?_;refine aA IW.out ?_ ?_ ?_
   .intro y' hy';rcases UU.1 hy' with h|h
    .exact Jz.out y' h
    .simp at h;subst h;exact hyy.out rfl
   .exact aQ
   .exact dk
def checkEnE(hv:bq 2 (ss.map encS) v)(h:e.ok)(hf:e.few):∃x,(x=0->kn ss.length e)/\aB CX 91 [.agg [v],.agg (aG e)] (· = .int .i64 x):=by
 obtain⟨e1,h1,q1⟩:=wordsE hv h hf;obtain⟨e2,q2⟩:=sensesE h hf;obtain⟨e3,q3⟩:=linksE h (Vu hf.l (by decide));obtain⟨e4,q4⟩:=refsE 12 h.r (Vu hf.r (by decide));obtain⟨c1,c2,c3,c4,c5⟩:=h.cells;have c0:=hv.cell;have s0:=hv.snap;have s1:=h.f.snap;have s2:=h.a.snap;have s3:=h.s.snap;have s4:=h.l.snap;have s5:=h.r.snap;have q1:=q1.rw;have q2:=q2.rw;have q3:=q3.rw;have q4:=q4.rw;simp only[aG]at q1 q2 q3 q4;have hH:ac (e1=0->kn ss.length e):=⟨h1⟩;refine aB.int ?_;clear h hf h1;by_cases k1:e1=0
 case neg=>
  refine aL fx91 ?_;exact wf
 have hw:=hH.out k1;have PY:ac (kn ss.length e):=⟨hw⟩;clear hw hH;subst k1;refine aL fx91 ?_;simp only[UB,UE,UF,UH,Nat.reduceAdd,Nat.reduceSub,List.replicate];repeat' (first|refine dn ?_|refine ad rfl ?_|(refine dI fun A B a b=>?_;simp only[go_sem, *];(repeat' first|apply a.1|apply b.1|refine aV (fun h=>?_) fun h=>?_)<;>clear a b A B))
 all_goals (simp only[go_sem];exact⟨_,rfl,fun _=>PY.out⟩)
end
section
attribute [local irreducible] bB cX cZ aB bS dE
attribute [local go_sem] bi and_self aG
def bk{v:AV}(h:v.stab=true)(S:ab):aW S v=some v:=by
 cases v<;>first|(simp only[aW,h,if_true];done)|(simp only[AV.stab]at h;cases h)
def dw:AV := .flat (.slice none 0 0)
def zEn:List AV:=[.int .i64 0,dw,.int .i64 0,dw,.int .i64 0,dw,dw,dw]
def fc(l:List En)(n:Int):Option En:=l.find? fun e=>e.id == n
def jM:Option En->AV
 | some e=> .tup [.agg (aG e),.bool true]
 | none=> .tup [.agg zEn,.bool false]
def yK(x:En)(l:List En)(n:Int):fc (x::l) n=if x.id == n then some x else fc l n:=by
 simp only[fc,V3];cases (x.id == n)<;>rfl
def En.ok.exp{e:En}(h:e.ok)(S:ab):∀c∈aG e,aW S c=some c:=by
 intro c hc;simp only[aG,U2,VA,or_false]at hc;rcases hc with rfl|rfl|rfl|rfl|rfl|rfl|rfl|rfl
 .rfl
 .exact bk h.ft S
 .rfl
 .exact bk h.at' S
 .rfl
 .exact bk h.st S
 .exact bk h.lt S
 .exact bk h.rt S
def Gf(S:ab):∀c∈zEn,aW S c=some c:=by
 intro c hc;simp only[zEn,dw,U2,VA,or_false]at hc;rcases hc with rfl|rfl|rfl|rfl|rfl|rfl|rfl|rfl<;>rfl
theorem FF{v:AV}{l:List En}(n:Int)(hv:bq 8 (l.map aG) v)(hok:∀e∈l,e.ok)(hl:l.length<9223372036854775807):aB CX 8 [v,.int .i64 n] (· = jM (fc l n)):=by
 refine aL fx8 ?_;refine b8 (lk hv) ?_;refine aF [5,6,10,11,12,13,14,15,16,17,18,19,20,21,22,23] 9 l (fun _ post=>fc l n=fc post n) ?_ ?_ ?_ ?_
 .rfl
 .rfl
 .intro g G h2;have e:fc l n=none:=h2;rw[e,jM];clear h2 e;refine b8 (lk hv) ?_;simp only[go_sem];exact(jD (Gf _)).mpr rfl
 .intro g G pre x post h1 h2;have IZ:pre.length<l.length:=by rw[h1];simp
  have lt1:(pre.length:Int)<(l.length:Int):=by omega
  have w1:=am (n:=pre.length) (by omega);have i1:=ay hv (X:=CX) ty34 ty66 rfl (n:=pre.length) (row:=aG x) (k := .i64) (by rw[h1];simp);have Kw:=hok x (by rw[h1];simp);have N4:ac (∀S,∀c∈aG x,aW S c=some c):=⟨Kw.exp⟩;obtain⟨c1,c2,c3,c4,c5⟩:=Kw.cells;have IW:ac (l=pre++x::post):=⟨h1⟩;rw[yK]at h2;clear h1 IZ Kw;cases hx:(x.id == n) with
  | true=>
   have e:fc l n=some x:=by rw[h2,hx];rfl
   rw[e,jM];clear h2 e;refine b8 (lk hv) ?_;simp only[go_sem];exact(jD (N4.out _)).mpr rfl
  | false=>
   have hh:ac (fc l n=fc post n):=⟨by rw[h2,hx];rfl⟩;clear h2;refine b8 (lk hv) ?_;refine aA IW.out hh.out ?_ ?_
   .exact aQ
   .exact dk
def yJ{l:List En}{n:Int}{e:En}(h:fc l n=some e):e∈l/\e.id=n:=⟨U8 h,by have:=VN h;simpa using this⟩
def isEn(l:List En)(n:Int):Bool:=l.any fun e=>e.id == n
theorem getEn_is(l:List En)(n:Int):(fc l n).isSome=isEn l n:=by
 induction l with
 | nil=>rfl
 | cons x l ih=>
  rw[yK];simp only[isEn,V4]at ih ⊢;cases (x.id == n) with
  | true=>rfl
  | false=>simpa using ih
theorem hasEnE{v:AV}{l:List En}(n:Int)(hv:bq 8 (l.map aG) v)(hok:∀e∈l,e.ok)(hl:l.length<9223372036854775807):aB CX 92 [v,.int .i64 n] (· = .bool (isEn l n)):=by
 have q:=(FF n hv hok hl).rw;have s1:=hv.snap;rw[<-getEn_is];cases h:fc l n with
 | none=>
  rw[h,jM]at q;simp only[zEn,dw]at q;refine aL fx92 ?_;simp only[UB,UE,UF,UH,Nat.reduceAdd,Nat.reduceSub,List.replicate];repeat' (first|refine dn ?_|refine ad rfl ?_|(refine dI fun A B a b=>?_;simp only[go_sem, *,bC,bp];(repeat' first|apply a.1|apply b.1|refine aV (fun h=>?_) fun h=>?_)<;>clear a b A B))
  simp only[go_sem];rfl
 | some e=>
  obtain⟨c1,c2,c3,c4,c5⟩:=(hok e (yJ h).1).cells;rw[h,jM]at q;simp only[aG]at q;refine aL fx92 ?_;simp only[UB,UE,UF,UH,Nat.reduceAdd,Nat.reduceSub,List.replicate];repeat' (first|refine dn ?_|refine ad rfl ?_|(refine dI fun A B a b=>?_;simp only[go_sem, *,bC,bp];(repeat' first|apply a.1|apply b.1|refine aV (fun h=>?_) fun h=>?_)<;>clear a b A B))
  simp only[go_sem];rfl
end
section
attribute [local irreducible] bB cX cZ aB bS dE
structure LexOK (n:Nat) (l:List En):Prop where
 few:l.length<=100
 ids:l.Pairwise fun a b=>a.id<b.id
 en:∀e∈l,kn n e
def pwEn{pre:List En}{x:En}(h:pre.Pairwise fun a b=>a.id<b.id)(hx:∀y,pre.getLast? = some y->y.id<x.id):(pre++[x]).Pairwise fun a b=>a.id<b.id:=by
 rw[V6];refine⟨h,by simp,fun a ha b hb=>?_⟩;simp at hb;subst hb;rcases fA pre with rfl|⟨p,z,rfl⟩
 .simp at ha
 .have hz:=hx z (by simp);rcases UU.1 ha with h1|h1
  .have:=(V6.1 h).2.2 a h1 z (by simp);omega
  .simp at h1;subst h1;exact hz
def noEn:En:=⟨0,dw,[],0,dw,[],0,dw,[],dw,[],dw,[]⟩
theorem lexE{v w:AV}{ss:List Sg}{l:List En}(hw:bq 2 (ss.map encS) w)(hv:bq 8 (l.map aG) v)(hok:∀e∈l,e.ok)(hf:∀e∈l,e.few)(hl:l.length<9223372036854775807) :
  ∃x,(x=0->LexOK ss.length l)/\aB CX 47 [.agg [w],v] (· = .int .i64 x):=by
 refine aB.int ?_;have c0:=hw.cell;have s0:=hw.snap;have sv:=hv.snap;by_cases k1:(100:Int)<(l.length:Int)
 .refine aL fx47 ?_;exact fm (lk hv)
 have JJ:ac (l.length<=100):=⟨by omega⟩;refine aL fx47 ?_;refine b8 (lk hv) ?_;refine aF [4,5,6,15,16,17,18,19,20,21,22,23,24,25,26,27,28,29,30,31,32,33,34,35,36,37,38,39,40,41,42] 14 l (fun pre _=>pre.Pairwise (fun a b=>a.id<b.id)/\∀e∈pre,kn ss.length e) ?_ ?_ ?_ ?_
 .exact⟨.nil,fun e h=>by cases h⟩
 .exact aQ
 .intro g G hP;have hP:ac (LexOK ss.length l):=⟨⟨JJ.out,hP.1,hP.2⟩⟩;refine b8 (lk hv) ?_;refine aF [4,7,8,46,47,48,49,50,51,52,53,54,55,56,57,58,59,60,61,62,63,64,65,66,67,68,69,70,71,72,73,74,75,76,77,78,79,80,81,82,83,84,85,86] 45 l (fun _ _=>True) ?_ ?_ ?_ ?_
  .trivial
  .exact aQ
  .intro g2 G2 _;exact fm (lk hv)
  .intro g2 G2 pre x post h1 _;have IZ:pre.length<l.length:=by rw[h1];simp
   have lt1:(pre.length:Int)<(l.length:Int):=by omega
   have w1:=am (n:=pre.length) (by omega);have i1:=ay hv (X:=CX) ty34 ty66 rfl (n:=pre.length) (row:=aG x) (k := .i64) (by rw[h1];simp);have hx:=hok x (by rw[h1];simp);have JQ:=hx.l;have PX:=(hf x (by rw[h1];simp)).l;have q1:=(hasEnE x.ma hv hok hl).rw;have q2:∀n,_:=fun n=>(hasEnE n hv hok hl).rw;have IW:ac (l=pre++x::post):=⟨h1⟩;simp only[aG]at i1;generalize isEn l x.ma=b1 at*;clear h1 IZ hx;simp only[aj,aq,ah,an,UC,UD];repeat' (first|refine dn ?_|refine ad rfl ?_|(refine dI fun A B a b=>?_;simp only[go_sem, *,au hv,UI,au JQ,jf,UD,UC,Vx,U9,bZ,cr,ly,UX,UG,UF,kK,jX,aM,aC,mE,Vn,UW,Wu];(repeat' first|apply a.1|apply b.1|refine aV (fun h=>?_) fun h=>?_)<;>clear a b A B))
   all_goals
    first
    |(show qX _ _ _;simp only[aO,aP,bg,cH,cb,cG,cI,cA,cE,aN,go_sem,and_self];exact⟨_,rfl,fun h=>by cases h⟩)
    | skip
   all_goals
    refine aF [4,8,71,72,73,74,75,76,77,78,79,80,81,82,83,84,85] 70 x.ll (fun _ _=>True) ?_ ?_ ?_ ?_
    .trivial
    .exact aQ
    .intro g3 G3 _;exact fm (lk JQ)
    .intro g3 G3 pr y po h2 _;have Ml:pr.length<x.ll.length:=by rw[h2];simp
     have lt2:(pr.length:Int)<(x.ll.length:Int):=by omega
     have w2:=am (n:=pr.length) (by have:=PX;rw[h2]at this;simp at this;omega);have i2:=ay JQ (X:=CX) ty63 ty153 rfl (n:=pr.length) (row:=gV y) (k := .i64) (by rw[h2];simp);have q3:=q2 y.2;have I7:ac (x.ll=pr++y::po):=⟨h2⟩;simp only[gV]at i2;clear h2 q2 Ml;generalize isEn l y.2=b2 at*;simp only[aj,aq,ah,an,UC,UD];repeat' (first|refine dn ?_|refine ad rfl ?_|(refine dI fun A B a b=>?_;simp only[go_sem, *,au JQ,UI,jf,UD,UC,Vx,U9,bZ,cr,ly,UX,UG,UF,kK,jX,aM,aC,mE,Vn,UW,Wu];(repeat' first|apply a.1|apply b.1|refine aV (fun h=>?_) fun h=>?_)<;>clear a b A B))
     all_goals
      first
      |(refine aA I7.out ?_ ?_ ?_;(· exact trivial);(· exact aQ);(· exact dk))
      |(simp only[aO,aP,bg,cH,cb,cG,cI,cA,cE,aN,go_sem,and_self];exact⟨_,rfl,fun h=>by cases h⟩)
 .intro g G pre x post h1 hP;have IZ:pre.length<l.length:=by rw[h1];simp
  have lt1:(pre.length:Int)<(l.length:Int):=by omega
  have w1:=am (n:=pre.length) (by omega);have i1:=ay hv (X:=CX) ty34 ty66 rfl (n:=pre.length) (row:=aG x) (k := .i64) (by rw[h1];simp);have i0:(0:Int)<(pre.length:Int)->aD CX 34 v (.int .i64 (IntKind.wrap .i64 ((pre.length:Int)-1)))=some (.tptr (jW v) (aG (pre.getLastD noEn)) 0):=fun h0=>hG (f:=aG) (h1 ▸ hv) (by rw[<-h1];exact hl) ty34 ty66 rfl noEn h0;have hx:=hok x (by rw[h1];simp);obtain⟨e1,he,q1⟩:=checkEnE hw hx (hf x (by rw[h1];simp));obtain⟨c1,c2,c3,c4,c5⟩:=hx.cells;have s1:=hx.f.snap;have s2:=hx.a.snap;have s3:=hx.s.snap;have s4:=hx.l.snap;have s5:=hx.r.snap;have q1:=q1.rw;have IW:ac (l=pre++x::post):=⟨h1⟩;have Jz:ac (pre.Pairwise (fun a b=>a.id<b.id)/\∀e∈pre,kn ss.length e):=⟨hP⟩
  have Ko:ac (∀y,pre.getLast? = some y->(pre.getLastD noEn)=y):=⟨fun y hy=>by
   rcases fA pre with rfl|⟨p,z,rfl⟩
   .simp at hy
   .simp at hy ⊢;exact hy⟩
  have Js:ac (¬(0:Int)<(pre.length:Int)->pre = []):=⟨fun h=>UO (by omega)⟩;generalize pre.getLastD noEn=z at*;simp only[aG]at i1 i0 q1;clear h1 IZ hx hP;by_cases k2:e1=0
  case neg=>
   clear i0 he;refine b8 (lk hv) ?_;simp only[aO,aP,bg,cH,cb,cG,cI,cA,cE,aN,go_sem,and_self];exact⟨_,rfl,fun h=>absurd h k2⟩
  have JZ:ac (kn ss.length x):=⟨he k2⟩;clear he;subst k2;by_cases h0:(0:Int)<(pre.length:Int)
  .have i0:=i0 h0;by_cases k3:x.id<=z.id
   .exact fm (lk hv)
   .have k4:ac (¬x.id<=z.id):=⟨k3⟩;refine b8 (lk hv) ?_;refine aA IW.out ?_ ?_ ?_
    .refine⟨pwEn Jz.out.1 fun y hy=>?_,fun e he=>?_⟩
     .have:=Ko.out y hy;have:=k4.out;subst y;omega
     .rcases UU.1 he with h|h
      .exact Jz.out.2 e h
      .simp at h;subst h;exact JZ.out
    .exact aQ
    .exact dk
  .clear i0;refine b8 (lk hv) ?_;refine aA IW.out ?_ ?_ ?_
   .rw[Js.out h0];exact⟨by simp,fun e he=>by simp at he;subst he;exact JZ.out⟩
   .exact aQ
   .exact dk
end
section
variable {l:List En}{v:AV}
attribute [local irreducible] bB cX cZ aB bS dE
attribute [local go_sem] U1 Vj List.replicate UC Vp Nat.reduceMul Vg eF d9 bP bt ci bN cM ba aY aS aM aX and_self
def mF(n:Nat)(i:Int):Prop := -1<=i/\i<n
def B7(n:Int)(hv:bq 8 (l.map aG) v)(hl:l.length<9223372036854775807):∃i,mF l.length i/\aB CX 98 [v,.int .i64 n] (· = .int .i64 i):=by
 refine aB.int ?_;refine aL fx98 ?_;refine b8 (lk hv) ?_;refine aF [4,6,7,8,9,10,11,12,13,14,15,16,17,18,19] 5 l (fun _ _=>True) ?_ ?_ ?_ ?_
 .trivial
 .exact aQ
 .intro g G _;have hb:ac (mF l.length (-1)):=⟨by unfold mF;omega⟩;exact fm (lk hv)
 .intro g G pre x post h1 _;have IZ:pre.length<l.length:=by rw[h1];simp
  have lt1:(pre.length:Int)<(l.length:Int):=by omega
  have w1:=am (n:=pre.length) (by omega);have i1:=ay hv (X:=CX) ty34 ty66 rfl (n:=pre.length) (row:=aG x) (k := .i64) (by rw[h1];simp);have hb:ac (mF l.length (pre.length:Int)):=⟨by unfold mF;omega⟩;have IW:ac (l=pre++x::post):=⟨h1⟩;simp only[aG]at i1;clear h1 IZ;simp only[aj,aq,ah,an,UC,UD];repeat' (first|refine dn ?_|refine ad rfl ?_|(refine dI fun A B a b=>?_;simp only[go_sem, *,au hv];(repeat' first|apply a.1|apply b.1|refine aV (fun h=>?_) fun h=>?_)<;>clear a b A B))
  all_goals first|exact vP|(simp only[go_sem];exact⟨_,rfl,hb.out⟩)
theorem way27E(n:Int)(hv:bq 8 (l.map aG) v)(hl:l.length<=1048576):∃o:List Int,aB CX 99 [v,.int .i64 n] (· = .osl 1 (az o)):=by
 suffices h:aB CX 99 [v,.int .i64 n] (fun r=> ∃o:List Int,r = .osl 1 (az o)) by
  obtain⟨r,⟨o,rfl⟩,h⟩:=h.ex;exact⟨o,h⟩
 obtain⟨i0,PB,q0⟩:=B7 n hv (by omega);have q0:=q0.rw;have sv:=hv.snap;refine aL fx99 ?_;refine wk ?_;refine aJ [11,12,13,14,15,16,17,18,19,20,21,22,23,24,25,26,27,28,29,30,31,32,33,34,35,36,37,38,39,40] (fun a:List Int×Int=>[(5,.sl 1 a.1.length 0 a.1.length 1),(6,.int .i64 a.2)]) (fun a G=> .arr [] 1 0 true :: .arr (az a.1) 1 0 true::G) (fun a=>a.1.length<=l.length+1/\mF l.length a.2) (fun a=>l.length+1-a.1.length) ([],i0) ⟨by simp,PB⟩ ?_ ⟨_,rfl⟩ ?_
 .exact aQ
 rintro⟨o,i⟩ g G ⟨ho,hi⟩;replace ho:o.length<=l.length+1:=ho;replace hi:mF l.length i:=hi;by_cases k1:i<0
 .have k1':¬0<=i:=by omega
  clear hi;exact fm (lk hv)
 by_cases k2:(o.length:Int)<=(l.length:Int)
 case neg=>
  have k1':0<=i:=by omega
  clear hi;exact fm (lk hv)
 have k1':0<=i:=by omega
 obtain⟨k,rfl⟩:∃k:Nat,i=(k:Int):=⟨i.toNat,by omega⟩;have JY:k<l.length:=by unfold mF at hi;omega
 obtain⟨x,hx⟩:∃x,l[k]? = some x:=⟨_,UL JY⟩;have i1:=ay hv (X:=CX) ty34 ty66 rfl (n:=k) (row:=aG x) (k := .i64) (by simp[hx]);obtain⟨i2,Nu,q2⟩:=B7 x.ma hv (by omega);have q2:=q2.rw;have b1:(o.length+1)*8<=140737488355328/\o.length+1<=140737488355328:=by omega
 have hm:ac (l.length+1-(o.length+1)<l.length+1-o.length/\o.length+1<=l.length+1/\mF l.length i2):=⟨by omega,by omega,Nu⟩;simp only[aG]at i1;clear hi ho JY hx Nu k1;cases k3:(x.ma == 0) with
 | true=>
  refine wk3 b1.1 b1.2 (lk hv) ?_;simp only[go_sem];exact⟨o++[x.id],by simp[az]⟩
 | false=>
  refine wk3 b1.1 b1.2 (lk hv) ?_;refine ax (o++[x.id],i2) ?_ ⟨?_,hm.out.2.2⟩ ?_ ?_
  .simpa using hm.out.1
  .simpa using hm.out.2.1
  .exact aQ
  .simp only[gH];exact⟨_,rfl⟩
def check27E(hv:bq 8 (l.map aG) v)(hl:l.length<=1048576):∃x,aB CX 49 [v] (· = .int .i64 x):=by
 refine aB.int0 ?_;have sv:=hv.snap;refine aL fx49 ?_;refine b8 (lk hv) ?_;refine aF [2,5,6,7,8,9,10,11,12,13,14,15,16,17,18,19,20,21,22,23,24,25,26] 3 l (fun _ _=>True) ?_ ?_ ?_ ?_
 .trivial
 .exact aQ
 .intro g G _;refine b8 (lk hv) ?_;refine aF [2,27,28,29,30,31,32,33,34,35,36,37,38,39,40,41,42,43] 4 l (fun _ _=>True) ?_ ?_ ?_ ?_
  .trivial
  .exact aQ
  .intro g2 G2 _;exact fm (lk hv)
  .intro g2 G2 pre x post h1 _;have IZ:pre.length<l.length:=by rw[h1];simp
   have lt1:(pre.length:Int)<(l.length:Int):=by omega
   have w1:=am (n:=pre.length) (by omega);have i1:=ay hv (X:=CX) ty34 ty66 rfl (n:=pre.length) (row:=aG x) (k := .i64) (by rw[h1];simp);obtain⟨o,q1⟩:=way27E x.id hv hl;have q1:=q1.rw;have IW:ac (l=pre++x::post):=⟨h1⟩;simp only[aG]at i1;clear h1 IZ;simp only[aj,aq,ah,an,UC,UD];repeat' (first|refine dn ?_|refine ad rfl ?_|(refine dI fun A B a b=>?_;simp only[go_sem, *,au hv];(repeat' first|apply a.1|apply b.1|refine aV (fun h=>?_) fun h=>?_)<;>clear a b A B))
   all_goals exact vP
 .intro g G pre x post h1 _;have IZ:pre.length<l.length:=by rw[h1];simp
  have lt1:(pre.length:Int)<(l.length:Int):=by omega
  have w1:=am (n:=pre.length) (by omega);have i1:=ay hv (X:=CX) ty34 ty66 rfl (n:=pre.length) (row:=aG x) (k := .i64) (by rw[h1];simp);obtain⟨o,_,q1⟩:=B7 x.ma hv (by omega);have q1:=q1.rw;have IW:ac (l=pre++x::post):=⟨h1⟩;simp only[aG]at i1;clear h1 IZ;simp only[aj,aq,ah,an,UC,UD];repeat' (first|refine dn ?_|refine ad rfl ?_|(refine dI fun A B a b=>?_;simp only[go_sem, *,au hv];(repeat' first|apply a.1|apply b.1|refine aV (fun h=>?_) fun h=>?_)<;>clear a b A B))
  all_goals exact vP
end
section
attribute [local irreducible] bB cX cZ aB bS dE
attribute [local go_sem] and_self aG gV
def invE(n:Int):∃i,aB CX 93 [.int .i64 n] (· = .int .i64 i):=by
 refine aB.int0 ?_;refine aL fx93 ?_;simp only[UB,UE,UF,UH,Nat.reduceAdd,Nat.reduceSub,List.replicate];repeat' (first|refine dn ?_|refine ad rfl ?_|(refine dI fun A B a b=>?_;simp only[go_sem, *];(repeat' first|apply a.1|apply b.1|refine aV (fun h=>?_) fun h=>?_)<;>clear a b A B))
 all_goals (simp only[go_sem];exact⟨_,rfl⟩)
def G8{v:AV}{l:List En}(n:Int)(hv:bq 8 (l.map aG) v)(hl:l.length<9223372036854775807):∃i,mF l.length i/\aB CX 94 [v,.int .i64 n] (· = .int .i64 i):=by
 refine aB.int ?_;refine aL fx94 ?_;refine b8 (lk hv) ?_;refine aF [4,6,7,8,9,10,11,12,13,14,15,16,17,18,19] 5 l (fun _ _=>True) ?_ ?_ ?_ ?_
 .trivial
 .exact aQ
 .intro g G _;have hb:ac (mF l.length (-1)):=⟨by unfold mF;omega⟩;exact fm (lk hv)
 .intro g G pre x post h1 _;have IZ:pre.length<l.length:=by rw[h1];simp
  have lt1:(pre.length:Int)<(l.length:Int):=by omega
  have w1:=am (n:=pre.length) (by omega);have i1:=ay hv (X:=CX) ty34 ty66 rfl (n:=pre.length) (row:=aG x) (k := .i64) (by rw[h1];simp);have hb:ac (mF l.length (pre.length:Int)):=⟨by unfold mF;omega⟩;have IW:ac (l=pre++x::post):=⟨h1⟩;simp only[aG]at i1;clear h1 IZ;simp only[aj,aq,ah,an,UC,UD];repeat' (first|refine dn ?_|refine ad rfl ?_|(refine dI fun A B a b=>?_;simp only[go_sem, *,au hv];(repeat' first|apply a.1|apply b.1|refine aV (fun h=>?_) fun h=>?_)<;>clear a b A B))
  all_goals first|exact vP|(simp only[go_sem];exact⟨_,rfl,hb.out⟩)
def has26E{e:En}(x:Lk)(h:e.ok)(hl:e.ll.length<9223372036854775807):∃b,aB CX 95 [.agg (aG e),.agg (gV x)] (· = .bool b):=by
 refine aB.boo0 ?_;obtain⟨c1,c2,c3,c4,c5⟩:=h.cells;have hv:=h.l;clear h;refine aL fx95 ?_;refine b8 (lk hv) ?_;refine aF [4,6,7,8,9,10,11,12,13,14,15,16,17,18,19] 5 e.ll (fun _ _=>True) ?_ ?_ ?_ ?_
 .trivial
 .exact aQ
 .intro g G _;exact fm (lk hv)
 .intro g G pre y post h1 _;have IZ:pre.length<e.ll.length:=by rw[h1];simp
  have lt1:(pre.length:Int)<(e.ll.length:Int):=by omega
  have w1:=am (n:=pre.length) (by omega);have i1:=ay hv (X:=CX) ty63 ty153 rfl (n:=pre.length) (row:=gV y) (k := .i64) (by rw[h1];simp);have IW:ac (e.ll=pre++y::post):=⟨h1⟩;simp only[gV]at i1;clear h1 IZ;simp only[aj,aq,ah,an,UC,UD];repeat' (first|refine dn ?_|refine ad rfl ?_|(refine dI fun A B a b=>?_;simp only[go_sem, *,au hv];(repeat' first|apply a.1|apply b.1|refine aV (fun h=>?_) fun h=>?_)<;>clear a b A B))
  all_goals exact vP
def in26E{v:AV}{l:List Int}(n:Int)(hv:bq 1 (az l) v)(hl:l.length<9223372036854775807):∃b,aB CX 96 [v,.int .i64 n] (· = .bool b):=by
 refine aB.boo0 ?_;refine aL fx96 ?_;refine b8 (lk hv) ?_;refine aF [4,6,7,8,9,10,11,12,13,14,15,16,17] 5 l (fun _ _=>True) ?_ ?_ ?_ ?_
 .trivial
 .exact aQ
 .intro g G _;exact fm (lk hv)
 .intro g G pre y post h1 _;have IZ:pre.length<l.length:=by rw[h1];simp
  have lt1:(pre.length:Int)<(l.length:Int):=by omega
  have w1:=am (n:=pre.length) (by omega);have i1:=ay hv (X:=CX) ty31 ty3 rfl (n:=pre.length) (row:=[.int .i64 y]) (k := .i64) (by rw[h1];simp[az]);have IW:ac (l=pre++y::post):=⟨h1⟩;clear h1 IZ;simp only[aj,aq,ah,an,UC,UD];repeat' (first|refine dn ?_|refine ad rfl ?_|(refine dI fun A B a b=>?_;simp only[go_sem, *,au hv];(repeat' first|apply a.1|apply b.1|refine aV (fun h=>?_) fun h=>?_)<;>clear a b A B))
  all_goals exact vP
end
section
variable {M:List Bool}{b j n:Nat}
attribute [local irreducible] bB cX cZ aB bS dE
attribute [local go_sem] U1 Vj List.replicate UC Vp Nat.reduceMul Vg bi eF d9 bP bt ci bN cM ba aY aS aM aX and_self
def mb(M:List Bool):List (List AV):=M.map fun b=>[.bool b]
def mb_len(M:List Bool):(mb M).length=M.length:=by simp[mb]
def mb_get{b:Bool}(h:M[j]? = some b):(mb M)[j]? = some [.bool b]:=by simp[mb,h]
def mb_set(M:List Bool)(j:Nat):(mb M).set j [.bool true]=mb (M.set j true):=by simp[mb,List.map_set]
theorem cnt_set(h:M[j]? = some false):(M.set j true).count false+1=M.count false:=by
 induction M generalizing j with
 | nil=>simp at h
 | cons x M ih=>
  cases j with
  | zero=>simp at h;subst h;simp
  | succ j=>simp at h;have:=ih h;cases x<;>simp[List.count_cons]<;>omega
def ixB(h:j<n):aD CX 270 (.sl 1 n 0 n 1) (.int .i64 (j:Int))=some (.ptr 1 n 1 j 0):=by
 simp[aD,ty270,ty4,h]
def ixN(h:j<n):aD CX 31 (.sl b n 0 n 1) (.int .i64 (j:Int))=some (.ptr b n 1 j 0):=by
 simp[aD,ty31,ty3,h]
def app_get{S X:ab}{x:dY}(h:S[b]? = some x):(S++X)[b]? = some x:=by rw[UN (UK.1 h).1];exact h
def mkslB{id:Nat}(h:n<=1000):yk (CX.ty 270) (CX.ty 4) false id (.int .i64 (n:Int)) (.int .i64 (n:Int))=some (.sl id n 0 n 1,[.arr (mb (List.replicate n false)) 1 0 true]):=by
 simp only[yk,ty270,ty4,d9];rw[if_pos ⟨trivial,by omega,by omega,by simp;omega,by simp;omega⟩];simp[mb,ba];omega
theorem reachE{v:AV}{l:List En}(n kd:Int)(hv:bq 8 (l.map aG) v)(hok:∀e∈l,e.ok)(hf:∀e∈l,e.few)(hl:l.length<=100):∃o:List Int,o.length<=100/\aB CX 97 [v,.int .i64 n,.int .i64 kd] (· = .osl 1 (az o)):=by
 suffices h:aB CX 97 [v,.int .i64 n,.int .i64 kd] (fun r=> ∃o:List Int,r = .osl 1 (az o)/\o.length<=100) by
  obtain⟨r,⟨o,rfl,ho⟩,h⟩:=h.ex;exact⟨o,ho,h⟩
 have sv:=hv.snap;have mk:∀id,_:=fun id=>mkslB (id:=id) (n:=l.length) (by omega);simp only[ty270,ty4]at mk;have K4:ac (l.length<=100):=⟨hl⟩;have qf:ac (∀m,∃i,mF l.length i/\aB CX 94 [v,.int .i64 m] (· = .int .i64 i)):=⟨fun m=>G8 m hv (by omega)⟩;clear hl;refine aL fx97 ?_;simp only[UB,UE,UF,UH,Nat.reduceAdd,Nat.reduceSub,List.replicate];repeat' (first|refine dn ?_|refine ad rfl ?_|(refine dI fun A B a b=>?_;simp only[go_sem, *,qC (pos := "ref.go:160") ty270 rfl (by kernel_rfl),au hv];(repeat' first|apply a.1|apply b.1|refine aV (fun h=>?_) fun h=>?_)<;>clear a b A B))
 clear mk
 refine aJ [10,11,12,13,14,15,23,24,25,26,27,28,29,30,31,32,33,34,35,36,37,38,39,40,41,42,43,44,45,46,47,48,49,50,51,52,53,54,55,56,57,58,59,60,61,62,63,64,65,66,67,68,69,70,71,72,73,74,75,76,77,78,79,80,81,82,83,84,85,86,87,88,89,90] (fun a:Nat×List Int×Nat×ab×List Bool×Nat=>[(8,.sl (a.2.2.1+1+1) a.2.1.length 0 a.2.1.length 1),(9,.int .i64 (a.1:Int))]) (fun a _=> .arr [] 1 0 true :: .arr (mb a.2.2.2.2.1) 1 a.2.2.2.2.2 true::a.2.2.2.1)
  (fun a=>a.1<=l.length+1/\a.2.2.2.1[a.2.2.1]? = some (.arr (az a.2.1) 1 0 true)/\a.2.2.2.2.1.length=l.length/\a.2.2.2.2.2<=l.length/\a.2.1.length<=200) (fun a=>l.length+1-a.1) (0,[n],0,[.arr (az [n]) 1 0 true],List.replicate l.length false,0) ⟨by simp,rfl,by simp,by simp,by simp⟩ ?_ ⟨[],rfl⟩ ?_
 .exact aQ
 rintro⟨r,nl,y,Y,M,w⟩ g G ⟨hr,hY,hM,hw,MD⟩;replace hr:r<=l.length+1:=hr;replace hY:Y[y]? = some (.arr (az nl) 1 0 true):=hY;replace hM:M.length=l.length:=hM;replace hw:w<=l.length:=hw;replace MD:nl.length<=200:=MD;by_cases k1:(r:Int)<=(l.length:Int)
 case neg=>
  have NV:ac (M.length=l.length):=⟨hM⟩;clear hr hY MD hM;refine b8 (lk hv) ?_;refine aJ [91,92,93,94,95,96,97,98,99,100,101,102,103,104,105,106,107,108] (fun a:Nat×List Int=>[(16,.sl (Y.length+1+1) a.2.length 0 a.2.length 1),(17,.int .i64 (a.1:Int))]) (fun a H=> .arr [] 1 0 true :: .arr (mb M) 1 w true::(Y ++ .arr (az a.2) 1 0 true::H)) (fun a=>a.1<=l.length/\a.2.length<=a.1) (fun a=>l.length-a.1) (0,[]) ⟨U9 _,by simp⟩ ?_ ⟨[],rfl⟩ ?_
  .exact aQ
  rintro⟨i,o⟩ g2 G2 ⟨hi,ho⟩;replace hi:i<=l.length:=hi;replace ho:o.length<=i:=ho;by_cases k2:i<l.length
  case neg=>
   have k2':¬(i:Int)<(l.length:Int):=by omega
   have RA:ac (o.length<=100):=⟨by have:=K4.out;omega⟩;clear hi ho k2;exact fm (lk hv)
  have k2':(i:Int)<(l.length:Int):=by omega
  have w1:=am (n:=i) (by have:=K4.out;omega);obtain⟨b,hb⟩:∃b,M[i]? = some b:=⟨_,UL (by have:=NV.out;omega)⟩;obtain⟨x,hx⟩:∃x,l[i]? = some x:=⟨_,UL k2⟩;have i1:=ay hv (X:=CX) ty34 ty66 rfl (n:=i) (row:=aG x) (k := .i64) (by simp[hx]);have i2:=ixB k2;have i3:=mb_get hb;have b1:(o.length+1)*8<=140737488355328:=by have:=K4.out;omega
  have b2:o.length+1<=140737488355328:=by omega
  have hm:ac (l.length-(i+1)<l.length-i/\i+1<=l.length/\o.length+1<=i+1/\o.length<=i+1):=⟨by omega⟩;simp only[aG]at i1;have PY:=hw;clear hi ho hx hb;cases b with
  | false=>
   refine b8 (lk hv) ?_;refine ax (i+1,o) hm.out.1 ⟨hm.out.2.1,hm.out.2.2.2⟩ ?_ ?_
   .exact aQ
   .exact⟨_,rfl⟩
  | true=>
   refine b8 (lk hv) ?_;refine ax (i+1,o++[x.id]) hm.out.1 ⟨hm.out.2.1,by simpa using hm.out.2.2.1⟩ ?_ ?_
   .exact aQ
   .simp only[gH];exact⟨_,rfl⟩
 have RF:ac (l.length+1-(r+1)<l.length+1-r/\r+1<=l.length+1):=⟨by omega⟩;have w0:=am (n:=r) (by have:=K4.out;omega);have hcf:M.count false<=l.length:=by rw[<-hM];exact List.count_le_length
 have hYH:ac (Y[y]? = some (.arr (az nl) 1 0 true)):=⟨hY⟩;have NW:ac (M.length=l.length/\M.count false<=l.length/\w<=l.length):=⟨hM,hcf,hw⟩;clear hr hY hM hcf hw;refine b8 (lk hv) ?_;refine aJ [12,13,14,15,29,30,31,32,33,34,35,36,37,38,39,40,41,42,43,44,45,46,47,48,49,50,51,52,53,54,55,56,57,58,59,60,61,62,63,64,65,66,67,68,69,70,71,72,73,74,75,76,77,78,79,80,81,82,83,84,85,86,87,88,89] (fun a:Nat×List Int×List Bool×Nat=>[(10,.sl (Y.length+1+1) a.2.1.length 0 a.2.1.length 1),(11,.int .i64 (a.1:Int))]) (fun a H=> .arr [] 1 0 true :: .arr (mb a.2.2.1) 1 a.2.2.2 true::(Y ++ .arr (az a.2.1) 1 0 true::H)) (fun a=>a.1<=nl.length/\a.2.2.1.length=l.length/\a.2.1.length+a.2.2.1.count false<=l.length/\a.2.2.2<=l.length) (fun a=>nl.length-a.1) (0,[],M,w) ⟨U9 _,NW.out.1,by simpa using NW.out.2.1,NW.out.2.2⟩ ?_ ⟨[],rfl⟩ ?_
 .exact aQ
 rintro⟨i,ml,M1,w1⟩ g1 G1 ⟨hi,KV,JE,Ku⟩;replace hi:i<=nl.length:=hi;replace KV:M1.length=l.length:=KV;replace JE:ml.length+M1.count false<=l.length:=JE;replace Ku:w1<=l.length:=Ku;by_cases k2:i<nl.length
 case neg=>
  have k2':¬(i:Int)<(nl.length:Int):=by omega
  have hP:ac (r+1<=l.length+1/\(Y ++ .arr (az ml) 1 0 true::G1)[Y.length]? = some (.arr (az ml) 1 0 true)/\M1.length=l.length/\w1<=l.length/\ml.length<=200):=⟨RF.out.2,by simp,KV,Ku,by have:=K4.out;omega⟩;clear hi KV JE k2;refine b8 (lk hv) ?_;refine ax (r+1,ml,Y.length,Y ++ .arr (az ml) 1 0 true::G1,M1,w1) RF.out.1 hP.out ?_ ⟨[],rfl⟩
  .exact aQ
 have k2':(i:Int)<(nl.length:Int):=by omega
 have wi:=am (n:=i) (by omega);obtain⟨z,hz⟩:∃z,nl[i]? = some z:=⟨_,UL k2⟩;have ix:=fun b=>ixN (b:=b) k2;have hgz:(az nl)[i]? = some [.int .i64 z]:=by simp[az,hz]
 obtain⟨at_,hat,q1⟩:=qf.out z;have q1:=q1.rw;have I9:∀X,(Y++X)[y]? = some (.arr (az nl) 1 0 true):=fun X=>app_get hYH.out;have Od:ac (nl.length-(i+1)<nl.length-i/\i+1<=nl.length):=⟨by omega⟩;have TP:ac (mF l.length at_):=⟨hat⟩;have Q8:ac (M1.length=l.length/\ml.length+M1.count false<=l.length/\w1<=l.length):=⟨KV,JE,Ku⟩;clear hi hz hat KV JE Ku;refine b8 (lk hv) ?_;refine aJ [14,15,41,42,43,44,45,46,47,48,49,50,51,52,53,54,55,56,57,58,59,60,61,62,63,64,65,66,67,68,69,70,71,72,73,74,75,76,77,78,79,80,81,82,83,84,85,86,87,88,89] (fun a:Nat×List Int×List Bool×Nat=>[(10,.sl (Y.length+1+1) a.2.1.length 0 a.2.1.length 1),(13,.int .i64 (a.1:Int))]) (fun a H=> .arr [] 1 0 true :: .arr (mb a.2.2.1) 1 a.2.2.2 true::(Y ++ .arr (az a.2.1) 1 0 true::H)) (fun a=>a.1<=1048576/\a.2.2.1.length=l.length/\a.2.1.length+a.2.2.1.count false<=l.length/\a.2.2.2<=l.length) (fun a=>1048576-a.1) (0,ml,M1,w1) ⟨U9 _,Q8.out⟩ ?_ ⟨_,rfl⟩ ?_
 .exact aQ
 clear Q8;rintro⟨k,ml,M1,w1⟩ g2 G2 ⟨hk,KV,JE,Ku⟩;replace hk:k<=1048576:=hk;replace KV:M1.length=l.length:=KV;replace JE:ml.length+M1.count false<=l.length:=JE;replace Ku:w1<=l.length:=Ku;by_cases k3:0<=at_
 case neg=>
  have hP:ac (i+1<=nl.length/\M1.length=l.length/\ml.length+M1.count false<=l.length/\w1<=l.length):=⟨Od.out.2,KV,JE,Ku⟩;clear hk KV JE Ku;refine wk ?_;refine ax (i+1,ml,M1,w1) Od.out.1 hP.out ?_ ⟨_,rfl⟩
  .exact aQ
 obtain⟨t,rfl⟩:∃t:Nat,at_=(t:Int):=⟨at_.toNat,by omega⟩;have Mj:t<l.length:=by have:=TP.out;unfold mF at this;omega
 obtain⟨x,hx⟩:∃x,l[t]? = some x:=⟨_,UL Mj⟩;have Jg:=Vs hx;have JQ:=(hok x Jg).l;have PX:=(hf x Jg).l;have i1:=ay hv (X:=CX) ty34 ty66 rfl (n:=t) (row:=aG x) (k := .i64) (by simp[hx]);simp only[aG]at i1;have wk:=am (n:=k) (by omega);clear hx Jg;by_cases k4:(k:Int)<(x.ll.length:Int)
 case neg=>
  have hP:ac (i+1<=nl.length/\M1.length=l.length/\ml.length+M1.count false<=l.length/\w1<=l.length):=⟨Od.out.2,KV,JE,Ku⟩;clear hk KV JE Ku Mj;refine b8 (lk JQ) ?_;refine ax (i+1,ml,M1,w1) Od.out.1 hP.out ?_ ⟨_,rfl⟩
  .exact aQ
 obtain⟨u,hu⟩:∃u,x.ll[k]? = some u:=⟨_,UL (by omega)⟩;have i2:=ay JQ (X:=CX) ty63 ty153 rfl (n:=k) (row:=gV u) (k := .i64) (by simp[hu]);simp only[gV]at i2;obtain⟨to_,Qb,q2⟩:=qf.out u.2;have q2:=q2.rw;have Oo:ac (1048576-(k+1)<1048576-k/\k+1<=1048576):=⟨by omega⟩;have Ud:ac (M1.length=l.length/\ml.length+M1.count false<=l.length/\w1<=l.length):=⟨KV,JE,Ku⟩;clear hu hk;cases k5:(u.1 == kd) with
 | false=>
  clear KV JE Ku Mj Qb;refine b8 (lk JQ) ?_;refine ax (k+1,ml,M1,w1) Oo.out.1 ⟨Oo.out.2,Ud.out⟩ ?_ ⟨_,rfl⟩
  .exact aQ
 | true=>
 by_cases k6:0<=to_
 case neg=>
  clear KV JE Ku Mj Qb;refine b8 (lk JQ) ?_;refine ax (k+1,ml,M1,w1) Oo.out.1 ⟨Oo.out.2,Ud.out⟩ ?_ ⟨_,rfl⟩
  .exact aQ
 obtain⟨j,rfl⟩:∃j:Nat,to_=(j:Int):=⟨to_.toNat,by omega⟩;have Mb:j<l.length:=by unfold mF at Qb;omega
 obtain⟨b,hb⟩:∃b,M1[j]? = some b:=⟨_,UL (by omega)⟩;have ib:=ixB Mb;have gb:=mb_get hb;have gd:(mb M1).getD j [] = [.bool b]:=by rw[Ve,gb];rfl
 have sb:=mb_set M1 j;have ml2:=(mb_len M1).trans KV;cases b with
 | true=>
  clear KV JE Mj Qb hb;refine b8 (lk JQ) ?_;refine ax (k+1,ml,M1,w1) Oo.out.1 ⟨Oo.out.2,Ud.out⟩ ?_ ⟨_,rfl⟩
  .exact aQ
 | false=>
  have b1:(ml.length+1)*8<=140737488355328:=by have:=K4.out;omega
  have b2:ml.length+1<=140737488355328:=by omega
  have K6:=cnt_set hb;have Q7:ac ((M1.set j true).length=l.length/\(ml++[u.2]).length+(M1.set j true).count false<=l.length/\l.length<=l.length):=⟨by simp[KV],by simp;omega,UJ _⟩;clear KV JE Mj Qb hb K6;refine b8 (lk JQ) ?_;refine ax (k+1,ml++[u.2],M1.set j true,l.length) Oo.out.1 ⟨Oo.out.2,Q7.out⟩ ?_ ?_
  .exact aQ
  .simp only[gH];exact⟨_,rfl⟩
end
end Go.Eng
