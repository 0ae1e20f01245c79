/- The run's own blocks, and the operations that read them or make one. -/
import Derived.Test.YtkahfcmeeloikaaGreatDoorEngE
import Derived.Laws.IdiomStrings
import Derived.Laws.BytesString
set_option linter.all false
set_option maxHeartbeats 1000000
namespace Go.Eng
open Go.RowKit
variable {B' T':bV}{b e g gs sz wep:Nat}{c:Array Value}{es:List (AV×AV)}{pr:Bool}{rows:List (List AV)}
abbrev zS:=Nat->Option dY
def dY.len:dY->Nat
 | .arr rows _ _ _=>rows.length
 | .dead n=>n
 | _=>0
def nL:dY->dY->Prop
 | .arr rows sz wep pr,b=> ∃more,b = .arr (rows++more) sz wep pr
 | a,b=>b=a
theorem nL.refl:∀a:dY,nL a a
 | .arr .. =>⟨[],by simp⟩
 | .map _=>rfl
 | .dead _=>rfl
theorem nL.trans{a b c:dY}(h:nL a b)(k:nL b c):nL a c:=by
 cases a with
 | arr rows sz wep pr=>
  obtain⟨m,rfl⟩:=h;obtain⟨m',rfl⟩:=k;exact⟨m++m',by rw[UX]⟩
 | map es=>simp only[nL]at h;subst h;exact k
 | dead _=>simp only[nL]at h;subst h;exact k
theorem nL.len{a b:dY}(h:nL a b):a.len<=b.len:=by
 cases a with
 | arr rows sz wep pr=>obtain⟨m,rfl⟩:=h;simp[dY.len]
 | map es=>simp only[nL]at h;subst h;exact UJ _
 | dead _=>simp only[nL]at h;subst h;exact UJ _
def Holds(σ:zS)(b:Nat)(blk:dY):Prop := ∃blk',σ b=some blk'/\nL blk blk'
def Holds.of{σ:zS}{blk:dY}(h:σ b=some blk):Holds σ b blk:=⟨blk,h,nL.refl _⟩
def kp(S:ab)(σ:zS):Prop := ∀b blk,S[b]? = some blk->Holds σ b blk
theorem Holds.arr{σ:zS}(h:Holds σ b (.arr rows sz wep pr)):∃more,σ b=some (.arr (rows++more) sz wep pr):=by
 obtain⟨blk',h1,m,rfl⟩:=h;exact⟨m,h1⟩
theorem Holds.map{σ:zS}(h:Holds σ b (.map es)):σ b=some (.map es):=by
 obtain⟨blk',h1,h2⟩:=h;simp only[nL]at h2;subst h2;exact h1
def cf(w:World)(T B:bV)(I:dK):List (AV×AV)->List MapEntry->Prop
 | [],ms=>ms = []
 | e::es,ms=> ∃m K8,ms=m::K8/\ap w e.1 T T aT m.key/\ap w e.2 T B I m.val/\cf w T B I es K8
def i9(w:World)(T B:bV)(I:dK)(ob:Option dY)(e g gs:Nat):Prop :=
 match ob with
 | some (.arr rows sz wep pr)=>e<=rows.length/\e*sz<=gs/\(∃c ty,w.heap[g]? = some (.cells c ty (0,0))/\c.size=gs)/\(wep<=e->bn w (rows.take e) T (if pr then T else B) (if pr then aT else I) g 0 sz)
 | some (.map es)=>e=0/\∃ms clock,w.heap[g]? = some (.map ms clock)/\cf w T B I es ms.toList
 | some (.dead n)=>e<=n
 | _=>False
structure cB [aw] (base:Nat) (T B:bV) (I:dK) (S:zS) (w:World):Prop where
 base_le:base<=w.heap.size
 TB:∀g,T g->B g
 Blt:∀g,B g->g<w.heap.size
 own:∀b e g gs,I b e=some (g,gs)->base<=g/\(B g->∃n,S b=some (.dead n))/\g<w.heap.size
 excl:∀b e b' e' g gs KW,I b e=some (g,gs)->I b' e'=some (g,KW)->b=b'
 blk:∀b e g gs,I b e=some (g,gs)->i9 w T B I (S b) e g gs
 known:∀g o,aw.blk g=some o->B g/\w.heap[g]? = some o
structure bu (base:Nat) (T B:bV) (I:dK) (w:World) (T' B':bV) (I':dK) (w':World):Prop where
 mono:jG w T B I w' T' B' I'
 below:Below base w w'
 newT:∀g,T' g->T g\/base<=g
 newB:∀g,B' g->B g\/base<=g
section
variable [aw] {base:Nat}{T B:bV}{I:dK}{S:zS}{w w':World}
omit [aw] in
def bu.refl:bu base T B I w T B I w:=⟨⟨fun _ h=>h,fun _ h=>h,fun _ _ _ h=>h,fun _ _=>rfl⟩,Vh _ _,fun _ h=> .inl h,fun _ h=> .inl h⟩
omit [aw] in
theorem bu.trans{T1 B1 T2 B2:bV}{I1 I2:dK}{w1 w2:World}(h:bu base T B I w T1 B1 I1 w1)(k:bu base T1 B1 I1 w1 T2 B2 I2 w2):bu base T B I w T2 B2 I2 w2:=by
 refine⟨⟨fun g hg=>k.mono.tT g (h.mono.tT g hg),fun g hg=>k.mono.tB g (h.mono.tB g hg),fun b e p hp=>k.mono.tI b e p (h.mono.tI b e p hp),fun g hg=>(k.mono.tw g (h.mono.tB g hg)).trans (h.mono.tw g hg)⟩,h.below.trans k.below,?_,?_⟩
 .intro g hg;rcases k.newT g hg with h1|h1
  .exact h.newT g h1
  .exact .inr h1
 .intro g hg;rcases k.newB g hg with h1|h1
  .exact h.newB g h1
  .exact .inr h1
omit [aw] in
def lC{w w':World}{T B:bV}{I I':dK}(pr:Bool)(m:jG w T B I w' T' B' I')(Jc:∀g,T g->B g) :
  jG w T (if pr then T else B) (if pr then aT else I) w' T' (if pr then T' else B') (if pr then aT else I'):=by
 cases pr
 .exact m
 .exact⟨m.tT,m.tT,fun _ _ _ h=>h,fun g hg=>m.tw g (Jc g hg)⟩
omit [aw] in
def wG{T B:bV}(pr:Bool)(Jc:∀g,T g->B g):∀g,T g->(if pr then T else B) g:=by
 cases pr
 .exact Jc
 .exact fun _ h=>h
omit [aw] in
theorem oZ{B:bV}{I I':dK}(m:jG w T B I w' T' B' I')(Jc:∀g,T g->B g):∀{es:List (AV×AV)}{ms:List MapEntry},cf w T B I es ms->cf w' T' B' I' es ms
 | [],_,h=>h
 | e::es,ms,h=>by
  simp only[cf]at h ⊢;obtain⟨m0,K8,h1,h2,h3,h4⟩:=h;have mm:jG w T T aT w' T' T' aT:=⟨m.tT,m.tT,fun _ _ _ h=>h,fun g hg=>m.tw g (Jc g hg)⟩;exact⟨m0,K8,h1,cu _ mm (fun _ h=>h) h2,cu _ m Jc h3,oZ m Jc h4⟩
omit [aw] in
def i9.mono{B:bV}{I I':dK}{ob:Option dY}(m:jG w T B I w' T' B' I')(Jc:∀g,T g->B g)(hg:w'.heap[g]? = w.heap[g]?)(h:i9 w T B I ob e g gs):i9 w' T' B' I' ob e g gs:=by
 unfold i9 at h ⊢;split at h
 .obtain⟨h1,h2,⟨c,ty,h3,h4⟩,h5⟩:=h;exact⟨h1,h2,⟨c,ty,hg.trans h3,h4⟩,fun hw=>eh _ (lC _ m Jc) (wG _ Jc) (fun o=>js hg) (h5 hw)⟩
 .obtain⟨h1,ms,clock,h2,h3⟩:=h;exact⟨h1,ms,clock,hg.trans h2,oZ m Jc h3⟩
 .exact h
 .exact h
omit [aw] in
def i9.grow{B:bV}{I:dK}{ob ob':Option dY}(hb:∀blk,ob=some blk->∃blk',ob'=some blk'/\nL blk blk')(h:i9 w T B I ob e g gs):i9 w T B I ob' e g gs:=by
 unfold i9 at h;split at h
 .obtain⟨_,h1,m,rfl⟩:=hb _ rfl;subst h1;obtain⟨h1,h2,h3,h5⟩:=h;exact⟨by simp;omega,h2,h3,fun hw=>by rw[Wg h1];exact h5 hw⟩
 .obtain⟨_,h1,h2⟩:=hb _ rfl;simp only[nL]at h2;subst h2;subst h1;exact h
 .obtain⟨_,h1,h2⟩:=hb _ rfl;simp only[nL]at h2;subst h2;subst h1;exact h
 .exact h.elim
def cB.ownA(h:cB base T B I S w)(hi:I b e=some (g,gs))(hS:S b=some (.arr rows sz wep pr)):base<=g/\¬B g/\∃c ty,w.heap[g]? = some (.cells c ty (0,0))/\c.size=gs:=by
 have h1:=h.own _ _ _ _ hi;have h2:=h.blk _ _ _ _ hi;rw[hS]at h2;refine⟨h1.1,?_,h2.2.2.1⟩;intro hB;obtain⟨n,hn⟩:=h1.2.1 hB;rw[hS]at hn;cases hn
def cB.ownM(h:cB base T B I S w)(hi:I b e=some (g,gs))(hS:S b=some (.map es)):base<=g/\¬B g/\g<w.heap.size:=by
 have h1:=h.own _ _ _ _ hi;refine⟨h1.1,?_,h1.2.2⟩;intro hB;obtain⟨n,hn⟩:=h1.2.1 hB;rw[hS]at hn;cases hn
def cB.blkA(h:cB base T B I S w)(hi:I b e=some (g,gs))(hS:S b=some (.arr rows sz wep pr)):e<=rows.length/\e*sz<=gs/\(wep<=e->bn w (rows.take e) T (if pr then T else B) (if pr then aT else I) g 0 sz):=by
 have h2:=h.blk _ _ _ _ hi;rw[hS]at h2;exact⟨h2.1,h2.2.1,h2.2.2.2⟩
theorem cB.heap(h:cB base T B I S w)(hw:w'.heap=w.heap):cB base T B I S w' :=
 ⟨by rw[hw];exact h.base_le,h.TB,fun g hg=>by rw[hw];exact h.Blt g hg,fun b e g gs hi=>by rw[hw];exact h.own b e g gs hi,h.excl,
  fun b e g gs hi=>(h.blk b e g gs hi).mono ⟨fun _ h=>h,fun _ h=>h,fun _ _ _ h=>h,fun g _=>by rw[hw]⟩ h.TB (by rw[hw]),fun g o k=>by rw[hw];exact h.known g o k⟩
theorem cB.grow{S':zS}(h:cB base T B I S w)(hS:∀b e p,I b e=some p->∀blk,S b=some blk->Holds S' b blk):cB base T B I S' w :=
 ⟨h.base_le,h.TB,h.Blt,fun b e g gs hi=>⟨(h.own b e g gs hi).1,fun hB=>by
  obtain⟨n,hn⟩:=(h.own b e g gs hi).2.1 hB;obtain⟨blk',q1,q2⟩:=hS b e _ hi _ hn;simp only[nL]at q2;subst q2;exact⟨n,q1⟩,(h.own b e g gs hi).2.2⟩,h.excl,fun b e g gs hi=>(h.blk b e g gs hi).grow (hS b e _ hi),h.known⟩
def cB.view{S':zS}(h:cB base T B I S w)(hS:∀b e p,I b e=some p->S' b=S b):cB base T B I S' w :=
 ⟨h.base_le,h.TB,h.Blt,fun b e g gs hi=>by rw[hS b e _ hi];exact h.own b e g gs hi,h.excl,fun b e g gs hi=>by rw[hS b e _ hi];exact h.blk b e g gs hi,h.known⟩
def cB.lt(h:cB base T B I S w)(hi:I b e=some (g,gs)):g<w.heap.size:=(h.own _ _ _ _ hi).2.2
def cB.quiet(h:cB base T B I S w)(hb:Below w.heap.size w w')(hT:∀g,T g->T' g)(hB:∀g,B g->B' g)(nT:∀g,T' g->B' g)(nB:∀g,B' g->B g\/(w.heap.size<=g/\g<w'.heap.size)) :
  cB base T' B' I S w':=by
 refine⟨UQ h.base_le hb.size,nT,fun g hg=>?_,fun b e g gs hi=>?_,h.excl,fun b e g gs hi=>?_,fun g o k=>⟨hB g (h.known g o k).1,by rw[hb.block g (h.Blt g (h.known g o k).1)];exact(h.known g o k).2⟩⟩
 .rcases nB g hg with h1|h1
  .exact We (h.Blt g h1) hb.size
  .exact h1.2
 .obtain⟨h1,h2,h3⟩:=h.own b e g gs hi;refine⟨h1,fun hg=>?_,We h3 hb.size⟩;rcases nB g hg with h4|h4
  .exact h2 h4
  .omega
 .exact(h.blk b e g gs hi).mono ⟨hT,hB,fun _ _ _ h=>h,fun g hg=>hb.block g (h.Blt g hg)⟩ h.TB (hb.block g (h.lt hi))
def dK.put(I:dK)(b e g gs:Nat):dK:=fun b' e'=>if b'=b/\e'=e then some (g,gs) else I b' e'
omit [aw] in
def dK.put_self{I:dK}{b e g gs:Nat}:dK.put I b e g gs b e=some (g,gs):=by simp[dK.put]
omit [aw] in
def dK.put_old{I:dK}(hn:I b e=none):∀b' e' p,I b' e'=some p->dK.put I b e g gs b' e'=some p:=by
 intro b' e' p h;unfold dK.put;split
 .rename_i hc;obtain⟨rfl,rfl⟩:=hc;rw[hn]at h;cases h
 .exact h
def cB.place(h:cB base T B I S w)(hn:I b e=none)(hg:base<=g)(Qq:¬B g)(Ja:g<w.heap.size)(Jh:∀b' e gs,I b' e=some (g,gs)->b'=b)(NT:i9 w T B (dK.put I b e g gs) (S b) e g gs) :
  cB base T B (dK.put I b e g gs) S w:=by
 have hm:jG w T B I w T B (dK.put I b e g gs):=⟨fun _ h=>h,fun _ h=>h,dK.put_old hn,fun _ _=>rfl⟩;refine⟨h.base_le,h.TB,h.Blt,fun b' e' g' KW hi=>?_,fun b1 e1 b2 e2 g' s1 s2 h1 h2=>?_,fun b' e' g' KW hi=>?_,h.known⟩
 .unfold dK.put at hi;split at hi
  .injection hi with hi;injection hi with q1 q2;subst q1 q2;exact⟨hg,fun hB=>absurd hB Qq,Ja⟩
  .exact h.own _ _ _ _ hi
 .unfold dK.put at h1 h2;split at h1<;>split at h2
  .rename_i c1 c2;rw[c1.1,c2.1]
  .rename_i c1 _;injection h1 with h1;injection h1 with q1 _;subst q1;rw[c1.1,Jh _ _ _ h2]
  .rename_i _ c2;injection h2 with h2;injection h2 with q1 _;subst q1;rw[c2.1,Jh _ _ _ h1]
  .exact h.excl _ _ _ _ _ _ _ h1 h2
 .by_cases J0:b'=b/\e'=e
  .obtain⟨rfl,rfl⟩:=J0;rw[dK.put_self]at hi;injection hi with hi;injection hi with q1 q2;subst q1 q2;exact NT
  .have Nu:I b' e'=some (g',KW):=by
    unfold dK.put at hi;rw[if_neg J0]at hi;exact hi
   exact(h.blk _ _ _ _ Nu).mono hm h.TB rfl
def cB.version(h:cB base T B I S w){ty:TypeId}(hn:I b rows.length=none)(hS:Holds S b (.arr rows sz wep pr))
  (hg:base<=g) (Qq:¬B g) (Jh:∀b' e gs,I b' e=some (g,gs)->b'=b) (hc:w.heap[g]? = some (.cells c ty (0,0))) (Jl:rows.length*sz<=c.size) (JW:bn w rows T (if pr then T else B) (if pr then aT else I) g 0 sz) :
  cB base T B (dK.put I b rows.length g c.size) S w/\bu base T B I w T B (dK.put I b rows.length g c.size) w:=by
 have hm:jG w T B I w T B (dK.put I b rows.length g c.size):=⟨fun _ h=>h,fun _ h=>h,dK.put_old hn,fun _ _=>rfl⟩;obtain⟨more,J1⟩:=hS.arr;refine⟨h.place hn hg Qq (UP.1 hc).1 Jh ?_,⟨hm,Vh _ _,fun _ h=> .inl h,fun _ h=> .inl h⟩⟩;rw[J1];exact⟨by simp,Jl,⟨c,ty,hc,rfl⟩,fun _=>by rw[Xl];exact eh rows (lC pr hm h.TB) (wG pr h.TB) (fun _=>rfl) JW⟩
def cB.newBlk(h:cB base T B I S w){ty:TypeId}(IX:I b rows.length=none)(hS:Holds S b (.arr rows sz 0 pr))
  (hg:base<=g) (Qq:¬B g) (Jh:∀b e gs,I b e≠some (g,gs)) (hc:w.heap[g]? = some (.cells c ty (0,0))) (Jl:rows.length*sz<=c.size) (JW:bn w rows T (if pr then T else B) (if pr then aT else I) g 0 sz) :
  cB base T B (dK.put I b rows.length g c.size) S w :=
 (h.version IX hS hg Qq (fun b' e gs hi=>absurd hi (Jh b' e gs)) hc Jl JW).1
omit [aw] in
def mc(o:Obj)(g:Nat)(h:g<w.heap.size):(w.alloc o).heap[g]? = w.heap[g]? := Below.heap_alloc w o g h
theorem cB.alloc(h:cB base T B I S w)(o:Obj):cB base T B I S (w.alloc o) :=
 h.quiet ((Vh _ w).alloc (UJ _) o) (fun _ h=>h) (fun _ h=>h) h.TB (fun _ h=> .inl h)
def bu.quiet(h:cB base T B I S w)(hb:Below w.heap.size w w')(hT:∀g,T g->T' g)(hB:∀g,B g->B' g)(nT:∀g,T' g->T g\/w.heap.size<=g)(nB:∀g,B' g->B g\/w.heap.size<=g):bu base T B I w T' B' I w' :=
 ⟨⟨hT,hB,fun _ _ _ h=>h,fun g hg=>hb.block g (h.Blt g hg)⟩,hb.mono h.base_le,fun g hg=>(nT g hg).imp id fun k=>UQ h.base_le k,fun g hg=>(nB g hg).imp id fun k=>UQ h.base_le k⟩
omit [aw] in
def bu.inj(hn:I b e=none):bu base T B I w T B (dK.put I b e g gs) w :=
 ⟨⟨fun _ h=>h,fun _ h=>h,dK.put_old hn,fun _ _=>rfl⟩,Vh _ _,fun _ h=> .inl h,fun _ h=> .inl h⟩
def cB.made(h:cB base T B I S w){us:List Value}(ty:TypeId)(IX:I b rows.length=none)(hS:Holds S b (.arr rows sz 0 pr))
  (hl:∀r∈rows,r.length=sz) (JM:ae w rows.flatten T (if pr then T else B) (if pr then aT else I) us) (h1:∀u∈us,u.oneCell'=true) (hc:c.toList.take us.length=us) :
  cB base T B (dK.put I b rows.length w.heap.size c.size) S (w.alloc (.cells c ty))/\bu base T B I w T B (dK.put I b rows.length w.heap.size c.size) (w.alloc (.cells c ty)):=by
 have hA:=h.alloc (.cells c ty);have Jj:=heap_alloc_new w (.cells c ty);have L7:jG w T B I (w.alloc (.cells c ty)) T B I:=⟨fun _ h=>h,fun _ h=>h,fun _ _ _ h=>h,fun g hg=>mc _ _ (h.Blt g hg)⟩;have OO:=lC pr L7 h.TB;have IY:us.length=rows.length*sz:=by rw[dC JM,fw hl]
 have hle:us.length<=c.size:=by
  have:(c.toList.take us.length).length=us.length:=by rw[hc]
  simp at this;omega
 refine⟨hA.newBlk IX hS h.base_le (fun hB=>absurd (h.Blt _ hB) (Xe _)) (fun b e gs hi=>absurd (h.lt hi) (Xe _)) Jj (by omega) ?_,?_⟩
 .rw[cU];refine⟨hl,eT (bW _ OO (wG pr h.TB) JM) h1 fun j u hj=>?_⟩;rw[cell_of_row _ _ _ _ _ _ Jj,UW];rw[<-hc,VZ]at hj;split at hj
  .simpa using hj
  .cases hj
 .exact(bu.quiet h ((Vh _ w).alloc (UJ _) _) (fun _ h=>h) (fun _ h=>h) (fun _ h=> .inl h) (fun _ h=> .inl h)).trans (bu.inj IX)
omit [aw] in
theorem y9{w:World}{T B:bV}{I:dK}(Jc:∀g,T g->B g):∀{ks vs:List AV}{ms:List MapEntry},ae w ks T T aT (ms.map (·.key))->ae w vs T T aT (ms.map (·.val))->cf w T B I (ks.zip vs) ms
 | [],vs,ms,h,_=>by
  simp only[ae,List.map_eq_nil_iff]at h;subst h;simp only[List.zip_nil_left,cf]
 | k::ks,[],ms,h,h'=>by
  simp only[ae,List.map_eq_nil_iff]at h';subst h';simp only[ae,Wb]at h;obtain⟨_,_,h,_⟩:=h;cases h
 | k::ks,v::vs,ms,h,h'=>by
  cases ms with
  | nil=>simp only[ae,Wb]at h;obtain⟨_,_,h,_⟩:=h;cases h
  | cons m ms=>
   simp only[Vk,ae]at h h';obtain⟨u,us,e1,h1,h2⟩:=h;obtain⟨u',Jf,e2,h3,h4⟩:=h';injection e1 with q1 q2;injection e2 with q3 q4;subst q1 q2 q3 q4;simp only[List.zip_cons_cons,cf];exact⟨m,ms,rfl,h1,cu _ ⟨fun _ h=>h,Jc,fun _ _ _ h=>(by cases h),fun _ _=>rfl⟩ (fun _ h=>h) h3,y9 Jc h2 h4⟩
def H5{base:Nat}{w:World}{T B:bV}{I:dK}{S:ab}{S':zS}(h:cB base T B I S' w)(hS:kp S S'){v:AV}{u:Value}(hm:wh S v=some es)(hu:ap w v T B I u):∃g ms clock,u = .map (some g)/\w.heap[g]? = some (.map ms clock)/\cf w T B I es ms.toList:=by
 unfold wh at hm;split at hm
 .rename_i b;split at hm
  .rename_i UA e1;injection hm with hm;subst hm;simp only[ap]at hu;obtain⟨g,gs,hi,rfl⟩:=hu;have hb:=h.blk _ _ _ _ hi;rw[(hS _ _ e1).map]at hb;obtain⟨_,ms,clock,hm,J7⟩:=hb;exact⟨g,ms,clock,rfl,hm,J7⟩
  .cases hm
 .injection hm with hm;subst hm;simp only[ap]at hu;obtain⟨g,ms,clock,rfl,_,h3,_,h4,h5⟩:=hu;exact⟨g,ms,clock,rfl,h3,y9 h.TB h4 h5⟩
 .cases hm
end
end Go.Eng
