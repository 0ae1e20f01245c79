/- lexicon.Get, walked in the model. -/
import Derived.Test.YtkahfcmeeloikaaGreatDoorZ2
import Derived.Test.YtkahfcmeeloikaaGreatDoorZ4
set_option linter.all false
set_option maxHeartbeats 4000000
namespace Go.Eng
open Go.RowKit Go.Shelf Go.Proofs
section
variable {A W:World}{B:Nat}{sv:Value}
attribute [local go_sem] Wm
structure jt where
 id:Int
 f:Value
 c:Value
 a:Value
 main:Int
 sb:Option Addr
 sc:Nat
 k:Value
 r:Value
 sx:List (ByteArray×ByteArray)
def jt.vals(e:jt):List Value:=[.int .i64 e.id,e.f,e.c,e.a,.int .i64 e.main,.slice e.sb e.sx.length e.sc,e.k,e.r]
def Bj:jt:=⟨0,.slice none 0 0,.int .i64 0,.slice none 0 0,0,none,0,.slice none 0 0,.slice none 0 0,[]⟩
instance:Inhabited jt:=⟨Bj⟩
def oA(l:List (ByteArray×ByteArray)):List Value:=l.flatMap fun s=>[.string s.1,.string s.2]
def jt.lies(n₀:Nat)(W:World)(e:jt):Prop:=e.sx = []\/∃b o,e.sb=some ⟨b,o,none⟩/\b<n₀/\∀j v,(oA e.sx)[j]? = some v->W.cell? ⟨b,o+j,none⟩=some v
def mO(n₀:Nat)(W:World)(sv:Value)(es:List jt):Prop :=
 (∀e∈es,e.lies n₀ W/\∀v∈e.vals,v.oneCell'=true)/\((∃ao aK,sv = .slice ao 0 aK/\es = [])\/∃b off aK,sv = .slice (some ⟨b,off,none⟩) es.length aK/\b<n₀/\∀j,j<es.length->∀i v,es[j]!.vals[i]? = some v->W.cell? ⟨b,off+j*8+i,none⟩=some v)
def mO.kept{n₀:Nat}{B:World}(h:∀(b o:Nat) (v:Value),b<n₀->A.cell? ⟨b,o,none⟩=some v->B.cell? ⟨b,o,none⟩=some v){es:List jt}(hl:mO n₀ A sv es):mO n₀ B sv es:=by
 obtain⟨h1,h2⟩:=hl;refine⟨fun e he=>?_,?_⟩
 .refine⟨?_,(h1 e he).2⟩;rcases (h1 e he).1 with h3|⟨b,o,h3,h4,h5⟩
  .exact .inl h3
  .exact .inr ⟨b,o,h3,h4,fun j v hj=>h _ _ _ h4 (h5 j v hj)⟩
 .rcases h2 with h3|⟨b,off,aK,h3,h4,h5⟩
  .exact .inl h3
  .exact .inr ⟨b,off,aK,h3,h4,fun j hj i v hi=>h _ _ _ h4 (h5 j hj i v hi)⟩
def mO.mono{n₀ n₁:Nat}(hn:n₀<=n₁){es:List jt}(hl:mO n₀ A sv es):mO n₁ A sv es:=by
 obtain⟨h1,h2⟩:=hl;refine⟨fun e he=>⟨?_,(h1 e he).2⟩,?_⟩
 .rcases (h1 e he).1 with h3|⟨b,o,h3,h4,h5⟩
  .exact .inl h3
  .exact .inr ⟨b,o,h3,by omega,h5⟩
 .rcases h2 with h3|⟨b,off,aK,h3,h4,h5⟩
  .exact .inl h3
  .exact .inr ⟨b,off,aK,h3,by omega,h5⟩
def ld{n₀:Nat}{B:World}(h:Below n₀ A B)(b o:Nat)(v:Value)(hb:b<n₀)(hc:A.cell? ⟨b,o,none⟩=some v):B.cell? ⟨b,o,none⟩=some v:=by rw[World.cell?_of_block (h.block b hb)];exact hc
def get1V(n:Int)(B:Nat)(w:World)(hB:B<w.heap.size)(KU:w.cell? ⟨B,0,none⟩=some (.int .i64 n)) :
  PredBelow Tryz.prog 202 #[.pointer (some ⟨B,0,none⟩)] (fun e:jt=> .agg e.vals.toArray) (fun e=>e.id == n) w:=fun W x hb=>by
 have hc:W.cell? ⟨B,0,none⟩=some (.int .i64 n):=(hb.cell (p:=⟨B,0,none⟩) hB).trans KU;have hBW:B<W.heap.size:=We hB hb.size;have I8:B≠W.heap.size:=by omega
 obtain⟨id,f,c,a,m,sb,sc,k,r,sx⟩:=x;show Calls Tryz.prog 202 #[.agg #[.int .i64 id,f,c,a,.int .i64 m,.slice sb sx.length sc,k,r],.pointer (some ⟨B,0,none⟩)] W _
 go_enter Tryz.func202,Tryz.ntmps202
 go_wp2
 all_goals (go_ret;exact⟨by simp_all,hb.alloc hb.size _⟩)
def gI(es:List jt)(n:Int):Option jt:=es.find? fun e=>e.id == n
theorem find_at(es:List jt)(n:Int):(∃j,j<es.length/\gI es n=some es[j]!/\Lib.idxBy (fun _ y:jt=>y.id == n) (es.take es.length) default=(j:Nat))\/(gI es n=none/\Lib.idxBy (fun _ y:jt=>y.id == n) (es.take es.length) default = -1):=by
 by_cases h:∃e∈es,e.id=n
 .have hf:∃j,j<es.length/\(es[j]!.id == n)=true/\∀i,i<j->(es[i]!.id == n)=false:=by
   induction es with
   | nil=>obtain⟨e,he,_⟩:=h;cases he
   | cons x es ih=>
    by_cases hx:x.id=n
    .exact⟨0,by simp,by simp[hx],fun i hi=>by omega⟩
    .obtain⟨j,h1,h2,h3⟩:=ih (by
      obtain⟨e,he,hi⟩:=h;rcases U2.1 he with rfl|he
      .exact absurd hi hx
      .exact⟨e,he,hi⟩)
     refine⟨j+1,by simp;omega,by simpa using h2,fun i hi=>?_⟩;cases i with
     | zero=>simp[hx]
     | succ i=>simpa using h3 i (by omega)
  obtain⟨j,h1,h2,h3⟩:=hf;refine .inl ⟨j,h1,?_,Lib.idxBy_hit _ es _ j default h1 (UJ _) h2 h3⟩;unfold gI;rw[List.find?_eq_some_iff_getElem];refine⟨h2,j,h1,by simp[h1],fun i hi=>?_⟩;have:=h3 i hi;have M4:i<es.length:=by omega
  simpa[M4]using this
 .refine .inr ⟨?_,Lib.idxBy_miss _ es _ default fun j hj=>?_⟩
  .unfold gI;rw[WI];intro e he hi;exact h ⟨e,he,by simpa using hi⟩
  .rw[beq_eq_false_iff_ne];intro hi;exact h ⟨es[j]!,by simp[hj],hi⟩
def ixNil(ao:Option Addr)(aK:Nat)(fv:Value)(W:World):Calls Tryz.prog 201 #[.slice ao 0 aK,fv] W fun e w'=>e = .returned (.int .i64 (-1))/\w'=W:=by
 go_enter Tryz.func201,Tryz.ntmps201
 go_wp2
 refine wp_loop_rounds 1 ?_;rw[rounds_succ]
 go_wp2
 go_ret
 exact⟨rfl,rfl⟩
def getV8(o:Option jt):Value := .tuple #[.agg (o.getD Bj).vals.toArray,.bool o.isSome]
def bx{vs:Array Value}{ty:TypeId}(h:W.heap[B]? = some (.cells vs ty (0,0)))(i:Nat)(v:Value)(hi:vs[i]? = some v):W.cell? ⟨B,i,none⟩=some v/\W.frozen? ⟨B,i,none⟩=false:=by
 constructor<;>simp[World.cell?,World.frozen?,h,hi]
def heap_setCell{c:Array Value}{ty:TypeId}(h:W.heap[B]? = some (.cells c ty (0,0)))(i:Nat)(v:Value):(W.setCell ⟨B,i,none⟩ v).heap[B]? = some (.cells (c.setIfInBounds i v) ty (0,0)):=by
 simp only[World.setCell,Array.getElem?_modify,if_true,h,Vf];rfl
theorem lZ{ty:TypeId}:∀(vs:List Value) (p:List Value) (q:Array Value) (W:World),W.heap[B]? = some (.cells q ty (0,0))->q.size=p.length+vs.length->q.toList.take p.length=p->(W.setCells B p.length vs).heap[B]? = some (.cells (p++vs).toArray ty (0,0))
 | [],p,q,W,h,hs,hp=>by
  rw[World.setCells,h];have:q.toList=p:=by rw[<-hp,Vm (by simp[hs])]
  simp[<-this]
 | v::vs,p,q,W,h,hs,hp=>by
  rw[World.setCells]
  have:=lZ vs (p++[v]) _ _ (heap_setCell h p.length v) (by simp at hs ⊢;omega) (by
   simp only[UG,UB,UE,UW,Wo];rw[WB,List.take_set_of_le (UJ _),hp];have:p.length<q.toList.length:=by simp at hs ⊢;omega
   rw[Wn this];rfl)
  simpa using this
theorem li{n₀ B:Nat}(hB:n₀<=B){W0:World}:∀(vs:List Value) (o:Nat) (W:World),Below n₀ W0 W->Below n₀ W0 (W.setCells B o vs)
 | [],_,_,h=>h
 | v::vs,o,W,h=>li hB vs (o+1) _ (h.setCell (p:=⟨B,o,none⟩) hB v)
def res8{x:jt}{ty:TypeId}(h:W.heap[B]? = some (.cells x.vals.toArray ty (0,0))){b:Bool}{t0 t1 t2 t3 t6 t7 t8 t9 t10 t11 t12 t13 t14 t15 t16:Value} :
  (results Tryz.f166 #[t0,t1,t2,t3,.pointer (some ⟨B,0,none⟩),.bool b,t6,t7,t8,t9,t10,t11,t12,t13,t14,t15,t16]).run Tryz.prog W = .ok (.tuple #[.agg x.vals.toArray,.bool b]) W:=by
 obtain⟨a0,_⟩:=bx h 0 _ rfl;obtain⟨a1,_⟩:=bx h 1 _ rfl;obtain⟨a2,_⟩:=bx h 2 _ rfl;obtain⟨a3,_⟩:=bx h 3 _ rfl;obtain⟨a4,_⟩:=bx h 4 _ rfl;obtain⟨a5,_⟩:=bx h 5 _ rfl;obtain⟨a6,_⟩:=bx h 6 _ rfl;obtain⟨a7,_⟩:=bx h 7 _ rfl;simp[results,Tryz.f166,go_sem,a0,a1,a2,a3,a4,a5,a6,a7,jt.vals]
set_option maxRecDepth 100000 in
def getVs(ao:Option Addr)(aK:Nat)(es:List jt)(n:Int)(w:World)(hl:es.length<=1000000)(h:mO w.heap.size w (.slice ao es.length aK) es) :
  Calls Tryz.prog 166 #[.slice ao es.length aK,.int .i64 n] w fun e W'=>e = .returned (getV8 (gI es n))/\Below w.heap.size w W':=by
 have eg:∀args w,(callFunc 202 args).run Tryz.prog w = .ok (.enter 202 args) w:=enters_of Tryz.func202 (by kernel_rfl) rfl;obtain⟨z,hz⟩:∃z,w.heap.size=z:=⟨_,rfl⟩;obtain⟨W1,Kg⟩:∃W1,(w.alloc (.cells #[.int .i64 n] 3)).alloc (.cells Bj.vals.toArray 66)=W1:=⟨_,rfl⟩;have LH:Below z w W1:=by rw[<-Kg,<-hz];exact((Vh _ w).alloc (UJ _) _).alloc (by simp) _
 have J2:W1.heap.size=z+2:=by rw[<-Kg];simp[hz]
 have Ks:W1.cell? ⟨z,0,none⟩=some (.int .i64 n):=by rw[<-Kg,<-hz];simp
 have KH:W1.heap[z+1]? = some (.cells Bj.vals.toArray 66 (0,0)):=by
  rw[<-Kg,<-hz];have:=World.alloc_heap_new (w.alloc (.cells #[.int .i64 n] 3)) (.cells Bj.vals.toArray 66);rwa [VH]at this
 have hL:=h.kept (fun b o v hb=>ld LH b o v (by omega))
 have Jv:∃r:Int,Calls Tryz.prog 201 #[.slice ao es.length aK,.func (.func 202) #[] #[.pointer (some ⟨z,0,none⟩)]] W1 (fun e w'=>e = .returned (.int .i64 r)/\Below (z+2) W1 w') /\
   ((r<0/\gI es n=none)\/∃j b off,r=(j:Nat)/\j<es.length/\gI es n=some es[j]!/\ao=some ⟨b,off,none⟩/\b<z/\∀i v,es[j]!.vals[i]? = some v->W1.cell? ⟨b,off+j*8+i,none⟩=some v):=by
  rcases hL.2 with ⟨ao',JI,he,rfl⟩|⟨b,off,JI,he,hb,hc⟩
  .exact⟨-1,(ixNil _ _ _ _).mono fun e w' ⟨h1,h2⟩=>⟨h1,h2 ▸ Vh _ _⟩,.inl ⟨by omega,rfl⟩⟩
  .injection he with h1 _ h3;subst h1 h3;have Jv:=AnyQ.slices_IndexFunc Tryz.laysIxE 8 Tryz.isAgg66 Tryz.sizeOf66 jt.vals (fun _=>rfl) (fun e=>e.id == n) 202 #[.pointer (some ⟨z,0,none⟩)] eg b off es.length aK es W1 (get1V n z W1 (by omega) Ks) (UJ _) (by omega) (by omega) hc;rw[J2]at Jv;rcases find_at es n with ⟨j,hj,hf,hx⟩|⟨hf,hx⟩
   .rw[hx]at Jv;exact⟨_,Jv,.inr ⟨j,b,off,rfl,hj,hf,rfl,by omega,hc j hj⟩⟩
   .rw[hx]at Jv;exact⟨_,Jv,.inl ⟨by omega,hf⟩⟩
 obtain⟨r,Jv,hr⟩:=Jv;have RX:∀w',Below (z+2) W1 w'->w'.heap[z+1]? = some (.cells Bj.vals.toArray 66 (0,0)):=fun w' hb=>(hb.block _ (by omega)).trans KH;have KG:∀w',Below (z+2) W1 w'->Below z w w':=fun w' hb=>LH.trans (hb.mono (by omega));rcases hr with ⟨K1,hf⟩|⟨j,b,off,rfl,hj,hf,rfl,hb,hc⟩
 .rw[hf];clear hL h Ks hf;rw[<-Kg]at Jv
  go_enter Tryz.func166,Tryz.ntmps166
  go_wp2_with (go_at_call 201;refine Jv.mono ?_;rintro e w' ⟨rfl,JC⟩;(have g:=RX _ (by rw[<-Kg];exact JC);obtain⟨a0,f0⟩:=bx g 0 _ rfl;obtain⟨a1,f1⟩:=bx g 1 _ rfl;obtain⟨a2,f2⟩:=bx g 2 _ rfl;obtain⟨a3,f3⟩:=bx g 3 _ rfl;obtain⟨a4,f4⟩:=bx g 4 _ rfl;obtain⟨a5,f5⟩:=bx g 5 _ rfl;obtain⟨a6,f6⟩:=bx g 6 _ rfl;obtain⟨a7,f7⟩:=bx g 7 _ rfl))
  have hg:=RX _ (by rw[<-Kg];exact JC);have JV:=KG _ (by rw[<-Kg];exact JC);have h8:=lZ (B:=z+1) (ty:=66) Bj.vals [] _ _ hg rfl rfl;refine bodyPost_ret (v := .tuple #[.agg Bj.vals.toArray,.bool false]) ?_ rfl ?_
  .exact res8 h8
  refine⟨rfl,?_⟩;rw[hz];exact li (by omega) Bj.vals 0 _ JV
 .rw[hf]
  have Kc:∀w',Below (z+2) W1 w'->∀i v,es[j]!.vals[i]? = some v->w'.cell? ⟨b,off+j*8+i,none⟩=some v:=fun w' JC i v hi=>by
   rw[World.cell?_of_block (JC.block b (by omega))];exact hc i v hi
  have hx:=(h.1 es[j]! (by simp[hj])).2;clear hL h Ks hf hc;generalize es[j]! = x at Kc hx ⊢;have r1:=fun (W:World) (a:Addr) (m:Mode)=>run_store Tryz.prog W a x.f m (hx _ (by simp[jt.vals]));have r2:=fun (W:World) (a:Addr) (m:Mode)=>run_store Tryz.prog W a x.c m (hx _ (by simp[jt.vals]));have r3:=fun (W:World) (a:Addr) (m:Mode)=>run_store Tryz.prog W a x.a m (hx _ (by simp[jt.vals]));have r4:=fun (W:World) (a:Addr) (m:Mode)=>run_store Tryz.prog W a x.k m (hx _ (by simp[jt.vals]));have r5:=fun (W:World) (a:Addr) (m:Mode)=>run_store Tryz.prog W a x.r m (hx _ (by simp[jt.vals]));clear hx;have z0:¬((j:Nat):Int)<0:=by omega
  have z1:((j:Nat):Int)<(es.length:Int):=by omega
  rw[<-Kg]at Jv
  go_enter Tryz.func166,Tryz.ntmps166
  go_wp2_with (go_at_call 201;refine Jv.mono ?_;rintro e w' ⟨rfl,JC⟩;(have g:=RX _ (by rw[<-Kg];exact JC);have m:=Kc _ (by rw[<-Kg];exact JC);obtain⟨a0,f0⟩:=bx g 0 _ rfl;obtain⟨a1,f1⟩:=bx g 1 _ rfl;obtain⟨a2,f2⟩:=bx g 2 _ rfl;obtain⟨a3,f3⟩:=bx g 3 _ rfl;obtain⟨a4,f4⟩:=bx g 4 _ rfl;obtain⟨a5,f5⟩:=bx g 5 _ rfl;obtain⟨a6,f6⟩:=bx g 6 _ rfl;obtain⟨a7,f7⟩:=bx g 7 _ rfl;have m0:w'.cell? ⟨b,off+j*8,none⟩=some (.int .i64 x.id):=m 0 _ rfl;have m1:=m 1 _ rfl;have m2:=m 2 _ rfl;have m3:=m 3 _ rfl;have m4:=m 4 _ rfl;have m5:=m 5 _ rfl;have m6:=m 6 _ rfl;have m7:=m 7 _ rfl))
  have hg:=RX _ (by rw[<-Kg];exact JC);have JV:=KG _ (by rw[<-Kg];exact JC);have h8:=lZ (B:=z+1) (ty:=66) x.vals [] _ _ hg rfl rfl;refine bodyPost_ret (v := .tuple #[.agg x.vals.toArray,.bool true]) ?_ rfl ?_
  .exact res8 h8
  refine⟨rfl,?_⟩;rw[hz];exact li (by omega) x.vals 0 _ JV
end
section
variable {A C V W w:World}{B b k z:Nat}{c:Array Value}{es:List jt}{n:Int}{row:Option Nat}
attribute [local go_sem] Wm
def way_in(F:Fence)(n:Nat)(h:F.fn 357)(Jr:F.round=none)(ao:Option Addr)(len aK:Nat)(i:Int)(w:World) :
  CallsIn F n Tryz.prog 357 #[.slice ao len aK,.int .i64 i] w fun e w'=>e = .returned (.func (.func 360) #[] #[.pointer (some ⟨w.heap.size,0,none⟩),.pointer (some ⟨w.heap.size+1,0,none⟩)]) /\
   w'=(w.alloc (.cells #[.slice ao len aK] 34)).alloc (.cells #[.int .i64 i] 3):=by
 refine callsIn_of_wp Tryz.func357 rfl h ?_ Jr;simp only[Tryz.ntmps357,Vi,UB,UE,Nat.reduceAdd,Nat.reduceSub,Vq,Vr,Vz,Vt,UH,UF]
 gi_wp2
 go_ret
 exact⟨rfl,rfl⟩
def sC(es:List jt):Nat->Int->List jt
 | 0,_=>[]
 | k+1,n=>match gI es n with
  | none=>[]
  | some e=>e::if e.main=0 then [] else sC es k e.main
def Ak{e:jt}(h:gI es n=some e):sC es (k+1) n=e::if e.main=0 then [] else sC es k e.main:=by rw[sC,h]
def Al(h:gI es n=none):sC es (k+1) n = []:=by rw[sC,h]
def pK{β:Type}{I:β->World->Prop}(hI:OwnFrom B I){s:β}(h:I s V)(hb:Below V.heap.size V W):I s W :=
 hI s V W none h ⟨hb.os,hb.tape,hb.output,hb.size,fun k hk _=>hb.block k hk⟩ (fun r e=>by cases e)
def yE{l:Nat}(h:cm V W){ty:TypeId}{fr:Nat×Nat}(hb:V.heap[b]? = some (.cells c ty fr)):W.heap[b]? = some (.cells c ty fr):=h.2 b _ hb rfl
set_option maxRecDepth 100000 in
theorem Ew(n:Nat)(hn:2<=n)(n₀ B1 B2:Nat)(ao:Option Addr)(aK:Nat)(es:List jt)(i:Int)(hl:es.length<=1000000)(w:World)(hB:B1<B2)(LC:n₀<=B1)
  (JE:w.cell? ⟨B1,0,none⟩=some (.slice ao es.length aK)) (Kc:w.heap[B2]? = some (.cells #[.int .i64 i] 3 (0,0))) (hI:mO n₀ w (.slice ao es.length aK) es) :
  vN (fun A B=> ∃v,B=A.setCell ⟨B2,0,none⟩ v) Fence.wide n Tryz.prog 360 #[.pointer (some ⟨B1,0,none⟩),.pointer (some ⟨B2,0,none⟩)] (fun e:{e // e∈es}=> #[.agg e.1.vals.toArray]) (fun xs=>xs.map Subtype.val=sC es (es.length+1) i) (fun pre=> ∃suf,pre.map Subtype.val++suf=sC es (es.length+1) i) (es.length+1) w:=by
 intro l J Jx W hW Ja hJ Ul hJw hY h0;have L0:1<=n:=by omega
 refine callsIn_of_wp Tryz.func360 rfl trivial ?_ rfl;have hF:Fence.wide.fn 166:=trivial;simp only[Tryz.ntmps360,Vi,UB,UE,Nat.reduceAdd,Nat.reduceSub,Vq,Vr,Vz,Vt,UH,UF];have q1:=hW.cell JE;have q2:=yE (l:=l) hW Kc;have q3:W.cell? ⟨B2,0,none⟩=some (.int .i64 i):=(bx q2 0 _ rfl).1;have Ra:mO n₀ W (.slice ao es.length aK) es:=hI.kept fun b o v _ h=>hW.cell h
 gi_wp2
 gi_loopw [9] (fun t wr=> ∃(k:Nat) (pre:List {e // e∈es}) (cur:Int),k<=es.length+1/\t = .int .i64 (k:Int)/\pre.length=k/\pre.map Subtype.val++sC es (es.length+1-k) cur=sC es (es.length+1) i/\J pre wr/\wr.cell? ⟨B1,0,none⟩=some (.slice ao es.length aK)/\wr.heap[B2]? = some (.cells #[.int .i64 cur] 3 (0,0))/\mO n₀ wr (.slice ao es.length aK) es/\W.heap.size<=wr.heap.size) (fun t _=>(es.length+1-RowKit.intOf t).toNat)
 case atStart=>
  exact⟨0,[],i,U9 _,rfl,rfl,rfl,h0,q1,q2,Ra,UJ _⟩
 case round=>
  obtain⟨k,pre,cur,hk,rfl,IZ,JR,My,e1,e2,Uo,Jl⟩:=hrel;have e3:wr.cell? ⟨B2,0,none⟩=some (.int .i64 cur):=(bx e2 0 _ rfl).1;have Rh:B2<wr.heap.size:=(UP.1 e2).1;by_cases JY:k=es.length+1
  .subst JY
   gi_wp2
   go_end0
   refine⟨⟨_,rfl⟩,.inl ⟨pre,?_,My⟩⟩;rw[<-JR,W7];exact(UM _).symm
  .have Jv:=(callsIn_wide (n:=n-1)).2 (getVs ao aK es cur wr hl (Uo.mono (by omega)));have lt0:(k:Int)<(es.length:Int)+1:=by omega
   have KE:es.length+1-k=(es.length-k)+1:=by omega
   rw[KE]at JR;cases hf:gI es cur with
   | none=>
    rw[hf]at Jv;rw[Al hf,UM]at JR;have ec:getV8 none = .tuple #[.agg #[.int .i64 0,.slice none 0 0,.int .i64 0,.slice none 0 0,.int .i64 0,.slice none 0 0,.slice none 0 0,.slice none 0 0],.bool false]:=rfl;rw[ec]at Jv
    gi_wp2_with (gi_at_call 166;refine Jv.mono ?_;rintro e w' ⟨rfl,JC⟩)
    refine⟨fun _ h=>(by cases h),?_⟩
    gi_wp2
    refine bodyPost_ret (results_none rfl _ _ _) rfl ?_;refine⟨⟨_,rfl⟩,.inl ⟨pre,JR,?_⟩⟩;refine pK hJ (pK hJ My JC) ?_;repeat (first|exact Vh _ _|refine Below.setCell ?_ (UJ _) _|refine Below.alloc ?_ (UJ _) _)
   | some x=>
    rw[hf]at Jv;rw[Ak hf]at JR;have ec:getV8 (some x) = .tuple #[.agg #[.int .i64 x.id,x.f,x.c,x.a,.int .i64 x.main,.slice x.sb x.sx.length x.sc,x.k,x.r],.bool true]:=rfl;rw[ec]at Jv;have hm:=U8 hf;have hx:=(Uo.1 x hm).2;have r1:=fun (W:World) (a:Addr) (m:Mode)=>run_store Tryz.prog W a x.f m (hx _ (by simp[jt.vals]));have r2:=fun (W:World) (a:Addr) (m:Mode)=>run_store Tryz.prog W a x.c m (hx _ (by simp[jt.vals]));have r3:=fun (W:World) (a:Addr) (m:Mode)=>run_store Tryz.prog W a x.a m (hx _ (by simp[jt.vals]));have r4:=fun (W:World) (a:Addr) (m:Mode)=>run_store Tryz.prog W a x.k m (hx _ (by simp[jt.vals]));have r5:=fun (W:World) (a:Addr) (m:Mode)=>run_store Tryz.prog W a x.r m (hx _ (by simp[jt.vals]));clear hx
    gi_wp2_with (gi_at_call 166;refine Jv.mono ?_;rintro e w' ⟨rfl,JC⟩)
    have KH:Below w'.heap.size w' (w'.alloc (.cells #[.int .i64 x.id,x.f,x.c,x.a,.int .i64 x.main,.slice x.sb x.sx.length x.sc,x.k,x.r] 66)):=(Vh _ _).alloc (UJ _) _;have Jj:=World.alloc_heap_new w' (.cells #[.int .i64 x.id,x.f,x.c,x.a,.int .i64 x.main,.slice x.sb x.sx.length x.sc,x.k,x.r] 66);obtain⟨W2,Kv⟩:∃W2,w'.alloc (.cells #[.int .i64 x.id,x.f,x.c,x.a,.int .i64 x.main,.slice x.sb x.sx.length x.sc,x.k,x.r] 66)=W2:=⟨_,rfl⟩;rw[Kv]at KH Jj ⊢;have KG:Below wr.heap.size wr W2:=JC.trans (KH.mono JC.size);have Pm:J pre W2:=pK hJ My KG;have g2:W2.heap[B2]? = some (.cells #[.int .i64 cur] 3 (0,0)):=(KG.block _ Rh).trans e2;have g1:W2.cell? ⟨B1,0,none⟩=some (.slice ao es.length aK):=ld KG _ _ _ (by omega) e1;have hI2:mO n₀ W2 (.slice ao es.length aK) es:=Uo.kept fun b o v hb=>ld KG b o v (by omega);obtain⟨fn,tmps,assign,body,hy,hR⟩:=hY pre ⟨x,hm⟩ W2 Pm (by omega);dsimp only[jt.vals]at hy;rw[hy];simp only[go_sem];refine⟨fun _=>L0,hR.mono ?_⟩;rintro e W3 (⟨rfl,Mf,RK,MG⟩|⟨rfl,KC,MH⟩)
    .have h4:W3.cell? ⟨w'.heap.size,4,none⟩=some (.int .i64 x.main):=MG.cell (bx Jj 4 _ rfl).1;have k2:=yE (l:=l) MG g2;obtain⟨k3,k4⟩:=bx k2 0 _ rfl;by_cases h0:x.main=0
     .have Kw:(x.main == 0)=true:=by simp[h0]
      gi_wp2
      refine bodyPost_ret (results_none rfl _ _ _) rfl ⟨⟨_,rfl⟩,.inl ⟨pre++[⟨x,hm⟩],?_,Mf⟩⟩;rw[if_pos h0]at JR;rw[Vv];exact JR
     .rw[if_neg h0]at JR
      gi_wp2
      go_roundw
      case rel=>
       refine⟨k+1,pre++[⟨x,hm⟩],x.main,by omega,by simp,by simp[IZ],?_,hJw _ _ _ ⟨_,rfl⟩ Mf,?_,heap_setCell k2 0 _,?_,?_⟩
       .rw[Nat.add_sub_add_right,Vv,UX];exact JR
       .rw[World.cell?_setCell_other _ _ _ _ (by simp<;>omega)];exact MG.cell g1
       .exact hI2.kept fun b o v hb h=>by rw[World.cell?_setCell_other _ _ _ _ (by simp<;>omega)];exact MG.cell h
       .have:=MG.1.size;have:=KG.size;simp;omega
      case measure=>simp[RowKit.intOf];omega
    .gi_wp2
     refine bodyPost_ret (results_none rfl _ _ _) rfl ⟨⟨_,rfl⟩,.inr ⟨pre++[⟨x,hm⟩],⟨if x.main=0 then [] else sC es (es.length-k) x.main,?_⟩,KC⟩⟩;rw[Vv,UX];exact JR
def qE(es:List jt)(n:Int):List (ByteArray×ByteArray):=(((sC es (es.length+1) n).find? fun e=> !e.sx.isEmpty).map (·.sx)).getD []
def lF(hg:A.grownBy C row)(hr:∀r,row=some r->B<=r/\∃o:Obj,A.heap[r]? = some o/\o.isCells=false){t:TypeId}{f:Nat×Nat}(h:A.heap[b]? = some (.cells c t f)):C.heap[b]? = some (.cells c t f):=by
 refine(hg.block b (UP.1 h).1 fun e=>?_).trans h;obtain⟨_,o,ho,hc⟩:=hr b e.symm;rw[h]at ho;injection ho with ho;subst ho;cases hc
def AW{base:Nat}(hg:A.grownBy C row)(hr:∀r,row=some r->B<=r/\∃o:Obj,A.heap[r]? = some o/\o.isCells=false){e:TypeId}{sz:Nat}{v:Value}{xs:List Value}(h:A.ownsRow base e sz v k xs):C.ownsRow base e sz v k xs:=by
 refine⟨h.1,?_⟩;rcases h.2 with hn|⟨g,aK,cur,rfl,hb,hgg,rest⟩
 .exact .inl hn
 .exact .inr ⟨g,aK,cur,rfl,hb,lF hg hr hgg,rest⟩
theorem At(l:List (ByteArray×ByteArray)):(oA l).length=l.length*2:=by
 induction l with
 | nil=>rfl
 | cons x l ih=>simp only[oA,VX,UG,UB,UE]at ih ⊢;omega
def strs_one(l:List (ByteArray×ByteArray)):∀u∈oA l,u.oneCell'=true:=by
 intro u hu;obtain⟨x,_,hx⟩:=Wp.1 hu;rcases U2.1 hx with rfl|hx
 .rfl
 .rcases U2.1 hx with rfl|hx
  .rfl
  .cases hx
def clS(b o c:Nat)(l:List (ByteArray×ByteArray))(w:World)(hl:l.length<=1073741824)(hc:∀j v,(oA l)[j]? = some v->w.cell? ⟨b,o+j,none⟩=some v) :
  Calls Tryz.prog 358 #[.slice (some ⟨b,o,none⟩) l.length c] w fun e w'=> ∃g cp,e = .returned (.slice (some ⟨g,0,none⟩) l.length cp)/\w'.ownsRow w.heap.size 178 2 (.slice (some ⟨g,0,none⟩) l.length cp) l.length (oA l)/\Below w.heap.size w w':=by
 obtain⟨⟨ti,d,zz,k1,k2,k3,k4,k5,k6,_⟩,_⟩:=Gp (P:=Tryz.prog) (t:=178) (i:=⟨2,true,32,[.str .empty,.str .empty],.struct [(0,9),(1,9)]⟩) (by kernel_rfl);refine(AnyE.slices_Clone Tryz.laysClS ti zz 2 32 k1 k3 k4 k5 (by have:=congrArg List.length k6.1;simpa using this.symm) (by omega) Tryz.sizeOf178 b o l.length c (oA l) w (At l) (by unfold maxLen;omega) (by omega) hc (strs_one l)).mono ?_;rintro e w' ⟨v,rfl,Jh,I8,hb⟩;rcases Jh.2 with ⟨rfl,_⟩|⟨g,cp,cur,rfl,_⟩
 .exact absurd rfl I8
 .exact⟨g,cp,rfl,Jh,hb⟩
structure SIx (z:Nat) (w:World) (es:List jt) (pre:List {e // e∈es}) (W:World):Prop where
 ex:∃v p x,pre=p++[x]/\(∀e∈p,e.1.sx = [])/\x.1.sx≠[]/\W.heap[z]? = some (.cells #[v] 62 (0,0))/\W.ownsRow z 178 2 v x.1.sx.length (oA x.1.sx)/\v≠.slice none 0 0/\Below z w W
structure SI (z:Nat) (w:World) (es:List jt) (pre:List {e // e∈es}) (W:World):Prop where
 b:W.heap[z]? = some (.cells #[.slice none 0 0] 62 (0,0))
 p:∀e∈pre,e.1.sx = []
 w:Below z w W
def si_own(hz:z<=w.heap.size)(hB:z<=B):OwnFrom B (SI z w es):=fun s A C row hs hg hr=>
 ⟨lF hg hr hs.b,hs.p,hs.w.grown hg (UQ hz hs.w.size) fun k e=>UQ hB (hr k e).1⟩
def six_own(hz:z<=w.heap.size)(hB:z<=B):OwnFrom B (SIx z w es):=fun s A C row hs hg hr=>by
 obtain⟨v,p,x,h1,h2,h3,h4,h5,h6,h7⟩:=hs.ex;exact⟨v,p,x,h1,h2,h3,lF hg hr h4,AW hg hr h5,h6,h7.grown hg (UQ hz h7.size) fun k e=>UQ hB (hr k e).1⟩
set_option maxRecDepth 100000 in
theorem HG(n:Nat)(hn:6<=n)(ao:Option Addr)(aK:Nat)(es:List jt)(i:Int)(hl:es.length<=1000000)(KQ:∀e∈es,e.sx.length<=1073741824)(w:World)(hI:mO w.heap.size w (.slice ao es.length aK) es) :
  CallsIn Fence.wide n Tryz.prog 354 #[.slice ao es.length aK,.int .i64 i] w fun e W'=> ∃v,e = .returned v/\W'.ownsRow w.heap.size 178 2 v (qE es i).length (oA (qE es i))/\(v = .slice none 0 0↔qE es i = [])/\Below w.heap.size w W':=by
 have L0:1<=n:=by omega
 have hF1:Fence.wide.fn 357:=trivial;have hF2:Fence.wide.fn 360:=trivial;have hF3:Fence.wide.fn 358:=trivial;refine callsIn_of_wp_marks Tryz.func354 rfl trivial ?_ rfl;simp only[Tryz.ntmps354,Vi,UB,UE,Nat.reduceAdd,Nat.reduceSub,Vq,Vr,Vz,Vt,UH,UF]
 gi_wp2_with (gi_at_call 357;refine(way_in Fence.wide (n-1) trivial rfl _ _ _ _ _).mono ?_;rintro e w' ⟨rfl,rfl⟩)
 obtain⟨z,hz⟩:∃z,w.heap.size=z:=⟨_,rfl⟩
 have Lv:Below w.heap.size w (((w.alloc (.cells #[.slice none 0 0] 62)).alloc (.cells #[.slice ao es.length aK] 34)).alloc (.cells #[.int .i64 i] 3)) :=
  (((Vh _ w).alloc (UJ _) _).alloc (by simp) _).alloc (by simp;omega) _
 have b0:=((Boxed.new w 62 (.slice none 0 0)).alloc (.cells #[.slice ao es.length aK] 34)).alloc (.cells #[.int .i64 i] 3);have b1:=(Boxed.new (w.alloc (.cells #[.slice none 0 0] 62)) 34 (.slice ao es.length aK)).alloc (.cells #[.int .i64 i] 3);have b2:=Boxed.new ((w.alloc (.cells #[.slice none 0 0] 62)).alloc (.cells #[.slice ao es.length aK] 34)) 3 (.int .i64 i);have Jl:(((w.alloc (.cells #[.slice none 0 0] 62)).alloc (.cells #[.slice ao es.length aK] 34)).alloc (.cells #[.int .i64 i] 3)).heap.size=z+3:=by simp[hz]
 simp only[VH]at b0 b1 b2;obtain⟨W0,On⟩:∃W0,((w.alloc (.cells #[.slice none 0 0] 62)).alloc (.cells #[.slice ao es.length aK] 34)).alloc (.cells #[.int .i64 i] 3)=W0:=⟨_,rfl⟩;rw[On]at b0 b1 b2 Lv Jl ⊢;clear On;rw[hz]at b0 b1 b2 Lv hI ⊢;have Rc:=hI.kept (fun b o v hb=>ld Lv b o v hb);have Qz:∀(W:World) (x:{e // e∈es}),Below z w W->x.1.lies z W/\∀v∈x.1.vals,v.oneCell'=true:=fun W x hb=>(hI.kept (fun b o v JC=>ld hb b o v JC)).1 x.1 x.2;have JE:(some (⟨z+1,0,none⟩:Addr))=some ⟨z+1,0,none⟩:=rfl
 refine v7 (Wr:=fun A B=> ∃v,B=A.setCell ⟨z+1+1,0,none⟩ v) rfl L0 (gf:=360) (lb := #[.pointer (some ⟨z+1,0,none⟩),.pointer (some ⟨z+1+1,0,none⟩)]) rfl trivial (enters_of Tryz.func360 (by kernel_rfl) rfl)
  (Ew (n-1) (by omega) z (z+1) (z+1+1) ao aK es i hl W0 (by omega) (by omega) b1.cell b2 Rc) (fun _=>rfl)
  (SI z w es) (SIx z w es)
  (by
   rintro pre A B ⟨v,rfl⟩ hs;exact⟨(WW _ _ _ z (by simp;omega)).trans hs.b,hs.p,hs.w.setCell (p:=⟨z+1+1,0,none⟩) (by simp;omega) v⟩)
  (by
   rintro A B k o ⟨v,rfl⟩ hk ho;exact(WW _ _ _ k (by simp;omega)).trans ho)
  (si_own (by omega) (by omega)) (six_own (by omega) (by omega)) ⟨b0,(fun e he=>by cases he),Lv⟩
  (fun x a' Wc=> ∃Bx,z<Bx/\Wc.heap[Bx]? = some (.cells x.1.vals.toArray 66 (0,0))/\a' = { tmps := #[.slice ao es.length aK,.int .i64 i,undef,undef,.pointer (some ⟨z,0,none⟩),.pointer (some ⟨Bx,0,none⟩),.slice ao es.length aK,.int .i64 i,.func (.func 360) #[] #[.pointer (some ⟨z+1,0,none⟩),.pointer (some ⟨z+1+1,0,none⟩)],.agg x.1.vals.toArray,undef,undef,undef,undef,undef,undef,undef],defers:=[] })
  (fun x a' _ A C row hs hg hr=>by obtain⟨Bx,h0,h1,h2⟩:=hs;exact⟨Bx,h0,lF hg hr h1,h2⟩)
  ?assign ?body ?done ?stop
 case assign=>
  rintro l' pre ⟨x,hm⟩ W' K hs hK;have hx:=(Qz W' ⟨x,hm⟩ hs.w).2;have r1:=fun (W:World) (a:Addr) (m:Mode)=>run_store Tryz.prog W a x.f m (hx _ (by simp[jt.vals]));have r2:=fun (W:World) (a:Addr) (m:Mode)=>run_store Tryz.prog W a x.c m (hx _ (by simp[jt.vals]));have r3:=fun (W:World) (a:Addr) (m:Mode)=>run_store Tryz.prog W a x.a m (hx _ (by simp[jt.vals]));have r4:=fun (W:World) (a:Addr) (m:Mode)=>run_store Tryz.prog W a x.k m (hx _ (by simp[jt.vals]));have r5:=fun (W:World) (a:Addr) (m:Mode)=>run_store Tryz.prog W a x.r m (hx _ (by simp[jt.vals]));clear hx;dsimp only[jt.vals]at hK ⊢
  gi_wp2
  have Nl:Below W'.heap.size W' (W'.alloc (.cells x.vals.toArray 66)):=(Vh _ _).alloc (UJ _) _;have PS:z<W'.heap.size:=(UP.1 hs.b).1;exact hK _ _ Nl (pK (si_own (B:=z) (by omega) (UJ _)) hs Nl) ⟨W'.heap.size,PS,World.alloc_heap_new W' _,rfl⟩
 case body=>
  rintro l' pre ⟨x,hm⟩ a' W' hs ⟨Bx,hBx,bX,rfl⟩ Ja;obtain⟨S6,_⟩:=Qz W' ⟨x,hm⟩ hs.w;have JQ:=KQ x hm;obtain⟨id,f,c,a,m,sb,sc,k,r,sx⟩:=x;have x5:W'.cell? ⟨Bx,5,none⟩=some (.slice sb sx.length sc):=(bx bX 5 _ rfl).1;have c0:W'.cell? ⟨z,0,none⟩=some (.slice none 0 0):=(bx hs.b 0 _ rfl).1;have f0:=(bx hs.b 0 _ rfl).2;dsimp only[jt.vals];dsimp only at JQ;by_cases Qc:sx = []
  .have z0:¬(0:Int)<(sx.length:Int):=by simp[Qc]
   gi_wp2
   refine⟨Vh _ _,hs.b,fun e he=>?_,hs.w⟩;rcases UU.1 he with he|he
   .exact hs.p e he
   .simp only[VI]at he;subst he;first|rfl|exact Qc
  .have z1:(0:Int)<(sx.length:Int):=by
    have:0<sx.length:=List.length_pos_iff.2 Qc;omega
   rcases S6 with S6|⟨b,o,N7,hb,JA⟩
   .exact absurd S6 Qc
   dsimp only at N7 JA;subst N7;have Jv:CallsIn (Fence.wide.inRound l') (n-1-1-1) _ _ _ _ _:=(callsIn_wide (n:=n-1-1-1)).2 (clS b o sc sx W' JQ JA);have hn3:1<=n-1-1:=by omega
   have hF4:(Fence.wide.inRound l').fn 358:=trivial;have PS:z<W'.heap.size:=(UP.1 hs.b).1
   gi_wp2_with (gi_at_call 358;refine Jv.mono ?_;rintro e w' ⟨g,cp,rfl,Jh,Nx⟩;(have Pt:=(Nx.block z PS).trans hs.b;have c1:w'.cell? ⟨z,0,none⟩=some (.slice none 0 0):=(bx Pt 0 _ rfl).1;have f1:=(bx Pt 0 _ rfl).2))
   have Pt:=(Nx.block z PS).trans hs.b;have JC:=hs.w.trans (Nx.mono (Nat.le_of_lt PS))
   have hgz:z<g:=by
    rcases Jh.2 with ⟨h,_⟩|⟨g',_,_,h,h2,_⟩
    .cases h
    .injection h with h;injection h with h;injection h with h;omega
   refine⟨⟨by have:=Nx.size;simp;omega,fun k o' _ hk hc=>?_⟩,_,pre,_,rfl,hs.p,Qc,heap_setCell Pt 0 _,?_,(by intro h;cases h),JC.setCell (p:=⟨z,0,none⟩) (UJ _) _⟩
   .have hkz:k≠z:=fun h=>by rw[h,hs.b]at hk;injection hk with hk;subst hk;cases hc
    rw[WW _ _ _ k hkz];exact(Nx.block k (UP.1 hk).1).trans hk
   .rcases Jh.2 with ⟨h,_⟩|⟨g',cp',cur,h,h2,h3,h4⟩
    .cases h
    .refine⟨Jh.1,.inr ⟨g',cp',cur,h,by omega,?_,h4⟩⟩;rw[WW _ _ _ g' (by simp;omega)];exact h3
 case done=>
  rintro D xs Wd hD Lw hs hK;have c0:Wd.cell? ⟨z,0,none⟩=some (.slice none 0 0):=(bx hs.b 0 _ rfl).1;have f0:=(bx hs.b 0 _ rfl).2
  have LK:qE es i = []:=by
   unfold qE;rw[<-Lw,WI.2]
   .rfl
   .intro e he;obtain⟨x,hx,rfl⟩:=UZ.1 he;simp[hs.p x hx]
  gi_wp2
  have PI:(Wd.setCell ⟨z,0,none⟩ (.slice none 0 0)).heap[D]? = some (.deferred (some [])):=(WW _ _ _ D (by simp;omega)).trans hK;refine⟨by simp,.inl ⟨_,_,rfl,run_takeDeferred PI,?_⟩⟩;have Pg:((Wd.setCell ⟨z,0,none⟩ (.slice none 0 0)).putObj D (.deferred none)).cell? ⟨z,0,none⟩=some (.slice none 0 0):=(bx ((World.putObj_heap_other (by omega)).trans (heap_setCell hs.b 0 _)) 0 _ rfl).1;refine⟨.slice none 0 0,?_,_,rfl,?_,?_,?_⟩
  .simp[results,Tryz.f354,go_sem,Pg]
  .exact⟨rfl,.inl ⟨rfl,rfl⟩⟩
  .simp[LK]
  .exact(hs.w.setCell (p:=⟨z,0,none⟩) (UJ _) _).trans (belowK_b (w:=w) (by omega) _ D _ _ (by omega) PI rfl rfl)
 case stop=>
  rintro D pre Wd hD ⟨suf,JR⟩ hs hK;obtain⟨v,p,x,rfl,hp,hx,hv,Jh,I8,hb⟩:=hs.ex
  have LK:qE es i=x.1.sx:=by
   unfold qE;rw[<-JR,Vv,UX,List.find?_append,WI.2]
   .cases Kd:x.1.sx with
    | nil=>exact absurd Kd hx
    | cons a l=>simp[Kd]
   .intro e he;obtain⟨y,hy,rfl⟩:=UZ.1 he;simp[hp y hy]
  gi_wp2
  refine⟨by simp,.inl ⟨_,_,rfl,run_takeDeferred hK,?_⟩⟩;have hz5:(Wd.putObj D (.deferred none)).heap[z]? = some (.cells #[v] 62 (0,0)):=(World.putObj_heap_other (by omega)).trans hv;have Pg:(Wd.putObj D (.deferred none)).cell? ⟨z,0,none⟩=some v:=(bx hz5 0 _ rfl).1;refine⟨v,?_,_,rfl,?_,?_,?_⟩
  .simp[results,Tryz.f354,go_sem,Pg]
  .exact AW (grownBy_putObj' Wd D (.deferred none)) (B:=0) (fun r e=>by cases e;exact⟨U9 _,_,hK,rfl⟩) Jh
  .first|exact I8|exact⟨fun h=>absurd h I8,fun h=>absurd h hx⟩
  .exact hb.trans (belowK_b (w:=w) (by omega) Wd D _ _ (by omega) hK rfl rfl)
end
section
def zT(s:ByteArray×ByteArray):List AV:=[.str s.1,.str s.2]
theorem xB:∀rs:List (List AV),rs.all Bv=true->∃l:List (ByteArray×ByteArray),rs=l.map zT
 | [],_=>⟨[],rfl⟩
 | r::rs,h=>by
  rw[U1,UT]at h;obtain⟨l,rfl⟩:=xB rs h.2;have h1:=h.1;unfold Bv at h1;split at h1
  .rename_i a b;exact⟨(a,b)::l,rfl⟩
  .cases h1
theorem A1(l:List (ByteArray×ByteArray)):((l.map zT).flatten.map gz)=oA l:=by
 induction l with
 | nil=>rfl
 | cons x l ih=>
  have e1:((x::l).map zT).flatten.map gz = [.string x.1,.string x.2]++(l.map zT).flatten.map gz:=rfl;rw[e1,ih];rfl
structure Pair (w:World) (p:List AV×jt):Prop where
 id:∀n,FC n p.1=(p.2.id == n)
 ma:Fr p.1=some p.2.main
 sx:∃pr,rowsOf [] 2 (BC p.1)=some (p.2.sx.map zT,pr)
 l:p.2.sx.length<=1073741824
 lies:p.2.lies w.heap.size w
 one:∀v∈p.2.vals,v.oneCell'=true
section
variable [aw] {base:Nat}{T B:bV}{I:dK}{S:zS}{w:World}
theorem pair_ex(hrel:cB base T B I S w){r:List AV}{g o:Nat}(he:rR r=true)(hc:aU w r T B I g o):∃e,Pair w (r,e)/\∀i v,e.vals[i]? = some v->w.cell? ⟨g,o+i,none⟩=some v:=by
 unfold rR at he;split at he
 .rename_i n a1 a2 a3 m s a6 a7;split at he
  .rename_i rs pr hr;simp only[UT,decide_eq_true_eq]at he;obtain⟨⟨⟨h1,h2⟩,h3⟩,h4⟩:=he;obtain⟨sx,rfl⟩:=xB rs h3;simp only[aU,ap]at hc;obtain⟨⟨u0,c0,o0,rfl⟩,⟨u1,c1,o1,_⟩,⟨u2,c2,o2,_⟩,⟨u3,c3,o3,_⟩,⟨u4,c4,o4,rfl⟩,⟨u5,c5,o5,v5⟩,⟨u6,c6,o6,_⟩,⟨u7,c7,o7,_⟩,_⟩:=hc;obtain⟨ao,aK,rfl,_,_,_,I8⟩:=dO hrel (S:=[]) (fun b blk h=>by simp at h) hr v5;rw[UI]at c5 h4;refine⟨⟨n,u1,u2,u3,m,ao,aK,u6,u7,sx⟩,⟨fun _=>rfl,rfl,⟨pr,hr⟩,h4,?_,?_⟩,?_⟩
   .by_cases hs:sx = []
    .exact .inl hs
    .obtain⟨g',off,hg,MC,hB⟩:=I8 (by simpa using hs);refine .inr ⟨g',off,hg,?_,?_⟩
     .rcases hB with hB|⟨b,e,gs,_,o',l',s',rfl⟩
      .exact hrel.Blt _ hB
      .simp[rowsOf]at hr
     .have J6:=kI hrel.TB MC;intro j v hv;rw[cU]at J6;rw[<-A1,Vc]at hv;cases hj:(sx.map zT).flatten[j]? with
      | none=>rw[hj]at hv;cases hv
      | some c=>
       rw[hj]at hv;injection hv with hv;obtain⟨u,k1,_,k3⟩:=dG.1 J6.2 j c hj;have hm:=Vs hj;obtain⟨r',JT,J0⟩:=Xa.1 hm;obtain⟨x,_,rfl⟩:=UZ.1 JT
       have:∃t,c = .str t:=by
        rcases U2.1 J0 with rfl|h
        .exact⟨_,rfl⟩
        .rcases U2.1 h with rfl|h
         .exact⟨_,rfl⟩
         .cases h
       obtain⟨t,rfl⟩:=this;simp only[ap]at k3;rw[k1,k3,<-hv];rfl
   .intro v hv;simp only[jt.vals,U2,VA,or_false]at hv;rcases hv with rfl|rfl|rfl|rfl|rfl|rfl|rfl|rfl<;>first|rfl|assumption
   .intro i v hi
    match i,hi with
    | 0,hi=>injection hi with hi;subst hi;exact c0
    | 1,hi=>injection hi with hi;subst hi;exact c1
    | 2,hi=>injection hi with hi;subst hi;exact c2
    | 3,hi=>injection hi with hi;subst hi;exact c3
    | 4,hi=>injection hi with hi;subst hi;exact c4
    | 5,hi=>injection hi with hi;subst hi;exact c5
    | 6,hi=>injection hi with hi;subst hi;exact c6
    | 7,hi=>injection hi with hi;subst hi;exact c7
    | i+8,hi=>simp[jt.vals]at hi
  .cases he
 .cases he
theorem Dd(hrel:cB base T B I S w){g:Nat}:∀{rows:List (List AV)}{o:Nat},rows.all rR=true->bn w rows T B I g o 8->∃ps:List (List AV×jt),ps.map Prod.fst=rows/\(∀p∈ps,Pair w p)/\∀j,j<ps.length->∀i v,(ps.map Prod.snd)[j]!.vals[i]? = some v->w.cell? ⟨g,o+j*8+i,none⟩=some v
 | [],_,_,_=>⟨[],rfl,(fun p hp=>by cases hp),fun j hj=>by simp at hj⟩
 | r::rows,o,ha,hr=>by
  rw[U1,UT]at ha;simp only[bn]at hr;obtain⟨_,h1,h2⟩:=hr;obtain⟨e,h3,h4⟩:=pair_ex hrel ha.1 h1;obtain⟨ps,rfl,h5,h6⟩:=Dd hrel ha.2 h2;refine⟨(r,e)::ps,rfl,?_,?_⟩
  .intro p hp;rcases U2.1 hp with rfl|hp
   .exact h3
   .exact h5 p hp
  .intro j hj i v hi;cases j with
   | zero=>simpa using h4 i v (by simpa using hi)
   | succ j=>
    have:=h6 j (by simpa using hj) i v (by simpa using hi);rw[show o+(j+1)*8+i=o+8+j*8+i by omega];exact this
end
theorem yX{w:World}(n:Int):∀{ps:List (List AV×jt)},(∀p∈ps,Pair w p)->(gI (ps.map Prod.snd) n=none/\(ps.map Prod.fst).find? (FC n)=none)\/∃p∈ps,gI (ps.map Prod.snd) n=some p.2/\(ps.map Prod.fst).find? (FC n)=some p.1
 | [],_=> .inl ⟨rfl,rfl⟩
 | p::ps,h=>by
  have h1:=(h p (by simp)).id n;cases hp:p.2.id == n with
  | true=>exact .inr ⟨p,by simp,by simp[gI,hp],by rw[Vk,V3,h1,hp]⟩
  | false=>
   have e1:gI ((p::ps).map Prod.snd) n=gI (ps.map Prod.snd) n:=by simp[gI,hp]
   have e2:((p::ps).map Prod.fst).find? (FC n)=(ps.map Prod.fst).find? (FC n):=by rw[Vk,V3,h1,hp]
   rw[e1,e2];rcases yX n (ps:=ps) (fun q hq=>h q (by simp[hq])) with h2|⟨q,hq,h2⟩
   .exact .inl h2
   .exact .inr ⟨q,by simp[hq],h2⟩
theorem xq{w:World}{ps:List (List AV×jt)}(h:∀p∈ps,Pair w p):∀(k:Nat) (n:Int),Hs (ps.map Prod.fst) k n=some (((((sC (ps.map Prod.snd) k n).find? fun e=> !e.sx.isEmpty).map (·.sx)).getD []).map zT)
 | 0,_=>rfl
 | k+1,n=>by
  rw[Hs];rcases yX n h with ⟨h1,h2⟩|⟨p,hp,h1,h2⟩
  .rw[h2,Al h1];rfl
  .obtain⟨pr,h3⟩:=(h p hp).sx;rw[h2,Ak h1];simp only[h3,(h p hp).ma];cases hs:p.2.sx with
   | nil=>
    simp only[Wb];by_cases h0:p.2.main=0
    .simp[h0,hs]
    .simp only[h0,if_false,V3,hs,List.isEmpty_nil,Wv];exact xq h k p.2.main
   | cons x l=>simp[hs]
theorem vW[aw]:bQ Tryz.prog 354 gD:=by
 refine⟨⟨Tryz.f354,Tryz.func354,by kernel_rfl,by kernel_rfl⟩,?_⟩;intro args S rr S' hp base T B I w vs hrel I3;unfold gD at hp;split at hp
 .rename_i lv n;split at hp
  .rename_i JA;split at hp
   .rename_i rows pr hr;split at hp
    .rename_i hk;obtain⟨Ji,IY⟩:=hk;simp only[ae,ap]at I3;obtain⟨u,_,rfl,hu,_,_,rfl,rfl,rfl⟩:=I3;obtain⟨ao,aK,rfl,_,_,_,I8⟩:=dO hrel (S:=[]) (fun b blk h=>by simp at h) hr hu
     obtain⟨ps,JP,hP,hI⟩:∃ps:List (List AV×jt),ps.map Prod.fst=rows/\(∀p∈ps,Pair w p)/\mO w.heap.size w (.slice ao ps.length aK) (ps.map Prod.snd):=by
      cases hrw:rows with
      | nil=>exact⟨[],rfl,(fun p hp=>by cases hp),(fun e he=>by cases he),.inl ⟨ao,aK,rfl,rfl⟩⟩
      | cons r rs=>
       obtain⟨g,off,hg,MC,hB⟩:=I8 (by rw[hrw];simp)
       have Kr:g<w.heap.size:=by
        rcases hB with hB|⟨b,e,gs,_,o',l',s',rfl⟩
        .exact hrel.Blt _ hB
        .simp[rowsOf]at hr
       obtain⟨ps,h1,h2,h3⟩:=Dd hrel Ji (kI hrel.TB MC);refine⟨ps,h1.trans hrw,h2,fun e he=>?_,.inr ⟨g,off,aK,?_,Kr,fun j hj=>h3 j (by simpa using hj)⟩⟩
       .obtain⟨p,KK,rfl⟩:=UZ.1 he;exact⟨(h2 p KK).lies,(h2 p KK).one⟩
       .rw[hg,UI]
     subst JP;rw[UI]at IY
     have Ng:=(callsIn_wide (n:=6)).1 (HG 6 (UJ _) ao aK (ps.map Prod.snd) n (by simpa using IY) (fun e he=>by
      obtain⟨p,KK,rfl⟩:=UZ.1 he;exact(hP p KK).l) w (by rw[UI];exact hI))
     rw[UI]at Ng;rw[UI];refine Ng.mono ?_;rintro e W' ⟨v,rfl,Jh,Jo,JH⟩;have hw:=xq hP (ps.length+1) n;have LK:((((sC (ps.map Prod.snd) (ps.length+1) n).find? fun e=> !e.sx.isEmpty).map (·.sx)).getD [])=qE (ps.map Prod.snd) n:=by rw[qE,UI]
     rw[LK]at hw;rw[UI,hw]at hp;have KD:cB base T B I (dN S) W':=hrel.quiet JH (fun _ h=>h) (fun _ h=>h) hrel.TB (fun _ h=> .inl h);have J2:bu base T B I w T B I W':=bu.quiet hrel JH (fun _ h=>h) (fun _ h=>h) (fun _ h=> .inl h) (fun _ h=> .inl h);generalize qE (ps.map Prod.snd) n=sx at Jh Jo hp;cases sx with
     | nil=>
      injection hp with hp;injection hp with q1 q2;subst q1 q2;exact⟨v,T,B,I,rfl,J2,KD,by simp only[ap];exact Jo.2 rfl⟩
     | cons x l=>
      injection hp with hp;injection hp with q1 q2;subst q1 q2;rcases Jh.2 with ⟨rfl,_⟩|⟨gb,JI,cur,rfl,OY,M9,k1,k2,k3,k4⟩
      .exact absurd (Jo.1 rfl) (by simp)
      .have IX:∀e,I S.length e=none:=hrel.fresh (UJ _)
       have Kx:cB base T B I (dN (S++[.arr ((x::l).map zT) 2 0 true])) W':=KD.view fun b e p hi=>by
        obtain⟨blk,hS,_⟩:=hrel.cov hi;simp only[dN];rw[UN (UK.1 hS).1]
       have Jj:=Kx.newBlk (b:=S.length) (g:=gb) (rows:=(x::l).map zT) (sz:=2) (pr:=true) (c:=cur) (ty:=178) (IX _) (Holds.of (by simp[dN])) (UQ hrel.base_le OY)
        (fun hB=>absurd (hrel.Blt _ hB) (by omega)) (fun b e gs hi=>absurd (hrel.lt hi) (by omega)) M9 (by rw[UI];rw[k3];exact VC _ k1)
        (by
         rw[cU,dG];refine⟨fun r hr=>by obtain⟨y,_,rfl⟩:=UZ.1 hr;rfl,fun j c hj=>?_⟩;have hv:(oA (x::l))[j]? = some (gz c):=by rw[<-A1,Vc,hj];rfl
         have Ja:=(UK.1 hv).1;rw[At]at Ja
         have O9:cur.toList[j]? = some (gz c):=by
          rw[<-k4,WT Ja]at hv;exact hv
         refine⟨gz c,by simp only[World.cell?,M9,UW];simpa using O9,?_⟩;obtain⟨r',JT,J0⟩:=Xa.1 (Vs hj);obtain⟨y,_,rfl⟩:=UZ.1 JT;rcases U2.1 J0 with rfl|h
         .exact⟨rfl,by simp only[ap,gz]⟩
         .rcases U2.1 h with rfl|h
          .exact⟨rfl,by simp only[ap,gz]⟩
          .cases h)
       refine⟨_,T,B,_,rfl,J2.trans (bu.inj (IX _)),Jj,?_⟩;simp only[ap];exact .inr ⟨gb,cur.size,JI,by have:=@dK.put_self I S.length ((x::l).map zT).length gb cur.size;simpa using this,by simp,by simpa using k1,k2,by omega⟩
    .cases hp
   .cases hp
  .cases hp
 .cases hp
end
end Go.Eng
