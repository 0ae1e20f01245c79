/- consent.At, walked in the model: a range over an iterator that itself ranges over slices.Backward. -/
import Derived.Test.YtkahfcmeeloikaaGreatDoorZ1
import Derived.Test.YtkahfcmeeloikaaGreatDoorProg
import Derived.RangeFuncBox
import Derived.RangeFuncNested
import Derived.RangeFuncBound
import Derived.RangeFuncCalls
import Derived.RangeFuncLeaves
import Derived.Shelf.Abstract
import Derived.OwnWalkIn
import Derived.TacticsInMore
import Derived.LoopNIn
import Derived.LoopIn
import Derived.Maps.AppendAt
import Derived.CallsIn
set_option linter.all false
set_option maxHeartbeats 4000000
namespace Go.Eng
open Go.RowKit Go.Shelf Go.Proofs
section
variable {A B C W W':World}{l:Nat}{row:Option Nat}
attribute [local go_sem] Wm
def zA(c:gw):Value := .agg #[.int .i64 c.person,.int .i64 c.rc,.int .i64 c.day,.int .i64 c.kind]
def Bx4(W:World)(B:Nat)(c:gw):Prop:=W.heap[B]? = some (.cells #[.int .i64 c.person,.int .i64 c.rc,.int .i64 c.day,.int .i64 c.kind] 127 (0,0))
def cm(W W':World):Prop:=Below 0 W W'/\∀(k:Nat) (o:Obj),W.heap[k]? = some o->o.isCells=true->W'.heap[k]? = some o
def pk(l:Nat)(W W':World):Prop:=Below 0 W W'/\∀k,k<W.heap.size->k≠l->W'.heap[k]? = W.heap[k]?
def cm.refl(W:World):cm W W:=⟨Vh _ _,fun _ _ h _=>h⟩
theorem cm.trans(h:cm A B)(k:cm B C):cm A C:=⟨h.1.trans k.1,fun i o hi ho=>k.2 i o (h.2 i o hi ho) ho⟩
theorem pk.trans(h:pk l A B)(k:pk l B C):pk l A C:=⟨h.1.trans k.1,fun i hi hl=>(k.2 i (by have:=h.1.size;omega) hl).trans (h.2 i hi hl)⟩
def pk.of_below(h:Below W.heap.size W W'):pk l W W':=⟨h.mono (U9 _),fun k hk _=>h.block k hk⟩
def cm.of_below(h:Below W.heap.size W W'):cm W W':=⟨h.mono (U9 _),fun k o hk _=>(h.block k (UP.1 hk).1).trans hk⟩
def nG(h:W.grownBy W' row):Below 0 W W':=⟨h.os,h.tape,h.output,h.size,fun k hk=>by omega⟩
theorem pk.putObj(W:World)(l:Nat)(o:Obj):pk l W (W.putObj l o):=⟨nG (grownBy_putObj' W l o),fun k hk hl=>World.putObj_heap_other hl⟩
theorem cm.putObj{o0:Obj}(h:W.heap[l]? = some o0)(hc:o0.isCells=false)(o:Obj):cm W (W.putObj l o):=⟨nG (grownBy_putObj' W l o),fun k o1 hk ho=>by
 have I8:k≠l:=fun e=>by subst e;rw[h]at hk;injection hk with hk;subst hk;rw[hc]at ho;cases ho
 exact(World.putObj_heap_other I8).trans hk⟩
def cm.grown(h:cm W A)(hg:A.grownBy B row)(hr:∀r,row=some r->∃o:Obj,A.heap[r]? = some o/\o.isCells=false):cm W B :=
 ⟨h.1.trans (nG hg),fun k o hk ho=>by
  have hA:=h.2 k o hk ho;refine(hg.block k (UP.1 hA).1 fun e=>?_).trans hA;obtain⟨o',h1,h2⟩:=hr k e.symm;rw[hA]at h1;injection h1 with h1;subst h1;rw[ho]at h2;cases h2⟩
theorem cm.cell(h:cm W W'){a:Addr}{v:Value}(hv:W.cell? a=some v):W'.cell? a=some v:=by
 have:W'.heap[a.block]? = W.heap[a.block]? := by
  unfold World.cell? at hv;cases hb:W.heap[a.block]? with
  | none=>rw[hb]at hv;simp at hv
  | some o=>
   cases o with
   | cells c t f=>exact h.2 _ _ hb rfl
   | _=>rw[hb]at hv;simp at hv
 rw[World.cell?_of_block this];exact hv
theorem nM.kept{n₀:Nat}(h:cm A B){sv:Value}{cs:List gw}:nM n₀ A sv cs->nM n₀ B sv cs
 | .inl e=> .inl e
 | .inr ⟨b,off,aK,e,hb,hc⟩=> .inr ⟨b,off,aK,e,hb,fun j c hj=>by
   obtain⟨k1,k2,k3,k4⟩:=hc j c hj;exact⟨h.cell k1,h.cell k2,h.cell k3,h.cell k4⟩⟩
def drop_rev(cs:List gw)(k:Nat)(c:gw)(h:cs[k]? = some c):(cs.drop k).reverse=(cs.drop (k+1)).reverse++[c]:=by
 have hk:=(UK.1 h);rw[VT hk.1,List.reverse_cons,hk.2]
set_option maxRecDepth 100000 in
theorem back1_in(F:Fence)(n:Nat)(h7:F.fn 291)(Jr:F.round=none)(hn:1<=n)(l Bs ob b off aK:Nat)(cs:List gw)(IY:cs.length<=1000000)
  (J Jx:List (Int×gw)->World->Prop)
  (hY:∀pre x W,J pre W->pre.length<cs.length->YieldAt F (n-1) Tryz.prog l #[.int .i64 x.1,zA x.2] W fun e W'=>
   (e = .returned (.bool true)/\J (pre++[x]) W'/\cm W W')\/(e = .returned (.bool false)/\Jx (pre++[x]) W'))
  (W:World) (Mg:W.cell? ⟨Bs,ob,none⟩=some (.slice (some ⟨b,off,none⟩) cs.length aK))
  (hc:∀j c,cs[j]? = some c->W.cell? ⟨b,off+j*4,none⟩=some (.int .i64 c.person)/\W.cell? ⟨b,off+j*4+1,none⟩=some (.int .i64 c.rc)/\W.cell? ⟨b,off+j*4+2,none⟩=some (.int .i64 c.day)/\W.cell? ⟨b,off+j*4+3,none⟩=some (.int .i64 c.kind)) (h0:J [] W) :
  CallsIn F n Tryz.prog 291 #[.func (.yield l) #[] #[],.pointer (some ⟨Bs,ob,none⟩)] W fun e W'=>(∃v,e = .returned v) /\
   ((∃ys,ys.map Prod.snd=cs.reverse/\J ys W')\/(∃pre,(∃k,pre.map Prod.snd=(cs.drop k).reverse)/\Jx pre W')):=by
 refine callsIn_of_wp Tryz.func291 rfl h7 ?_ Jr;simp only[Tryz.ntmps291,Vi,UB,UE,Nat.reduceAdd,Nat.reduceSub,Vq,Vr,Vz,Vt,UH,UF]
 gi_wp2
 gi_loopw [3] (fun i wr=> ∃(k:Nat) (pre:List (Int×gw)),k<=cs.length/\i = .int .i64 ((k:Int)-1)/\pre.map Prod.snd=(cs.drop k).reverse/\J pre wr/\cm W wr)
  (fun i _=>(intOf i+1).toNat)
 case atStart=>
  exact⟨cs.length,[],UJ _,rfl,by simp,h0,cm.refl _⟩
 case round=>
  obtain⟨k,pre,hk,rfl,JR,My,Ln⟩:=hrel;cases k with
  | zero=>
   gi_wp2
   go_end0
   exact⟨⟨_,rfl⟩,.inl ⟨pre,by rw[JR];rfl,My⟩⟩
  | succ k=>
   obtain⟨c,hck⟩:∃c,cs[k]? = some c:=⟨_,UL (by omega)⟩;obtain⟨d1,d2,d3,d4⟩:=hc k c hck;have e1:=Ln.cell d1;have e2:=Ln.cell d2;have e3:=Ln.cell d3;have e4:=Ln.cell d4;have e0:=Ln.cell Mg
   have Ja:pre.length<cs.length:=by
    have:=congrArg List.length JR;simp at this;omega
   obtain⟨fn,tmps,assign,body,hy,hR⟩:=hY pre ((k:Int),c) wr My Ja;dsimp only[zA]at hy;have Oa:(pre++[((k:Int),c)]).map Prod.snd=(cs.drop k).reverse:=by rw[Vv,JR,drop_rev cs k c hck];rfl
   gi_wp2
   refine hR.mono ?_;rintro e W3 (⟨rfl,Mf,Lo⟩|⟨rfl,KC⟩)
   .gi_wp2
    go_roundw
    case rel=>exact⟨k,pre++[((k:Int),c)],by omega,rfl,Oa,Mf,Ln.trans Lo⟩
    case measure=>simp[intOf]
   .gi_wp2
    refine bodyPost_ret (results_none rfl _ _ _) rfl ?_;exact⟨⟨_,rfl⟩,.inr ⟨_,⟨k,Oa⟩,KC⟩⟩
set_option maxRecDepth 100000 in
def Cf(F:Fence)(n:Nat)(h7:F.fn 291)(Jr:F.round=none)(l Bs ob aK:Nat)(ao:Option Addr)(J:List (Int×gw)->World->Prop)(W:World)(Mg:W.cell? ⟨Bs,ob,none⟩=some (.slice ao 0 aK))(h0:J [] W) :
  CallsIn F n Tryz.prog 291 #[.func (.yield l) #[] #[],.pointer (some ⟨Bs,ob,none⟩)] W fun e W'=>(∃v,e = .returned v)/\J [] W':=by
 refine callsIn_of_wp Tryz.func291 rfl h7 ?_ Jr;simp only[Tryz.ntmps291,Vi,UB,UE,Nat.reduceAdd,Nat.reduceSub,Vq,Vr,Vz,Vt,UH,UF]
 gi_wp2
 gi_loopw [3] (fun i wr=>i = .int .i64 (-1)/\J [] wr) (fun _ _=>0)
 case atStart=>exact⟨rfl,h0⟩
 case round=>
  obtain⟨rfl,My⟩:=hrel
  gi_wp2
  go_end0
  exact⟨⟨_,rfl⟩,My⟩
def F7(F:Fence)(n:Nat)(h7:F.fn 291)(Jr:F.round=none)(hn:1<=n)(Bs ob n₀:Nat)(sv:Value)(cs:List gw)(IY:cs.length<=1000000)(w:World)
  (hc:w.cell? ⟨Bs,ob,none⟩=some sv) (hI:nM n₀ w sv cs) :
  SeqStopsK F n Tryz.prog 291 #[.pointer (some ⟨Bs,ob,none⟩)] (fun x:Int×gw=> #[Value.int .i64 x.1,zA x.2]) cm (fun ys=>ys.map Prod.snd=cs.reverse) (fun pre=> ∃k,pre.map Prod.snd=(cs.drop k).reverse) cs.length w:=fun l J Jx W hW _ _ hY h0=>by
 have hk:=cm.of_below hW;have J0:=hk.cell hc;rcases hI.kept hk with ⟨ao,aK,rfl,rfl⟩|⟨b,off,aK,rfl,hb,Mw⟩
 .exact(Cf F n h7 Jr l Bs ob aK ao J W J0 h0).mono fun e W' ⟨he,hj⟩=>⟨he,.inl ⟨[],rfl,hj⟩⟩
 .exact back1_in F n h7 Jr hn l Bs ob b off aK cs IY J Jx hY W J0 Mw h0
def back_in(F:Fence)(n:Nat)(h:F.fn 266)(Jr:F.round=none)(ao:Option Addr)(len aK:Nat)(w:World) :
  CallsIn F n Tryz.prog 266 #[.slice ao len aK] w fun e w'=>e = .returned (.func (.func 291) #[] #[.pointer (some ⟨w.heap.size,0,none⟩)])/\w'=w.alloc (.cells #[.slice ao len aK] 42):=by
 refine callsIn_of_wp Tryz.func266 rfl h ?_ Jr;simp only[Tryz.ntmps266,Vi,UB,UE,Nat.reduceAdd,Nat.reduceSub,Vq,Vr,Vz,Vt,UH,UF]
 gi_wp2
 go_ret
 exact⟨rfl,rfl⟩
def given_in(F:Fence)(n:Nat)(h:F.fn 241)(Jr:F.round=none)(ao:Option Addr)(len aK:Nat)(p r:Int)(w:World) :
  CallsIn F n Tryz.prog 241 #[.slice ao len aK,.int .i64 p,.int .i64 r] w fun e w'=>e = .returned (.func (.func 265) #[] #[.pointer (some ⟨w.heap.size,0,none⟩),.pointer (some ⟨w.heap.size+1,0,none⟩),.pointer (some ⟨w.heap.size+1+1,0,none⟩)]) /\
   w'=((w.alloc (.cells #[.slice ao len aK] 42)).alloc (.cells #[.int .i64 p] 3)).alloc (.cells #[.int .i64 r] 3):=by
 refine callsIn_of_wp Tryz.func241 rfl h ?_ Jr;simp only[Tryz.ntmps241,Vi,UB,UE,Nat.reduceAdd,Nat.reduceSub,Vq,Vr,Vz,Vt,UH,UF]
 gi_wp2
 go_ret
 exact⟨rfl,rfl⟩
end
def sr(l:Nat)(W W':World):Prop:=W.heap.size<=W'.heap.size/\∀(k:Nat) (o:Obj),l<k->W.heap[k]? = some o->o.isCells=false->W'.heap[k]? = some o
def sr.trans{l:Nat}{A B C:World}(h:sr l A B)(k:sr l B C):sr l A C:=⟨UQ h.1 k.1,fun i o hl hi hc=>k.2 i o hl (h.2 i o hl hi hc) hc⟩
def pk.after{l:Nat}{W W':World}(h:pk l W W'):sr l W W':=⟨h.1.size,fun k o hl hk _=>(h.2 k (UP.1 hk).1 (by omega)).trans hk⟩
def vN{α:Type}(Wr:World->World->Prop)(F:Fence)(n:Nat)(P:Program)(g:Nat)(lb:Array Value)(encs:α->Array Value)(S Sp:List α->Prop)(N:Nat)(w:World):Prop :=
 ∀(l:Nat) (J Jx:List α->World->Prop) (W:World),cm w W->l<W.heap.size->OwnFrom W.heap.size J->OwnFrom W.heap.size Jx->(∀pre A B,Wr A B->J pre A->J pre B) ->
  (∀pre x W1,J pre W1->pre.length<N->YieldAt F (n-1) P l (encs x) W1 fun e W'=>
   (e = .returned (.bool true)/\J (pre++[x]) W'/\pk l W1 W'/\cm W1 W')\/(e = .returned (.bool false)/\Jx (pre++[x]) W'/\sr l W1 W')) ->
  J [] W ->
  CallsIn F n P g (#[.func (.yield l) #[] #[]]++lb) W fun e W'=>(∃v,e = .returned v)/\((∃xs,S xs/\J xs W')\/(∃pre,Sp pre/\Jx pre W'))
def postO{α:Type}(B:Nat)(I Ix:List α->World->Prop)(xs:List α)(W:World):Exit->Act->World->Prop
 | .normal,_,W'=>Below W.heap.size W W'/\I xs W'
 | .ret,_,W'=>KeepsFrom B W W'/\Ix xs W'
 | _,_,_=>False
def Dx{B:Nat}{W W':World}(h:Below W.heap.size W W'):KeepsFrom B W W':=⟨h.size,fun k o _ hk _=>(h.block k (UP.1 hk).1).trans hk⟩
theorem v7{F:Fence}{n:Nat}{P:Program}{w:World}{α:Type}{g:Operand}{ps:Array Tmp}{assign body:Code}{Q:Exit->Act->World->Prop}{a:Act}
  (Jr:F.round=none) (h1:1<=n){gf:Nat}{lb:Array Value}(hg:a.eval g = .func (.func gf) #[] lb) (Ur:F.fn gf) (eg:∀args w,(callFunc gf args).run P w = .ok (.enter gf args) w)
  {encs:α->Array Value}{S Sp:List α->Prop}{N:Nat}{Wr:World->World->Prop}(OC:vN Wr F (n-1) P gf lb encs S Sp N w) (JP:∀x,(encs x).size=ps.size)
  (I Ix:List α->World->Prop) (Ra:∀pre A B,Wr A B->I pre A->I pre B) (TV:∀(A B:World) (k:Nat) (o:Obj),Wr A B->w.heap.size<=k->A.heap[k]? = some o->B.heap[k]? = some o) (hI:OwnFrom w.heap.size I) (R4:OwnFrom w.heap.size Ix) (h0:I [] w) (Ax:α->Act->World->Prop) (hAx:∀x a',OwnFrom w.heap.size (fun (_:Unit) W=>Ax x a' W))
  (KY:∀(l:Nat) (pre:List α) (x:α) (W:World) (K:Act->World->Prop),I pre W->(∀a' W',Below W.heap.size W W'->I pre W'->Ax x a' W'->K a' W') ->
   assign.wpIn (F.inRound l) (n-1-1) P (Exit.then K (fun _ _ _=>False)) { tmps:=(ps.zip (encs x)).foldl (fun t (p,v)=>t.setIfInBounds p v) a.tmps,defers:=[] } W)
  (Lu:∀(l:Nat) (pre:List α) (x:α) (a':Act) (W:World),I pre W->Ax x a' W->pre.length<N->body.wpIn (F.inRound l) (n-1-1) P (postO w.heap.size I Ix (pre++[x]) W) a' W)
  (Ls:∀(D:Nat) (xs:List α) (W:World),w.heap.size<=D->S xs->I xs W->W.heap[D]? = some (.deferred (some []))->Q .normal { a with defers:={ target := .collected D,args := #[] }::a.defers } W)
  (N6:∀(D:Nat) (pre:List α) (W:World),w.heap.size<=D->Sp pre->Ix pre W->W.heap[D]? = some (.deferred (some []))->Code.ret.wpIn F n P Q { a with defers:={ target := .collected D,args := #[] }::a.defers } W) :
  (Code.rangeFunc g ps assign body).wpIn F n P Q a w:=by
 refine wpIn_rangeFunc ?_;intro fn hfn;rw[Jr];obtain⟨z,hz⟩:∃z,w.heap.size=z:=⟨_,rfl⟩;obtain⟨rec,JF⟩:∃rec:LoopState->Option Code->Loop,rec=fun st pe=>{ state:=st,pending:=pe,fn,tmps:=a.tmps,params:=ps,assign,body,defers:=z }:=⟨_,rfl⟩;obtain⟨W1,Kg⟩:∃W1,(w.alloc (.deferred (some []))).alloc (.loop (rec .ready none))=W1:=⟨_,rfl⟩;have J2:W1.heap.size=z+2:=by rw[<-Kg];simp[hz]
 have NY:W1.heap[z+1]? = some (.loop (rec .ready none)):=by
  rw[<-Kg,<-hz];have:=World.alloc_heap_new (w.alloc (.deferred (some []))) (.loop (rec .ready none));rwa [VH]at this
 have Uk:W1.heap[z]? = some (.deferred (some [])):=by
  rw[<-Kg,<-hz];exact(Below.heap_alloc _ _ _ (by simp)).trans (World.alloc_heap_new w _)
 have Rb:I [] W1:=by rw[<-Kg];exact hI.alloc _ (hI.alloc _ h0)
 have KH:cm w W1:=by rw[<-Kg];exact cm.of_below (((Vh _ w).alloc (UJ _) _).alloc (by simp) _)
 rw[hz]at hI R4 hAx Lu Ls N6 TV
 refine⟨z+1,[{ target := .collected z,args := #[] }],W1,{ target := .fn (.func gf) lb,args := #[.func (.yield (z+1)) #[] #[]] },W1,gf,
  #[.func (.yield (z+1)) #[] #[]]++lb,W1,?_,?_,?_,?_,fun _=>h1,?_⟩
 .rw[<-Kg,JF,<-hz];exact run_enterLoop_outer _ _ _ _ _
 .simp only[resolve,hg];simp[go_sem]
 .intro f' QN;simp[Target.leads]at QN;subst QN;exact Ur
 .simp[invoke,go_sem,eg]
 .have keep:∀{A B:World}{row:Option Nat}{k:Nat}{o:Obj},A.grownBy B row->(∀r,row=some r->W1.heap.size<=r/\∃o:Obj,A.heap[r]? = some o/\o.isCells=false)->k<z+2->A.heap[k]? = some o->B.heap[k]? = some o :=
   fun JN hr hk h=>(JN.block _ (UP.1 h).1 fun e=>by have:=(hr _ e.symm).1;omega).trans h
  have wk:∀{β:Type}{J:β->World->Prop},OwnFrom z J->OwnFrom W1.heap.size J:=fun h s A B row hs JN hr=>h s A B row hs JN fun r e=>⟨by have:=(hr r e).1;omega,(hr r e).2⟩
  refine(OC (z+1)
   (fun pre W=>I pre W/\W.heap[z+1]? = some (.loop (rec .ready none))/\W.heap[z]? = some (.deferred (some [])))
   (fun pre W=>Ix pre W/\W.heap[z+1]? = some (.loop (rec .done (some .ret)))/\W.heap[z]? = some (.deferred (some [])))
   W1 KH (by omega)
   (fun s A B row hs JN hr=>⟨wk hI s A B row hs.1 JN hr,keep JN hr (by omega) hs.2.1,keep JN hr (by omega) hs.2.2⟩)
   (fun s A B row hs JN hr=>⟨wk R4 s A B row hs.1 JN hr,keep JN hr (by omega) hs.2.1,keep JN hr (by omega) hs.2.2⟩)
   (fun pre A B hw hs=>⟨Ra pre A B hw hs.1,TV A B _ _ hw (by omega) hs.2.1,TV A B _ _ hw (UJ _) hs.2.2⟩) ?_ ⟨Rb,NY,Uk⟩).mono ?_
  .rintro pre x W ⟨hi,hl,hk⟩ IY;have Ja:z+1<W.heap.size:=(UP.1 hl).1;have hy:=run_yield (P:=P) (args:=encs x) hl (by rw[JF];exact JP x);rw[JF]at hy;refine⟨fn,_,assign,body,hy,roundIn_of_wpIn hfn (KY _ pre x W _ hi ?_)⟩;clear hy;intro a' Wa Nx hia hax;have OR:Wa.heap[z+1]? = some (.loop (rec .ready none)):=(Nx.block _ Ja).trans hl;have MH:Wa.heap[z]? = some (.deferred (some [])):=(Nx.block _ (by omega)).trans hk;have SY:z+1<Wa.heap.size:=(UP.1 OR).1;refine⟨_,run_beginRound OR (by rw[JF]),?_⟩;obtain⟨W2,Kv⟩:∃W2,Wa.putObj (z+1) (.loop { rec .ready none with state := .busy })=W2:=⟨_,rfl⟩;have KX:W2.heap[z+1]? = some (.loop { rec .ready none with state := .busy }):=by rw[<-Kv];exact World.putObj_heap_same SY
   have JK:W2.heap[z]? = some (.deferred (some [])):=by rw[<-Kv];exact(World.putObj_heap_other (by omega)).trans MH
   have kb2:pk (z+1) W W2:=by rw[<-Kv];exact(pk.of_below Nx).trans (pk.putObj _ _ _)
   have kc2:cm W W2:=by rw[<-Kv];exact(cm.of_below Nx).trans (cm.putObj OR rfl _)
   have Nu:I pre W2:=by rw[<-Kv];exact hI.putObj _ hia (by omega) OR rfl
   have Rq:Ax x a' W2:=by rw[<-Kv];exact(hAx x a').putObj (s:=()) _ hax (by omega) OR rfl
   rw[Kv];refine wpIn_mono (Lu _ pre x a' _ Nu Rq IY) ?_;rintro e a3 W3 hp;cases e with
   | normal=>
    obtain⟨Me,OU⟩:=hp;have Ms:W3.heap[z+1]? = some (.loop { rec .ready none with state := .busy }):=(Me.block _ (UP.1 KX).1).trans KX;have Lo:W3.heap[z]? = some (.deferred (some [])):=(Me.block _ (UP.1 JK).1).trans JK;have hr:=run_endRound (P:=P) none Ms;rw[JF]at hr;have Jd:=World.putObj_heap_same (o := .loop (rec .ready none)) (UP.1 Ms).1;refine⟨_,_,hr,.inl ⟨rfl,⟨hI.putObj _ OU (by omega) Ms rfl,?_,(World.putObj_heap_other (by omega)).trans Lo⟩,(kb2.trans (pk.of_below Me)).trans (pk.putObj _ _ _),(kc2.trans (cm.of_below Me)).trans (cm.putObj Ms rfl _)⟩⟩;rw[JF]at Jd ⊢;exact Jd
   | ret=>
    obtain⟨Lo,OU⟩:=hp;have Ms:=Lo.same _ _ (by omega) KX rfl;have TG:=Lo.same _ _ (UJ _) JK rfl;have hr:=run_endRound (P:=P) (some .ret) Ms;rw[JF]at hr;have Jd:=World.putObj_heap_same (o := .loop (rec .done (some .ret))) (UP.1 Ms).1;refine⟨_,_,hr,.inr ⟨rfl,⟨R4.putObj _ OU (by omega) Ms rfl,?_,(World.putObj_heap_other (by omega)).trans TG⟩,(kb2.after.trans ⟨Lo.size,fun k o hlk NN hc=>Lo.same k o (by omega) NN hc⟩).trans (pk.putObj _ _ _).after⟩⟩;rw[JF]at Jd ⊢;exact Jd
   | _=>exact hp.elim
  .rintro e W2 ⟨⟨v,rfl⟩,(⟨xs,hS,hi,hl,hk⟩|⟨pre,hSp,hi,hl,hk⟩)⟩
   .exact⟨none,_,by have:=run_endLoop (P:=P) hl (by rw[JF];simp);rw[JF]at this;exact this,Ls _ xs _ (UJ _) hS (hI.putObj _ hi (by omega) hl rfl) ((World.putObj_heap_other (by omega)).trans hk)⟩
   .exact⟨some .ret,_,by have:=run_endLoop (P:=P) hl (by rw[JF];simp);rw[JF]at this;exact this,N6 _ pre _ (UJ _) hSp (R4.putObj _ hi (by omega) hl rfl) ((World.putObj_heap_other (by omega)).trans hk)⟩
section
attribute [local go_sem] Wm
def iW(p r:Int)(l:List (Int×gw)):List gw:=(l.map Prod.snd).filter (yF p r)
def Fe(p r:Int)(l:List (Int×gw))(x:Int×gw):iW p r (l++[x])=if yF p r x.2=true then iW p r l++[x.2] else iW p r l:=by
 unfold iW;rw[Vv,Va,List.map_singleton,Vy];split<;>simp
def HV(p r:Int)(l:List (Int×gw)):(iW p r l).length<=l.length:=by
 unfold iW;exact UQ (U0 _ _) (by simp)
def ya{β:Type}{B:Nat}{w₀:World}:OwnFrom B (fun (_:β) W=>cm w₀ W):=fun _ _ _ _ hs hg hr=>hs.grown hg fun r e=>(hr r e).2
def own_le{β:Type}{B B':Nat}{I:β->World->Prop}(h:OwnFrom B I)(hB:B<=B'):OwnFrom B' I:=fun s A C row hs hg hr=>h s A C row hs hg fun r e=>⟨by have:=(hr r e).1;omega,(hr r e).2⟩
def GK{β γ:Type}{B:Nat}{I:β->World->Prop}(h:OwnFrom B I)(f:γ->β):OwnFrom B (fun s W=>I (f s) W):=fun s A C row hs hg hr=>h (f s) A C row hs hg hr
def C1{F:Fence}(hd:F.depth=none){m m':Nat}{P:Program}{l:Nat}{f:FuncId}{tmps:Array Value}{assign body:Code}{w:World}{R:Ending->World->Prop}(l':Nat)
  (h:RoundIn F m P l f tmps assign body w R):RoundIn (F.inRound l') m' P l f tmps assign body w R:=⟨h.1,fun c cs _=>h.2 c cs (fun d e=>by rw[hd]at e;cases e)⟩
def Bx4.cells{W:World}{B:Nat}{c:gw}(h:Bx4 W B c):W.cell? ⟨B,0,none⟩=some (.int .i64 c.person)/\W.cell? ⟨B,1,none⟩=some (.int .i64 c.rc)/\W.cell? ⟨B,2,none⟩=some (.int .i64 c.day)/\W.cell? ⟨B,3,none⟩=some (.int .i64 c.kind):=by
 unfold Bx4 at h;simp[World.cell?,h]
def Hd{β:Type}(B:Nat)(c:gw):Own (fun (_:β) W=>Bx4 W B c):=fun s X Y row hs hg I9=>by
 refine(hg.block B (UP.1 hs).1 fun e=>?_).trans hs;obtain⟨o,ho,hc⟩:=I9 B e.symm;rw[show X.heap[B]? = _ from hs]at ho;cases ho;cases hc
set_option maxRecDepth 100000 in
theorem BZ(F:Fence)(hd:F.depth=none)(n:Nat)(Uy:F.fn 265)(PL:F.fn 266)(Ri:F.fn 291)(Jr:F.round=none)(hn:4<=n)(B1 B2 B3:Nat)(ao:Option Addr)(aK:Nat)(cs:List gw)(p r:Int)(IY:cs.length<=1000000)(w:World)
  (LH:w.cell? ⟨B1,0,none⟩=some (.slice ao cs.length aK)) (Rh:w.cell? ⟨B2,0,none⟩=some (.int .i64 p)) (Rg:w.cell? ⟨B3,0,none⟩=some (.int .i64 r)) (hI:nM w.heap.size w (.slice ao cs.length aK) cs) :
  vN (fun _ _=>False) F n Tryz.prog 265 #[.pointer (some ⟨B1,0,none⟩),.pointer (some ⟨B2,0,none⟩),.pointer (some ⟨B3,0,none⟩)] (fun c:gw=> #[zA c]) (fun ys=>ys=cs.reverse.filter (yF p r)) (fun pre=> ∃k,pre=(cs.drop k).reverse.filter (yF p r)) cs.length w:=by
 intro l J Jx W hW hl hJ Ul _ hY h0;have L0:1<=n:=by omega
 have JE:=hW.cell LH;have Kc:=hW.cell Rh;have hc3:=hW.cell Rg;have Ra:=hI.kept hW;refine callsIn_of_wp_marks Tryz.func265 rfl Uy ?_ Jr;simp only[Tryz.ntmps265,Vi,UB,UE,Nat.reduceAdd,Nat.reduceSub,Vq,Vr,Vz,Vt,UH,UF];have TK:(W.alloc (.cells #[.func (.yield l) #[] #[]] 360)).cell? ⟨B1,0,none⟩=some (.slice ao cs.length aK):=(cm.of_below ((Vh _ W).alloc (UJ _) _)).cell JE
 gi_wp2_with (gi_at_call 266;refine(back_in F (n-1) PL Jr _ _ _ _).mono ?_;rintro e w' ⟨rfl,rfl⟩)
 have bY:=(Boxed.new W 360 (.func (.yield l) #[] #[])).alloc (.cells #[.slice ao cs.length aK] 42);have bL:=Boxed.new (W.alloc (.cells #[.func (.yield l) #[] #[]] 360)) 42 (.slice ao cs.length aK);rw[VH]at bL;have k0:cm W ((W.alloc (.cells #[.func (.yield l) #[] #[]] 360)).alloc (.cells #[.slice ao cs.length aK] 42)):=cm.of_below (((Vh _ W).alloc (UJ _) _).alloc (by simp) _);have j0:J [] ((W.alloc (.cells #[.func (.yield l) #[] #[]] 360)).alloc (.cells #[.slice ao cs.length aK] 42)):=hJ.alloc _ (hJ.alloc _ h0);have Jl:((W.alloc (.cells #[.func (.yield l) #[] #[]] 360)).alloc (.cells #[.slice ao cs.length aK] 42)).heap.size=W.heap.size+2:=by simp
 obtain⟨W0,On⟩:∃W0,(W.alloc (.cells #[.func (.yield l) #[] #[]] 360)).alloc (.cells #[.slice ao cs.length aK] 42)=W0:=⟨_,rfl⟩;rw[On]at bY bL k0 j0 Jl ⊢;clear On TK;have g2:=k0.cell Kc;have g3:=k0.cell hc3;have gY:=bY.cell;have Um:=own_le hJ (B':=W0.heap.size) (by omega);have Q9:=own_le Ul (B':=W0.heap.size) (by omega)
 refine wpIn_rangeFunc_ownH Jr L0 (gf:=291) (lb := #[.pointer (some ⟨W.heap.size+1,0,none⟩)]) rfl Ri (enters_of Tryz.func291 (by kernel_rfl) rfl)
  (F7 F (n-1) Ri Jr (by omega) (W.heap.size+1) 0 w.heap.size _ cs IY W0 bL.cell (Ra.kept k0)) (fun h k=>h.trans k) (fun X l' o o' _ h hc _=>cm.putObj h hc o') (Vh _ _) (fun _=>rfl)
  (fun pre Wc=>J (iW p r pre) Wc/\cm W0 Wc)
  (fun c pre Wc=>c = .ret/\Jx (iW p r pre) Wc)
  (OwnFrom.and (GK Um _) ya)
  (fun c s A B row hs hg hr=>⟨hs.1,GK Q9 (iW p r) s A B row hs.2 hg hr⟩)
  ⟨j0,cm.refl _⟩
  (fun x a' Wc=> ∃Bx,Bx4 Wc Bx x.2/\a' = { tmps := #[.func (.yield l) #[] #[],.pointer (some ⟨B1,0,none⟩),.pointer (some ⟨B2,0,none⟩),.pointer (some ⟨B3,0,none⟩),.pointer (some ⟨W.heap.size,0,none⟩),undef,.pointer (some ⟨Bx,0,none⟩),.slice ao cs.length aK,.func (.func 291) #[] #[.pointer (some ⟨W.heap.size+1,0,none⟩)],.int .i64 x.1,zA x.2,undef,undef,undef,undef,undef,undef,undef,undef,undef,undef,undef,undef,undef,undef,undef,undef,undef,undef,undef,undef,undef],defers:=[] })
  (fun x a' _ X Y row hs hg hr=>by obtain⟨Bx,h1,h2⟩:=hs;exact⟨Bx,Hd Bx x.2 () X Y row h1 hg (fun q e=>(hr q e).2),h2⟩)
  ?assign ?body ?done ?stop
 case assign=>
  rintro l' pre x W' K ⟨hj,hk⟩ hK;simp only[zA]at hK ⊢
  gi_wp2
  have Nl:Below W'.heap.size W' (W'.alloc (.cells #[.int .i64 x.2.person,.int .i64 x.2.rc,.int .i64 x.2.day,.int .i64 x.2.kind] 127)):=(Vh _ _).alloc (UJ _) _;exact hK _ _ (Dx Nl) (cm.of_below Nl) ⟨Um.alloc _ hj,hk.trans (cm.of_below Nl)⟩ ⟨W'.heap.size,World.alloc_heap_new W' _,rfl⟩
 case body=>
  rintro l' pre x a' W' RI _ ⟨hj,hk⟩ ⟨Bx,bX,rfl⟩ Ja;obtain⟨x1,x2,x3,x4⟩:=bX.cells;have m2:=hk.cell g2;have m3:=hk.cell g3;have mY:=hk.cell gY;have KT:(iW p r pre).length<cs.length:=Vu (HV p r pre) Ja;have KP:=Fe p r pre x;simp only[zA];have yes:yF p r x.2=true->iW p r (pre++[x])=iW p r pre++[x.2]:=fun e=>by rw[KP,if_pos e]
  have keepsB:∀{A B:World},sr l A B->KeepsFrom W0.heap.size A B:=fun h=>⟨h.1,fun k o hB NN hc=>h.2 k o (by omega) NN hc⟩;obtain⟨fn,tmps,asg,bdy,hy,hR⟩:=hY (iW p r pre) x.2 W' hj KT;dsimp only[zA]at hy;have isc:yF p r x.2=((x.2.person == p) && ((x.2.rc == 0) || (x.2.rc == r))):=rfl;cases b1:(x.2.person == p) with
  | false=>
   rw[b1]at isc;have e:iW p r (pre++[x])=iW p r pre:=by rw[KP,isc];rfl
   clear hy hR KP isc yes
   gi_wp2
   refine⟨fun _ h=>(by cases h),?_⟩
   gi_wp2
   exact⟨KeepsFrom.refl _ _,cm.refl _,by rw[e];exact hj,hk⟩
  | true=>
   cases b2:(x.2.rc == 0) with
   | true=>
    rw[b1,b2]at isc;have e:=yes (by rw[isc];rfl);clear KP isc yes
    gi_wp2
    refine(C1 hd l' hR).mono ?_;rintro e' W3 (⟨rfl,Mf,RK,MG⟩|⟨rfl,KC,MH⟩)
    .gi_wp2
     exact⟨keepsB RK.after,MG,by rw[e];exact Mf,hk.trans MG⟩
    .gi_wp2
     exact⟨keepsB MH,rfl,by rw[e];exact KC⟩
   | false=>
    cases b3:(x.2.rc == r) with
    | false=>
     rw[b1,b2,b3]at isc;have e:iW p r (pre++[x])=iW p r pre:=by rw[KP,isc];rfl
     clear hy hR KP isc yes
     gi_wp2
     refine⟨fun _ h=>(by cases h),?_⟩
     gi_wp2
     exact⟨KeepsFrom.refl _ _,cm.refl _,by rw[e];exact hj,hk⟩
    | true=>
     rw[b1,b2,b3]at isc;have e:=yes (by rw[isc];rfl);clear KP isc yes
     gi_wp2
     refine(C1 hd l' hR).mono ?_;rintro e' W3 (⟨rfl,Mf,RK,MG⟩|⟨rfl,KC,MH⟩)
     .gi_wp2
      exact⟨keepsB RK.after,MG,by rw[e];exact Mf,hk.trans MG⟩
     .gi_wp2
      exact⟨keepsB MH,rfl,by rw[e];exact KC⟩
 case done=>
  rintro D xs Wd hD hS ⟨hj,hk⟩ hK
  gi_wp2
  refine⟨by simp,.inl ⟨_,_,rfl,run_takeDeferred hK,?_⟩⟩;exact⟨_,results_none rfl _ _ _,⟨_,rfl⟩,.inl ⟨_,by rw[iW,hS],Um.putObj _ hj hD hK rfl⟩⟩
 case stop=>
  rintro D c pre Wd hD ⟨k,JR⟩ ⟨rfl,hj⟩ hK
  gi_wp2
  refine⟨by simp,.inl ⟨_,_,rfl,run_takeDeferred hK,?_⟩⟩;exact⟨_,results_none rfl _ _ _,⟨_,rfl⟩,.inr ⟨_,⟨k,by rw[iW,JR]⟩,Q9.putObj _ hj hD hK rfl⟩⟩
set_option maxRecDepth 100000 in
def at_in(F:Fence)(hd:F.depth=none)(n:Nat)(Uz:F.fn 204)(Uy:F.fn 241)(PL:F.fn 265)(Ri:F.fn 266)(PK:F.fn 291)(Jr:F.round=none)(hn:6<=n)(ao:Option Addr)(aK:Nat)(cs:List gw)(p r d:Int)(IY:cs.length<=1000000)(w:World)
  (hI:nM w.heap.size w (.slice ao cs.length aK) cs) :
  CallsIn F n Tryz.prog 204 #[.slice ao cs.length aK,.int .i64 p,.int .i64 r,.int .i64 d] w fun e W'=>e = .returned (.int .i64 (zH cs p r d))/\Below w.heap.size w W':=by
 have L0:1<=n:=by omega
 refine callsIn_of_wp_marks Tryz.func204 rfl Uz ?_ Jr;simp only[Tryz.ntmps204,Vi,UB,UE,Nat.reduceAdd,Nat.reduceSub,Vq,Vr,Vz,Vt,UH,UF]
 gi_wp2_with (gi_at_call 241;refine(given_in F (n-1) Uy Jr _ _ _ _ _ _).mono ?_;rintro e w' ⟨rfl,rfl⟩)
 obtain⟨z,hz⟩:∃z,w.heap.size=z:=⟨_,rfl⟩
 have Lv:Below w.heap.size w (((((w.alloc (.cells #[.int .i64 d] 3)).alloc (.cells #[.int .i64 0] 3)).alloc (.cells #[.slice ao cs.length aK] 42)).alloc (.cells #[.int .i64 p] 3)).alloc (.cells #[.int .i64 r] 3)) :=
  (((((Vh _ w).alloc (UJ _) _).alloc (by simp) _).alloc (by simp;omega) _).alloc (by simp;omega) _).alloc (by simp;omega) _
 have bD:=((((Boxed.new w 3 (.int .i64 d)).alloc (.cells #[.int .i64 0] 3)).alloc (.cells #[.slice ao cs.length aK] 42)).alloc (.cells #[.int .i64 p] 3)).alloc (.cells #[.int .i64 r] 3);have bR:=(((Boxed.new (w.alloc (.cells #[.int .i64 d] 3)) 3 (.int .i64 0)).alloc (.cells #[.slice ao cs.length aK] 42)).alloc (.cells #[.int .i64 p] 3)).alloc (.cells #[.int .i64 r] 3);have b1:=((Boxed.new ((w.alloc (.cells #[.int .i64 d] 3)).alloc (.cells #[.int .i64 0] 3)) 42 (.slice ao cs.length aK)).alloc (.cells #[.int .i64 p] 3)).alloc (.cells #[.int .i64 r] 3);have b2:=(Boxed.new (((w.alloc (.cells #[.int .i64 d] 3)).alloc (.cells #[.int .i64 0] 3)).alloc (.cells #[.slice ao cs.length aK] 42)) 3 (.int .i64 p)).alloc (.cells #[.int .i64 r] 3);have b3:=Boxed.new ((((w.alloc (.cells #[.int .i64 d] 3)).alloc (.cells #[.int .i64 0] 3)).alloc (.cells #[.slice ao cs.length aK] 42)).alloc (.cells #[.int .i64 p] 3)) 3 (.int .i64 r);have Jl:(((((w.alloc (.cells #[.int .i64 d] 3)).alloc (.cells #[.int .i64 0] 3)).alloc (.cells #[.slice ao cs.length aK] 42)).alloc (.cells #[.int .i64 p] 3)).alloc (.cells #[.int .i64 r] 3)).heap.size=z+5:=by simp[hz]
 simp only[VH]at bR b1 b2 b3;obtain⟨W0,On⟩:∃W0,((((w.alloc (.cells #[.int .i64 d] 3)).alloc (.cells #[.int .i64 0] 3)).alloc (.cells #[.slice ao cs.length aK] 42)).alloc (.cells #[.int .i64 p] 3)).alloc (.cells #[.int .i64 r] 3)=W0:=⟨_,rfl⟩;rw[On]at bD bR b1 b2 b3 Lv Jl ⊢;clear On;have Rc:=hI.kept (cm.of_below Lv)
 have Rb:nM W0.heap.size W0 (.slice ao cs.length aK) cs:=by
  rcases Rc with h|⟨b,off,cp,h1,h2,h3⟩
  .exact .inl h
  .exact .inr ⟨b,off,cp,h1,by omega,h3⟩
 rw[hz]at bD bR b1 b2 b3 Lv ⊢
 refine v7 Jr L0 (gf:=265) (lb := #[.pointer (some ⟨z+1+1,0,none⟩),.pointer (some ⟨z+1+1+1,0,none⟩),.pointer (some ⟨z+1+1+1+1,0,none⟩)]) rfl PL (enters_of Tryz.func265 (by kernel_rfl) rfl)
  (BZ F hd (n-1) PL Ri PK Jr (by omega) (z+1+1) (z+1+1+1) (z+1+1+1+1) ao aK cs p r IY W0 b1.cell b2.cell b3.cell Rb) (fun _=>rfl)
  (fun pre W=>((Boxed W z 3 (.int .i64 d)/\Boxed W (z+1) 3 (.int .i64 0))/\∀c∈pre,d<c.day)/\Below z w W)
  (fun pre W=>(Boxed W (z+1) 3 (.int .i64 (qA d pre))/\(pre.any fun c=>decide (c.day<=d))=true)/\Below z w W)
  (fun _ _ _ h=>h.elim) (fun _ _ _ _ h=>h.elim)
  (OwnFrom.and (OwnFrom.and (OwnFrom.and (Own.from (boxed_own z 3 (fun (_:List gw)=>Value.int .i64 d)) _) (Own.from (boxed_own (z+1) 3 (fun (_:List gw)=>Value.int .i64 0)) _)) (ownFrom_pure _ _)) (ownFrom_below (by omega) (by omega)))
  (OwnFrom.and (OwnFrom.and (Own.from (boxed_own (z+1) 3 (fun pre:List gw=>Value.int .i64 (qA d pre))) _) (ownFrom_pure _ _)) (ownFrom_below (by omega) (by omega)))
  ⟨⟨⟨bD,bR⟩,fun c hc=>by cases hc⟩,Lv⟩
  (fun x a' Wc=> ∃Bx,z+1<Bx/\Bx4 Wc Bx x/\a' = { tmps := #[.slice ao cs.length aK,.int .i64 p,.int .i64 r,.int .i64 d,undef,undef,undef,.pointer (some ⟨z,0,none⟩),.pointer (some ⟨z+1,0,none⟩),.pointer (some ⟨Bx,0,none⟩),.slice ao cs.length aK,.int .i64 p,.int .i64 r,.func (.func 265) #[] #[.pointer (some ⟨z+1+1,0,none⟩),.pointer (some ⟨z+1+1+1,0,none⟩),.pointer (some ⟨z+1+1+1+1,0,none⟩)],zA x,undef,undef,undef,undef,undef,undef],defers:=[] })
  (fun x a' _ X Y row hs hg hr=>by obtain⟨Bx,h0,h1,h2⟩:=hs;exact⟨Bx,h0,Hd Bx x () X Y row h1 hg (fun q e=>(hr q e).2),h2⟩)
  ?assign ?body ?done ?stop
 case assign=>
  rintro l' pre x W' K ⟨⟨⟨bD1,bR1⟩,hp⟩,LH⟩ hK;simp only[zA]at hK ⊢
  gi_wp2
  have Nl:Below W'.heap.size W' (W'.alloc (.cells #[.int .i64 x.person,.int .i64 x.rc,.int .i64 x.day,.int .i64 x.kind] 127)):=(Vh _ _).alloc (UJ _) _;exact hK _ _ Nl ⟨⟨⟨bD1.alloc _,bR1.alloc _⟩,hp⟩,LH.trans (Nl.mono (by have:=LH.size;omega))⟩ ⟨W'.heap.size,bR1.lt,World.alloc_heap_new W' _,rfl⟩
 case body=>
  rintro l' pre x a' W' ⟨⟨⟨bD1,bR1⟩,hp⟩,LH⟩ ⟨Bx,hBx,bX,rfl⟩ Ja;obtain⟨x1,x2,x3,x4⟩:=bX.cells;have cD:=bD1.cell;have cR:=bR1.cell;have fR:=bR1.frozen;simp only[zA]
  have LZ:(pre.any fun c=>decide (c.day<=d))=false:=by
   rw[List.any_eq_false];intro c hc;have:=hp c hc;simp;omega
  by_cases h:x.day<=d
  .gi_wp2
   have e1:qA d (pre++[x])=x.kind:=by rw[yN,LZ];simp[qA,h]
   exact⟨(KeepsOthers.setCell _ _ _).from _,⟨by rw[e1];exact bR1.set _,by rw[Xv];simp[h]⟩,LH.setCell (p:=⟨z+1,0,none⟩) (by simp) _⟩
  .gi_wp2
   exact⟨Vh _ _,⟨⟨bD1,bR1⟩,fun c hc=>by
    rcases UU.1 hc with hc|hc
    .exact hp c hc
    .simp at hc;subst hc;omega⟩,LH⟩
 case done=>
  rintro D xs Wd hD rfl ⟨⟨⟨bD1,bR1⟩,hp⟩,LH⟩ hK;have cR:=bR1.cell;have fR:=bR1.frozen;have e1:zH cs p r d=0:=by rw[<-F8 p r d cs.length cs rfl];exact A0 d _ hp
  gi_wp2
  have PI:=(KeepsOthers.setCell Wd ⟨z+1,0,none⟩ (.int .i64 0)).same D _ hK rfl;refine⟨by simp,.inl ⟨_,_,rfl,run_takeDeferred PI,?_⟩⟩;have Pg:=cell_kept (bR1.set (.int .i64 0)).cell (grownBy_putObj' _ D (.deferred none)) (fun r e=>by cases e;exact⟨_,PI,rfl⟩);refine⟨.int .i64 0,?_,by rw[e1],?_⟩
  .simp[results,Tryz.f204,go_sem,Pg]
  .rw[hz];exact(LH.setCell (p:=⟨z+1,0,none⟩) (by simp) _).trans (belowK_b (w:=w) (by omega) _ D _ _ (by omega) PI rfl rfl)
 case stop=>
  rintro D pre Wd hD ⟨k,rfl⟩ ⟨⟨bR1,TR⟩,LH⟩ hK;have cR:=bR1.cell
  have e1:zH cs p r d=qA d ((cs.drop k).reverse.filter (yF p r)):=by
   rw[<-F8 p r d cs.length cs rfl];have e2:cs.reverse=(cs.drop k).reverse++(cs.take k).reverse:=by rw[<-List.reverse_append,VW]
   rw[e2,Va,yN,if_pos TR]
  gi_wp2
  refine⟨by simp,.inl ⟨_,_,rfl,run_takeDeferred hK,?_⟩⟩;have Pg:=cell_kept bR1.cell (grownBy_putObj' _ D (.deferred none)) (fun r e=>by cases e;exact⟨_,hK,rfl⟩);refine⟨.int .i64 (qA d ((cs.drop k).reverse.filter (yF p r))),?_,by rw[e1],?_⟩
  .simp[results,Tryz.f204,go_sem,Pg]
  .rw[hz];exact LH.trans (belowK_b (w:=w) (by omega) Wd D _ _ (by omega) hK rfl rfl)
def Hi[aw]:bQ Tryz.prog 204 uE :=
 BI (fn:=Tryz.f204) Tryz.func204 (by kernel_rfl) (by kernel_rfl) fun sv cs p r d IY w hI=>by
  obtain⟨ao,aK,rfl⟩:∃ao aK,sv = .slice ao cs.length aK:=by
   rcases hI with ⟨ao,aK,rfl,rfl⟩|⟨b,off,aK,rfl,_⟩
   .exact⟨ao,aK,rfl⟩
   .exact⟨_,aK,rfl⟩
  exact(callsIn_wide (n:=6)).1 (at_in Fence.wide rfl 6 trivial trivial trivial trivial trivial rfl (by omega) ao aK cs p r d IY w hI)
end
end Go.Eng
