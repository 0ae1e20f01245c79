/- consent.At, walked in the model: a range over an iterator that itself ranges over slices.Backward. -/
import Derived.Test.YtpdacimgcojgnaaGreatDoorProg
import Derived.Test.YtpdacimgcojgnaaGreatDoorAt
import Derived.RangeFuncBox
import Derived.RangeFuncNested
import Derived.RangeFuncBound
import Derived.RangeFuncCalls
import Derived.RangeFuncLeaves
import Derived.Shelf.Abstract
import Derived.WalkKit
import Derived.OwnWalkIn
import Derived.TacticsInMore
import Derived.LoopNIn
import Derived.LoopIn
import Derived.Maps.AppendAt
import Derived.CallsIn
set_option linter.all false
set_option linter.all false
namespace Go.Eng
open Go.RowKit Go.Shelf Go.Proofs

attribute [local go_sem] Oper.semAt_some

def cAgg (c:Con):Value := .agg #[.int .i64 c.person,.int .i64 c.rc,.int .i64 c.day,.int .i64 c.kind]

def Bx4 (W:World) (B:Nat) (c:Con):Prop:=W.heap[B]? = some (.cells #[.int .i64 c.person,.int .i64 c.rc,.int .i64 c.day,.int .i64 c.kind] 53 (0,0))

def KCells (W W':World):Prop:=Below 0 W W'∧∀ (k:Nat) (o:Obj),W.heap[k]? = some o→o.isCells=true→W'.heap[k]? = some o
def KBut (l:Nat) (W W':World):Prop:=Below 0 W W'∧∀ k,k<W.heap.size→k≠l→W'.heap[k]? = W.heap[k]?

theorem KCells.refl (W:World):KCells W W:=⟨Below.refl _ _,fun _ _ h _=>h⟩
theorem KCells.trans {A B C:World}(h:KCells A B) (k:KCells B C):KCells A C:=⟨h.1.trans k.1,fun i o hi ho=>k.2 i o (h.2 i o hi ho) ho⟩
theorem KBut.trans {l:Nat}{A B C:World}(h:KBut l A B) (k:KBut l B C):KBut l A C:=⟨h.1.trans k.1,fun i hi hl=>(k.2 i (by have:=h.1.size;omega) hl).trans (h.2 i hi hl)⟩
theorem KBut.of_below {l:Nat}{W W':World}(h:Below W.heap.size W W'):KBut l W W':=⟨h.mono (Nat.zero_le _),fun k hk _=>h.block k hk⟩
theorem KCells.of_below {W W':World}(h:Below W.heap.size W W'):KCells W W':=⟨h.mono (Nat.zero_le _),fun k o hk _=>(h.block k (Array.getElem?_eq_some_iff.1 hk).1).trans hk⟩
theorem below0_grown {W W':World}{row:Option Nat}(h:W.grownBy W' row):Below 0 W W':=⟨h.os,h.tape,h.output,h.size,fun k hk=>by omega⟩
theorem KBut.putObj (W:World) (l:Nat) (o:Obj):KBut l W (W.putObj l o):=⟨below0_grown (grownBy_putObj' W l o),fun k hk hl=>World.putObj_heap_other hl⟩
theorem KCells.putObj {W:World}{l:Nat}{o0:Obj}(h:W.heap[l]? = some o0) (hc:o0.isCells=false) (o:Obj):KCells W (W.putObj l o):=⟨below0_grown (grownBy_putObj' W l o),fun k o1 hk ho=>by
 have hne:k≠l:=fun e=>by subst e;rw [h] at hk;injection hk with hk;subst hk;rw [hc] at ho;cases ho
 exact (World.putObj_heap_other hne).trans hk⟩
theorem KCells.grown {W A B:World}{row:Option Nat}(h:KCells W A) (hg:A.grownBy B row) (hr:∀ r,row=some r→∃ o:Obj,A.heap[r]? = some o∧o.isCells=false):KCells W B :=
 ⟨h.1.trans (below0_grown hg),fun k o hk ho=>by
  have hA:=h.2 k o hk ho
  refine (hg.block k (Array.getElem?_eq_some_iff.1 hA).1 fun e=>?_).trans hA
  obtain⟨o',h1,h2⟩:=hr k e.symm
  rw [hA] at h1;injection h1 with h1;subst h1;rw [ho] at h2;cases h2⟩
theorem KCells.cell {W W':World}(h:KCells W W'){a:Addr}{v:Value}(hv:W.cell? a=some v):W'.cell? a=some v:=by
 have:W'.heap[a.block]? = W.heap[a.block]? := by
  unfold World.cell? at hv
  cases hb:W.heap[a.block]? with
  | none=>rw [hb] at hv;simp at hv
  | some o=>
   cases o with
   | cells c t f=>exact h.2 _ _ hb rfl
   | _=>rw [hb] at hv;simp at hv
 rw [World.cell?_of_block this];exact hv

theorem ConsIn.kept {n₀:Nat}{A B:World}(h:KCells A B){sv:Value}{cs:List Con}:ConsIn n₀ A sv cs→ConsIn n₀ B sv cs
 | .inl e=> .inl e
 | .inr ⟨b,off,cap,e,hb,hc⟩=> .inr ⟨b,off,cap,e,hb,fun j c hj=>by
   obtain⟨k1,k2,k3,k4⟩:=hc j c hj
   exact⟨h.cell k1,h.cell k2,h.cell k3,h.cell k4⟩⟩

theorem drop_rev (cs:List Con) (k:Nat) (c:Con) (h:cs[k]? = some c):(cs.drop k).reverse=(cs.drop (k+1)).reverse++[c]:=by
 have hk:=(List.getElem?_eq_some_iff.1 h)
 rw [List.drop_eq_getElem_cons hk.1,List.reverse_cons,hk.2]

set_option maxRecDepth 100000 in
set_option maxHeartbeats 2000000 in
theorem back1_in (F:Fence) (n:Nat) (h7:F.fn 138) (hro:F.round=none) (hn:1≤n) (l Bs ob b off cap:Nat) (cs:List Con) (hlen:cs.length≤1000000)
  (J Jx:List (Int×Con)→World→Prop)
  (hY:∀ pre x W,J pre W→pre.length<cs.length→YieldAt F (n-1) Tryz.prog l #[.int .i64 x.1,cAgg x.2] W fun e W'=>
   (e = .returned (.bool true)∧J (pre++[x]) W'∧KCells W W')∨(e = .returned (.bool false)∧Jx (pre++[x]) W'))
  (W:World) (hBs:W.cell? ⟨Bs,ob,none⟩=some (.slice (some ⟨b,off,none⟩) cs.length cap))
  (hc:∀ j c,cs[j]? = some c→W.cell? ⟨b,off+j*4,none⟩=some (.int .i64 c.person)∧W.cell? ⟨b,off+j*4+1,none⟩=some (.int .i64 c.rc)∧W.cell? ⟨b,off+j*4+2,none⟩=some (.int .i64 c.day)∧W.cell? ⟨b,off+j*4+3,none⟩=some (.int .i64 c.kind)) (h0:J [] W) :
  CallsIn F n Tryz.prog 138 #[.func (.yield l) #[] #[],.pointer (some ⟨Bs,ob,none⟩)] W fun e W'=>(∃ v,e = .returned v) ∧
   ((∃ ys,ys.map Prod.snd=cs.reverse∧J ys W')∨(∃ pre,(∃ k,pre.map Prod.snd=(cs.drop k).reverse)∧Jx pre W')):=by
 refine callsIn_of_wp Tryz.func138 rfl h7 ?_ hro
 simp only [Tryz.ntmps138,List.size_toArray,List.length_cons,List.length_nil,Nat.reduceAdd,Nat.reduceSub,Array.replicate_succ,Array.replicate_zero,List.push_toArray,List.append_toArray,List.nil_append,List.cons_append]
 gi_wp2
 gi_loopw [3] (fun i wr=> ∃ (k:Nat) (pre:List (Int×Con)),k≤cs.length∧i = .int .i64 ((k:Int)-1)∧pre.map Prod.snd=(cs.drop k).reverse∧J pre wr∧KCells W wr)
  (fun i _=>(intOf i+1).toNat)
 case atStart=>
  exact⟨cs.length,[],Nat.le_refl _,rfl,by simp,h0,KCells.refl _⟩
 case round=>
  obtain⟨k,pre,hk,rfl,hpre,hJs,hnx⟩:=hrel
  cases k with
  | zero=>
   gi_wp2
   go_end0
   exact⟨⟨_,rfl⟩,.inl ⟨pre,by rw [hpre];rfl,hJs⟩⟩
  | succ k=>
   obtain⟨c,hck⟩:∃ c,cs[k]? = some c:=⟨_,List.getElem?_eq_getElem (by omega)⟩
   obtain⟨d1,d2,d3,d4⟩:=hc k c hck
   have e1:=hnx.cell d1
   have e2:=hnx.cell d2
   have e3:=hnx.cell d3
   have e4:=hnx.cell d4
   have e0:=hnx.cell hBs
   have hlt:pre.length<cs.length:=by
    have:=congrArg List.length hpre
    simp at this;omega
   obtain⟨fn,tmps,assign,body,hy,hR⟩:=hY pre ((k:Int),c) wr hJs hlt
   dsimp only [cAgg] at hy
   have hpre':(pre++[((k:Int),c)]).map Prod.snd=(cs.drop k).reverse:=by rw [List.map_append,hpre,drop_rev cs k c hck];rfl
   gi_wp2
   refine hR.mono ?_
   rintro e W3 (⟨rfl,hJ3,hk3⟩|⟨rfl,hJx3⟩)
   ·gi_wp2
    go_roundw
    case rel=>exact⟨k,pre++[((k:Int),c)],by omega,rfl,hpre',hJ3,hnx.trans hk3⟩
    case measure=>simp [intOf]
   ·gi_wp2
    refine bodyPost_ret (results_none rfl _ _ _) rfl ?_
    exact⟨⟨_,rfl⟩,.inr ⟨_,⟨k,hpre'⟩,hJx3⟩⟩

set_option maxRecDepth 100000 in
set_option maxHeartbeats 1000000 in
theorem back1_nil_in (F:Fence) (n:Nat) (h7:F.fn 138) (hro:F.round=none) (l Bs ob cap:Nat) (ao:Option Addr) (J:List (Int×Con)→World→Prop) (W:World) (hBs:W.cell? ⟨Bs,ob,none⟩=some (.slice ao 0 cap)) (h0:J [] W) :
  CallsIn F n Tryz.prog 138 #[.func (.yield l) #[] #[],.pointer (some ⟨Bs,ob,none⟩)] W fun e W'=>(∃ v,e = .returned v)∧J [] W':=by
 refine callsIn_of_wp Tryz.func138 rfl h7 ?_ hro
 simp only [Tryz.ntmps138,List.size_toArray,List.length_cons,List.length_nil,Nat.reduceAdd,Nat.reduceSub,Array.replicate_succ,Array.replicate_zero,List.push_toArray,List.append_toArray,List.nil_append,List.cons_append]
 gi_wp2
 gi_loopw [3] (fun i wr=>i = .int .i64 (-1)∧J [] wr) (fun _ _=>0)
 case atStart=>exact⟨rfl,h0⟩
 case round=>
  obtain⟨rfl,hJs⟩:=hrel
  gi_wp2
  go_end0
  exact⟨⟨_,rfl⟩,hJs⟩

theorem back_stops (F:Fence) (n:Nat) (h7:F.fn 138) (hro:F.round=none) (hn:1≤n) (Bs ob n₀:Nat) (sv:Value) (cs:List Con) (hlen:cs.length≤1000000) (w:World)
  (hc:w.cell? ⟨Bs,ob,none⟩=some sv) (hI:ConsIn n₀ w sv cs) :
  SeqStopsK F n Tryz.prog 138 #[.pointer (some ⟨Bs,ob,none⟩)] (fun x:Int×Con=> #[Value.int .i64 x.1,cAgg x.2]) KCells (fun ys=>ys.map Prod.snd=cs.reverse) (fun pre=> ∃ k,pre.map Prod.snd=(cs.drop k).reverse) cs.length w:=fun l J Jx W hW _ _ hY h0=>by
 have hk:=KCells.of_below hW
 have hc':=hk.cell hc
 rcases hI.kept hk with ⟨ao,cap,rfl,rfl⟩|⟨b,off,cap,rfl,hb,hcs⟩
 ·exact (back1_nil_in F n h7 hro l Bs ob cap ao J W hc' h0).mono fun e W' ⟨he,hj⟩=>⟨he,.inl ⟨[],rfl,hj⟩⟩
 ·exact back1_in F n h7 hro hn l Bs ob b off cap cs hlen J Jx hY W hc' hcs h0

set_option maxHeartbeats 1000000 in
theorem back_in (F:Fence) (n:Nat) (h:F.fn 127) (hro:F.round=none) (ao:Option Addr) (len cap:Nat) (w:World) :
  CallsIn F n Tryz.prog 127 #[.slice ao len cap] w fun e w'=>e = .returned (.func (.func 138) #[] #[.pointer (some ⟨w.heap.size,0,none⟩)])∧w'=w.alloc (.cells #[.slice ao len cap] 25):=by
 refine callsIn_of_wp Tryz.func127 rfl h ?_ hro
 simp only [Tryz.ntmps127,List.size_toArray,List.length_cons,List.length_nil,Nat.reduceAdd,Nat.reduceSub,Array.replicate_succ,Array.replicate_zero,List.push_toArray,List.append_toArray,List.nil_append,List.cons_append]
 gi_wp2
 go_ret
 exact⟨rfl,rfl⟩

set_option maxHeartbeats 1000000 in
theorem given_in (F:Fence) (n:Nat) (h:F.fn 106) (hro:F.round=none) (ao:Option Addr) (len cap:Nat) (p r:Int) (w:World) :
  CallsIn F n Tryz.prog 106 #[.slice ao len cap,.int .i64 p,.int .i64 r] w fun e w'=>e = .returned (.func (.func 126) #[] #[.pointer (some ⟨w.heap.size,0,none⟩),.pointer (some ⟨w.heap.size+1,0,none⟩),.pointer (some ⟨w.heap.size+1+1,0,none⟩)]) ∧
   w'=((w.alloc (.cells #[.slice ao len cap] 25)).alloc (.cells #[.int .i64 p] 3)).alloc (.cells #[.int .i64 r] 3):=by
 refine callsIn_of_wp Tryz.func106 rfl h ?_ hro
 simp only [Tryz.ntmps106,List.size_toArray,List.length_cons,List.length_nil,Nat.reduceAdd,Nat.reduceSub,Array.replicate_succ,Array.replicate_zero,List.push_toArray,List.append_toArray,List.nil_append,List.cons_append]
 gi_wp2
 go_ret
 exact⟨rfl,rfl⟩
end Go.Eng
