/- A range over a function whose iterator itself ranges over a function: the rounds keep all blocks. -/
import Derived.Test.YtpdacimgcojgnaaGreatDoorAi
set_option linter.all false
set_option linter.all false
namespace Go.Eng
open Go.RowKit Go.Shelf Go.Proofs

def KAfter (l:Nat) (W W':World):Prop:=W.heap.size≤W'.heap.size∧∀ (k:Nat) (o:Obj),l<k→W.heap[k]? = some o→o.isCells=false→W'.heap[k]? = some o
theorem KAfter.trans {l:Nat}{A B C:World}(h:KAfter l A B) (k:KAfter l B C):KAfter l A C:=⟨Nat.le_trans h.1 k.1,fun i o hl hi hc=>k.2 i o hl (h.2 i o hl hi hc) hc⟩
theorem KBut.after {l:Nat}{W W':World}(h:KBut l W W'):KAfter l W W':=⟨h.1.size,fun k o hl hk _=>(h.2 k (Array.getElem?_eq_some_iff.1 hk).1 (by omega)).trans hk⟩

def SeqStopsO {α:Type}(F:Fence) (n:Nat) (P:Program) (g:Nat) (lb:Array Value) (encs:α→Array Value) (S Sp:List α→Prop) (N:Nat) (w:World):Prop :=
 ∀ (l:Nat) (J Jx:List α→World→Prop) (W:World),KCells w W→l<W.heap.size→OwnFrom W.heap.size J→OwnFrom W.heap.size Jx →
  (∀ pre x W1,J pre W1→pre.length<N→YieldAt F (n-1) P l (encs x) W1 fun e W'=>
   (e = .returned (.bool true)∧J (pre++[x]) W'∧KBut l W1 W'∧KCells W1 W')∨(e = .returned (.bool false)∧Jx (pre++[x]) W'∧KAfter l W1 W')) →
  J [] W →
  CallsIn F n P g (#[.func (.yield l) #[] #[]]++lb) W fun e W'=>(∃ v,e = .returned v)∧((∃ xs,S xs∧J xs W')∨(∃ pre,Sp pre∧Jx pre W'))

def postO {α:Type}(B:Nat) (I Ix:List α→World→Prop) (xs:List α) (W:World):Exit→Act→World→Prop
 | .normal,_,W'=>Below W.heap.size W W'∧I xs W'
 | .ret,_,W'=>KeepsFrom B W W'∧Ix xs W'
 | _,_,_=>False
theorem keeps_below {B:Nat}{W W':World}(h:Below W.heap.size W W'):KeepsFrom B W W':=⟨h.size,fun k o _ hk _=>(h.block k (Array.getElem?_eq_some_iff.1 hk).1).trans hk⟩

theorem rangeFunc_O {F:Fence}{n:Nat}{P:Program}{w:World}{α:Type}{g:Operand}{ps:Array Tmp}{assign body:Code}{Q:Exit→Act→World→Prop}{a:Act}
  (hro:F.round=none) (h1:1≤n){gf:Nat}{lb:Array Value}(hg:a.eval g = .func (.func gf) #[] lb) (hFg:F.fn gf) (eg:∀ args w,(callFunc gf args).run P w = .ok (.enter gf args) w)
  {encs:α→Array Value}{S Sp:List α→Prop}{N:Nat}(hseq:SeqStopsO F (n-1) P gf lb encs S Sp N w) (hps:∀ x,(encs x).size=ps.size)
  (I Ix:List α→World→Prop) (hI:OwnFrom w.heap.size I) (hIx:OwnFrom w.heap.size Ix) (h0:I [] w) (Ax:α→Act→World→Prop) (hAx:∀ x a',OwnFrom w.heap.size (fun (_:Unit) W=>Ax x a' W))
  (hassign:∀ (l:Nat) (pre:List α) (x:α) (W:World) (K:Act→World→Prop),I pre W→(∀ a' W',Below W.heap.size W W'→I pre W'→Ax x a' W'→K a' W') →
   assign.wpIn (F.inRound l) (n-1-1) P (Exit.then K (fun _ _ _=>False)) { tmps:=(ps.zip (encs x)).foldl (fun t (p,v)=>t.setIfInBounds p v) a.tmps,defers:=[] } W)
  (hbody:∀ (l:Nat) (pre:List α) (x:α) (a':Act) (W:World),I pre W→Ax x a' W→pre.length<N→body.wpIn (F.inRound l) (n-1-1) P (postO w.heap.size I Ix (pre++[x]) W) a' W)
  (hdone:∀ (D:Nat) (xs:List α) (W:World),w.heap.size≤D→S xs→I xs W→W.heap[D]? = some (.deferred (some []))→Q .normal { a with defers:={ target := .collected D,args := #[] }::a.defers } W)
  (hstop:∀ (D:Nat) (pre:List α) (W:World),w.heap.size≤D→Sp pre→Ix pre W→W.heap[D]? = some (.deferred (some []))→Code.ret.wpIn F n P Q { a with defers:={ target := .collected D,args := #[] }::a.defers } W) :
  (Code.rangeFunc g ps assign body).wpIn F n P Q a w:=by
 refine wpIn_rangeFunc ?_
 intro fn hfn
 rw [hro]
 obtain⟨z,hz⟩:∃ z,w.heap.size=z:=⟨_,rfl⟩
 obtain⟨rec,hrec⟩:∃ rec:LoopState→Option Code→Loop,rec=fun st pe=>{ state:=st,pending:=pe,fn,tmps:=a.tmps,params:=ps,assign,body,defers:=z }:=⟨_,rfl⟩
 obtain⟨W1,hW1⟩:∃ W1,(w.alloc (.deferred (some []))).alloc (.loop (rec .ready none))=W1:=⟨_,rfl⟩
 have hs1:W1.heap.size=z+2:=by rw [←hW1];simp [hz]
 have hL1:W1.heap[z+1]? = some (.loop (rec .ready none)):=by
  rw [←hW1,←hz];have:=World.alloc_heap_new (w.alloc (.deferred (some []))) (.loop (rec .ready none));rwa [World.size_alloc] at this
 have hK1:W1.heap[z]? = some (.deferred (some [])):=by
  rw [←hW1,←hz];exact (Below.heap_alloc _ _ _ (by simp)).trans (World.alloc_heap_new w _)
 have hI1:I [] W1:=by rw [←hW1];exact hI.alloc _ (hI.alloc _ h0)
 have hb1:KCells w W1:=by rw [←hW1];exact KCells.of_below (((Below.refl _ w).alloc (Nat.le_refl _) _).alloc (by simp) _)
 rw [hz] at hI hIx hAx hbody hdone hstop
 refine⟨z+1,[{ target := .collected z,args := #[] }],W1,{ target := .fn (.func gf) lb,args := #[.func (.yield (z+1)) #[] #[]] },W1,gf,
  #[.func (.yield (z+1)) #[] #[]]++lb,W1,?_,?_,?_,?_,fun _=>h1,?_⟩
 ·rw [←hW1,hrec,←hz];exact run_enterLoop_outer _ _ _ _ _
 ·simp only [resolve,hg]
  simp [go_sem]
 ·intro f' hf';simp [Target.leads] at hf';subst hf';exact hFg
 ·simp [invoke,go_sem,eg]
 ·have keep:∀ {A B:World}{row:Option Nat}{k:Nat}{o:Obj},A.grownBy B row→(∀ r,row=some r→W1.heap.size≤r∧∃ o:Obj,A.heap[r]? = some o∧o.isCells=false)→k<z+2→A.heap[k]? = some o→B.heap[k]? = some o :=
   fun hg' hr hk h=>(hg'.block _ (Array.getElem?_eq_some_iff.1 h).1 fun e=>by have:=(hr _ e.symm).1;omega).trans h
  have wk:∀ {β:Type}{J:β→World→Prop},OwnFrom z J→OwnFrom W1.heap.size J:=fun h s A B row hs hg' hr=>h s A B row hs hg' fun r e=>⟨by have:=(hr r e).1;omega,(hr r e).2⟩
  refine (hseq (z+1)
   (fun pre W=>I pre W∧W.heap[z+1]? = some (.loop (rec .ready none))∧W.heap[z]? = some (.deferred (some [])))
   (fun pre W=>Ix pre W∧W.heap[z+1]? = some (.loop (rec .done (some .ret)))∧W.heap[z]? = some (.deferred (some [])))
   W1 hb1 (by omega)
   (fun s A B row hs hg' hr=>⟨wk hI s A B row hs.1 hg' hr,keep hg' hr (by omega) hs.2.1,keep hg' hr (by omega) hs.2.2⟩)
   (fun s A B row hs hg' hr=>⟨wk hIx s A B row hs.1 hg' hr,keep hg' hr (by omega) hs.2.1,keep hg' hr (by omega) hs.2.2⟩)
   ?_ ⟨hI1,hL1,hK1⟩).mono ?_
  ·rintro pre x W ⟨hi,hl,hk⟩ hlen
   have hlt:z+1<W.heap.size:=(Array.getElem?_eq_some_iff.1 hl).1
   have hy:=run_yield (P:=P) (args:=encs x) hl (by rw [hrec];exact hps x)
   rw [hrec] at hy
   refine⟨fn,_,assign,body,hy,roundIn_of_wpIn hfn (hassign _ pre x W _ hi ?_)⟩
   clear hy
   intro a' Wa hbe hia hax
   have hla:Wa.heap[z+1]? = some (.loop (rec .ready none)):=(hbe.block _ hlt).trans hl
   have hka:Wa.heap[z]? = some (.deferred (some [])):=(hbe.block _ (by omega)).trans hk
   have hlta:z+1<Wa.heap.size:=(Array.getElem?_eq_some_iff.1 hla).1
   refine⟨_,run_beginRound hla (by rw [hrec]),?_⟩
   obtain⟨W2,hW2⟩:∃ W2,Wa.putObj (z+1) (.loop { rec .ready none with state := .busy })=W2:=⟨_,rfl⟩
   have hl2:W2.heap[z+1]? = some (.loop { rec .ready none with state := .busy }):=by rw [←hW2];exact World.putObj_heap_same hlta
   have hk2:W2.heap[z]? = some (.deferred (some [])):=by rw [←hW2];exact (World.putObj_heap_other (by omega)).trans hka
   have kb2:KBut (z+1) W W2:=by rw [←hW2];exact (KBut.of_below hbe).trans (KBut.putObj _ _ _)
   have kc2:KCells W W2:=by rw [←hW2];exact (KCells.of_below hbe).trans (KCells.putObj hla rfl _)
   have hi2:I pre W2:=by rw [←hW2];exact hI.putObj _ hia (by omega) hla rfl
   have hx2:Ax x a' W2:=by rw [←hW2];exact (hAx x a').putObj (s:=()) _ hax (by omega) hla rfl
   rw [hW2]
   refine wpIn_mono (hbody _ pre x a' _ hi2 hx2 hlen) ?_
   rintro e a3 W3 hp
   cases e with
   | normal=>
    obtain⟨hb3,hi3⟩:=hp
    have hl3:W3.heap[z+1]? = some (.loop { rec .ready none with state := .busy }):=(hb3.block _ (Array.getElem?_eq_some_iff.1 hl2).1).trans hl2
    have hk3:W3.heap[z]? = some (.deferred (some [])):=(hb3.block _ (Array.getElem?_eq_some_iff.1 hk2).1).trans hk2
    have hr:=run_endRound (P:=P) none hl3
    rw [hrec] at hr
    have hll:=World.putObj_heap_same (o := .loop (rec .ready none)) (Array.getElem?_eq_some_iff.1 hl3).1
    refine⟨_,_,hr,.inl ⟨rfl,⟨hI.putObj _ hi3 (by omega) hl3 rfl,?_,(World.putObj_heap_other (by omega)).trans hk3⟩,(kb2.trans (KBut.of_below hb3)).trans (KBut.putObj _ _ _),(kc2.trans (KCells.of_below hb3)).trans (KCells.putObj hl3 rfl _)⟩⟩
    rw [hrec] at hll ⊢;exact hll
   | ret=>
    obtain⟨hk3,hi3⟩:=hp
    have hl3:=hk3.same _ _ (by omega) hl2 rfl
    have hd3:=hk3.same _ _ (Nat.le_refl _) hk2 rfl
    have hr:=run_endRound (P:=P) (some .ret) hl3
    rw [hrec] at hr
    have hll:=World.putObj_heap_same (o := .loop (rec .done (some .ret))) (Array.getElem?_eq_some_iff.1 hl3).1
    refine⟨_,_,hr,.inr ⟨rfl,⟨hIx.putObj _ hi3 (by omega) hl3 rfl,?_,(World.putObj_heap_other (by omega)).trans hd3⟩,(kb2.after.trans ⟨hk3.size,fun k o hlk hk' hc=>hk3.same k o (by omega) hk' hc⟩).trans (KBut.putObj _ _ _).after⟩⟩
    rw [hrec] at hll ⊢;exact hll
   | _=>exact hp.elim
  ·rintro e W2 ⟨⟨v,rfl⟩,(⟨xs,hS,hi,hl,hk⟩|⟨pre,hSp,hi,hl,hk⟩)⟩
   ·exact⟨none,_,by have:=run_endLoop (P:=P) hl (by rw [hrec];simp);rw [hrec] at this;exact this,hdone _ xs _ (Nat.le_refl _) hS (hI.putObj _ hi (by omega) hl rfl) ((World.putObj_heap_other (by omega)).trans hk)⟩
   ·exact⟨some .ret,_,by have:=run_endLoop (P:=P) hl (by rw [hrec];simp);rw [hrec] at this;exact this,hstop _ pre _ (Nat.le_refl _) hSp (hIx.putObj _ hi (by omega) hl rfl) ((World.putObj_heap_other (by omega)).trans hk)⟩
end Go.Eng
