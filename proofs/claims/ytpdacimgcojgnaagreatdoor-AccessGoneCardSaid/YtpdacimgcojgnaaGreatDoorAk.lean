/- consent.given's iterator, and consent.At. -/
import Derived.Test.YtpdacimgcojgnaaGreatDoorAj
set_option linter.all false
set_option linter.all false
namespace Go.Eng
open Go.RowKit Go.Shelf Go.Proofs

attribute [local go_sem] Oper.semAt_some

def onlyC (p r:Int) (l:List (Int×Con)):List Con:=(l.map Prod.snd).filter (isCn p r)
theorem onlyC_snoc (p r:Int) (l:List (Int×Con)) (x:Int×Con):onlyC p r (l++[x])=if isCn p r x.2=true then onlyC p r l++[x.2] else onlyC p r l:=by
 unfold onlyC
 rw [List.map_append,List.filter_append,List.map_singleton,List.filter_cons]
 split<;>simp
theorem onlyC_len (p r:Int) (l:List (Int×Con)):(onlyC p r l).length≤l.length:=by
 unfold onlyC
 exact Nat.le_trans (List.length_filter_le _ _) (by simp)

theorem ownFrom_kcells {β:Type}{B:Nat}{w₀:World}:OwnFrom B (fun (_:β) W=>KCells w₀ W):=fun _ _ _ _ hs hg hr=>hs.grown hg fun r e=>(hr r e).2
theorem own_le {β:Type}{B B':Nat}{I:β→World→Prop}(h:OwnFrom B I) (hB:B≤B'):OwnFrom B' I:=fun s A C row hs hg hr=>h s A C row hs hg fun r e=>⟨by have:=(hr r e).1;omega,(hr r e).2⟩
theorem own_via {β γ:Type}{B:Nat}{I:β→World→Prop}(h:OwnFrom B I) (f:γ→β):OwnFrom B (fun s W=>I (f s) W):=fun s A C row hs hg hr=>h (f s) A C row hs hg hr

theorem roundAny {F:Fence}(hd:F.depth=none){m m':Nat}{P:Program}{l:Nat}{f:FuncId}{tmps:Array Value}{assign body:Code}{w:World}{R:Ending→World→Prop}(l':Nat)
  (h:RoundIn F m P l f tmps assign body w R):RoundIn (F.inRound l') m' P l f tmps assign body w R:=⟨h.1,fun c cs _=>h.2 c cs (fun d e=>by rw [hd] at e;cases e)⟩
theorem Bx4.cells {W:World}{B:Nat}{c:Con}(h:Bx4 W B c):W.cell? ⟨B,0,none⟩=some (.int .i64 c.person)∧W.cell? ⟨B,1,none⟩=some (.int .i64 c.rc)∧W.cell? ⟨B,2,none⟩=some (.int .i64 c.day)∧W.cell? ⟨B,3,none⟩=some (.int .i64 c.kind):=by
 unfold Bx4 at h
 simp [World.cell?,h]
theorem bx4_own {β:Type}(B:Nat) (c:Con):Own (fun (_:β) W=>Bx4 W B c):=fun s X Y row hs hg hrow=>by
 refine (hg.block B (Array.getElem?_eq_some_iff.1 hs).1 fun e=>?_).trans hs
 obtain⟨o,ho,hc⟩:=hrow B e.symm
 rw [show X.heap[B]? = _ from hs] at ho;cases ho;cases hc

set_option maxRecDepth 100000 in
set_option maxHeartbeats 4000000 in
theorem given1_stops (F:Fence) (hd:F.depth=none) (n:Nat) (h1':F.fn 126) (h2':F.fn 127) (h3':F.fn 138) (hro:F.round=none) (hn:4≤n) (B1 B2 B3:Nat) (ao:Option Addr) (cap:Nat) (cs:List Con) (p r:Int) (hlen:cs.length≤1000000) (w:World)
  (hB1:w.cell? ⟨B1,0,none⟩=some (.slice ao cs.length cap)) (hB2:w.cell? ⟨B2,0,none⟩=some (.int .i64 p)) (hB3:w.cell? ⟨B3,0,none⟩=some (.int .i64 r)) (hI:ConsIn w.heap.size w (.slice ao cs.length cap) cs) :
  SeqStopsO F n Tryz.prog 126 #[.pointer (some ⟨B1,0,none⟩),.pointer (some ⟨B2,0,none⟩),.pointer (some ⟨B3,0,none⟩)] (fun c:Con=> #[cAgg c]) (fun ys=>ys=cs.reverse.filter (isCn p r)) (fun pre=> ∃ k,pre=(cs.drop k).reverse.filter (isCn p r)) cs.length w:=by
 intro l J Jx W hW hl hJ hJx hY h0
 have hn1:1≤n:=by omega
 have hc1:=hW.cell hB1
 have hc2:=hW.cell hB2
 have hc3:=hW.cell hB3
 have hIW:=hI.kept hW
 refine callsIn_of_wp_marks Tryz.func126 rfl h1' ?_ hro
 simp only [Tryz.ntmps126,List.size_toArray,List.length_cons,List.length_nil,Nat.reduceAdd,Nat.reduceSub,Array.replicate_succ,Array.replicate_zero,List.push_toArray,List.append_toArray,List.nil_append,List.cons_append]
 have hc1a:(W.alloc (.cells #[.func (.yield l) #[] #[]] 141)).cell? ⟨B1,0,none⟩=some (.slice ao cs.length cap):=(KCells.of_below ((Below.refl _ W).alloc (Nat.le_refl _) _)).cell hc1
 gi_wp2_with (gi_at_call 127;refine (back_in F (n-1) h2' hro _ _ _ _).mono ?_;rintro e w' ⟨rfl,rfl⟩)
 have bY:=(Boxed.new W 141 (.func (.yield l) #[] #[])).alloc (.cells #[.slice ao cs.length cap] 25)
 have bL:=Boxed.new (W.alloc (.cells #[.func (.yield l) #[] #[]] 141)) 25 (.slice ao cs.length cap)
 rw [World.size_alloc] at bL
 have k0:KCells W ((W.alloc (.cells #[.func (.yield l) #[] #[]] 141)).alloc (.cells #[.slice ao cs.length cap] 25)):=KCells.of_below (((Below.refl _ W).alloc (Nat.le_refl _) _).alloc (by simp) _)
 have j0:J [] ((W.alloc (.cells #[.func (.yield l) #[] #[]] 141)).alloc (.cells #[.slice ao cs.length cap] 25)):=hJ.alloc _ (hJ.alloc _ h0)
 have hsz:((W.alloc (.cells #[.func (.yield l) #[] #[]] 141)).alloc (.cells #[.slice ao cs.length cap] 25)).heap.size=W.heap.size+2:=by simp
 obtain⟨W0,hW0⟩:∃ W0,(W.alloc (.cells #[.func (.yield l) #[] #[]] 141)).alloc (.cells #[.slice ao cs.length cap] 25)=W0:=⟨_,rfl⟩
 rw [hW0] at bY bL k0 j0 hsz ⊢
 clear hW0 hc1a
 have g2:=k0.cell hc2
 have g3:=k0.cell hc3
 have gY:=bY.cell
 have hJ0:=own_le hJ (B':=W0.heap.size) (by omega)
 have hJx0:=own_le hJx (B':=W0.heap.size) (by omega)
 refine wpIn_rangeFunc_ownH hro hn1 (gf:=138) (lb := #[.pointer (some ⟨W.heap.size+1,0,none⟩)]) rfl h3' (enters_of Tryz.func138 (by kernel_rfl) rfl)
  (back_stops F (n-1) h3' hro (by omega) (W.heap.size+1) 0 w.heap.size _ cs hlen W0 bL.cell (hIW.kept k0)) (fun h k=>h.trans k) (fun X l' o o' _ h hc _=>KCells.putObj h hc o') (Below.refl _ _) (fun _=>rfl)
  (fun pre Wc=>J (onlyC p r pre) Wc∧KCells W0 Wc)
  (fun c pre Wc=>c = .ret∧Jx (onlyC p r pre) Wc)
  (OwnFrom.and (own_via hJ0 _) ownFrom_kcells)
  (fun c s A B row hs hg hr=>⟨hs.1,own_via hJx0 (onlyC p r) s A B row hs.2 hg hr⟩)
  ⟨j0,KCells.refl _⟩
  (fun x a' Wc=> ∃ Bx,Bx4 Wc Bx x.2∧a' = { tmps := #[.func (.yield l) #[] #[],.pointer (some ⟨B1,0,none⟩),.pointer (some ⟨B2,0,none⟩),.pointer (some ⟨B3,0,none⟩),.pointer (some ⟨W.heap.size,0,none⟩),undef,.pointer (some ⟨Bx,0,none⟩),.slice ao cs.length cap,.func (.func 138) #[] #[.pointer (some ⟨W.heap.size+1,0,none⟩)],.int .i64 x.1,cAgg x.2,undef,undef,undef,undef,undef,undef,undef,undef,undef,undef,undef,undef,undef,undef,undef,undef,undef,undef,undef,undef,undef],defers:=[] })
  (fun x a' _ X Y row hs hg hr=>by obtain⟨Bx,h1,h2⟩:=hs;exact⟨Bx,bx4_own Bx x.2 () X Y row h1 hg (fun q e=>(hr q e).2),h2⟩)
  ?assign ?body ?done ?stop
 case assign=>
  rintro l' pre x W' K ⟨hj,hk⟩ hK
  simp only [cAgg] at hK ⊢
  gi_wp2
  have hba:Below W'.heap.size W' (W'.alloc (.cells #[.int .i64 x.2.person,.int .i64 x.2.rc,.int .i64 x.2.day,.int .i64 x.2.kind] 53)):=(Below.refl _ _).alloc (Nat.le_refl _) _
  exact hK _ _ (keeps_below hba) (KCells.of_below hba) ⟨hJ0.alloc _ hj,hk.trans (KCells.of_below hba)⟩ ⟨W'.heap.size,World.alloc_heap_new W' _,rfl⟩
 case body=>
  rintro l' pre x a' W' hl' _ ⟨hj,hk⟩ ⟨Bx,bX,rfl⟩ hlt
  obtain⟨x1,x2,x3,x4⟩:=bX.cells
  have m2:=hk.cell g2
  have m3:=hk.cell g3
  have mY:=hk.cell gY
  have hln:(onlyC p r pre).length<cs.length:=Nat.lt_of_le_of_lt (onlyC_len p r pre) hlt
  have hsn:=onlyC_snoc p r pre x
  simp only [cAgg]
  have yes:isCn p r x.2=true→onlyC p r (pre++[x])=onlyC p r pre++[x.2]:=fun e=>by rw [hsn,if_pos e]
  have keepsB:∀ {A B:World},KAfter l A B→KeepsFrom W0.heap.size A B:=fun h=>⟨h.1,fun k o hB hk' hc=>h.2 k o (by omega) hk' hc⟩
  obtain⟨fn,tmps,asg,bdy,hy,hR⟩:=hY (onlyC p r pre) x.2 W' hj hln
  dsimp only [cAgg] at hy
  have isc:isCn p r x.2=((x.2.person == p) && ((x.2.rc == 0) || (x.2.rc == r))):=rfl
  cases b1:(x.2.person == p) with
  | false=>
   rw [b1] at isc
   have e:onlyC p r (pre++[x])=onlyC p r pre:=by rw [hsn,isc];rfl
   clear hy hR hsn isc yes
   gi_wp2
   refine⟨fun _ h=>(by cases h),?_⟩
   gi_wp2
   exact⟨KeepsFrom.refl _ _,KCells.refl _,by rw [e];exact hj,hk⟩
  | true=>
   cases b2:(x.2.rc == 0) with
   | true=>
    rw [b1,b2] at isc
    have e:=yes (by rw [isc];rfl)
    clear hsn isc yes
    gi_wp2
    refine (roundAny hd l' hR).mono ?_
    rintro e' W3 (⟨rfl,hJ3,hkb,hkc⟩|⟨rfl,hJx3,hka⟩)
    ·gi_wp2
     exact⟨keepsB hkb.after,hkc,by rw [e];exact hJ3,hk.trans hkc⟩
    ·gi_wp2
     exact⟨keepsB hka,rfl,by rw [e];exact hJx3⟩
   | false=>
    cases b3:(x.2.rc == r) with
    | false=>
     rw [b1,b2,b3] at isc
     have e:onlyC p r (pre++[x])=onlyC p r pre:=by rw [hsn,isc];rfl
     clear hy hR hsn isc yes
     gi_wp2
     refine⟨fun _ h=>(by cases h),?_⟩
     gi_wp2
     exact⟨KeepsFrom.refl _ _,KCells.refl _,by rw [e];exact hj,hk⟩
    | true=>
     rw [b1,b2,b3] at isc
     have e:=yes (by rw [isc];rfl)
     clear hsn isc yes
     gi_wp2
     refine (roundAny hd l' hR).mono ?_
     rintro e' W3 (⟨rfl,hJ3,hkb,hkc⟩|⟨rfl,hJx3,hka⟩)
     ·gi_wp2
      exact⟨keepsB hkb.after,hkc,by rw [e];exact hJ3,hk.trans hkc⟩
     ·gi_wp2
      exact⟨keepsB hka,rfl,by rw [e];exact hJx3⟩
 case done=>
  rintro D xs Wd hD hS ⟨hj,hk⟩ hK
  gi_wp2
  refine⟨by simp,.inl ⟨_,_,rfl,run_takeDeferred hK,?_⟩⟩
  exact⟨_,results_none rfl _ _ _,⟨_,rfl⟩,.inl ⟨_,by rw [onlyC,hS],hJ0.putObj _ hj hD hK rfl⟩⟩
 case stop=>
  rintro D c pre Wd hD ⟨k,hpre⟩ ⟨rfl,hj⟩ hK
  gi_wp2
  refine⟨by simp,.inl ⟨_,_,rfl,run_takeDeferred hK,?_⟩⟩
  exact⟨_,results_none rfl _ _ _,⟨_,rfl⟩,.inr ⟨_,⟨k,by rw [onlyC,hpre]⟩,hJx0.putObj _ hj hD hK rfl⟩⟩

set_option maxRecDepth 100000 in
set_option maxHeartbeats 4000000 in
theorem at_in (F:Fence) (hd:F.depth=none) (n:Nat) (h0':F.fn 75) (h1':F.fn 106) (h2':F.fn 126) (h3':F.fn 127) (h4':F.fn 138) (hro:F.round=none) (hn:6≤n) (ao:Option Addr) (cap:Nat) (cs:List Con) (p r d:Int) (hlen:cs.length≤1000000) (w:World)
  (hI:ConsIn w.heap.size w (.slice ao cs.length cap) cs) :
  CallsIn F n Tryz.prog 75 #[.slice ao cs.length cap,.int .i64 p,.int .i64 r,.int .i64 d] w fun e W'=>e = .returned (.int .i64 (atF cs p r d))∧Below w.heap.size w W':=by
 have hn1:1≤n:=by omega
 refine callsIn_of_wp_marks Tryz.func75 rfl h0' ?_ hro
 simp only [Tryz.ntmps75,List.size_toArray,List.length_cons,List.length_nil,Nat.reduceAdd,Nat.reduceSub,Array.replicate_succ,Array.replicate_zero,List.push_toArray,List.append_toArray,List.nil_append,List.cons_append]
 gi_wp2_with (gi_at_call 106;refine (given_in F (n-1) h1' hro _ _ _ _ _ _).mono ?_;rintro e w' ⟨rfl,rfl⟩)
 obtain⟨z,hz⟩:∃ z,w.heap.size=z:=⟨_,rfl⟩
 have hB0:Below w.heap.size w (((((w.alloc (.cells #[.int .i64 d] 3)).alloc (.cells #[.int .i64 0] 3)).alloc (.cells #[.slice ao cs.length cap] 25)).alloc (.cells #[.int .i64 p] 3)).alloc (.cells #[.int .i64 r] 3)) :=
  (((((Below.refl _ w).alloc (Nat.le_refl _) _).alloc (by simp) _).alloc (by simp;omega) _).alloc (by simp;omega) _).alloc (by simp;omega) _
 have bD:=((((Boxed.new w 3 (.int .i64 d)).alloc (.cells #[.int .i64 0] 3)).alloc (.cells #[.slice ao cs.length cap] 25)).alloc (.cells #[.int .i64 p] 3)).alloc (.cells #[.int .i64 r] 3)
 have bR:=(((Boxed.new (w.alloc (.cells #[.int .i64 d] 3)) 3 (.int .i64 0)).alloc (.cells #[.slice ao cs.length cap] 25)).alloc (.cells #[.int .i64 p] 3)).alloc (.cells #[.int .i64 r] 3)
 have b1:=((Boxed.new ((w.alloc (.cells #[.int .i64 d] 3)).alloc (.cells #[.int .i64 0] 3)) 25 (.slice ao cs.length cap)).alloc (.cells #[.int .i64 p] 3)).alloc (.cells #[.int .i64 r] 3)
 have b2:=(Boxed.new (((w.alloc (.cells #[.int .i64 d] 3)).alloc (.cells #[.int .i64 0] 3)).alloc (.cells #[.slice ao cs.length cap] 25)) 3 (.int .i64 p)).alloc (.cells #[.int .i64 r] 3)
 have b3:=Boxed.new ((((w.alloc (.cells #[.int .i64 d] 3)).alloc (.cells #[.int .i64 0] 3)).alloc (.cells #[.slice ao cs.length cap] 25)).alloc (.cells #[.int .i64 p] 3)) 3 (.int .i64 r)
 have hsz:(((((w.alloc (.cells #[.int .i64 d] 3)).alloc (.cells #[.int .i64 0] 3)).alloc (.cells #[.slice ao cs.length cap] 25)).alloc (.cells #[.int .i64 p] 3)).alloc (.cells #[.int .i64 r] 3)).heap.size=z+5:=by simp [hz]
 simp only [World.size_alloc] at bR b1 b2 b3
 obtain⟨W0,hW0⟩:∃ W0,((((w.alloc (.cells #[.int .i64 d] 3)).alloc (.cells #[.int .i64 0] 3)).alloc (.cells #[.slice ao cs.length cap] 25)).alloc (.cells #[.int .i64 p] 3)).alloc (.cells #[.int .i64 r] 3)=W0:=⟨_,rfl⟩
 rw [hW0] at bD bR b1 b2 b3 hB0 hsz ⊢
 clear hW0
 have hI0:=hI.kept (KCells.of_below hB0)
 have hI1:ConsIn W0.heap.size W0 (.slice ao cs.length cap) cs:=by
  rcases hI0 with h|⟨b,off,cp,h1,h2,h3⟩
  ·exact .inl h
  ·exact .inr ⟨b,off,cp,h1,by omega,h3⟩
 rw [hz] at bD bR b1 b2 b3 hB0 ⊢
 refine rangeFunc_O hro hn1 (gf:=126) (lb := #[.pointer (some ⟨z+1+1,0,none⟩),.pointer (some ⟨z+1+1+1,0,none⟩),.pointer (some ⟨z+1+1+1+1,0,none⟩)]) rfl h2' (enters_of Tryz.func126 (by kernel_rfl) rfl)
  (given1_stops F hd (n-1) h2' h3' h4' hro (by omega) (z+1+1) (z+1+1+1) (z+1+1+1+1) ao cap cs p r hlen W0 b1.cell b2.cell b3.cell hI1) (fun _=>rfl)
  (fun pre W=>((Boxed W z 3 (.int .i64 d)∧Boxed W (z+1) 3 (.int .i64 0))∧∀ c∈pre,d<c.day)∧Below z w W)
  (fun pre W=>(Boxed W (z+1) 3 (.int .i64 (fstC d pre))∧(pre.any fun c=>decide (c.day≤d))=true)∧Below z w W)
  (OwnFrom.and (OwnFrom.and (OwnFrom.and (Own.from (boxed_own z 3 (fun (_:List Con)=>Value.int .i64 d)) _) (Own.from (boxed_own (z+1) 3 (fun (_:List Con)=>Value.int .i64 0)) _)) (ownFrom_pure _ _)) (ownFrom_below (by omega) (by omega)))
  (OwnFrom.and (OwnFrom.and (Own.from (boxed_own (z+1) 3 (fun pre:List Con=>Value.int .i64 (fstC d pre))) _) (ownFrom_pure _ _)) (ownFrom_below (by omega) (by omega)))
  ⟨⟨⟨bD,bR⟩,fun c hc=>by cases hc⟩,hB0⟩
  (fun x a' Wc=> ∃ Bx,z+1<Bx∧Bx4 Wc Bx x∧a' = { tmps := #[.slice ao cs.length cap,.int .i64 p,.int .i64 r,.int .i64 d,undef,undef,undef,.pointer (some ⟨z,0,none⟩),.pointer (some ⟨z+1,0,none⟩),.pointer (some ⟨Bx,0,none⟩),.slice ao cs.length cap,.int .i64 p,.int .i64 r,.func (.func 126) #[] #[.pointer (some ⟨z+1+1,0,none⟩),.pointer (some ⟨z+1+1+1,0,none⟩),.pointer (some ⟨z+1+1+1+1,0,none⟩)],cAgg x,undef,undef,undef,undef,undef,undef],defers:=[] })
  (fun x a' _ X Y row hs hg hr=>by obtain⟨Bx,h0,h1,h2⟩:=hs;exact⟨Bx,h0,bx4_own Bx x () X Y row h1 hg (fun q e=>(hr q e).2),h2⟩)
  ?assign ?body ?done ?stop
 case assign=>
  rintro l' pre x W' K ⟨⟨⟨bD1,bR1⟩,hp⟩,hB1⟩ hK
  simp only [cAgg] at hK ⊢
  gi_wp2
  have hba:Below W'.heap.size W' (W'.alloc (.cells #[.int .i64 x.person,.int .i64 x.rc,.int .i64 x.day,.int .i64 x.kind] 53)):=(Below.refl _ _).alloc (Nat.le_refl _) _
  exact hK _ _ hba ⟨⟨⟨bD1.alloc _,bR1.alloc _⟩,hp⟩,hB1.trans (hba.mono (by have:=hB1.size;omega))⟩ ⟨W'.heap.size,bR1.lt,World.alloc_heap_new W' _,rfl⟩
 case body=>
  rintro l' pre x a' W' ⟨⟨⟨bD1,bR1⟩,hp⟩,hB1⟩ ⟨Bx,hBx,bX,rfl⟩ hlt
  obtain⟨x1,x2,x3,x4⟩:=bX.cells
  have cD:=bD1.cell
  have cR:=bR1.cell
  have fR:=bR1.frozen
  simp only [cAgg]
  have hnone:(pre.any fun c=>decide (c.day≤d))=false:=by
   rw [List.any_eq_false]
   intro c hc
   have:=hp c hc
   simp;omega
  by_cases h:x.day≤d
  ·gi_wp2
   have e1:fstC d (pre++[x])=x.kind:=by rw [fstC_app,hnone];simp [fstC,h]
   exact⟨(KeepsOthers.setCell _ _ _).from _,⟨by rw [e1];exact bR1.set _,by rw [List.any_append];simp [h]⟩,hB1.setCell (p:=⟨z+1,0,none⟩) (by simp) _⟩
  ·gi_wp2
   exact⟨Below.refl _ _,⟨⟨bD1,bR1⟩,fun c hc=>by
    rcases List.mem_append.1 hc with hc|hc
    ·exact hp c hc
    ·simp at hc;subst hc;omega⟩,hB1⟩
 case done=>
  rintro D xs Wd hD rfl ⟨⟨⟨bD1,bR1⟩,hp⟩,hB1⟩ hK
  have cR:=bR1.cell
  have fR:=bR1.frozen
  have e1:atF cs p r d=0:=by rw [←atF_eq p r d cs.length cs rfl];exact fstC_none d _ hp
  gi_wp2
  have hK':=(KeepsOthers.setCell Wd ⟨z+1,0,none⟩ (.int .i64 0)).same D _ hK rfl
  refine⟨by simp,.inl ⟨_,_,rfl,run_takeDeferred hK',?_⟩⟩
  have hc5:=cell_kept (bR1.set (.int .i64 0)).cell (grownBy_putObj' _ D (.deferred none)) (fun r e=>by cases e;exact⟨_,hK',rfl⟩)
  refine⟨.int .i64 0,?_,by rw [e1],?_⟩
  ·simp [results,Tryz.f75,go_sem,hc5]
  ·rw [hz];exact (hB1.setCell (p:=⟨z+1,0,none⟩) (by simp) _).trans (belowK_b (w:=w) (by omega) _ D _ _ (by omega) hK' rfl rfl)
 case stop=>
  rintro D pre Wd hD ⟨k,rfl⟩ ⟨⟨bR1,hany⟩,hB1⟩ hK
  have cR:=bR1.cell
  have e1:atF cs p r d=fstC d ((cs.drop k).reverse.filter (isCn p r)):=by
   rw [←atF_eq p r d cs.length cs rfl]
   have e2:cs.reverse=(cs.drop k).reverse++(cs.take k).reverse:=by rw [←List.reverse_append,List.take_append_drop]
   rw [e2,List.filter_append,fstC_app,if_pos hany]
  gi_wp2
  refine⟨by simp,.inl ⟨_,_,rfl,run_takeDeferred hK,?_⟩⟩
  have hc5:=cell_kept bR1.cell (grownBy_putObj' _ D (.deferred none)) (fun r e=>by cases e;exact⟨_,hK,rfl⟩)
  refine⟨.int .i64 (fstC d ((cs.drop k).reverse.filter (isCn p r))),?_,by rw [e1],?_⟩
  ·simp [results,Tryz.f75,go_sem,hc5]
  ·rw [hz];exact hB1.trans (belowK_b (w:=w) (by omega) Wd D _ _ (by omega) hK rfl rfl)

theorem atSound [Known]:PrimSound Tryz.prog 75 primAt :=
 primAt_sound (fn:=Tryz.f75) Tryz.func75 (by kernel_rfl) (by kernel_rfl) fun sv cs p r d hlen w hI=>by
  obtain⟨ao,cap,rfl⟩:∃ ao cap,sv = .slice ao cs.length cap:=by
   rcases hI with ⟨ao,cap,rfl,rfl⟩|⟨b,off,cap,rfl,_⟩
   ·exact⟨ao,cap,rfl⟩
   ·exact⟨_,cap,rfl⟩
  exact (callsIn_wide (n:=6)).1 (at_in Fence.wide rfl 6 trivial trivial trivial trivial trivial rfl (by omega) ao cap cs p r d hlen w hI)
end Go.Eng
