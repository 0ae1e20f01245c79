/- A range over a function: the body is told what stands ahead of an element. -/
import Derived.Test.YtkahfcmeeloikaaGreatDoorZ3
import Derived.Test.YtkahfcmeeloikaaGreatDoorZ4
import Derived.Shelf.RegionOpen
set_option linter.all false
set_option maxHeartbeats 4000000
namespace Go.Eng
open Go.RowKit Go.Shelf Go.Proofs
section
def Bi{α:Type}(F:Fence)(n:Nat)(P:Program)(g:Nat)(lb:Array Value)(encs:α->Array Value)(Kp:World->World->Prop)(S:List α->Prop)(Rx:List α->α->Prop)(w:World):Prop :=
 ∀(l:Nat) (J:List α->World->Prop) (W:World),Below w.heap.size w W->AbidesFrom W.heap.size J ->
  (∀pre x W1,J pre W1->Rx pre x->YieldAt F (n-1) P l (encs x) W1 fun e W'=>e = .returned (.bool true)/\J (pre++[x]) W'/\Kp W1 W') ->
  J [] W->CallsIn F n P g (#[.func (.yield l) #[] #[]]++lb) W fun e W'=>(∃v,e = .returned v)/\∃xs,S xs/\J xs W'
theorem C8{F:Fence}{n:Nat}{P:Program}{w:World}{α:Type}{g:Operand}{ps:Array Tmp}{assign body:Code}{Q:Exit->Act->World->Prop}{a:Act}
  (Jr:F.round=none) (h1:1<=n){gf:Nat}{lb:Array Value}(hg:a.eval g = .func (.func gf) #[] lb) (Ur:F.fn gf) (eg:∀args w,(callFunc gf args).run P w = .ok (.enter gf args) w)
  {encs:α->Array Value}{Kp:World->World->Prop}{S:List α->Prop}{Rx:List α->α->Prop}{w0:World}(OC:Bi F (n-1) P gf lb encs Kp S Rx w0)
  (hKt:∀{A B C:World},Kp A B->Kp B C->Kp A C) (Ui:∀(W:World) (l:Nat) (o o':Obj),w.heap.size<=l->W.heap[l]? = some o->o.isCells=false->o.isWalk=false->Kp W (W.putObj l o')) (Ks:Below w0.heap.size w0 w) (JP:∀x,(encs x).size=ps.size)
  (I:List α->World->Prop) (hI:OwnFrom w.heap.size I) (h0:I [] w) (a₁:α->Act)
  (KY:∀(l:Nat) (x:α) (W:World) (K:Act->World->Prop),K (a₁ x) W ->
   assign.wpIn (F.inRound l) (n-1-1) P (Exit.then K (fun _ _ _=>False)) { tmps:=(ps.zip (encs x)).foldl (fun t (p,v)=>t.setIfInBounds p v) a.tmps,defers:=[] } W)
  (Lu:∀(l:Nat) (pre:List α) (x:α) (W:World),I pre W->Rx pre x->body.wpIn (F.inRound l) (n-1-1) P (Exit.then (fun _ W'=>KeepsFrom w.heap.size W W'/\Kp W W'/\I (pre++[x]) W') (fun _ _ _=>False)) (a₁ x) W)
  (Ls:∀(D:Nat) (xs:List α) (W:World),w.heap.size<=D->S xs->I xs W->W.heap[D]? = some (.deferred (some []))->Q .normal { a with defers:={ target := .collected D,args := #[] }::a.defers } W) :
  (Code.rangeFunc g ps assign body).wpIn F n P Q a w:=by
 refine wpIn_rangeFunc ?_;intro fn hfn;rw[Jr];obtain⟨z,hz⟩:∃z,w.heap.size=z:=⟨_,rfl⟩;obtain⟨rec,JF⟩:∃rec:LoopState->Option Code->Loop,rec=fun st pe=>{ state:=st,pending:=pe,fn,tmps:=a.tmps,params:=ps,assign,body,defers:=z }:=⟨_,rfl⟩;obtain⟨W1,Kg⟩:∃W1,(w.alloc (.deferred (some []))).alloc (.loop (rec .ready none))=W1:=⟨_,rfl⟩;have J2:W1.heap.size=z+2:=by rw[<-Kg];simp[hz]
 have NY:W1.heap[z+1]? = some (.loop (rec .ready none)):=by
  rw[<-Kg,<-hz];have:=World.alloc_heap_new (w.alloc (.deferred (some []))) (.loop (rec .ready none));rwa [VH]at this
 have Uk:W1.heap[z]? = some (.deferred (some [])):=by
  rw[<-Kg,<-hz];exact(Below.heap_alloc _ _ _ (by simp)).trans (World.alloc_heap_new w _)
 have Rb:I [] W1:=by rw[<-Kg];exact hI.alloc _ (hI.alloc _ h0)
 have KH:Below w0.heap.size w0 W1:=by rw[<-Kg];exact Ks.trans ((((Vh _ w).alloc (UJ _) _).alloc (by simp) _).mono Ks.size)
 rw[hz]at hI Lu Ls Ui
 refine⟨z+1,[{ target := .collected z,args := #[] }],W1,{ target := .fn (.func gf) lb,args := #[.func (.yield (z+1)) #[] #[]] },W1,gf,
  #[.func (.yield (z+1)) #[] #[]]++lb,W1,?_,?_,?_,?_,fun _=>h1,?_⟩
 .rw[<-Kg,JF,<-hz];exact run_enterLoop_outer _ _ _ _ _
 .simp only[resolve,hg];simp[go_sem]
 .intro f' QN;simp[Target.leads]at QN;subst QN;exact Ur
 .simp[invoke,go_sem,eg]
 .refine(OC (z+1)
   (fun pre W=>I pre W/\W.heap[z+1]? = some (.loop (rec .ready none))/\W.heap[z]? = some (.deferred (some [])))
   W1 KH
   (fun s A B row hs JN hr=>⟨hI s A B row hs.1 JN (fun r e=>by obtain⟨hB,o,ho,hw⟩:=hr r e;exact⟨by omega,o,ho,Obj.not_cells_of_walk hw⟩),(grownBy_keeps JN (fun r e=>(hr r e).2) hs.2.1 rfl).trans hs.2.1,(grownBy_keeps JN (fun r e=>(hr r e).2) hs.2.2 rfl).trans hs.2.2⟩)
   ?_ ⟨Rb,NY,Uk⟩).mono ?_
  .rintro pre x W ⟨hi,hl,hk⟩ hx;have Ja:z+1<W.heap.size:=(UP.1 hl).1;have hy:=run_yield (P:=P) (args:=encs x) hl (by rw[JF];exact JP x);rw[JF]at hy;refine⟨fn,_,assign,body,hy,roundIn_of_wpIn hfn (KY _ x W _ ⟨_,run_beginRound hl (by rw[JF]),?_⟩)⟩;obtain⟨W2,Kv⟩:∃W2,W.putObj (z+1) (.loop { rec .ready none with state := .busy })=W2:=⟨_,rfl⟩;have KX:W2.heap[z+1]? = some (.loop { rec .ready none with state := .busy }):=by rw[<-Kv];exact World.putObj_heap_same Ja
   have JK:W2.heap[z]? = some (.deferred (some [])):=by rw[<-Kv];exact(World.putObj_heap_other (by omega)).trans hk
   have Nu:I pre W2:=by rw[<-Kv];exact hI.putObj _ hi (by omega) hl rfl
   have PZ:Kp W W2:=by rw[<-Kv];exact Ui _ _ _ _ (by omega) hl rfl rfl
   rw[Kv];refine wpIn_mono (Lu _ pre x _ Nu hx) ?_;rintro e a3 W3 hp;cases e with
   | normal=>
    obtain⟨Lo,Ta,OU⟩:=hp;have Ms:=Lo.same _ _ (by omega) KX rfl;have TG:=Lo.same _ _ (UJ _) JK rfl;have hr:=run_endRound (P:=P) none Ms;rw[JF]at hr;have Jd:=World.putObj_heap_same (o := .loop (rec .ready none)) (UP.1 Ms).1;refine⟨_,_,hr,rfl,⟨hI.putObj _ OU (by omega) Ms rfl,?_,(World.putObj_heap_other (by omega)).trans TG⟩,hKt (hKt PZ Ta) (Ui _ _ _ _ (by omega) Ms rfl rfl)⟩;rw[JF]at Jd ⊢;exact Jd
   | _=>exact hp.elim
  .rintro e W2 ⟨⟨v,rfl⟩,xs,hS,hi,hl,hk⟩;exact⟨none,_,by have:=run_endLoop (P:=P) hl (by rw[JF];simp);rw[JF]at this;exact this,Ls _ xs _ (UJ _) hS (hI.putObj _ hi (by omega) hl rfl) ((World.putObj_heap_other (by omega)).trans hk)⟩
variable [aw]
attribute [local go_sem] Wm
set_option maxRecDepth 100000 in
omit [aw] in
theorem scal_R(F:Fence)(n:Nat)(h7:F.fn 285)(Jr:F.round=none)(hn:1<=n)(Bs ob n₀:Nat)(s:ByteArray)(w:World)(Uw:Bs<w.heap.size)(hn₀:n₀<=w.heap.size)
  (hc:w.cell? ⟨Bs,ob,none⟩=some (.string s)) :
  Bi F n Tryz.prog 285 #[.pointer (some ⟨Bs,ob,none⟩)] (fun x:Int×Int=> #[Value.int .i64 x.1,Value.int .i64 x.2]) (KpS n₀) (fun ys=>ys=fB s s.size 0) (fun pre x=> ∃post,pre++x::post=fB s s.size 0) w:=fun l J W hW hA hY h0=>by
 have Mg:=(hW.cell (p:=⟨Bs,ob,none⟩) Uw).trans hc;have LC:n₀<=W.heap.size:=UQ hn₀ hW.size;refine callsIn_of_wp Tryz.func285 rfl h7 ?_ Jr;simp only[Tryz.ntmps285,Vi,UB,UE,Nat.reduceAdd,Nat.reduceSub,Vq,Vr,Vz,Vt,UH,UF]
 gi_wp2
 gi_loopw [] (fun wr=> ∃pos pre k,wr.heap[W.heap.size]? = some (.stringIter s pos)/\J pre wr/\pre++fB s k pos=fB s s.size 0/\s.size<=pos+k/\Below n₀ W wr) (fun wr=>s.size-nP wr W.heap.size)
 case atStart=>
  refine⟨0,[],s.size,World.iter_heap W s 0,?_,by simp,by omega,(Vh _ W).alloc LC _⟩;exact hA _ _ _ none h0 (World.grownBy_alloc W _ none) (fun r e=>by cases e)
 case round=>
  obtain⟨pos,pre,k,hit,hJ,JO,hk,KG⟩:=hrel;by_cases JP:pos<s.size
  .obtain⟨k',rfl⟩:∃k',k=k'+1:=⟨k-1,by omega⟩;have Ln:∀ty,(Instr.next (.pointer (some ⟨W.heap.size,0,none⟩)) true ty).run Tryz.prog wr=_:=fun ty=>Lib.run_next_any_at wr W.heap.size s pos ty hit JP;have Sf:=Lib.width_pos s pos;rw[fB,if_pos JP]at JO;obtain⟨R,hR⟩:∃R,(Utf8.decode s pos).1=R:=⟨_,rfl⟩;obtain⟨K,hK⟩:∃K,(Utf8.decode s pos).2=K:=⟨_,rfl⟩;have R0:R<=1114111:=by rw[<-hR];exact Lib.rune_le s pos
   rw[hR,hK]at Ln JO;rw[hK]at Sf;have MZ:=Lib.iterAt_heap wr W.heap.size s pos (pos+K) hit
   have Pm:J pre (wr.iterAt W.heap.size s (pos+K)):=by
    refine hA _ _ _ (some W.heap.size) hJ (grownBy_putObj' wr W.heap.size (.stringIter s (pos+K))) (fun r e=>?_);cases e;exact⟨UJ _,_,hit,rfl⟩
   have Ni:=Lib.below_iterAt KG (k:=W.heap.size) LC s (pos+K);obtain⟨W2,Q0⟩:∃W2,wr.iterAt W.heap.size s (pos+K)=W2:=⟨_,rfl⟩;rw[Q0]at Ln MZ Pm Ni;obtain⟨fn,tmps,assign,body,hy,Uc⟩:=hY pre ((pos:Int),(R:Int)) W2 Pm ⟨_,JO⟩;have Js:nP wr W.heap.size=pos:=by simp[nP,hit]
   clear hR hK Q0 hJ hit
   gi_wp2
   refine Uc.mono ?_;rintro e W3 ⟨rfl,Mf,Lo,Te⟩;have MY:=Te.same _ _ MZ rfl
   gi_wp2
   go_roundw
   case rel=>exact⟨pos+K,pre++[((pos:Int),(R:Int))],k',MY,Mf,by rw[<-JO];simp,by omega,Ni.trans Lo⟩
   case measure=>
    have m1:nP W3 W.heap.size=pos+K:=by simp[nP,MY]
    have m2:nP wr W.heap.size=pos:=Js;rw[m1,m2];omega
  .have Ln:∀ty,(Instr.next (.pointer (some ⟨W.heap.size,0,none⟩)) true ty).run Tryz.prog wr=_:=fun ty=>Lib.run_next_end_at wr W.heap.size s pos ty hit JP
   have O5:fB s k pos = []:=by cases k with
    | zero=>rfl
    | succ k=>rw[fB,if_neg JP]
   rw[O5,UM]at JO
   gi_wp2
   go_end0
   exact⟨⟨_,rfl⟩,_,rfl,by rw[<-JO];exact hJ⟩
end
end Go.Eng
namespace Go.Eng
section
variable [aw]
open Go.RowKit Go.Shelf Go.Proofs
attribute [local go_sem] Wm
attribute [local irreducible] Builtin.append_
set_option maxRecDepth 100000 in
omit [aw] in
def BT(F:Fence)(n:Nat)(h7:F.fn 259)(Jr:F.round=none)(p:Int)(hp:p<768)(w:World) :
  CallsIn F n Tryz.prog 259 #[.int .i64 p] w fun e W'=>e = .returned (.bool false)/\W'=w:=by
 have h1:¬(768<=p):=by omega
 refine callsIn_of_wp Tryz.func259 rfl h7 ?_ Jr;simp only[Tryz.ntmps259,Vi,UB,UE,Nat.reduceAdd,Nat.reduceSub,Vq,Vr,Vz,Vt,UH,UF]
 gi_wp2
 first|go_end0|go_ret
 exact⟨rfl,rfl⟩
omit [aw] in
def infoS:(Tryz.prog.info? 9).map (fun i=>(i.zero,i.size,i.bytes))=some (some (.string ⟨#[]⟩),1,16):=by kernel_rfl
def rT:List Value:=[.string (b1 98),.string (b1 97),.string (b1 98),.string (b1 105)]
omit [aw] in
def AC:fB bE bE.size 0 = [(0,98),(1,97),(2,98),(3,105)]:=by kernel_rfl
omit [aw] in
theorem lg{w:World}{g c:Nat}{v:Value}(o:Obj)(h:w.cell? ⟨g,c,none⟩=some v):(w.alloc o).cell? ⟨g,c,none⟩=some v:=by
 have hb:Below w.heap.size w (w.alloc o):=(Vh _ w).alloc (UJ _) _;refine(hb.cell (p:=⟨g,c,none⟩) ?_).trans h;cases hg:w.heap[g]? with
 | none=>simp[World.cell?,hg]at h
 | some o'=>exact(UP.1 hg).1
set_option maxRecDepth 100000 in
omit [aw] in
def clu_in(w:World)(hT:Lib.Utf8Tabs (Tryz.laysValid_ren.g 3) (Tryz.laysValid_ren.g 4) w) :
  CallsIn Fence.wide 8 Tryz.prog 228 #[.string bE] w fun e W'=> ∃v,e = .returned v/\Below w.heap.size w W'/\W'.ownsRow w.heap.size 9 1 v 4 rT:=by
 have hT':Lib.Utf8Tabs (Tryz.laysValid_ren.g 3) (Tryz.laysValid_ren.g 4) (w.alloc (.cells #[.string bE] 9)):=⟨fun c hc=>lg _ (hT.1 c hc),fun i hi=>⟨lg _ (hT.2 i hi).1,lg _ (hT.2 i hi).2⟩⟩;have cV:CallsIn Fence.wide 7 Tryz.prog 257 #[.string bE] (w.alloc (.cells #[.string bE] 9)) _:=callsIn_wide.2 (Any.utf8_ValidString Tryz.laysValid bE _ (by decide) hT');have mixed:Tryz.prog.follows .mixedOrders=true:=by kernel_rfl
 obtain⟨ap,hap⟩:∃ap,Builtin.append_=ap:=⟨_,rfl⟩;have P0:Lib.validD bE.data.toList=true:=by kernel_rfl
 rw[P0]at cV;refine callsIn_of_wp_marks Tryz.func228 rfl trivial ?_ rfl;simp only[Tryz.ntmps228,Vi,UB,UE,Nat.reduceAdd,Nat.reduceSub,Vq,Vr,Vz,Vt,UH,UF]
 gi_wp2
 refine⟨trivial,cV.mono ?_⟩;rintro e w1 ⟨rfl,hb⟩;have Ja:w.heap.size<w1.heap.size:=by have:=hb.size;rw[VH]at this;omega
 have Pf:w1.cell? ⟨w.heap.size,0,none⟩=some (.string bE):=(hb.cell (p:=⟨w.heap.size,0,none⟩) (by simp)).trans (by simp);have hcS2:((w1.alloc (.cells #[.slice none 0 0] 91)).alloc (.cells #[.int .i64 0] 3)).cell? ⟨w.heap.size,0,none⟩=some (.string bE):=lg _ (lg _ Pf)
 gi_wp2
 refine⟨trivial,(xO Fence.wide 7 trivial rfl bE _).mono ?_⟩;rintro e w2 ⟨rfl,rfl⟩
 gi_wp2
 obtain⟨i0,hi,Nq,K0,LX⟩:=info_parts infoS;have bO:Boxed (((w1.alloc (.cells #[.slice none 0 0] 91)).alloc (.cells #[.int .i64 0] 3)).alloc (.cells #[.string bE] 9)) w1.heap.size 91 (.slice none 0 0):=((Boxed.new w1 91 (.slice none 0 0)).alloc _).alloc _
 have bF:Boxed (((w1.alloc (.cells #[.slice none 0 0] 91)).alloc (.cells #[.int .i64 0] 3)).alloc (.cells #[.string bE] 9)) (w1.heap.size+1) 3 (.int .i64 0):=by
  have:=(Boxed.new (w1.alloc (.cells #[.slice none 0 0] 91)) 3 (.int .i64 0)).alloc (.cells #[.string bE] 9);simpa using this
 have Lv:Below w1.heap.size w1 (((w1.alloc (.cells #[.slice none 0 0] 91)).alloc (.cells #[.int .i64 0] 3)).alloc (.cells #[.string bE] 9)):=(((Vh _ w1).alloc (UJ _) _).alloc (by simp) _).alloc (by simp;omega) _
 have hcT:(((w1.alloc (.cells #[.slice none 0 0] 91)).alloc (.cells #[.int .i64 0] 3)).alloc (.cells #[.string bE] 9)).cell? ⟨w1.heap.size+1+1,0,none⟩=some (.string bE):=by
  have:=(Boxed.new ((w1.alloc (.cells #[.slice none 0 0] 91)).alloc (.cells #[.int .i64 0] 3)) 9 (.string bE)).cell;rw[VH,VH]at this;exact this
 refine C8 rfl (by omega) (gf:=285) (lb := #[.pointer (some ⟨w1.heap.size+1+1,0,none⟩)]) rfl trivial (enters_of Tryz.func285 (by kernel_rfl) rfl)
  (scal_R Fence.wide 7 trivial rfl (by omega) (w1.heap.size+1+1) 0 w1.heap.size bE _ (by simp) (by simp;omega) hcT)
  (fun h k=>⟨h.1.trans k.1,h.2.trans k.2⟩) (fun W l o o' hl h hc hw=>⟨belowK_b (by simp;omega) W l o o' hl h hc hw,KeepsWalks.putObj _ h hw⟩) (Vh _ _) (fun _=>rfl)
  (fun pre W=>((∃v,Boxed W w1.heap.size 91 v/\W.ownsRow w1.heap.size 9 1 v (pre.length-1) (rT.take (pre.length-1))/\True)/\Boxed W (w1.heap.size+1) 3 (.int .i64 ((pre.length-1:Nat):Int)))/\Below w1.heap.size w1 W)
  (OwnFrom.and (OwnFrom.and (Own.from (holdsRow_own w1.heap.size w1.heap.size 91 9 1 (fun pre:List (Int×Int)=>pre.length-1) (fun pre=>rT.take (pre.length-1)) (fun _ _=>True)) _) (Own.from (boxed_own (w1.heap.size+1) 3 (fun pre:List (Int×Int)=> .int .i64 ((pre.length-1:Nat):Int))) _)) (ownFrom_below (UJ _) (by simp;omega)))
  ⟨⟨⟨_,bO,WJ _ _ _ _,trivial⟩,bF⟩,Lv⟩
  (fun x=>{ tmps := #[.string bE,.pointer (some ⟨w.heap.size,0,none⟩),.slice none 0 0,.pointer (some ⟨w1.heap.size,0,none⟩),.pointer (some ⟨w1.heap.size+1,0,none⟩),.int .i64 x.1,.int .i64 x.2,.string bE,.bool true,.bool false,.string bE,.func (.func 285) #[] #[.pointer (some ⟨w1.heap.size+1+1,0,none⟩)],.int .i64 x.1,.int .i64 x.2,undef,undef,undef,undef,undef,undef,undef,undef,undef,undef,undef,undef,undef,undef,undef,undef,undef,undef,undef,undef,undef,undef,undef,undef,undef,undef],defers:=[] }) ?assign ?body ?done
 case assign=>
  intro l x W K hK
  gi_wp2
  exact hK
 case body=>
  rintro l pre ⟨i,p⟩ W ⟨⟨⟨v,hv,I9,-⟩,hf⟩,hB⟩ ⟨post,SA⟩;rw[AC]at SA
  have Pe:(pre = []/\i=0/\p=98)\/(pre = [(0,98)]/\i=1/\p=97)\/(pre = [(0,98),(1,97)]/\i=2/\p=98)\/(pre = [(0,98),(1,97),(2,98)]/\i=3/\p=105):=by
   rcases pre with _|⟨a,_|⟨b,_|⟨c,_|⟨d,tl⟩⟩⟩⟩<;>simp at SA<;>simp_all
  clear SA;rcases Pe with ⟨rfl,rfl,rfl⟩|⟨rfl,rfl,rfl⟩|⟨rfl,rfl,rfl⟩|⟨rfl,rfl,rfl⟩
  .gi_wp2
   refine⟨trivial,?_⟩
   gi_wp2
   exact⟨(KeepsOthers.refl W).from _,⟨Vh _ _,(KeepsOthers.refl W).walks⟩,⟨⟨v,hv,I9,trivial⟩,hf⟩,hB⟩
  .have O3:=hf.cell;have O0:=hf.frozen;have Ox:=hv.cell;have TH:W.cell? ⟨w.heap.size,0,none⟩=some (.string bE):=(hB.cell (p:=⟨w.heap.size,0,none⟩) Ja).trans Pf;simp only[UB,UE,UW,Nat.reduceAdd,Nat.reduceSub]at O3 O0 I9 Ox;have Jl:bE.size=4:=rfl;have Oy:Boxed W.drew w1.heap.size 91 v:=hv;have OE:W.drew.ownsRow w1.heap.size 9 1 v 0 (rT.take 0):=I9;obtain⟨v',w3,I6,Jt,Jw,-⟩:=run_append_own (P:=Tryz.prog) ((W.alloc (.cells #[.string (bE.extract 0 1)] 9)).drew) w1.heap.size 91 91 9 i0 (.string ⟨#[]⟩) 1 16 Tryz.underlying91 hi Nq K0 LX rfl (by decide) v 0 (rT.take 0) (show (W.alloc (.cells #[.string (bE.extract 0 1)] 9)).ownsRow w1.heap.size 9 1 v 0 (rT.take 0) from I9.alloc _) ⟨W.heap.size,0,none⟩ 1 1 [.string (bE.extract 0 1)] rfl (cell_one_new W _ _) (by simp[Value.oneCell']) (by unfold maxLen;omega) (by omega) (by have:=hB.size;simp;omega);rw[hap]at I6;obtain⟨g',JI,rfl⟩:=ownsRow_succ Jt;obtain⟨K9,LY,J6,JK,Ka⟩:=Oy.appended (by decide) OE hB.size (UJ _) Jt Jw;have TI:(W.alloc (.cells #[.string (bE.extract 0 1)] 9)).cell? ⟨w1.heap.size,0,none⟩=some v:=(hv.alloc _).cell;have JE:=K9.cell;have QM:=K9.frozen;have QL:Boxed w3 (w1.heap.size+1) 3 _:=Boxed.kept (show Boxed ((W.alloc (.cells #[.string (bE.extract 0 1)] 9)).drew) _ _ _ from hf.alloc _) Jw (hf.not_row (by decide) I9);have Md:=QL.other (B':=w1.heap.size) (by omega) (.slice (some ⟨g',0,none⟩) (0+1) JI);have Nb:=Md.cell;have Na:=Md.frozen;simp only[UB,UE,UW,Nat.reduceAdd,Nat.reduceSub]at Nb Na I6
   gi_wp2
   refine⟨trivial,CallsIn.mono (F:=Fence.wide.inRound l) (BT Fence.wide _ trivial rfl _ (by decide) W) ?_⟩;rintro e W2 ⟨rfl,Kv⟩;rw[Kv];clear Kv
   gi_wp2
   gi_region_with_o (fail)
   all_goals
    gi_wp2
    have Ol:Below w1.heap.size W ((w3.setCell ⟨w1.heap.size,0,none⟩ (.slice (some ⟨g',0,none⟩) (0+1) JI)).setCell ⟨w1.heap.size+1,0,none⟩ (.int .i64 (1:Nat))):=((Vh _ W).drew.trans Ka).setCell (p:=⟨w1.heap.size+1,0,none⟩) (V2 _) _;have Ns:KeepsOthers W ((w3.setCell ⟨w1.heap.size,0,none⟩ (.slice (some ⟨g',0,none⟩) (0+1) JI)).setCell ⟨w1.heap.size+1,0,none⟩ (.int .i64 (1:Nat))):=KeepsOthers.trans ⟨JK.size,JK.same⟩ (KeepsOthers.setCell _ _ _);refine⟨Ns.from _,⟨Ol,Ns.walks⟩,⟨⟨_,LY.other (by omega) _,?_,trivial⟩,Md.set _⟩,hB.trans Ol⟩;have N9:=J6.kept (grownBy_setCell' _ (w1.heap.size+1) (.int .i64 (1:Nat))) (.inr (Md.not_row (by decide) J6).symm);exact N9
  .have O3:=hf.cell;have O0:=hf.frozen;have Ox:=hv.cell;have TH:W.cell? ⟨w.heap.size,0,none⟩=some (.string bE):=(hB.cell (p:=⟨w.heap.size,0,none⟩) Ja).trans Pf;simp only[UB,UE,UW,Nat.reduceAdd,Nat.reduceSub]at O3 O0 I9 Ox;have Jl:bE.size=4:=rfl;have Oy:Boxed W.drew w1.heap.size 91 v:=hv;have OE:W.drew.ownsRow w1.heap.size 9 1 v 1 (rT.take 1):=I9;obtain⟨v',w3,I6,Jt,Jw,-⟩:=run_append_own (P:=Tryz.prog) ((W.alloc (.cells #[.string (bE.extract 1 2)] 9)).drew) w1.heap.size 91 91 9 i0 (.string ⟨#[]⟩) 1 16 Tryz.underlying91 hi Nq K0 LX rfl (by decide) v 1 (rT.take 1) (show (W.alloc (.cells #[.string (bE.extract 1 2)] 9)).ownsRow w1.heap.size 9 1 v 1 (rT.take 1) from I9.alloc _) ⟨W.heap.size,0,none⟩ 1 1 [.string (bE.extract 1 2)] rfl (cell_one_new W _ _) (by simp[Value.oneCell']) (by unfold maxLen;omega) (by omega) (by have:=hB.size;simp;omega);rw[hap]at I6;obtain⟨g',JI,rfl⟩:=ownsRow_succ Jt;obtain⟨K9,LY,J6,JK,Ka⟩:=Oy.appended (by decide) OE hB.size (UJ _) Jt Jw;have TI:(W.alloc (.cells #[.string (bE.extract 1 2)] 9)).cell? ⟨w1.heap.size,0,none⟩=some v:=(hv.alloc _).cell;have JE:=K9.cell;have QM:=K9.frozen;have QL:Boxed w3 (w1.heap.size+1) 3 _:=Boxed.kept (show Boxed ((W.alloc (.cells #[.string (bE.extract 1 2)] 9)).drew) _ _ _ from hf.alloc _) Jw (hf.not_row (by decide) I9);have Md:=QL.other (B':=w1.heap.size) (by omega) (.slice (some ⟨g',0,none⟩) (1+1) JI);have Nb:=Md.cell;have Na:=Md.frozen;simp only[UB,UE,UW,Nat.reduceAdd,Nat.reduceSub]at Nb Na I6
   gi_wp2
   refine⟨trivial,CallsIn.mono (F:=Fence.wide.inRound l) (BT Fence.wide _ trivial rfl _ (by decide) W) ?_⟩;rintro e W2 ⟨rfl,Kv⟩;rw[Kv];clear Kv
   gi_wp2
   gi_region_with_o (fail)
   all_goals
    gi_wp2
    have Ol:Below w1.heap.size W ((w3.setCell ⟨w1.heap.size,0,none⟩ (.slice (some ⟨g',0,none⟩) (1+1) JI)).setCell ⟨w1.heap.size+1,0,none⟩ (.int .i64 (2:Nat))):=((Vh _ W).drew.trans Ka).setCell (p:=⟨w1.heap.size+1,0,none⟩) (V2 _) _;have Ns:KeepsOthers W ((w3.setCell ⟨w1.heap.size,0,none⟩ (.slice (some ⟨g',0,none⟩) (1+1) JI)).setCell ⟨w1.heap.size+1,0,none⟩ (.int .i64 (2:Nat))):=KeepsOthers.trans ⟨JK.size,JK.same⟩ (KeepsOthers.setCell _ _ _);refine⟨Ns.from _,⟨Ol,Ns.walks⟩,⟨⟨_,LY.other (by omega) _,?_,trivial⟩,Md.set _⟩,hB.trans Ol⟩;have N9:=J6.kept (grownBy_setCell' _ (w1.heap.size+1) (.int .i64 (2:Nat))) (.inr (Md.not_row (by decide) J6).symm);exact N9
  .have O3:=hf.cell;have O0:=hf.frozen;have Ox:=hv.cell;have TH:W.cell? ⟨w.heap.size,0,none⟩=some (.string bE):=(hB.cell (p:=⟨w.heap.size,0,none⟩) Ja).trans Pf;simp only[UB,UE,UW,Nat.reduceAdd,Nat.reduceSub]at O3 O0 I9 Ox;have Jl:bE.size=4:=rfl;have Oy:Boxed W.drew w1.heap.size 91 v:=hv;have OE:W.drew.ownsRow w1.heap.size 9 1 v 2 (rT.take 2):=I9;obtain⟨v',w3,I6,Jt,Jw,-⟩:=run_append_own (P:=Tryz.prog) ((W.alloc (.cells #[.string (bE.extract 2 3)] 9)).drew) w1.heap.size 91 91 9 i0 (.string ⟨#[]⟩) 1 16 Tryz.underlying91 hi Nq K0 LX rfl (by decide) v 2 (rT.take 2) (show (W.alloc (.cells #[.string (bE.extract 2 3)] 9)).ownsRow w1.heap.size 9 1 v 2 (rT.take 2) from I9.alloc _) ⟨W.heap.size,0,none⟩ 1 1 [.string (bE.extract 2 3)] rfl (cell_one_new W _ _) (by simp[Value.oneCell']) (by unfold maxLen;omega) (by omega) (by have:=hB.size;simp;omega);rw[hap]at I6;obtain⟨g',JI,rfl⟩:=ownsRow_succ Jt;obtain⟨K9,LY,J6,JK,Ka⟩:=Oy.appended (by decide) OE hB.size (UJ _) Jt Jw;have TI:(W.alloc (.cells #[.string (bE.extract 2 3)] 9)).cell? ⟨w1.heap.size,0,none⟩=some v:=(hv.alloc _).cell;have JE:=K9.cell;have QM:=K9.frozen;have QL:Boxed w3 (w1.heap.size+1) 3 _:=Boxed.kept (show Boxed ((W.alloc (.cells #[.string (bE.extract 2 3)] 9)).drew) _ _ _ from hf.alloc _) Jw (hf.not_row (by decide) I9);have Md:=QL.other (B':=w1.heap.size) (by omega) (.slice (some ⟨g',0,none⟩) (2+1) JI);have Nb:=Md.cell;have Na:=Md.frozen;simp only[UB,UE,UW,Nat.reduceAdd,Nat.reduceSub]at Nb Na I6
   gi_wp2
   refine⟨trivial,CallsIn.mono (F:=Fence.wide.inRound l) (BT Fence.wide _ trivial rfl _ (by decide) W) ?_⟩;rintro e W2 ⟨rfl,Kv⟩;rw[Kv];clear Kv
   gi_wp2
   gi_region_with_o (fail)
   all_goals
    gi_wp2
    have Ol:Below w1.heap.size W ((w3.setCell ⟨w1.heap.size,0,none⟩ (.slice (some ⟨g',0,none⟩) (2+1) JI)).setCell ⟨w1.heap.size+1,0,none⟩ (.int .i64 (3:Nat))):=((Vh _ W).drew.trans Ka).setCell (p:=⟨w1.heap.size+1,0,none⟩) (V2 _) _;have Ns:KeepsOthers W ((w3.setCell ⟨w1.heap.size,0,none⟩ (.slice (some ⟨g',0,none⟩) (2+1) JI)).setCell ⟨w1.heap.size+1,0,none⟩ (.int .i64 (3:Nat))):=KeepsOthers.trans ⟨JK.size,JK.same⟩ (KeepsOthers.setCell _ _ _);refine⟨Ns.from _,⟨Ol,Ns.walks⟩,⟨⟨_,LY.other (by omega) _,?_,trivial⟩,Md.set _⟩,hB.trans Ol⟩;have N9:=J6.kept (grownBy_setCell' _ (w1.heap.size+1) (.int .i64 (3:Nat))) (.inr (Md.not_row (by decide) J6).symm);exact N9
 case done=>
  rintro D ys W hD rfl ⟨⟨⟨v,hv,I9,-⟩,hf⟩,hB⟩ hK;rw[AC]at I9 hf;have Ox:=hv.cell;have O3:=hf.cell;have TH:W.cell? ⟨w.heap.size,0,none⟩=some (.string bE):=(hB.cell (p:=⟨w.heap.size,0,none⟩) Ja).trans Pf;have Jl:bE.size=4:=rfl;simp only[UB,UE,UW,Nat.reduceAdd,Nat.reduceSub]at O3 I9 Ox;have Oy:Boxed W.drew w1.heap.size 91 v:=hv;have OE:W.drew.ownsRow w1.heap.size 9 1 v 3 (rT.take 3):=I9;obtain⟨v',w3,I6,Jt,Jw,-⟩:=run_append_own (P:=Tryz.prog) ((W.alloc (.cells #[.string (bE.extract 3 4)] 9)).drew) w1.heap.size 91 91 9 i0 (.string ⟨#[]⟩) 1 16 Tryz.underlying91 hi Nq K0 LX rfl (by decide) v 3 (rT.take 3) (show (W.alloc (.cells #[.string (bE.extract 3 4)] 9)).ownsRow w1.heap.size 9 1 v 3 (rT.take 3) from I9.alloc _) ⟨W.heap.size,0,none⟩ 1 1 [.string (bE.extract 3 4)] rfl (cell_one_new W _ _) (by simp[Value.oneCell']) (by unfold maxLen;omega) (by omega) (by have:=hB.size;simp;omega);rw[hap]at I6;obtain⟨g',JI,rfl⟩:=ownsRow_succ Jt;obtain⟨K9,LY,J6,JK,Ka⟩:=Oy.appended (by decide) OE hB.size (UJ _) Jt Jw;have TI:(W.alloc (.cells #[.string (bE.extract 3 4)] 9)).cell? ⟨w1.heap.size,0,none⟩=some v:=(hv.alloc _).cell;have JE:=K9.cell;have QM:=K9.frozen;have Kc:=LY.cell;simp only[Nat.reduceAdd]at I6 Kc;have Ns:KeepsOthers W (w3.setCell ⟨w1.heap.size,0,none⟩ (.slice (some ⟨g',0,none⟩) (3+1) JI)):=⟨JK.size,JK.same⟩;have Uj:=Ns.same _ _ hK rfl;have Ku:w.heap.size<=w1.heap.size:=Nat.le_of_lt Ja
  have hbW:Below w.heap.size w (w3.setCell ⟨w1.heap.size,0,none⟩ (.slice (some ⟨g',0,none⟩) (3+1) JI)) :=
   ((((Vh _ w).alloc (UJ _) _).trans (hb.mono (by simp))).trans (hB.mono Ku)).trans ((((Vh _ W).drew.trans Ka)).mono Ku)
  gi_wp2
  refine wpIn_mono (Q:=Exit.then _ fun _ _ _=>False) ?reg (fun e a w h=>by cases e<;>first|exact h|exact h.elim)
  gi_region_with_o (fail)
  all_goals
   gi_wp2
   refine⟨by simp,.inl ⟨_,_,rfl,run_takeDeferred Uj,?_⟩⟩;refine⟨_,results_tmp rfl _ _ _,_,rfl,?_,?_⟩
   .exact hbW.trans (belowK_b (w:=w) (UJ _) _ D _ _ (by have:=hbW.size;simp at hD;omega) Uj rfl rfl)
   .have KR:=ownsRow_putObj J6 (.deferred none) Uj rfl;refine⟨rfl,?_⟩;rcases KR.2 with h|⟨g,aK,cur,h1,h2,h3⟩
    .exact .inl h
    .exact .inr ⟨g,aK,cur,h1,UQ Ku h2,h3⟩
end
section
variable [aw]
open Go.RowKit Go.Shelf Go.Proofs
theorem CH{base:Nat}{T B:bV}{I:dK}{S:ab}{w W':World}{v:Value}{te:TypeId}{l:List ByteArray}(hrel:cB base T B I (dN S) w)(I8:l≠[])(JH:Below w.heap.size w W')(Jh:W'.ownsRow w.heap.size te 1 v l.length (l.map Value.string)) :
  ∃u T' B' I',Ending.returned v = .returned u/\bu base T B I w T' B' I' W'/\cB base T' B' I' (dN (S++[.arr (l.map fun s=>[.str s]) 1 0 true])) W'/\ap W' (.sl S.length l.length 0 l.length 1) T' B' I' u:=by
 have KD:cB base T B I (dN S) W':=hrel.quiet JH (fun _ h=>h) (fun _ h=>h) hrel.TB (fun _ h=> .inl h);have J2:bu base T B I w T B I W':=bu.quiet hrel JH (fun _ h=>h) (fun _ h=>h) (fun _ h=> .inl h) (fun _ h=> .inl h);rcases Jh.2 with ⟨_,h0⟩|⟨gb,aK,cur,rfl,OY,M9,k1,k2,k3,k4⟩
 .exact absurd (UO h0) I8
 .have IX:∀e,I S.length e=none:=hrel.fresh (UJ _)
  have Kx:cB base T B I (dN (S++[.arr (l.map fun s=>[.str s]) 1 0 true])) W':=KD.view fun b e p hi=>by
   obtain⟨blk,hS,_⟩:=hrel.cov hi;simp only[dN];rw[UN (UK.1 hS).1]
  have Jj:=Kx.newBlk (b:=S.length) (g:=gb) (rows:=l.map fun s=>[.str s]) (sz:=1) (pr:=true) (c:=cur) (ty:=te) (IX _) (Holds.of (by simp[dN])) (UQ hrel.base_le OY)
   (fun hB=>absurd (hrel.Blt _ hB) (by omega)) (fun b e gs hi=>absurd (hrel.lt hi) (by omega)) M9 (by simp;omega)
   (df.2 fun i r hr=>by
    rw[Vc]at hr;cases hi:l[i]? with
    | none=>rw[hi]at hr;cases hr
    | some x=>
     rw[hi]at hr;injection hr with hr;subst hr;refine⟨rfl,?_⟩;simp only[aU,ap];refine⟨⟨.string x,?_,rfl,rfl⟩,trivial⟩;have M4:=(UK.1 hi).1
     have O9:cur.toList[i]? = some (.string x):=by
      have:=congrArg (fun q=>q[i]?) k4;simp only[Vc,hi,Vf]at this;rw[WT (by omega)]at this;exact this
     simp only[World.cell?,M9,UW,Nat.mul_one];simpa using O9)
  refine⟨_,T,B,_,rfl,J2.trans (bu.inj (IX _)),Jj,?_⟩;simp only[ap,UI];refine .inr ⟨gb,cur.size,aK,dK.put_self,?_,k1,k2,by omega⟩;simp
def DX(hT:lN):bQ Tryz.prog 228 w8:=by
 refine⟨⟨Tryz.f228,Tryz.func228,by kernel_rfl,by kernel_rfl⟩,?_⟩;intro args S r S' hp base T B I w vs hrel I3;unfold w8 at hp;split at hp
 .rename_i s;split at hp
  .rename_i hs;subst hs;injection hp with hp;injection hp with q1 q2;subst q1 q2;simp only[ae,ap]at I3;obtain⟨_,_,rfl,rfl,rfl⟩:=I3;refine Calls.mono ((callsIn_wide (n:=8)).1 (clu_in w (hT w (fun g o k=>(hrel.known g o k).2)))) ?_;rintro e W' ⟨v,rfl,JH,Jh⟩;exact CH (l:=[b1 98,b1 97,b1 98,b1 105]) hrel (by simp) JH Jh
  .cases hp
 .cases hp
end
end Go.Eng
