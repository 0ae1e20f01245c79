/- Texts behind this claim. -/
import Derived.Test.YtkahfcmeeloikaaGreatDoorZ1
import Derived.Test.YtkahfcmeeloikaaGreatDoorZ2
import Derived.RangeFuncBox
import Derived.RangeFuncLeaves
import Derived.Shelf.Abstract
import Derived.OwnWalkIn
import Derived.TacticsInMore
import Derived.LoopNIn
import Derived.LoopIn
import Derived.Maps.AppendAt
import Derived.CallsIn
import Derived.Lib.OthersKept
import Derived.Lib.TrimUEq
set_option linter.all false
set_option maxHeartbeats 4000000
namespace Go.Eng
section
variable [aw]
open Go.RowKit Go.Shelf Go.Proofs
attribute [local go_sem] Wm
def fB(s:ByteArray):Nat->Nat->List (Int×Int)
 | 0,_=>[]
 | k+1,pos=>if pos<s.size then ((pos:Int),((Utf8.decode s pos).1:Int))::fB s k (pos+(Utf8.decode s pos).2) else []
def nP(w:World)(k:Nat):Nat:=match w.heap[k]? with
 | some (.stringIter _ p)=>p
 | _=>0
def KpS(n₀:Nat)(W W':World):Prop:=Below n₀ W W'/\KeepsWalks W W'
set_option maxRecDepth 100000 in
omit [aw] in
theorem scal1_in(F:Fence)(n:Nat)(h7:F.fn 285)(Jr:F.round=none)(hn:1<=n)(l Bs ob n₀:Nat)(s:ByteArray)(J Jx:List (Int×Int)->World->Prop)(W:World)(hA:AbidesFrom W.heap.size J)
  (hY:∀pre x W,J pre W->pre.length<s.size->YieldAt F (n-1) Tryz.prog l #[.int .i64 x.1,.int .i64 x.2] W fun e W'=>
   (e = .returned (.bool true)/\J (pre++[x]) W'/\KpS n₀ W W')\/(e = .returned (.bool false)/\Jx (pre++[x]) W'))
  (Mg:W.cell? ⟨Bs,ob,none⟩=some (.string s)) (h0:J [] W) (LC:n₀<=W.heap.size) :
  CallsIn F n Tryz.prog 285 #[.func (.yield l) #[] #[],.pointer (some ⟨Bs,ob,none⟩)] W fun e W'=>(∃v,e = .returned v)/\(J (fB s s.size 0) W'\/∃pre,Jx pre W'):=by
 refine callsIn_of_wp Tryz.func285 rfl h7 ?_ Jr;simp only[Tryz.ntmps285,Vi,UB,UE,Nat.reduceAdd,Nat.reduceSub,Vq,Vr,Vz,Vt,UH,UF]
 gi_wp2
 gi_loopw [] (fun wr=> ∃pos pre k,wr.heap[W.heap.size]? = some (.stringIter s pos)/\J pre wr/\pre++fB s k pos=fB s s.size 0/\s.size<=pos+k/\pre.length<=pos/\Below n₀ W wr) (fun wr=>s.size-nP wr W.heap.size)
 case atStart=>
  refine⟨0,[],s.size,World.iter_heap W s 0,?_,by simp,by omega,UJ _,(Vh _ W).alloc LC _⟩;exact hA _ _ _ none h0 (World.grownBy_alloc W _ none) (fun r e=>by cases e)
 case round=>
  obtain⟨pos,pre,k,hit,hJ,JO,hk,IZ,KG⟩:=hrel;by_cases JP:pos<s.size
  .obtain⟨k',rfl⟩:∃k',k=k'+1:=⟨k-1,by omega⟩;have Ln:∀ty,(Instr.next (.pointer (some ⟨W.heap.size,0,none⟩)) true ty).run Tryz.prog wr=_:=fun ty=>Lib.run_next_any_at wr W.heap.size s pos ty hit JP;have Sf:=Lib.width_pos s pos;rw[fB,if_pos JP]at JO;obtain⟨R,hR⟩:∃R,(Utf8.decode s pos).1=R:=⟨_,rfl⟩;obtain⟨K,hK⟩:∃K,(Utf8.decode s pos).2=K:=⟨_,rfl⟩;have R0:R<=1114111:=by rw[<-hR];exact Lib.rune_le s pos
   rw[hR,hK]at Ln JO;rw[hK]at Sf;have MZ:=Lib.iterAt_heap wr W.heap.size s pos (pos+K) hit
   have Pm:J pre (wr.iterAt W.heap.size s (pos+K)):=by
    refine hA _ _ _ (some W.heap.size) hJ (grownBy_putObj' wr W.heap.size (.stringIter s (pos+K))) (fun r e=>?_);cases e;exact⟨UJ _,_,hit,rfl⟩
   have Ni:=Lib.below_iterAt KG (k:=W.heap.size) LC s (pos+K);obtain⟨W2,Q0⟩:∃W2,wr.iterAt W.heap.size s (pos+K)=W2:=⟨_,rfl⟩;rw[Q0]at Ln MZ Pm Ni;obtain⟨fn,tmps,assign,body,hy,Uc⟩:=hY pre ((pos:Int),(R:Int)) W2 Pm (by omega);have Js:nP wr W.heap.size=pos:=by simp[nP,hit]
   clear hR hK Q0 hJ hit
   gi_wp2
   refine Uc.mono ?_;rintro e W3 (⟨rfl,Mf,Lo,Te⟩|⟨rfl,KC⟩)
   .have MY:=Te.same _ _ MZ rfl
    gi_wp2
    go_roundw
    case rel=>exact⟨pos+K,pre++[((pos:Int),(R:Int))],k',MY,Mf,by rw[<-JO];simp,by omega,by simp;omega,Ni.trans Lo⟩
    case measure=>
     have m1:nP W3 W.heap.size=pos+K:=by simp[nP,MY]
     have m2:nP wr W.heap.size=pos:=Js;rw[m1,m2];omega
   .gi_wp2
    refine bodyPost_ret (results_none rfl _ _ _) rfl ?_;exact⟨⟨_,rfl⟩,.inr ⟨_,KC⟩⟩
  .have Ln:∀ty,(Instr.next (.pointer (some ⟨W.heap.size,0,none⟩)) true ty).run Tryz.prog wr=_:=fun ty=>Lib.run_next_end_at wr W.heap.size s pos ty hit JP
   have O5:fB s k pos = []:=by cases k with
    | zero=>rfl
    | succ k=>rw[fB,if_neg JP]
   rw[O5,UM]at JO
   gi_wp2
   go_end0
   exact⟨⟨_,rfl⟩,.inl (by rw[<-JO];exact hJ)⟩
omit [aw] in
def EM(F:Fence)(n:Nat)(h7:F.fn 285)(Jr:F.round=none)(hn:1<=n)(Bs ob n₀:Nat)(s:ByteArray)(w:World)(Mg:Bs<w.heap.size)(hn₀:n₀<=w.heap.size)
  (hc:w.cell? ⟨Bs,ob,none⟩=some (.string s)) :
  SeqStopsK F n Tryz.prog 285 #[.pointer (some ⟨Bs,ob,none⟩)] (fun x:Int×Int=> #[Value.int .i64 x.1,Value.int .i64 x.2]) (KpS n₀) (fun ys=>ys=fB s s.size 0) (fun _=>True) s.size w:=fun l J Jx W hW hJ Ul hY h0=>by
 have J0:=(hW.cell (p:=⟨Bs,ob,none⟩) Mg).trans hc;have Jl:n₀<=W.heap.size:=UQ hn₀ hW.size;refine(scal1_in F n h7 Jr hn l Bs ob n₀ s J Jx W hJ hY J0 h0 Jl).mono ?_;rintro e W' ⟨he,hj|⟨pre,hj⟩⟩
 .exact⟨he,.inl ⟨_,rfl,hj⟩⟩
 .exact⟨he,.inr ⟨pre,trivial,hj⟩⟩
omit [aw] in
theorem AB(s:ByteArray):∀(k pos:Nat) (l:List Nat),s.size<=pos+k->qq (s.data.toList.drop pos)=some l->(fB s k pos).map (·.2)=l.map fun n:Nat=>((n:Nat):Int)
 | 0,pos,l,hk,h=>by
  rw[WG (by simpa using hk),sP]at h;injection h with h;subst h;rfl
 | k+1,pos,l,hk,h=>by
  rw[fB];by_cases hp:pos<s.size
  .rw[if_pos hp];have Ja:pos<s.data.toList.length:=by simpa using hp
   obtain⟨c,r,PD⟩:∃c r,s.data.toList.drop pos=c::r:=⟨_,_,VT Ja⟩;have hf:=wm (s.data.toList.drop pos) (by rw[PD];simp);rw[Lib.decodeL_drop]at hf;rw[PD]at h hf;split at hf
   .rw[oE hf]at h;cases h
   .rw[oD (p:=(Utf8.decode s pos).1) (n:=(Utf8.decode s pos).2) hf]at h;cases hr:qq ((c::r).drop (Utf8.decode s pos).2) with
    | none=>rw[hr]at h;cases h
    | some l'=>
     rw[hr]at h;simp only[Vf]at h;injection h with h;subst h;rw[<-PD,WZ]at hr;have hw:=Lib.width_pos s pos;have ih:=AB s k (pos+(Utf8.decode s pos).2) l' (by omega) hr;simp[ih]
  .rw[if_neg hp];rw[WG (by simp;omega),sP]at h;injection h with h;subst h;rfl
end
section
variable [aw]
open Go.RowKit Go.Shelf Go.Proofs
attribute [local go_sem] Wm
set_option maxRecDepth 100000 in
omit [aw] in
def xO(F:Fence)(n:Nat)(h7:F.fn 258)(Jr:F.round=none)(s:ByteArray)(w:World) :
  CallsIn F n Tryz.prog 258 #[.string s] w fun e W'=>e = .returned (.func (.func 285) #[] #[.pointer (some ⟨w.heap.size,0,none⟩)])/\W'=w.alloc (.cells #[.string s] 9):=by
 refine callsIn_of_wp Tryz.func258 rfl h7 ?_ Jr;simp only[Tryz.ntmps258,Vi,UB,UE,Nat.reduceAdd,Nat.reduceSub,Vq,Vr,Vz,Vt,UH,UF]
 gi_wp2
 first|go_end0|go_ret
 exact⟨rfl,rfl⟩
omit [aw] in
theorem infoI:(Tryz.prog.info? 3).map (fun i=>(i.zero,i.size,i.bytes))=some (some (.int .i64 0),1,8):=by kernel_rfl
set_option maxRecDepth 100000 in
omit [aw] in
theorem HS(s:ByteArray)(hs:s.size<=1073741824)(w:World)(hT:Lib.Utf8Tabs (Tryz.laysValid_ren.g 3) (Tryz.laysValid_ren.g 4) w) :
  CallsIn Fence.wide 8 Tryz.prog 227 #[.string s] w (Gb 3 s w):=by
 have cV:CallsIn Fence.wide 7 Tryz.prog 257 #[.string s] w _:=callsIn_wide.2 (Any.utf8_ValidString Tryz.laysValid s w (by omega) hT);have P0:=Ez s.data.toList.length s.data.toList (UJ _);generalize Lib.validD s.data.toList=V at cV P0;have hh:ac (V=(qq s.data.toList).isSome):=⟨P0⟩;clear P0;refine callsIn_of_wp_marks Tryz.func227 rfl trivial ?_ rfl;simp only[Tryz.ntmps227,Vi,UB,UE,Nat.reduceAdd,Nat.reduceSub,Vq,Vr,Vz,Vt,UH,UF];cases V with
 | false=>
  gi_wp2
  refine⟨trivial,cV.mono ?_⟩;rintro e w1 ⟨rfl,hb⟩
  gi_wp2
  have hn:qq s.data.toList=none:=by
   cases hp:qq s.data.toList with
   | none=>rfl
   | some l=>have:=hh.out;rw[hp]at this;cases this
  exact⟨_,results_tmp2 rfl _ _ _,_,_,rfl,hb,by rw[hn];exact⟨rfl,rfl⟩⟩
 | true=>
  gi_wp2
  refine⟨trivial,cV.mono ?_⟩;rintro e w1 ⟨rfl,hb⟩
  gi_wp2
  refine⟨trivial,(xO Fence.wide 7 trivial rfl s _).mono ?_⟩;rintro e w2 ⟨rfl,rfl⟩
  gi_wp2
  obtain⟨l,hl⟩:∃l,qq s.data.toList=some l:=by
   cases hp:qq s.data.toList with
   | none=>have:=hh.out;rw[hp]at this;cases this
   | some l=>exact⟨l,rfl⟩
  have I6:(fB s s.size 0).map (·.2)=l.map fun n:Nat=>((n:Nat):Int):=AB s s.size 0 l (by omega) (by rw[WN];exact hl);obtain⟨i0,hi,Nq,K0,LX⟩:=info_parts infoI;have bO:Boxed ((w1.alloc (.cells #[.slice none 0 0] 31)).alloc (.cells #[.string s] 9)) w1.heap.size 31 (.slice none 0 0):=(Boxed.new w1 31 (.slice none 0 0)).alloc _;have Lv:Below w1.heap.size w1 ((w1.alloc (.cells #[.slice none 0 0] 31)).alloc (.cells #[.string s] 9)):=((Vh _ w1).alloc (UJ _) _).alloc (by simp) _;have Pf:((w1.alloc (.cells #[.slice none 0 0] 31)).alloc (.cells #[.string s] 9)).cell? ⟨w1.heap.size+1,0,none⟩=some (.string s):=by simp
  refine wpIn_rangeFunc_ownG rfl (by omega) (gf:=285) (lb := #[.pointer (some ⟨w1.heap.size+1,0,none⟩)]) rfl trivial (enters_of Tryz.func285 (by kernel_rfl) rfl)
   (EM Fence.wide 7 trivial rfl (by omega) (w1.heap.size+1) 0 w1.heap.size s _ (by simp) (by simp;omega) Pf)
   (fun h k=>⟨h.1.trans k.1,h.2.trans k.2⟩) (fun W l o o' hl h hc hw=>⟨belowK_b (by simp;omega) W l o o' hl h hc hw,KeepsWalks.putObj _ h hw⟩) (Vh _ _) (fun _=>rfl)
   (fun pre W=>(∃v,Boxed W w1.heap.size 31 v/\W.ownsRow w1.heap.size 3 1 v pre.length (pre.map fun x=>Value.int .i64 x.2)/\(v = .slice none 0 0↔pre = []))/\Below w1.heap.size w1 W)
   (fun _ _ _=>False)
   (OwnFrom.and (Own.from (holdsRow_own w1.heap.size w1.heap.size 31 3 1 (fun pre:List (Int×Int)=>pre.length) (fun pre=>pre.map fun x=>Value.int .i64 x.2) (fun pre v=>v = .slice none 0 0↔pre = [])) _) (ownFrom_below (UJ _) (by simp;omega)))
   (fun _ _ _ _ _ hs _ _=>hs)
   ⟨⟨_,bO,WJ _ _ _ _,by simp⟩,Lv⟩
   (fun x=>{ tmps := #[.string s,undef,.slice none 0 0,.bool false,.pointer (some ⟨w1.heap.size,0,none⟩),undef,.int .i64 x.2,.string s,.bool true,.bool false,.string s,.func (.func 285) #[] #[.pointer (some ⟨w1.heap.size+1,0,none⟩)],.int .i64 x.1,.int .i64 x.2,undef,undef,undef,undef,undef],defers:=[] }) ?assign ?body ?done ?stop
  case assign=>
   intro l x W K hK
   gi_wp2
   exact hK
  case body=>
   rintro l pre x W ⟨⟨v,hv,I9,Jo⟩,hB⟩ Ja;have hc:=hv.cell;have NL:pre.length+1<=maxLen:=by unfold maxLen;omega
   have hml2:(pre.length+1)*8<=140737488355328:=by omega
   gi_wp2_with (gi_at_builtin;refine wpListIn_append_own _ rfl _ _ 31 rfl w1.heap.size 3 i0 (.int .i64 0) 1 8 Tryz.underlying31 hi Nq K0 LX rfl (by decide) _ _ _ rfl (I9.alloc _) ⟨W.heap.size,0,none⟩ 1 1 [.int .i64 x.2] rfl rfl (cell_one_new _ _ _) (by simp[Value.oneCell']) (by omega) (by omega) (by have:=hB.size;simp;omega) ?_;intro v' w1' Jt Jw _;obtain⟨g',JI,rfl⟩:=ownsRow_succ Jt;obtain⟨K9,LY,J6,JK,Ka⟩:=hv.appended (by decide) I9 hB.size (UJ _) Jt Jw;have JE:=K9.cell;have QM:=K9.frozen)
   exact⟨JK.from _,⟨Ka,JK.walks⟩,⟨_,LY,by simpa using J6,by simp⟩,hB.trans Ka⟩
  case done=>
   rintro D ys W hD rfl ⟨⟨v,hv,I9,Jo⟩,hB⟩ hK;have hc:=hv.cell
   gi_wp2
   refine⟨by simp,.inl ⟨_,_,rfl,run_takeDeferred hK,?_⟩⟩;refine⟨_,results_tmp2 rfl _ _ _,v,true,rfl,?_,?_⟩
   .exact(hb.trans (hB.mono hb.size)).trans (belowK_b (w:=w) (UJ _) W D _ _ (by have:=hb.size;simp at hD;omega) hK rfl rfl)
   .rw[hl];have IY:(fB s s.size 0).length=l.length:=by have:=congrArg List.length I6;simpa using this
    have SR:(fB s s.size 0).map (fun x=>Value.int .i64 x.2)=l.map fun n:Nat=>Value.int .i64 (n:Int):=by
     have:=congrArg (List.map (Value.int .i64)) I6;simpa[List.map_map,Function.comp_def]using this
    rw[IY,SR]at I9;have KR:=ownsRow_putObj I9 (.deferred none) hK rfl;refine⟨rfl,⟨KR.1,?_⟩,?_⟩
    .rcases KR.2 with h|⟨g,aK,cur,h1,h2,h3⟩
     .exact .inl h
     .exact .inr ⟨g,aK,cur,h1,UQ hb.size h2,h3⟩
    .rw[Jo,<-V0,IY,V0]
  case stop=>
   rintro D c pre W _ _ h _;exact h.elim
def lN:Prop := ∀w:World,(∀g o,aw.blk g=some o->w.heap[g]? = some o)->Lib.Utf8Tabs (Tryz.laysValid_ren.g 3) (Tryz.laysValid_ren.g 4) w
def xW(hT:lN):bQ Tryz.prog 227 kf :=
 zX (fn:=Tryz.f227) (te:=3) Tryz.func227 (by kernel_rfl) (by kernel_rfl) fun s hs w hk=>(callsIn_wide (n:=8)).1 (HS s hs w (hT w hk))
omit [aw] in
theorem tabsK_of{W:World}(h:Lib.Utf8Tabs (Tryz.laysValid_ren.g 3) (Tryz.laysValid_ren.g 4) W):@lN ⟨fun g=>W.heap[g]?⟩:=fun w hw=>by
 have go:∀(g c:Nat) (v:Value),W.cell? ⟨g,c,none⟩=some v->w.cell? ⟨g,c,none⟩=some v:=fun g c v hc=>by
  cases hg:W.heap[g]? with
  | none=>simp[World.cell?,hg]at hc
  | some o=>
   rw[<-hc];exact js ((hw g o hg).trans hg.symm)
 exact⟨fun c hc=>go _ _ _ (h.1 c hc),fun i hi=>⟨go _ _ _ (h.2 i hi).1,go _ _ _ (h.2 i hi).2⟩⟩
end
end Go.Eng
