/- Texts behind this claim. -/
import Derived.Test.YtkahfcmeeloikaaGreatDoorEngU
import Derived.Test.YtkahfcmeeloikaaGreatDoorProg
import Derived.RangeFuncBox
import Derived.RangeFuncLeaves
import Derived.Shelf.Abstract
import Derived.OwnWalkIn
import Derived.TacticsInMore
import Derived.LoopNIn
import Derived.LoopIn
import Derived.Maps.AppendAt
import Derived.CallsIn
set_option linter.all false
set_option maxHeartbeats 4000000
namespace Go.Eng
variable [aw]
open Go.RowKit Go.Shelf Go.Proofs
attribute [local go_sem] Wm
def upto{α:Type}(f:Nat->α)(k:Nat):List α:=(List.range k).map f
omit [aw] in
def An{α:Type}(f:Nat->α)(k:Nat):upto f (k+1)=upto f k++[f k]:=by simp[upto,List.range_succ]
omit [aw] in
def CB{α:Type}(f:Nat->α)(k:Nat):(upto f k).length=k:=by simp[upto]
omit [aw] in
def upto_all(zs:List Int):upto (fun j=>zs[j]?.getD 0) zs.length=zs:=by
 apply List.ext_getElem
 .simp[upto]
 .intro i h1 h2;simp[upto,h2]
set_option maxRecDepth 100000 in
omit [aw] in
def Ey(F:Fence)(n:Nat)(h7:F.fn 248)(Jr:F.round=none)(hn:1<=n)(l Bs ob n₀ b off len aK:Nat)(zs:List Int)(Kf:len*8<=140737488351232)(hb:b<n₀)(J Jx:List Int->World->Prop)
  (hY:∀pre x W,J pre W->pre.length<len->YieldAt F (n-1) Tryz.prog l #[.int .i64 x] W fun e W'=>
   (e = .returned (.bool true)/\J (pre++[x]) W'/\Below n₀ W W')\/(e = .returned (.bool false)/\Jx (pre++[x]) W'))
  (W:World) (Mg:W.cell? ⟨Bs,ob,none⟩=some (.slice (some ⟨b,off,none⟩) len aK)) (hc:∀j,j<len->W.cell? ⟨b,off+j,none⟩=some (.int .i64 (zs[j]?.getD 0))) (h0:J [] W) :
  CallsIn F n Tryz.prog 248 #[.func (.yield l) #[] #[],.pointer (some ⟨Bs,ob,none⟩)] W fun e W'=>(∃v,e = .returned v) /\
   ((∃ys,ys=upto (fun j=>zs[j]?.getD 0) len/\J ys W')\/(∃pre,(∃k,k<=len/\pre=upto (fun j=>zs[j]?.getD 0) k)/\Jx pre W')):=by
 refine callsIn_of_wp Tryz.func248 rfl h7 ?_ Jr;simp only[Tryz.ntmps248,Vi,UB,UE,Nat.reduceAdd,Nat.reduceSub,Vq,Vr,Vz,Vt,UH,UF]
 gi_wp2
 gi_loopw [7] (fun i wr=> ∃k:Nat,k<=len/\i = .int .i64 k/\J (upto (fun j=>zs[j]?.getD 0) k) wr/\Below n₀ W wr)
  (fun i _=>len-(intOf i).toNat)
 case atStart=>exact⟨0,U9 _,rfl,h0,Vh _ _⟩
 case round=>
  obtain⟨k,hk,rfl,My,Ln⟩:=hrel;have hcx:k<len->wr.cell? ⟨b,off+k,none⟩=some (.int .i64 (zs[k]?.getD 0)):=fun h=>(Ln.cell (p:=⟨b,off+k,none⟩) hb).trans (hc k h);by_cases Ja:k<len
  .obtain⟨fn,tmps,assign,body,hy,hR⟩:=hY _ (zs[k]?.getD 0) wr My (by rw[CB];exact Ja);have hcx':=hcx Ja
   gi_wp2
   refine hR.mono ?_;rintro e W3 (⟨rfl,Mf,Lo⟩|⟨rfl,KC⟩)
   .gi_wp2
    go_roundw
    case rel=>exact⟨k+1,by omega,by simp,by rw[An];exact Mf,Ln.trans Lo⟩
    case measure=>simp[intOf];omega
   .gi_wp2
    refine bodyPost_ret (results_none rfl _ _ _) rfl ?_;exact⟨⟨_,rfl⟩,.inr ⟨_,⟨k+1,by omega,(An _ _).symm⟩,KC⟩⟩
  .obtain rfl:k=len:=by omega
   gi_wp2
   go_end0
   exact⟨⟨_,rfl⟩,.inl ⟨_,rfl,My⟩⟩
set_option maxRecDepth 100000 in
omit [aw] in
def xw(F:Fence)(n:Nat)(h7:F.fn 248)(Jr:F.round=none)(l Bs ob aK:Nat)(ao:Option Addr)(J:List Int->World->Prop)(W:World)(Mg:W.cell? ⟨Bs,ob,none⟩=some (.slice ao 0 aK))(h0:J [] W) :
  CallsIn F n Tryz.prog 248 #[.func (.yield l) #[] #[],.pointer (some ⟨Bs,ob,none⟩)] W fun e W'=>(∃v,e = .returned v)/\J [] W':=by
 refine callsIn_of_wp Tryz.func248 rfl h7 ?_ Jr;simp only[Tryz.ntmps248,Vi,UB,UE,Nat.reduceAdd,Nat.reduceSub,Vq,Vr,Vz,Vt,UH,UF]
 gi_wp2
 gi_loopw [7] (fun i wr=>i = .int .i64 0/\J [] wr) (fun _ _=>0)
 case atStart=>exact⟨rfl,h0⟩
 case round=>
  obtain⟨rfl,My⟩:=hrel
  gi_wp2
  go_end0
  exact⟨⟨_,rfl⟩,My⟩
omit [aw] in
def Hw(zs:List Int){k:Nat}(hk:k<=zs.length):upto (fun j=>zs[j]?.getD 0) k=zs.take k:=by
 apply List.ext_getElem
 .simp[upto,hk]
 .intro i h1 h2;have:i<zs.length:=by simp[upto]at h1;omega
  simp[upto,this]
omit [aw] in
theorem pm.below{n₀:Nat}{A B:World}(h:Below n₀ A B){sv:Value}{zs:List Int}:pm n₀ A sv zs->pm n₀ B sv zs
 | .inl e=> .inl e
 | .inr ⟨b,off,aK,e,hb,hc⟩=> .inr ⟨b,off,aK,e,hb,fun j hj=>(h.cell (p:=⟨b,off+j,none⟩) hb).trans (hc j hj)⟩
omit [aw] in
def Br(F:Fence)(n:Nat)(h7:F.fn 248)(Jr:F.round=none)(hn:1<=n)(Bs ob n₀:Nat)(sv:Value)(zs:List Int)(Kf:zs.length*8<=140737488351232)(w:World)(Mg:Bs<w.heap.size)(hn₀:n₀<=w.heap.size)
  (hc:w.cell? ⟨Bs,ob,none⟩=some sv) (hI:pm n₀ w sv zs) :
  SeqStopsK F n Tryz.prog 248 #[.pointer (some ⟨Bs,ob,none⟩)] (fun x:Int=> #[Value.int .i64 x]) (Below n₀) (fun ys=>ys=zs) (fun pre=>pre <+: zs) zs.length w:=fun l J Jx W hW _ _ hY h0=>by
 have J0:=(hW.cell (p:=⟨Bs,ob,none⟩) Mg).trans hc;rcases hI.below (hW.mono hn₀) with ⟨ao,aK,rfl,rfl⟩|⟨b,off,aK,rfl,hb,Mw⟩
 .exact(xw F n h7 Jr l Bs ob aK ao J W J0 h0).mono fun e W' ⟨he,hj⟩=>⟨he,.inl ⟨_,rfl,hj⟩⟩
 .refine(Ey F n h7 Jr hn l Bs ob n₀ b off zs.length aK zs Kf hb J Jx hY W J0 Mw h0).mono ?_;rintro e W' ⟨he,⟨ys,rfl,hj⟩|⟨pre,⟨k,hk,rfl⟩,hj⟩⟩
  .exact⟨he,.inl ⟨_,upto_all zs,hj⟩⟩
  .exact⟨he,.inr ⟨_,by rw[Hw zs hk];exact List.take_prefix _ _,hj⟩⟩
omit [aw] in
theorem infoI:(Tryz.prog.info? 3).map (fun i=>(i.zero,i.size,i.bytes))=some (some (.int .i64 0),1,8):=by kernel_rfl
set_option maxRecDepth 100000 in
omit [aw] in
def Cj(F:Fence)(n:Nat)(h3:F.fn 271)(h5:F.fn 248)(Jr:F.round=none)(hn:3<=n)(Bs ob:Nat)(sv:Value)(zs:List Int)(IY:zs.length<=maxLen)(Kf:zs.length*8<=140737488351232)(w:World)
  (Mg:Bs<w.heap.size) (NS:w.cell? ⟨Bs,ob,none⟩=some sv) (hI:pm w.heap.size w sv zs) :
  CallsIn F n Tryz.prog 271 #[.slice none 0 0,.func (.func 248) #[] #[.pointer (some ⟨Bs,ob,none⟩)]] w fun e W'=> ∃v,e = .returned v/\W'.ownsRow w.heap.size 3 1 v zs.length (zs.map (Value.int .i64))/\(v = .slice none 0 0↔zs = [])/\Below w.heap.size w W':=by
 have h1:1<=n:=by omega
 obtain⟨i0,hi,Nq,K0,LX⟩:=info_parts infoI;refine callsIn_of_wp_marks Tryz.func271 rfl h3 ?_ Jr;simp only[Tryz.ntmps271,Vi,UB,UE,Nat.reduceAdd,Nat.reduceSub,Vq,Vr,Vz,Vt,UH,UF]
 gi_wp2
 have bO:=Boxed.new w 31 (.slice none 0 0);have Lv:Below w.heap.size w (w.alloc (.cells #[.slice none 0 0] 31)):=(Vh _ w).alloc (UJ _) _
 refine wpIn_rangeFunc_ownG Jr h1 (gf:=248) (lb := #[.pointer (some ⟨Bs,ob,none⟩)]) rfl h5 (enters_of Tryz.func248 (by kernel_rfl) rfl)
  (Br F (n-1) h5 Jr (by omega) Bs ob w.heap.size sv zs Kf _ (by simp;omega) (by simp) ((Lv.cell (p:=⟨Bs,ob,none⟩) Mg).trans NS) (hI.below Lv)) belowK_t (belowK_b (by simp)) (Vh _ _) (fun _=>rfl)
  (fun pre W=>(∃v,Boxed W w.heap.size 31 v/\W.ownsRow w.heap.size 3 1 v pre.length (pre.map (Value.int .i64))/\(v = .slice none 0 0↔pre = []))/\Below w.heap.size w W)
  (fun _ _ _=>False)
  (OwnFrom.and (Own.from (holdsRow_own w.heap.size w.heap.size 31 3 1 (fun pre:List Int=>pre.length) (fun pre=>pre.map (Value.int .i64)) (fun pre v=>v = .slice none 0 0↔pre = [])) _) (ownFrom_below (UJ _) (by simp)))
  (fun _ _ _ _ _ hs _ _=>hs)
  ⟨⟨_,bO,WJ _ _ _ _,by simp⟩,Lv⟩
  (fun x=>{ tmps := #[.slice none 0 0,.func (.func 248) #[] #[.pointer (some ⟨Bs,ob,none⟩)],.pointer (some ⟨w.heap.size,0,none⟩),undef,.slice none 0 0,.int .i64 x,.func (.func 248) #[] #[.pointer (some ⟨Bs,ob,none⟩)],.int .i64 x,undef,undef,undef,undef,undef],defers:=[] }) ?assign ?body ?done ?stop
 case assign=>
  intro l x W K hK
  gi_wp2
  exact hK
 case body=>
  rintro l pre x W ⟨⟨v,hv,I9,Jo⟩,hB⟩ Ja;have hc:=hv.cell
  gi_wp2_with (gi_at_builtin;refine wpListIn_append_own _ rfl _ _ 31 rfl w.heap.size 3 i0 (.int .i64 0) 1 8 Tryz.underlying31 hi Nq K0 LX rfl (by decide) _ _ _ rfl (I9.alloc _) ⟨W.heap.size,0,none⟩ 1 1 [.int .i64 x] rfl rfl (cell_one_new _ _ _) (by simp[Value.oneCell']) (by omega) (by omega) (by have:=hB.size;simp;omega) ?_;intro v' w1 Jt Jw _;obtain⟨g',JI,rfl⟩:=ownsRow_succ Jt;obtain⟨K9,LY,J6,JK,Ka⟩:=hv.appended (by decide) I9 hB.size (UJ _) Jt Jw;have JE:=K9.cell;have QM:=K9.frozen)
  exact⟨JK.from _,Ka,⟨_,LY,by simpa using J6,by simp⟩,hB.trans Ka⟩
 case done=>
  rintro D ys W hD rfl ⟨⟨v,hv,I9,Jo⟩,hB⟩ hK;have hc:=hv.cell
  gi_wp2
  refine⟨by simp,.inl ⟨_,_,rfl,run_takeDeferred hK,?_⟩⟩;exact⟨_,results_tmp rfl _ _ _,v,rfl,ownsRow_putObj I9 _ hK rfl,Jo,hB.trans (belowK_b (w:=w) (UJ _) W D _ _ (by simp at hD;omega) hK rfl rfl)⟩
 case stop=>
  rintro D c pre W _ _ h _;exact h.elim
omit [aw] in
def wS(Bs ob:Nat)(sv:Value)(zs:List Int)(IY:zs.length<=maxLen)(Kf:zs.length*8<=140737488351232)(w:World)
  (Mg:Bs<w.heap.size) (NS:w.cell? ⟨Bs,ob,none⟩=some sv) (hI:pm w.heap.size w sv zs) :
  Calls Tryz.prog 271 #[.slice none 0 0,.func (.func 248) #[] #[.pointer (some ⟨Bs,ob,none⟩)]] w fun e W'=> ∃v,e = .returned v/\W'.ownsRow w.heap.size 3 1 v zs.length (zs.map (Value.int .i64))/\(v = .slice none 0 0↔zs = [])/\Below w.heap.size w W' :=
 (callsIn_wide (n:=6)).1 (Cj Fence.wide 6 trivial trivial rfl (by omega) Bs ob sv zs IY Kf w Mg NS hI)
def CU:bQ Tryz.prog 271 (lz 248) :=
 zW (fn:=Tryz.f271) (te:=3) Tryz.func271 (by kernel_rfl) (by kernel_rfl) wS
end Go.Eng
