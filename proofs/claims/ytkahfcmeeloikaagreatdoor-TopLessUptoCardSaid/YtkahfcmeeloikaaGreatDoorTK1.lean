/- TopLess returns true for all arguments of bulk at most 1048576, and leaves them as they were. Conditions: the bulk, as the statement has it. -/
import Derived.Test.YtkahfcmeeloikaaGreatDoorZ11
import Derived.Test.YtkahfcmeeloikaaGreatDoorWf
import Derived.Test.YtkahfcmeeloikaaGreatDoorZ25
import Derived.Test.YtkahfcmeeloikaaGreatDoorRows
import Derived.WalkKit
import Derived.ProofKit
import Derived.OpenShut
import Derived.LaidMore
import Derived.Lay
import Derived.Lib.LaidU8T
import Derived.Lib.LaidIn
import Derived.Stop.Joined
import Derived.JoinedCond
import Derived.Deep.DeepHandedRow
import Derived.Test.YtkahfcmeeloikaaGreatDoorTie
import Derived.Test.YtkahfcmeeloikaaGreatDoorCards
import Derived.SevenTiedAt
set_option linter.all false
set_option maxHeartbeats 1000000
namespace Go.Proofs.YtkahfcmeeloikaaGreatDoor
open Go.ChangeShapes Go.WideShapes Go.ChangeAt Go.RowKit Go.Eng
theorem own:ownKnob Tryz.prog.godebug=none:=by kernel_rfl
theorem bulkOK {H:Type}:Ge (H:=H) Rows.uptoBulk Rows.uptoBulkAll where
 nil:=by simp [Rows.uptoBulkAll]
 cons:=fun d r=>by simp [Rows.uptoBulkAll]
 one:=fun d=>by
  cases d with
  | lit l=>cases l<;>simp [Rows.uptoBulk]
  | _=>simp [Rows.uptoBulk]
 str:=fun l=>by simp [Rows.uptoBulk]
 slice:=fun e s=>by simp [Rows.uptoBulk]
 agg:=fun p=>by simp [Rows.uptoBulk]
theorem bulk_app {H:Type}(l r:List (DataW H)):Rows.uptoBulkAll (l++r)=Rows.uptoBulkAll l+Rows.uptoBulkAll r:=by
 induction l with
 | nil=>simp [Rows.uptoBulkAll]
 | cons x l ih=>simp only [List.cons_append,Rows.uptoBulkAll,ih];omega
theorem AN:(Rows.topLessUptoRow.laid.all fun x=>x.2.handleName?.isNone)=true:=by kernel_rfl
theorem laid_eq:Rows.topLessUptoRow.laid = [("math/bits.deBruijn32tab", Rows.laid_math_bits_deBruijn32tab),("math/bits.deBruijn64tab", Rows.laid_math_bits_deBruijn64tab),("internal/strconv.uint64pow10", Rows.laid_internal_strconv_uint64pow10),("unicode/utf8.acceptRanges", Lib.acceptData),("unicode/utf8.first", Lib.firstData)]:=by kernel_rfl
theorem tabs_of {W:World}(h:laidMetH Tryz.prog Rows.topLessUptoRow.laid W):Lib.Utf8Tabs (Tryz.laysValid_ren.g 3) (Tryz.laysValid_ren.g 4) W:=by
 rw [MakeChecks.laidMetH_plain _ _ _ AN,laid_eq] at h
 exact utf8Tabs_of_readsT (U8Types.of196 Tryz.laysValid) ⟨by kernel_rfl,by kernel_rfl,by kernel_rfl,by kernel_rfl,by kernel_rfl,by kernel_rfl,by kernel_rfl⟩ (Lib.laidMet.reads h (.tail _ (.tail _ (.tail _ (.tail _ (.head _)))))) (Lib.laidMet.reads h (.tail _ (.tail _ (.tail _ (.head _)))))
theorem laid_witness (os:Os) (args:Array Value):laidMetH Tryz.prog Rows.topLessUptoRow.laid ((World.laidAll Tryz.prog os Rows.topLessUptoRow.laid).forCall (fun _ _=>0) ⟨#[],args,[]⟩).memory:=by
 rw [MakeChecks.laidMetH_plain _ _ _ AN]
 exact laidMet_laidAll _ (by kernel_rfl) (by kernel_rfl)
def Ct:Array Value := #[.agg #[.slice none 0 0,.string .empty,.slice none 0 0,.slice none 0 0,.slice none 0 0,.int .i64 0,.slice none 0 0,.slice none 0 0,.slice none 0 0,.slice none 0 0,.slice none 0 0,.slice none 0 0,.slice none 0 0,.slice none 0 0,.slice none 0 0,.slice none 0 0],.agg #[.int .i64 0,.int .i64 0],.agg #[.int .i64 0,.int .i64 0,.int .i64 0,.int .i64 0,.slice none 0 0,.int .i64 0]]
theorem okW (os:Os):Input.okWideB Tryz.prog ((World.laidAll Tryz.prog os Rows.topLessUptoRow.laid).forCall (fun _ _=>0) ⟨#[],Ct,[]⟩) 3 ⟨#[],Ct,[]⟩=true:=by kernel_rfl
theorem inW (os:Os) (H:Type) (enc:TypeId×Value→H):(Rows.OpenSpec.upto Rows.topLessSpec).preRow enc Tryz.prog Tryz.f3 Rows.topLessUptoRow.domain false Rows.topLessUptoRow.laid ((World.laidAll Tryz.prog os Rows.topLessUptoRow.laid).forCall (fun _ _=>0) ⟨#[],Ct,[]⟩).memory Ct :=
 OpenSpec.preRow_of_cond (s:=Rows.OpenSpec.upto Rows.topLessSpec) 16 (x:=([.agg [.agg [.agg [.nil],.agg [.lit (.string []),.nil,.nil],.nil,.agg [.lit (.int .i64 0),.nil,.nil],.nil],.nil,.nil,.nil,.agg [.nil,.nil,.nil,.nil]],.agg [.lit (.int .i64 0),.lit (.int .i64 0)],.agg [.lit (.int .i64 0),.agg [.lit (.int .i64 0),.lit (.int .i64 0)],.agg [.lit (.int .i64 0),.nil,.lit (.int .i64 0)]]],[],[])) (by kernel_rfl) rfl (fun k hk=>by
  obtain rfl:Rows.uptoSmall=k:=Option.some.inj hk
  kernel_rfl) (by kernel_rfl) (laid_witness os _)
set_option maxRecDepth 100000 in
theorem topLess_lifted (os:Os) (started:os.Started) (H:Type) (enc:TypeId×Value→H) (F:Stop.Interp) :
  ReturnsInHanded {} Tryz.checked os 3 .any ((Rows.OpenSpec.upto Rows.topLessSpec).preRow enc Tryz.prog Tryz.f3 Rows.topLessUptoRow.domain false Rows.topLessUptoRow.laid) (((Rows.OpenSpec.upto Rows.topLessSpec).at F).post enc Tryz.prog Tryz.f3 false true false false):=by
 refine returnsInHanded_of_row (C:=Tryz.checked) (s:=Rows.OpenSpec.upto Rows.topLessSpec) own started (by kernel_rfl) Tryz.func3
  ⟨World.laidAll Tryz.prog os Rows.topLessUptoRow.laid,fun _ _=>0,⟨#[],Ct,[]⟩,World.laidAll_os _ _ _,World.shaped_of_ZipB (by kernel_rfl) (by kernel_rfl),(Input.okWide_of_okWideB (base:=0) (okW os)).1,(Input.okWide_of_okWideB (okW os)).2,
   inW os H enc,
   by simp only [Assume.holds];exact⟨by simp,by simp,fun _=>Modest.zero,by simp,by simp⟩⟩ ?_
 intro W base args ds gs before hval hW _ hk _ hL _ _
 have hbd:Rows.uptoBulkAll ds≤1048576:=by
  have h:=of_decide_eq_true (hk _ rfl)
  rw [bulk_app] at h
  omega
 exact Ab (fn:=Tryz.f3) (s:=Rows.topLessSpec) GU bulkOK (k:=8) (τs:=[(true,projS),(true,[.int .i64,.int .i64]),(true,ruleS)]) (by kernel_rfl) (by kernel_rfl) rfl (by kernel_rfl) rfl
  (fun ds h=>by match ds,h with | [_,_,_],_=>rfl) (Bd:=fun m=>m≤1048576) (fun l m hok hle hbd=>by
   simp only [BM,Dg] at hok
   obtain⟨_,_,rfl,⟨_,rfl,hp⟩,_,_,rfl,⟨_,rfl,hv⟩,_,_,rfl,⟨_,rfl,hr⟩,rfl⟩:=hok
   simp only [fy,qQ] at hle
   obtain⟨p,rfl,h1,h2,h3,h4⟩:=gotPr _ hp (by omega)
   obtain⟨r,rfl,h5,h6⟩:=gotRu _ hr (by omega)
   simp only [fJ,hZ] at hv
   obtain⟨_,_,rfl,⟨a,rfl,_⟩,_,_,rfl,⟨b,rfl,_⟩,rfl⟩:=hv
   exact topLessE h1 h2 h3 h4 h5 h6 a b awake) W (@ctxOK ⟨fun g=>W.heap[g]?⟩) (@fnsOK ⟨fun g=>W.heap[g]?⟩ (tabsK_of (tabs_of hL))) base args ds gs before hval hW hbd
theorem CF:Rows.TopLessUptoSaid :=
 OpenClaim.holds_of_cond 3 Tryz.f3 rfl rfl rfl rfl rfl rfl rfl ⟨rfl,rfl,rfl,rfl,rfl⟩ rfl rfl rfl rfl rfl (by kernel_rfl) Tryz.func3 closed
  (of_decide_eq_true (by kernel_rfl)) (by unfold Func.isWrapper;first|(rw [if_pos (by decide +kernel)];kernel_rfl)|(rw [if_neg (by decide +kernel)];exact⟨rfl,rfl⟩))
  (fun os started H enc _ F=>by rw [OpenClaim.pre_eq_preRow];exact topLess_lifted os started H enc F)
theorem topLessUptoCard:Rows.TopLessUptoCardSaid :=
 Claim7.holds_tied_plain_at .later [] [.data,.data,.data,.data,.pinned] true (true, "70149a74a2db5ecfccb07973f8367d8e39078f0297616d7f513b8135c635c5e8") false CF (fun _ h=>by cases h) k1 (fun _ h=>by cases h) topLessUpto_row_tie rfl ⟨rfl,rfl⟩ k2 rfl
  (fun f fn hf hfn=>by
   obtain rfl:f=3:=Option.some.inj (k5.symm.trans hf) |>.symm
   obtain rfl:fn=Tryz.f3:=(Option.some.inj (Tryz.func3.symm.trans hfn)).symm
   exact⟨k3,fun j t ht=>by
    rw [k6] at ht
    have hm:t∈[47,49,55]:=by simpa using Array.mem_of_getElem? ht
    exact (show Tryz.prog.wantsStandIn t=false by simpa using List.all_eq_true.1 k7 t hm)⟩)
  k4
#print axioms topLessUptoCard
end Go.Proofs.YtkahfcmeeloikaaGreatDoor
