/- Part 2 of the texts behind this claim. -/
import Derived.Test.YtpdacimgcojgnaaGreatDoorZ1
import Derived.Test.YtpdacimgcojgnaaGreatDoorCtxS
import Derived.Test.YtpdacimgcojgnaaGreatDoorEngV
import Derived.Sort.AssemblyPlain
set_option linter.all false

/- The library's sort of ints as a run: what the walks use; insertion sort, heap sort. -/
namespace Go.Eng
open Go.Proofs
set_option linter.unusedSimpArgs false
set_option linter.unusedVariables false
attribute [local irreducible] wpC wpO wp1 EvV EvR wpL
attribute [local go_sem] ty3 ty4 br131 fz27 ty29 br156 fz245 fz261 fz267 beq_iff_eq beq_eq_false_iff_ne Int.natCast_inj Bool.not_eq_false' op1_go wpK_box wpK_alloc wpK_load wpK_store wpK_binOp wpK_unOp wpK_fieldAddr wpK_field wpK_build wpK_indexAddr wpK_slice wpK_len wpK_extract wpK_nilCheck wpK_pick wpK_makeFunc wpK_call wpK_callT wpK_max wpK_min wpK_assignT wpK_moveT wpK_assignB wpK_moveB wpK_assignI wpK_moveI wpK_assignA wpK_moveA callK_fn snapL_nil snapL_cons snap_int snap_bool snap_str snap_tsl snap_agg snap_fn snap_flat adopt_int adopt_bool adopt_str adopt_agg adopt_osl adopt_tsl adopt_tup op1_guard grdK_bool grdK_undef condK_bool someK_some pairK_some nilK_ptr nilK_tptr boxK storeK evalA_tmp evalA_int evalA_bool evalA_agg evalA_fn evalA_nil ofC_int ofC_bool getA_zero getA_succ cells_int cells_agg cells_bool cells_sl cells_tsl cell_int cell_bool cell_str cell_sl cell_esl cell_tsl cell_ptr cell_tptr cell_fn cell_nils cell_nilf List.all_cons List.all_nil Bool.and_true Bool.and_self Bool.true_and putA_some putA_none List.set_cons_zero List.set_cons_succ List.length_cons List.length_nil List.nil_append List.cons_append stabL AV.stab fieldAddrA fieldA List.getElem?_cons_zero List.getElem?_cons_succ Nat.zero_add loadA rowOf Nat.le_refl and_self true_and and_true partA binA unA intBin eqBin eqCells eqCell Option.bind_some decide_true decide_false decide_eq_true_eq ite_not Bool.not_eq_true' decide_eq_false_iff_not Bool.false_eq_true Option.map_some Option.map_none Bool.not_true Bool.not_false buildA fillA patch List.take List.drop List.map_cons List.map_nil extK List.getD_cons_zero List.getD_cons_succ minmaxA minmaxGo adoptZ_false adoptZ_true freeze_int freeze_bool freeze_str freeze_flat freeze_agg freeze_osl freeze_tsl freeze_tup frz1_bool frz1_int frz1_str frz1_agg frz1_osl frz1_tsl bne Bool.false_and Bool.and_false ne_eq not_true_eq_false not_false_eq_true List.append_nil

theorem EvR.left {X : Ctx} {f : FuncId} {args : List AV} {S : Store} {R R' : AV → Store → Prop} (h : EvR X f args S R) (hR : ∀ r S, R r S → R' r S) : EvR X f args S R' := EvR.mono h hR

/- The library's sort of ints as a run: heap sort, reversing, the short insertion sort. -/
open Go.Proofs
attribute [local go_sem] br164 fz268 fz269

/- The library's sort of ints as a run: the short insertion sort. -/
open Go.Proofs
attribute [local go_sem] fz252 fz253 fz254
set_option maxRecDepth 20000
set_option maxHeartbeats 4000000

/- The library's sort of ints as a run: the two partitions. -/
open Go.Proofs
attribute [local go_sem] fz246 fz247 fz248 fz249 fz250 fz251
set_option maxRecDepth 20000
set_option maxHeartbeats 8000000

end Go.Eng
