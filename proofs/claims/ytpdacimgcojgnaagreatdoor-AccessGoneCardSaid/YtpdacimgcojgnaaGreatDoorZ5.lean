/- Part 5 of the texts behind this claim. -/
import Derived.Test.YtpdacimgcojgnaaGreatDoorZ4
import Derived.Test.YtpdacimgcojgnaaGreatDoorRows
import Derived.Test.YtpdacimgcojgnaaGreatDoorCtxS
import Derived.WalkKit
import Derived.ProofKit
import Derived.OpenShut
import Derived.LaidMore
import Derived.Lay
import Derived.Lib.LaidU8T
import Derived.Lib.LaidIn
import Derived.Stop.Joined
import Derived.Test.YtpdacimgcojgnaaGreatDoorEngV
set_option linter.all false

/- Chapter 45: what the laid tables give, and the closings' own small facts. -/
namespace Go.Proofs.YtpdacimgcojgnaaGreatDoor
open Go.ChangeShapes Go.WideShapes Go.ChangeAt Go.RowKit Go.Eng

theorem own:ownKnob Tryz.prog.godebug=none:=by kernel_rfl

theorem bulkOK {H:Type}:BulkOK (H:=H) Rows.uptoBulk Rows.uptoBulkAll where
 nil:=by simp [Rows.uptoBulkAll]
 cons:=fun d r=>by simp [Rows.uptoBulkAll]
 one:=fun d=>by
  cases d with
  | lit l=>cases l<;>simp [Rows.uptoBulk]
  | _=>simp [Rows.uptoBulk]
 str:=fun l=>by simp [Rows.uptoBulk]
 slice:=fun e s=>by simp [Rows.uptoBulk]
 agg:=fun p=>by simp [Rows.uptoBulk]

theorem noHandles:(Rows.accessChecksRow.laid.all fun x=>x.2.handleName?.isNone)=true:=by kernel_rfl

theorem laid_eq:Rows.accessChecksRow.laid = [("unicode/utf8.acceptRanges", Lib.acceptData),("unicode/utf8.first", Lib.firstData)]:=by kernel_rfl
theorem tabs_of {W:World}(h:laidMetH Tryz.prog Rows.accessChecksRow.laid W):Lib.Utf8Tabs (Tryz.laysValid_ren.g 3) (Tryz.laysValid_ren.g 4) W:=by
 rw [MakeChecks.laidMetH_plain _ _ _ noHandles,laid_eq] at h
 exact utf8Tabs_of_readsT (U8Types.of196 Tryz.laysValid) ⟨by kernel_rfl,by kernel_rfl,by kernel_rfl,by kernel_rfl,by kernel_rfl,by kernel_rfl,by kernel_rfl⟩ (Lib.laidMet.reads h (.tail _ (.head _))) (Lib.laidMet.reads h (.head _))

theorem laid_witness (os:Os) (args:Array Value):laidMetH Tryz.prog Rows.accessChecksRow.laid ((World.laidAll Tryz.prog os Rows.accessChecksRow.laid).forCall (fun _ _=>0) ⟨#[],args,[]⟩).memory:=by
 rw [MakeChecks.laidMetH_plain _ _ _ noHandles]
 exact laidMet_laidAll _ (by kernel_rfl) (by kernel_rfl)

end Go.Proofs.YtpdacimgcojgnaaGreatDoor
namespace Go.Eng
open Go.Proofs

theorem psns45:∀ {rows:List (List AV)},(∀ r∈rows,okR [.int .i64,.str,.bool] r)→∃ ps:List Psn,rows=ps.map encP
 | [],_=>⟨[],rfl⟩
 | r::rows,h=>by
  have hr:=h r (by simp)
  simp only [okR,okC] at hr
  obtain⟨_,_,rfl,⟨a,rfl,_⟩,_,_,rfl,⟨s,rfl,_⟩,_,_,rfl,⟨b,rfl⟩,rfl⟩:=hr
  obtain⟨ps,rfl⟩:=psns45 (rows:=rows) fun r hr=>h r (by simp [hr])
  exact⟨⟨a,s,b⟩::ps,rfl⟩
theorem ints45:∀ {rows:List (List AV)},(∀ r∈rows,okR [.int .i64] r)→∃ l:List Int,rows=ints l
 | [],_=>⟨[],rfl⟩
 | r::rows,h=>by
  have hr:=h r (by simp)
  simp only [okR,okC] at hr
  obtain⟨_,_,rfl,⟨a,rfl,_⟩,rfl⟩:=hr
  obtain⟨ps,rfl⟩:=ints45 (rows:=rows) fun r hr=>h r (by simp [hr])
  exact⟨a::ps,rfl⟩
theorem grps45:∀ {rows:List (List AV)},(∀ r∈rows,okR [.int .i64,.str,.sl [.int .i64],.sl [.int .i64]] r)→∃ gs:List Grp,rows=gs.map encG∧(∀ g∈gs,g.ok)∧(∀ g∈gs,g.pv.stab=true∧g.sv.stab=true)
 | [],_=>⟨[],rfl,(fun _ h=>by cases h),(fun _ h=>by cases h)⟩
 | r::rows,h=>by
  have hr:=h r (by simp)
  simp only [okR,okC] at hr
  obtain⟨_,_,rfl,⟨a,rfl,_⟩,_,_,rfl,⟨s,rfl,_⟩,_,_,rfl,⟨r1,rfl,_,k1⟩,_,_,rfl,⟨r2,rfl,_,k2⟩,rfl⟩:=hr
  obtain⟨l1,rfl⟩:=ints45 (rows:=r1) (fun x hx=>by simp only [okR,okC];exact k1 x hx)
  obtain⟨l2,rfl⟩:=ints45 (rows:=r2) (fun x hx=>by simp only [okR,okC];exact k2 x hx)
  obtain⟨gs,rfl,hg,hs⟩:=grps45 (rows:=rows) fun r hr=>h r (by simp [hr])
  refine⟨⟨a,s,l1,l2,.tsl true 1 (ints l1),.tsl true 1 (ints l2)⟩::gs,rfl,fun g hgm=>?_,fun g hgm=>?_⟩
  ·rcases List.mem_cons.1 hgm with rfl|hgm
   ·exact⟨.rows true,.rows true⟩
   ·exact hg g hgm
  ·rcases List.mem_cons.1 hgm with rfl|hgm
   ·exact⟨rfl,rfl⟩
   ·exact hs g hgm
theorem cons45:∀ {rows:List (List AV)},(∀ r∈rows,okR [.int .i64,.int .i64,.int .i64,.int .i64] r)→∃ cs:List Con,rows=cs.map encCn
 | [],_=>⟨[],rfl⟩
 | r::rows,h=>by
  have hr:=h r (by simp)
  simp only [okR,okC] at hr
  obtain⟨_,_,rfl,⟨a,rfl,_⟩,_,_,rfl,⟨b,rfl,_⟩,_,_,rfl,⟨c,rfl,_⟩,_,_,rfl,⟨d,rfl,_⟩,rfl⟩:=hr
  obtain⟨cs,rfl⟩:=cons45 (rows:=rows) fun r hr=>h r (by simp [hr])
  exact⟨⟨a,b,c,d⟩::cs,rfl⟩
theorem rule45 {r:List AV}(hr:okR [.int .i64,.int .i64,.int .i64,.int .i64,.sl [.int .i64],.int .i64] r):∃ x:Ru,r=encRu x∧x.ok:=by
 simp only [okR,okC] at hr
 obtain⟨_,_,rfl,⟨a,rfl,_⟩,_,_,rfl,⟨b,rfl,_⟩,_,_,rfl,⟨c,rfl,_⟩,_,_,rfl,⟨d,rfl,_⟩,_,_,rfl,⟨r1,rfl,_,k1⟩,_,_,rfl,⟨e,rfl,_⟩,rfl⟩:=hr
 obtain⟨l1,rfl⟩:=ints45 (rows:=r1) (fun x hx=>by simp only [okR,okC];exact k1 x hx)
 exact⟨⟨a,(b,c),d,.tsl true 1 (ints l1),l1,e⟩,rfl,.rows true,rfl⟩
theorem rus45:∀ {rows:List (List AV)},(∀ r∈rows,okR [.int .i64,.int .i64,.int .i64,.int .i64,.sl [.int .i64],.int .i64] r)→∃ rs:List Ru,rows=rs.map encRu∧∀ x∈rs,x.ok
 | [],_=>⟨[],rfl,fun _ h=>by cases h⟩
 | r::rows,h=>by
  obtain⟨x,rfl,hx⟩:=rule45 (h r (by simp))
  obtain⟨rs,rfl,hrs⟩:=rus45 (rows:=rows) fun r hr=>h r (by simp [hr])
  exact⟨x::rs,rfl,fun y hy=>by rcases List.mem_cons.1 hy with rfl|hy;exact hx;exact hrs y hy⟩

abbrev caseS:List Shp:=[.sl [.int .i64,.str,.bool],.sl [.int .i64,.str,.sl [.int .i64],.sl [.int .i64]],.sl [.int .i64,.int .i64,.int .i64,.int .i64],.sl [.int .i64,.int .i64,.int .i64,.int .i64,.sl [.int .i64],.int .i64],.int .i64,.str,.int .i64,.int .i64,.sl [.int .i64],.int .i64,.int .i64]

theorem case45 {row:List AV}(h:okR caseS row):∃ (ps:List Psn) (gs:List Grp) (cs:List Con) (rs:List Ru) (r:Rec) (pe day:Int),
  row = [.tsl true 3 (ps.map encP),.tsl true 4 (gs.map encG),.tsl true 4 (cs.map encCn),.tsl true 6 (rs.map encRu),.int .i64 r.id,.str r.name,.int .i64 r.len,.int .i64 r.day,r.sv,.int .i64 pe,.int .i64 day] ∧
   RtV (.tsl true 3 (ps.map encP)) (.tsl true 4 (gs.map encG)) (.tsl true 4 (cs.map encCn)) (.tsl true 6 (rs.map encRu)) ps gs cs rs∧r.ok∧(Lit.int .i64 r.len).wf=true∧(Lit.int .i64 day).wf=true:=by
 simp only [okR,okC] at h
 obtain⟨_,_,rfl,⟨r1,rfl,_,k1⟩,_,_,rfl,⟨r2,rfl,_,k2⟩,_,_,rfl,⟨r3,rfl,_,k3⟩,_,_,rfl,⟨r4,rfl,_,k4⟩,_,_,rfl,⟨a,rfl,_⟩,_,_,rfl,⟨s,rfl,_⟩,_,_,rfl,⟨b,rfl,wb⟩,_,_,rfl,⟨c,rfl,_⟩,_,_,rfl,⟨r5,rfl,_,k5⟩,_,_,rfl,⟨d,rfl,_⟩,_,_,rfl,⟨e,rfl,we⟩,rfl⟩:=h
 obtain⟨ps,rfl⟩:=psns45 (rows:=r1) (fun x hx=>by simp only [okR,okC];exact k1 x hx)
 obtain⟨gs,rfl,g1,g2⟩:=grps45 (rows:=r2) (fun x hx=>by simp only [okR,okC];exact k2 x hx)
 obtain⟨cs,rfl⟩:=cons45 (rows:=r3) (fun x hx=>by simp only [okR,okC];exact k3 x hx)
 obtain⟨rs,rfl,hrs⟩:=rus45 (rows:=r4) (fun x hx=>by simp only [okR,okC];exact k4 x hx)
 obtain⟨sp,rfl⟩:=ints45 (rows:=r5) (fun x hx=>by simp only [okR,okC];exact k5 x hx)
 exact⟨ps,gs,cs,rs,⟨a,s,b,c,.tsl true 1 (ints sp),sp⟩,d,e,rfl,⟨.rows true,.rows true,g1,g2,.rows true,consOf_map cs,.rows true,hrs⟩,⟨.rows true,rfl⟩,wb,we⟩
end Go.Eng

/- Groups: what is below a group. -/
namespace Go.Eng
open Go.Proofs
attribute [local irreducible] wpC wpO wp1 EvV EvR wpL
attribute [local go_sem] ty3 ty4 ty9 ty24 ty29 ty68 ty120 br63 br64 List.all_cons List.all_nil List.replicate List.set_cons_zero Nat.one_mul Nat.reduceMul Nat.zero_mul allocK appK bslA fz46 fz47 fz48 fz49 lenK_esl zcF zbV lenK_tsl rowsFill zcL zcA zbI zcK reduceIte Nat.reduceAdd Nat.reduceEqDiff Nat.reduceLT Nat.reduceLeDiff beq_iff_eq beq_eq_false_iff_ne Int.natCast_inj Bool.not_eq_false' zbD zbx zaE za9 zaw zas za7 zF zaB zaD zE zax zbw zP zH za8 zI zba zaC zbv zbu zL zar zR zaz zQ zay zS zaA za5 zat zae zbd zaG zbc zbb zbe zby zaF zaY zao zaX zaZ zav zaW zaV zaI zaK zaf zac zW z8 zbg zaJ boxK storeK zaq zaM zam zaN zbm zau zbz zbf zX zaa zaP zaQ zan zbn zaO zbr zaU zbp zbA zbs zbo zbq zaR zbC zaS zaT List.all_cons List.all_nil Bool.and_true Bool.and_self Bool.true_and z7 zaH List.set_cons_zero List.set_cons_succ List.length_cons List.length_nil List.nil_append List.cons_append stabL AV.stab fieldAddrA fieldA List.getElem?_cons_zero List.getElem?_cons_succ Nat.zero_add loadA rowOf Nat.le_refl and_self true_and and_true partA binA unA intBin eqBin eqCells eqCell Option.bind_some decide_true decide_false decide_eq_true_eq ite_not Bool.not_eq_true' decide_eq_false_iff_not Bool.false_eq_true Option.map_some Option.map_none Bool.not_true Bool.not_false buildA fillA patch List.take List.drop List.map_cons List.map_nil extK List.getD_cons_zero List.getD_cons_succ minmaxA minmaxGo zJ zV zak zU zai zT zal zaj zah zag zaL zbk zbi zbl zbj zbh bne Bool.false_and Bool.and_false ne_eq not_true_eq_false not_false_eq_true List.append_nil resultsR resultsL resultA za3 zap za2 za4 za0 za1 zZ zbK zad zO zD zbB
set_option maxHeartbeats 4000000

def noG:Grp:=⟨0,.empty,[],[],.flat (.slice none 0 0),.flat (.slice none 0 0)⟩
def fnd (gs:List Grp) (n:Int):Grp:=(gFind gs n).getD noG
def isG (gs:List Grp) (n:Int):Bool:=(gFind gs n).isSome

structure GsOK (v:AV) (gs:List Grp):Prop where
 sl:SLs 4 (gs.map encG) v
 ok:∀ g∈gs,g.ok
 st:∀ g∈gs,g.pv.stab=true∧g.sv.stab=true
 len:gs.length≤1000
 subs:∀ g∈gs,g.subs.length≤1000
 ppl:∀ g∈gs,g.people.length≤1000

theorem gFind_mem {gs:List Grp}{n:Int}{g:Grp}(h:gFind gs n=some g):g∈gs:=List.mem_of_find?_eq_some h
theorem zcN (gs:List Grp) (n:Int):(isG gs n=false∧fnd gs n=noG)∨(isG gs n=true∧gFind gs n=some (fnd gs n)∧fnd gs n∈gs):=by
 unfold isG fnd
 cases h:gFind gs n with
 | none=>exact .inl ⟨rfl,rfl⟩
 | some g=>exact .inr ⟨rfl,rfl,gFind_mem h⟩
theorem fnd_ok {v:AV}{gs:List Grp}(h:GsOK v gs) (n:Int):(fnd gs n).ok:=by
 rcases zcN gs n with ⟨_,e⟩|⟨_,_,e⟩
 ·rw [e];exact⟨.nil rfl,.nil rfl⟩
 ·exact h.ok _ e
theorem fnd_len {v:AV}{gs:List Grp}(h:GsOK v gs) (n:Int):(fnd gs n).subs.length≤1000:=by
 rcases zcN gs n with ⟨_,e⟩|⟨_,_,e⟩
 ·rw [e];simp [noG]
 ·exact h.subs _ e
theorem fnd_ppl {v:AV}{gs:List Grp}(h:GsOK v gs) (n:Int):(fnd gs n).people.length≤1000:=by
 rcases zcN gs n with ⟨_,e⟩|⟨_,_,e⟩
 ·rw [e];simp [noG]
 ·exact h.ppl _ e
theorem findU {v:AV}{gs:List Grp}(h:GsOK v gs) (n:Int):EvV CX 63 [v,.int .i64 n] (· = .tup [.agg (encG (fnd gs n)),.bool (isG gs n)]):=by
 have q:=findE v gs n h.sl h.ok h.st (by have:=h.len;omega)
 refine q.mono fun r hr=>?_
 subst hr
 unfold fnd isG
 cases gFind gs n<;>rfl
theorem zbL {id:Nat}{cs:List AV}{b:Bool}:adoptA id (.tup [.agg cs,.bool b])=(.tup [.agg cs,.bool b],[]):=rfl

inductive Rch (gs:List Grp) (n:Int):Int→Prop
 | one {s:Int}(h:s∈(fnd gs n).subs) (hg:isG gs s=true):Rch gs n s
 | step {y s:Int}(hy:Rch gs n y) (h:s∈(fnd gs y).subs) (hg:isG gs s=true):Rch gs n s
theorem Rch.trans {gs:List Grp}{n x y:Int}(h:Rch gs n x) (h':Rch gs x y):Rch gs n y:=by
 induction h' with
 | one h1 hg=>exact .step h h1 hg
 | step _ h1 hg ih=>exact .step ih h1 hg

structure MOk (gs:List Grp) (m:List Int):Prop where
 nd:m.Nodup
 mem:∀ x∈m,isG gs x=true
theorem nodup_len:∀ {l k:List Int},l.Nodup→(∀ x∈l,x∈k)→l.length≤k.length
 | [],k,_,_=>Nat.zero_le _
 | x::l,k,h,hs=>by
  have hx:=hs x (by simp)
  have hn:=List.nodup_cons.mp h
  have:=nodup_len (l:=l) (k:=k.erase x) hn.2 fun y hy=>(List.mem_erase_of_ne (by rintro rfl;exact hn.1 hy)).mpr (hs y (by simp [hy]))
  have e:=List.length_erase_of_mem hx
  have:=List.length_pos_of_mem hx
  simp only [List.length_cons]
  omega
theorem MOk.len {gs:List Grp}{m:List Int}(h:MOk gs m):m.length≤gs.length:=by
 have:m.length≤(gs.map (·.id)).length:=by
  refine nodup_len h.nd fun x hx=>?_
  have:=h.mem x hx
  rcases zcN gs x with ⟨e,_⟩|⟨_,e,e'⟩
  ·rw [e] at this;cases this
  ·refine List.mem_map.mpr ⟨_,e',?_⟩
   have:=List.find?_some e
   simpa using this
 simpa using this

def visV:AV := .fn 98 [.ptr 0 1 1 0 0,.ptr 2 1 1 0 0,.ptr 3 1 1 0 0]
inductive StM (v:AV):List Int→Store→Prop
 | nil (w0 w w2:Nat) (b0 b b2:Bool) (X:Blk) (T:Store) (h0:w0≤1) (h:w≤1) (h2:w2≤1):StM v [] (.arr [[v]] 1 w0 b0::X :: .arr [[.flat (.slice none 0 0)]] 1 w b :: .arr [[visV]] 1 w2 b2::T)
 | cons (w0 w w2:Nat) (b0 b b2:Bool) (x:Int) (m:List Int) (X:Blk) (T T':Store) (h0:w0≤1) (h:w≤1) (h2:w2≤1):StM v (x::m) (.arr [[v]] 1 w0 b0::X :: .arr [[.sl (T.length+4) (m.length+1) 0 (m.length+1) 1]] 1 w b :: .arr [[visV]] 1 w2 b2::(T ++ .arr (ints (x::m)) 1 0 true::T'))

theorem StM.get0 {v:AV}{m:List Int}{S:Store}(h:StM v m S):∃ w b,w≤1∧S[0]? = some (.arr [[v]] 1 w b):=by
 cases h with
 | nil w0 w w2 b0 b b2 X T h0 h h2=>exact⟨w0,b0,h0,rfl⟩
 | cons w0 w w2 b0 b b2 x m X T T' h0 h h2=>exact⟨w0,b0,h0,rfl⟩
theorem StM.app {v:AV}{m:List Int}{S:Store}(h:StM v m S) (G:Store):StM v m (S++G):=by
 cases h with
 | nil w0 w w2 b0 b b2 X T h0 h h2=>exact .nil w0 w w2 b0 b b2 X (T++G) h0 h h2
 | cons w0 w w2 b0 b b2 x m X T T' h0 h h2=>
  have:=StM.cons (v:=v) w0 w w2 b0 b b2 x m X T (T'++G) h0 h h2
  simpa only [List.cons_append,List.append_assoc] using this

theorem StM.snoc {v:AV}{w0 w w2:Nat}{b0 b b2:Bool}{y x:Int}{m:List Int}{X:Blk}{T T':Store}(h0:w0≤1) (h:w≤1) (h2:w2≤1) :
  StM v ((y::m)++[x]) (.arr [[v]] 1 w0 b0::X :: .arr [[.sl (T.length+4) (m.length+1+1) 0 (m.length+1+1) 1]] 1 w b :: .arr [[visV]] 1 w2 b2::(T ++ .arr (ints (y::m)++[[.int .i64 x]]) 1 0 true::T')):=by
 have:=StM.cons (v:=v) w0 w w2 b0 b b2 y (m++[x]) X T T' h0 h h2
 rw [zn] at this
 have e:ints (y::m)++[[.int .i64 x]]=ints (y::(m++[x])):=by simp [ints]
 rw [e];exact this
theorem StM.snoc0 {v:AV}{w0 w w2 i:Nat}{b0 b b2:Bool}{x:Int}{X:Blk}{T:Store}{g t:Blk}(h0:w0≤1) (h:w≤1) (h2:w2≤1) (hi:i=T.length+6) :
  StM v ([]++[x]) (.arr [[v]] 1 w0 b0::X :: .arr [[.sl i 1 0 1 1]] 1 w b :: .arr [[visV]] 1 w2 b2::(T++[g,t,.arr [[.int .i64 x]] 1 0 true])):=by
 subst hi
 have:=StM.cons (v:=v) w0 w w2 b0 b b2 x [] X (T++[g,t]) [] h0 h h2
 simp only [List.length_append,List.length_cons,List.length_nil,List.append_assoc,List.cons_append,List.nil_append] at this
 exact this

structure VR (gs:List Grp) (l:List Int) (n:Int) (m m':List Int):Prop where
 ex:∃ new,m'=m++new∧(∀ x∈new,Rch gs n x)∧∀ x∈new,∀ s∈(fnd gs x).subs,isG gs s=true→s∈m'
 ok:MOk gs m'
 top:∀ s∈l,isG gs s=true→s∈m'

theorem VR.skip {gs:List Grp}{l:List Int}{n:Int}{m m':List Int}(h:VR gs l n m m'){x:Int}(hx:isG gs x=true→x∈m'):VR gs (l++[x]) n m m' :=
 ⟨h.ex,h.ok,fun s hs hg=>by
  rcases List.mem_append.mp hs with h1|h1
  ·exact h.top s h1 hg
  ·have:=List.mem_singleton.mp h1;subst this;exact hx hg⟩
theorem VR.put {gs:List Grp}{l:List Int}{n:Int}{m m' m3:List Int}(h:VR gs l n m m'){x:Int}(hs:x∈(fnd gs n).subs) (hg:isG gs x=true) (h':VR gs (fnd gs x).subs x (m'++[x]) m3):VR gs (l++[x]) n m m3:=by
 obtain⟨new,e1,r1,c1⟩:=h.ex
 obtain⟨new2,e2,r2,c2⟩:=h'.ex
 have hx:x∈m3:=by rw [e2];simp
 have hm:∀ y∈m',y∈m3:=fun y hy=>by rw [e2];simp [hy]
 refine⟨⟨new++x::new2,by rw [e2,e1];simp,?_,?_⟩,h'.ok,?_⟩
 ·intro y hy
  rcases List.mem_append.mp hy with h1|h1
  ·exact r1 y h1
  rcases List.mem_cons.mp h1 with h1|h1
  ·subst h1;exact .one hs hg
  ·exact Rch.trans (.one hs hg) (r2 y h1)
 ·intro y hy s h2 h3
  rcases List.mem_append.mp hy with h1|h1
  ·exact hm _ (c1 y h1 s h2 h3)
  rcases List.mem_cons.mp h1 with h1|h1
  ·subst h1;exact h'.top s h2 h3
  ·exact c2 y h1 s h2 h3
 ·intro s h1 h2
  rcases List.mem_append.mp h1 with h1|h1
  ·exact hm _ (h.top s h1 h2)
  ·have:=List.mem_singleton.mp h1;subst this;exact hx
theorem MOk.put {gs:List Grp}{m:List Int}(h:MOk gs m){x:Int}(hx:x∉m) (hg:isG gs x=true):MOk gs (m++[x]):=by
 refine⟨?_,fun y hy=>?_⟩
 ·rw [List.nodup_append]
  refine⟨h.nd,by simp,fun a ha b hb=>?_⟩
  have:=List.mem_singleton.mp hb;subst this
  intro e;subst e;exact hx ha
 ·rcases List.mem_append.mp hy with h1|h1
  ·exact h.mem y h1
  ·have:=List.mem_singleton.mp h1;subst this;exact hg

theorem visitE {v:AV}{gs:List Grp}(h:GsOK v gs):∀ (k:Nat) (n:Int) (m:List Int) (S:Store),gs.length≤m.length+k→MOk gs m→StM v m S →
  EvR CX 98 [.int .i64 n,.ptr 0 1 1 0 0,.ptr 2 1 1 0 0,.ptr 3 1 1 0 0] S (fun r S'=>r = .tup []∧∃ m',StM v m' S'∧VR gs (fnd gs n).subs n m m'):=by
 intro k
 induction k using Nat.strongRecOn with
 | _ k ih=>
 intro n m S hk hm hS
 have q:=(findU h n).rw
 have hv:=h.sl.cell
 have hvs:=fun S=>h.sl.snap (S:=S)
 have g0:=fnd_ok h n
 have p1:=g0.pv.cell
 have p2:=g0.sv.cell
 have hl:=fnd_len h n
 have f0:=hS.get0
 obtain⟨w0,b0,hw0,f0⟩:=f0
 refine EvR.walk rfl fn98 rfl nt98 rfl ?_
 simp only [List.length_cons,List.length_nil,List.cons_append,List.nil_append,Nat.reduceAdd,Nat.reduceSub,List.replicate]
 repeat' (first|refine go1 ?_|refine za rfl ?_|(refine zt fun A B a b=>?_;simp only [go_sem, *,zr ty29 rfl,zh ty29 rfl,zbL,encG,zA g0.sv,zb,ze,zm,zp,zj,zc,List.length_map,zK];(repeat' first|apply a.1|refine iteI (fun h=>?_) fun h=>?_)<;>clear a b A B))
 clear q f0
 refine zN [8,9,10,21,22,23,24,25,26,27,28,29,30,31,32,33,34,35,36,37,38,39,40,41,42,43,44] (fun p:List Int×List Int×List Int×Store=>[(20,.int .i64 p.1.length)]) (fun p _=>p.2.2.2)
  (fun p=>(fnd gs n).subs=p.1++p.2.1∧StM v p.2.2.1 p.2.2.2∧VR gs p.1 n m p.2.2.1) (fun p=>p.2.1.length) ([],(fnd gs n).subs,m,_) ⟨rfl,hS.app _,⟨[],by simp,by simp,by simp⟩,hm,by simp⟩ ?_ ⟨[],rfl⟩ ?_
 ·rfl
 rintro⟨pre,post,m1,S1⟩ g G ⟨h1,h2,h3⟩
 simp only at h1 h2 h3
 simp only [zo,zq,zd,zf,List.set_cons_zero,List.set_cons_succ]
 have l0:=h3.ok.len
 have l1:m.length≤m1.length:=by obtain⟨nw,e,_⟩:=h3.ex;rw [e];simp
 have hgl:=h.len
 cases post with
 | nil=>
  rw [List.append_nil] at h1
  have e:((fnd gs n).subs.length:Int)=(pre.length:Int):=by rw [h1]
  have hh:Hold ((fnd gs n).subs=pre):=⟨h1⟩
  clear h1
  repeat' (first|refine go1 ?_|refine za rfl ?_|(refine go2 fun A B a b=>?_;simp only [go_sem, *,zr ty29 rfl,zh ty29 rfl,zc,List.length_map,Int.lt_irrefl];(repeat' first|apply a.1|apply b.1|refine iteI (fun h=>?_) fun h=>?_)<;>clear a b A B))
  simp only [go_sem,zr ty29 rfl,zh ty29 rfl]
  refine⟨m1,h2,?_⟩
  rw [hh.out];exact h3
 | cons x post=>
  have i1:=zbE g0.sv (X:=CX) ty29 ty3 rfl (by rw [h1];exact zb8 pre x post) (k := .i64)
  have lt1:(pre.length:Int)<((fnd gs n).subs.length:Int):=by rw [h1];simp;omega
  have w1:=zB (n:=pre.length) (by rw [h1] at hl;simp at hl;omega)
  have q:=(findU h x).rw
  have g1:=fnd_ok h x
  have c1:=g1.pv.cell
  have c2:=g1.sv.cell
  have hxs:x∈(fnd gs n).subs:=by rw [h1];simp
  have hh:Hold ((fnd gs n).subs=(pre++[x])++post):=⟨by rw [h1];simp⟩
  clear h1
  by_cases hg:isG gs x=true
  ·rw [hg] at q
   have hhg:Hold (isG gs x=true):=⟨hg⟩
   clear hg
   cases h2 with
   | nil w0 w w2 b0 b b2 X T h0 hw h2=>
    have qh:=(hasN (.flat (.slice none 0 0)) [] x (.nil rfl) (by simp)).rw
    have ec:([]:List Int).contains x=false:=rfl
    rw [ec] at qh
    repeat' (first|refine go1 ?_|refine za rfl ?_|(refine zt fun A B a b=>?_;simp only [go_sem, *,zr ty29 rfl,zh ty29 rfl,zbL,encG,zb,ze,zm,zp,zj,zc,List.length_map,zK,List.append_assoc,zab,zC,List.take_length,Nat.zero_le,Bool.true_or];(repeat' first|apply a.1|refine iteI (fun h=>?_) fun h=>?_)<;>clear a b A B))
    (refine zY fun A B hA hB=>?_;simp only [go_sem, *,zr ty29 rfl,zh ty29 rfl,zb,ze,zm,zp,zj,zc,List.length_map,zK];first|(refine hA.out ?_;clear hA hB A B)|(refine hB.out ?_;clear hA hB A B))
    repeat' (first|refine go1 ?_|refine za rfl ?_|(refine zt fun A B a b=>?_;simp only [go_sem, *,zr ty29 rfl,zh ty29 rfl,zbL,encG,zb,ze,zm,zp,zj,zc,List.length_map,zK,List.append_assoc,zab,zC,List.take_length,Nat.zero_le,Bool.true_or];(repeat' first|apply a.1|refine iteI (fun h=>?_) fun h=>?_)<;>clear a b A B))
    (refine zY fun A B hA hB=>?_;simp only [go_sem, *,zr ty29 rfl,zh ty29 rfl,zb,ze,zm,zp,zj,zc,List.length_map,zK];first|(refine hA.out ?_;clear hA hB A B)|(refine hB.out ?_;clear hA hB A B))
    repeat' (first|refine go1 ?_|refine za rfl ?_|(refine zt fun A B a b=>?_;simp only [go_sem, *,zr ty29 rfl,zh ty29 rfl,zbL,encG,zb,ze,zm,zp,zj,zc,List.length_map,zK,List.append_assoc,zab,zC,List.take_length,Nat.zero_le,Bool.true_or];(repeat' first|apply a.1|refine iteI (fun h=>?_) fun h=>?_)<;>clear a b A B))
    simp only [List.length_nil] at l1
    have lm:=(h3.ok.put (x:=x) (by simp) hhg.out).len
    simp only [List.length_append,List.length_cons,List.length_nil] at lm
    refine zG fun K hK=>?_
    simp only [go_sem,visV,zr ty29 rfl,zh ty29 rfl]
    refine EvR.mono (ih (k-1) (by omega) x ([]++[x]) _ (by simp;omega) (h3.ok.put (x:=x) (by simp) hhg.out) (.snoc0 (i:=T.length+6) h0 (Nat.le_refl _) h2 rfl)) ?_
    rintro r S2 ⟨rfl,m3,s3,v3⟩
    refine hK.out _ _ ?_
    clear hK K
    repeat' (first|refine go1 ?_|refine za rfl ?_|(refine go2 fun A B a b=>?_;simp only [go_sem, *,zr ty29 rfl,zh ty29 rfl,zbL];(repeat' first|apply a.1|apply b.1|refine iteI (fun h=>?_) fun h=>?_)<;>clear a b A B))
    refine zy (pre++[x],post,m3,_) (Nat.lt_succ_self _) ⟨hh.out,s3,h3.put hxs hhg.out v3⟩ ?_ ⟨[],rfl⟩
    ·((try simp only [zg,zi,zd,zf,List.set_cons_zero,List.set_cons_succ]);all_goals (first|rfl|(simp only [zn,zj,zc,List.length_map,List.length_append,List.length_cons,List.length_nil,Nat.zero_add];first|done|rfl)))
   | cons w0 w w2 b0 b b2 y m X T T' h0 hw h2=>
    have qh:=(hasN (.tsl false 1 (ints (y::m))) (y::m) x (.rows false) (by omega)).rw
    by_cases hc:(y::m).contains x=true
    ·rw [hc] at qh
     have hhc:Hold ((y::m).contains x=true):=⟨hc⟩
     clear hc
     repeat' (first|refine go1 ?_|refine za rfl ?_|(refine go2 fun A B a b=>?_;simp only [go_sem, *,zr ty29 rfl,zh ty29 rfl,zbL,encG,zb,ze,zm,zp,zj,zc,List.length_map,zK,List.append_assoc,zab,zC,List.take_length,Nat.zero_le,Bool.true_or];(repeat' first|apply a.1|apply b.1|refine iteI (fun h=>?_) fun h=>?_)<;>clear a b A B))
     refine zy (pre++[x],post,y::m,_) (Nat.lt_succ_self _) ⟨hh.out,.cons _ _ _ _ _ _ y m _ T _ h0 hw h2,h3.skip (fun _=>by simpa using hhc.out)⟩ ?_ ⟨[],rfl⟩
     ·((try simp only [zg,zi,zd,zf,List.set_cons_zero,List.set_cons_succ]);all_goals (first|rfl|(simp only [zn,zj,zc,List.length_map,List.length_append,List.length_cons,List.length_nil,Nat.zero_add];first|done|rfl)))
    ·have hc:(y::m).contains x=false:=by simpa using hc
     rw [hc] at qh
     have hhc:Hold ((y::m).contains x=false):=⟨hc⟩
     clear hc
     simp only [List.length_cons] at l0
     obtain⟨a1,a2⟩:=app1 (n:=m.length+1) (by omega)
     have a3:(ints (y::m)).length=m.length+1:=by rw [zc];rfl
     repeat' (first|refine go1 ?_|refine za rfl ?_|(refine zt fun A B a b=>?_;simp only [go_sem, *,zr ty29 rfl,zh ty29 rfl,zbL,encG,zb,ze,zm,zp,zj,zc,List.length_map,zK,List.append_assoc,zab,zC,List.take_length,Nat.zero_le,Bool.true_or];(repeat' first|apply a.1|refine iteI (fun h=>?_) fun h=>?_)<;>clear a b A B))
     (refine zY fun A B hA hB=>?_;simp only [go_sem, *,zr ty29 rfl,zh ty29 rfl,zb,ze,zm,zp,zj,zc,List.length_map,zK];first|(refine hA.out ?_;clear hA hB A B)|(refine hB.out ?_;clear hA hB A B))
     repeat' (first|refine go1 ?_|refine za rfl ?_|(refine zt fun A B a b=>?_;simp only [go_sem, *,zr ty29 rfl,zh ty29 rfl,zbL,encG,zb,ze,zm,zp,zj,zc,List.length_map,zK,List.append_assoc,zab,zC,List.take_length,Nat.zero_le,Bool.true_or];(repeat' first|apply a.1|refine iteI (fun h=>?_) fun h=>?_)<;>clear a b A B))
     (refine zY fun A B hA hB=>?_;simp only [go_sem, *,zr ty29 rfl,zh ty29 rfl,zb,ze,zm,zp,zj,zc,List.length_map,zK];first|(refine hA.out ?_;clear hA hB A B)|(refine hB.out ?_;clear hA hB A B))
     repeat' (first|refine go1 ?_|refine za rfl ?_|(refine zt fun A B a b=>?_;simp only [go_sem, *,zr ty29 rfl,zh ty29 rfl,zbL,encG,zb,ze,zm,zp,zj,zc,List.length_map,zK,List.append_assoc,zab,zC,List.take_length,Nat.zero_le,Bool.true_or];(repeat' first|apply a.1|refine iteI (fun h=>?_) fun h=>?_)<;>clear a b A B))
     simp only [List.length_cons] at l1
     have lm:=(h3.ok.put (x:=x) (by simpa using hhc.out) hhg.out).len
     simp only [List.length_append,List.length_cons,List.length_nil] at lm
     refine zG fun K hK=>?_
     simp only [go_sem,visV,zr ty29 rfl,zh ty29 rfl]
     refine EvR.mono (ih (k-1) (by omega) x ((y::m)++[x]) _ (by simp;omega) (h3.ok.put (x:=x) (by simpa using hhc.out) hhg.out) (.snoc h0 (Nat.le_refl _) h2)) ?_
     rintro r S2 ⟨rfl,m3,s3,v3⟩
     refine hK.out _ _ ?_
     clear hK K
     repeat' (first|refine go1 ?_|refine za rfl ?_|(refine go2 fun A B a b=>?_;simp only [go_sem, *,zr ty29 rfl,zh ty29 rfl,zbL];(repeat' first|apply a.1|apply b.1|refine iteI (fun h=>?_) fun h=>?_)<;>clear a b A B))
     refine zy (pre++[x],post,m3,_) (Nat.lt_succ_self _) ⟨hh.out,s3,h3.put hxs hhg.out v3⟩ ?_ ⟨[],rfl⟩
     ·((try simp only [zg,zi,zd,zf,List.set_cons_zero,List.set_cons_succ]);all_goals (first|rfl|(simp only [zn,zj,zc,List.length_map,List.length_append,List.length_cons,List.length_nil,Nat.zero_add];first|done|rfl)))
  ·have hg:isG gs x=false:=by simpa using hg
   rw [hg] at q
   have hhg:Hold (isG gs x=false):=⟨hg⟩
   clear hg
   obtain⟨w9,b9,hw9,f0⟩:=h2.get0
   repeat' (first|refine go1 ?_|refine za rfl ?_|(refine go2 fun A B a b=>?_;simp only [go_sem, *,zr ty29 rfl,zh ty29 rfl,zbL,encG,zb,ze,zm,zp,zj,zc,List.length_map,zK];(repeat' first|apply a.1|apply b.1|refine iteI (fun h=>?_) fun h=>?_)<;>clear a b A B))
   refine zy (pre++[x],post,m1,_) (Nat.lt_succ_self _) ⟨hh.out,h2.app _,h3.skip (fun e=>by rw [hhg.out] at e;cases e)⟩ ?_ ⟨[],rfl⟩
   ·((try simp only [zg,zi,zd,zf,List.set_cons_zero,List.set_cons_succ]);all_goals (first|rfl|(simp only [zn,zj,zc,List.length_map,List.length_append,List.length_cons,List.length_nil,Nat.zero_add];first|done|rfl)))

/- Groups: Below, Members, In, Of. -/
open Go.Proofs
attribute [local go_sem] br52 br98 fz50 fz51 nilsK br65 fz34 fz35 fz36
set_option maxHeartbeats 4000000

open Classical in
noncomputable def below (gs:List Grp) (n:Int):List Int:=sorted ((gs.map (·.id)).filter fun x=>decide (Rch gs n x))

theorem isG_mem {gs:List Grp}{n:Int}:isG gs n=true↔n∈gs.map (·.id):=by
 unfold isG gFind
 rw [List.find?_isSome]
 simp
theorem Rch.isG {gs:List Grp}{n x:Int}(h:Rch gs n x):isG gs x=true:=by cases h<;>assumption
theorem mem_below {gs:List Grp}{n x:Int}:x∈below gs n↔Rch gs n x:=by
 unfold below
 rw [zb9,List.mem_filter]
 constructor
 ·intro h;simpa using h.2
 ·intro h;exact⟨isG_mem.mp h.isG,by simpa using h⟩
theorem below_up (gs:List Grp) (n:Int):UpL (below gs n):=zcw _
theorem below_len (gs:List Grp) (n:Int):(below gs n).length≤gs.length:=by
 refine Nat.le_trans (sorted_len _) (Nat.le_trans (List.length_filter_le _ _) (by simp))
theorem below_vr {gs:List Grp}{n:Int}{m:List Int}(h:VR gs (fnd gs n).subs n [] m):sorted m=below gs n:=by
 refine up_unique (zcw _) (below_up gs n) fun x=>?_
 rw [zb9,mem_below]
 obtain⟨new,e,r,c⟩:=h.ex
 simp only [List.nil_append] at e
 subst e
 refine⟨r x,fun hx=>?_⟩
 induction hx with
 | one h1 hg=>exact h.top _ h1 hg
 | step _ h1 hg ih=>exact c _ ih _ h1 hg

theorem belowE {v:AV}{gs:List Grp}(h:GsOK v gs) (n:Int):∃ r,OutI (below gs n) r∧EvV CX 65 [v,.int .i64 n] (· = r):=by
 have hv:=h.sl.cell
 have hcl:v.cells = [v]:=by have:=h.sl;cases this<;>rfl
 have hm:MOk gs []:=⟨by simp,by simp⟩
 suffices hs:EvV CX 65 [v,.int .i64 n] (OutI (below gs n)) by
  exact hs.ex
 refine EvV.walk rfl fn65 rfl nt65 rfl ?_
 simp only [List.length_cons,List.length_nil,List.cons_append,List.nil_append,Nat.reduceAdd,Nat.reduceSub,List.replicate]
 repeat' (first|refine go1 ?_|refine za rfl ?_|(refine zt fun A B a b=>?_;simp only [go_sem, *,zk ty29 rfl,cells_fn];(repeat' first|apply a.1|refine iteI (fun h=>?_) fun h=>?_)<;>clear a b A B))
 refine zG fun K hK=>?_
 simp only [go_sem,zk ty29 rfl]
 refine EvR.mono (visitE h gs.length n [] _ (by simp) hm (.nil _ _ _ _ _ _ _ [] (Nat.zero_le _) (Nat.zero_le _) (Nat.le_refl _))) ?_
 rintro _ S' ⟨rfl,m,sm,vm⟩
 refine hK.out _ _ ?_
 clear hK K
 have hml:=vm.ok.len
 have hgl:=h.len
 cases sm with
 | nil w0 w w2 b0 b b2 X T h0 hw h2=>
  obtain⟨r,hr,hq⟩:=sortedE (.flat (.slice none 0 0)) [] (.nil rfl) (by simp)
  have q:=hq.rw
  rw [below_vr vm] at hr
  clear hq
  cases hr with
  | own=>
   repeat' (first|refine go1 ?_|refine za rfl ?_|(refine zt fun A B a b=>?_;simp only [go_sem, *,zk ty29 rfl,zb,ze,zm,zp,zj,zc,List.length_map,zK,List.append_assoc,zab,zC,List.take_length,Nat.zero_le,Bool.true_or,za6,zbP];(repeat' first|apply a.1|refine iteI (fun h=>?_) fun h=>?_)<;>clear a b A B))
   simp only [go_sem,zk ty29 rfl,q,zb,ze,zm,zp,zj,zc,List.length_map,zK,List.append_assoc,zab,zC,List.take_length,Nat.zero_le,Bool.true_or,za6,zbP]
   exact .own
  | part=>
   repeat' (first|refine go1 ?_|refine za rfl ?_|(refine zt fun A B a b=>?_;simp only [go_sem, *,zk ty29 rfl,zb,ze,zm,zp,zj,zc,List.length_map,zK,List.append_assoc,zab,zC,List.take_length,Nat.zero_le,Bool.true_or,za6,zbP];(repeat' first|apply a.1|refine iteI (fun h=>?_) fun h=>?_)<;>clear a b A B))
   simp only [go_sem,zk ty29 rfl,q,zb,ze,zm,zp,zj,zc,List.length_map,zK,List.append_assoc,zab,zC,List.take_length,Nat.zero_le,Bool.true_or,za6,zbP]
   exact .part
  | nil hl=>
   repeat' (first|refine go1 ?_|refine za rfl ?_|(refine zt fun A B a b=>?_;simp only [go_sem, *,zk ty29 rfl,zb,ze,zm,zp,zj,zc,List.length_map,zK,List.append_assoc,zab,zC,List.take_length,Nat.zero_le,Bool.true_or,za6,zbP];(repeat' first|apply a.1|refine iteI (fun h=>?_) fun h=>?_)<;>clear a b A B))
   simp only [go_sem,zk ty29 rfl,q,zb,ze,zm,zp,zj,zc,List.length_map,zK,List.append_assoc,zab,zC,List.take_length,Nat.zero_le,Bool.true_or,za6,zbP]
   exact .nil hl
 | cons w0 w w2 b0 b b2 y m X T T' h0 hw h2=>
  obtain⟨r,hr,hq⟩:=sortedE (.tsl false 1 (ints (y::m))) (y::m) (.rows false) (by omega)
  have q:=hq.rw
  rw [below_vr vm] at hr
  clear hq
  cases hr with
  | own=>
   repeat' (first|refine go1 ?_|refine za rfl ?_|(refine zt fun A B a b=>?_;simp only [go_sem, *,zk ty29 rfl,zb,ze,zm,zp,zj,zc,List.length_map,zK,List.append_assoc,zab,zC,List.take_length,Nat.zero_le,Bool.true_or,za6,zbP];(repeat' first|apply a.1|refine iteI (fun h=>?_) fun h=>?_)<;>clear a b A B))
   simp only [go_sem,zk ty29 rfl,q,zb,ze,zm,zp,zj,zc,List.length_map,zK,List.append_assoc,zab,zC,List.take_length,Nat.zero_le,Bool.true_or,za6,zbP]
   exact .own
  | part=>
   repeat' (first|refine go1 ?_|refine za rfl ?_|(refine zt fun A B a b=>?_;simp only [go_sem, *,zk ty29 rfl,zb,ze,zm,zp,zj,zc,List.length_map,zK,List.append_assoc,zab,zC,List.take_length,Nat.zero_le,Bool.true_or,za6,zbP];(repeat' first|apply a.1|refine iteI (fun h=>?_) fun h=>?_)<;>clear a b A B))
   simp only [go_sem,zk ty29 rfl,q,zb,ze,zm,zp,zj,zc,List.length_map,zK,List.append_assoc,zab,zC,List.take_length,Nat.zero_le,Bool.true_or,za6,zbP]
   exact .part
  | nil hl=>
   repeat' (first|refine go1 ?_|refine za rfl ?_|(refine zt fun A B a b=>?_;simp only [go_sem, *,zk ty29 rfl,zb,ze,zm,zp,zj,zc,List.length_map,zK,List.append_assoc,zab,zC,List.take_length,Nat.zero_le,Bool.true_or,za6,zbP];(repeat' first|apply a.1|refine iteI (fun h=>?_) fun h=>?_)<;>clear a b A B))
   simp only [go_sem,zk ty29 rfl,q,zb,ze,zm,zp,zj,zc,List.length_map,zK,List.append_assoc,zab,zC,List.take_length,Nat.zero_le,Bool.true_or,za6,zbP]
   exact .nil hl

def pplOf (gs:List Grp) (l:List Int):List Int:=l.flatMap fun x=>(fnd gs x).people
noncomputable def members (gs:List Grp) (n:Int):List Int:=sorted (pplOf gs (n::below gs n))
theorem pplOf_snoc (gs:List Grp) (l:List Int) (x:Int):pplOf gs (l++[x])=pplOf gs l++(fnd gs x).people:=by simp [pplOf]
theorem pplOf_len {v:AV}{gs:List Grp}(h:GsOK v gs):∀ l:List Int,(pplOf gs l).length≤l.length*1000
 | []=>by simp [pplOf]
 | x::l=>by
  have:=pplOf_len h l
  have:=fnd_ppl h x
  simp only [pplOf,List.flatMap_cons,List.length_append,List.length_cons] at *
  omega

theorem membersE {v:AV}{gs:List Grp}(h:GsOK v gs) (n:Int):∃ r,OutI (members gs n) r∧EvV CX 139 [v,.int .i64 n] (· = r):=by
 suffices hs:EvV CX 139 [v,.int .i64 n] (OutI (members gs n)) by
  exact hs.ex
 have hv:=h.sl.cell
 have hvs:=fun S=>h.sl.snap (S:=S)
 obtain⟨r,hr,hq⟩:=belowE h n
 have q:=hq.rw
 clear hq
 unfold members
 have hbl:=below_len gs n
 have hgl:=h.len
 obtain⟨B,hB⟩:∃ B,below gs n=B:=⟨_,rfl⟩
 rw [hB] at hr hbl ⊢
 refine EvV.walk rfl fn139 rfl nt139 rfl ?_
 simp only [List.length_cons,List.length_nil,List.cons_append,List.nil_append,Nat.reduceAdd,Nat.reduceSub,List.replicate]
 refine zce (zck ?_)
 repeat' (first|refine wpO_nil ?_|(refine zG fun K hK=>?_;simp only [go_sem, *,zr ty29 rfl,zk ty29 rfl,zh ty29 rfl];first|(refine hK.out _ _ ?_;clear hK K)|(refine iteI (fun h=>hK.out _ _ ?_) (fun h=>hK.out _ _ ?_)<;>clear hK K)))
 refine zb1 ?_
 refine zce (zck ?_)
 repeat' (first|refine wpO_nil ?_|(refine zG fun K hK=>?_;simp only [go_sem, *,zr ty29 rfl,zk ty29 rfl,zh ty29 rfl];first|(refine hK.out _ _ ?_;clear hK K)|(refine iteI (fun h=>hK.out _ _ ?_) (fun h=>hK.out _ _ ?_)<;>clear hK K)))
 refine zb1 ?_
 have b1:(1+B.length)*8≤140737488355328:=by omega
 have b2:1+B.length≤140737488355328:=by omega
 have eB:(ints B).length=0↔B = []:=by rw [zc];simp
 refine zce ?_
 refine zce ?_
 refine zcI [10,11,12,13,14] (fun _:Unit=>[(15,.sl 2 (1+B.length) 0 (1+B.length) 1),(16,.int .i64 ((1+B.length:Nat):Int)),(17,.int .i64 0)]) (fun _ H=> .arr [] 1 0 true :: .arr [] 1 0 true :: .arr (ints (n::B)) 1 0 true::H) (fun _=>True) ?_ ?_
 ·cases hr with
  | own=>
   refine zck ?_
   repeat' (first|refine wpO_nil ?_|(refine zG fun K hK=>?_;simp only [go_sem, *,zr ty29 rfl,zk ty29 rfl,zh ty29 rfl,zb,ze,zm,zp,zj,zc,List.length_map,zK,List.append_assoc,zab,zC,List.take_length,Nat.zero_le,Bool.true_or,za6,zbP,List.length_append];first|(refine hK.out _ _ ?_;clear hK K)|(refine iteI (fun h=>hK.out _ _ ?_) (fun h=>hK.out _ _ ?_)<;>clear hK K)))
   all_goals
    try (have hz:=List.eq_nil_of_length_eq_zero ‹B.length=0›;subst hz)
    refine zM () trivial ?_ ⟨_,rfl⟩
    ((try simp only [zg,zi,zd,zf,List.set_cons_zero,List.set_cons_succ]);all_goals (first|rfl|(simp only [zn,zj,zc,List.length_map,List.length_append,List.length_cons,List.length_nil,Nat.zero_add];first|done|rfl)))
  | part=>
   refine zck ?_
   repeat' (first|refine wpO_nil ?_|(refine zG fun K hK=>?_;simp only [go_sem, *,zr ty29 rfl,zk ty29 rfl,zh ty29 rfl,zb,ze,zm,zp,zj,zc,List.length_map,zK,List.append_assoc,zab,zC,List.take_length,Nat.zero_le,Bool.true_or,za6,zbP,List.length_append];first|(refine hK.out _ _ ?_;clear hK K)|(refine iteI (fun h=>hK.out _ _ ?_) (fun h=>hK.out _ _ ?_)<;>clear hK K)))
   all_goals
    try (have hz:=List.eq_nil_of_length_eq_zero ‹B.length=0›;subst hz)
    refine zM () trivial ?_ ⟨_,rfl⟩
    ((try simp only [zg,zi,zd,zf,List.set_cons_zero,List.set_cons_succ]);all_goals (first|rfl|(simp only [zn,zj,zc,List.length_map,List.length_append,List.length_cons,List.length_nil,Nat.zero_add];first|done|rfl)))
  | nil hl=>
   subst hl
   refine zck ?_
   repeat' (first|refine wpO_nil ?_|(refine zG fun K hK=>?_;simp only [go_sem, *,zr ty29 rfl,zk ty29 rfl,zh ty29 rfl,zb,ze,zm,zp,zj,zc,List.length_map,zK,List.append_assoc,zab,zC,List.take_length,Nat.zero_le,Bool.true_or,za6,zbP];first|(refine hK.out _ _ ?_;clear hK K)|(refine iteI (fun h=>hK.out _ _ ?_) (fun h=>hK.out _ _ ?_)<;>clear hK K)))
   refine zM () trivial ?_ ⟨_,rfl⟩
   ((try simp only [zg,zi,zd,zf,List.set_cons_zero,List.set_cons_succ]);all_goals (first|rfl|(simp only [zn,zj,zc,List.length_map,List.length_append,List.length_cons,List.length_nil,Nat.zero_add];first|done|rfl)))
 ·rintro _ g G _
  simp only [zo,zq,zd,zf,List.set_cons_zero,List.set_cons_succ]
  have hLl:1+B.length=(n::B).length:=by simp;omega
  have hLb:(n::B).length≤1001:=by simp;omega
  rw [hLl]
  clear hLl b1 b2 eB hbl hB q hr
  generalize n::B=L at *
  refine wpC_block ?_
  refine zN [7,8,9,18,19,20,21,22,23,24,25,26,27,28,29,30,31] (fun p:List Int×List Int=>[(5,.sl 1 (pplOf gs p.1).length 0 (pplOf gs p.1).length 1),(17,.int .i64 p.1.length)]) (fun p H=> .arr [] 1 0 true :: .arr (ints (pplOf gs p.1)) 1 0 true :: .arr (ints L) 1 0 true::H)
   (fun p=>L=p.1++p.2) (fun p=>p.2.length) ([],L) rfl ?_ ⟨_,rfl⟩ ?_
  ·rfl
  rintro⟨pre,post⟩ g G h1
  simp only at h1
  subst h1
  simp only [zo,zq,zd,zf,List.set_cons_zero,List.set_cons_succ]
  have hpl:=pplOf_len h pre
  cases post with
  | nil=>
   simp only [List.append_nil] at *
   obtain⟨r,hr,hq⟩:=sortedE (.tsl false 1 (ints (pplOf gs pre))) (pplOf gs pre) (.rows false) (by omega)
   have q:=hq.rw
   clear hq
   cases hr with
   | own=>
    repeat' (first|refine go1 ?_|refine za rfl ?_|(refine go2 fun A B a b=>?_;simp only [go_sem, *,zr ty29 rfl,zk ty29 rfl,zh ty29 rfl,zb,ze,zm,zp,zj,zc,List.length_map,zK,List.append_assoc,zab,zC,List.take_length,Nat.zero_le,Bool.true_or,za6,zbP,Int.lt_irrefl];(repeat' first|apply a.1|apply b.1|refine iteI (fun h=>?_) fun h=>?_)<;>clear a b A B))
    simp only [go_sem,zr ty29 rfl,zk ty29 rfl,zh ty29 rfl,q,zb,ze,zm,zp,zj,zc,List.length_map,zK,List.append_assoc,zab,zC,List.take_length,Nat.zero_le,Bool.true_or,za6,zbP]
    exact .own
   | part=>
    repeat' (first|refine go1 ?_|refine za rfl ?_|(refine go2 fun A B a b=>?_;simp only [go_sem, *,zr ty29 rfl,zk ty29 rfl,zh ty29 rfl,zb,ze,zm,zp,zj,zc,List.length_map,zK,List.append_assoc,zab,zC,List.take_length,Nat.zero_le,Bool.true_or,za6,zbP,Int.lt_irrefl];(repeat' first|apply a.1|apply b.1|refine iteI (fun h=>?_) fun h=>?_)<;>clear a b A B))
    simp only [go_sem,zr ty29 rfl,zk ty29 rfl,zh ty29 rfl,q,zb,ze,zm,zp,zj,zc,List.length_map,zK,List.append_assoc,zab,zC,List.take_length,Nat.zero_le,Bool.true_or,za6,zbP]
    exact .part
   | nil hl=>
    repeat' (first|refine go1 ?_|refine za rfl ?_|(refine go2 fun A B a b=>?_;simp only [go_sem, *,zr ty29 rfl,zk ty29 rfl,zh ty29 rfl,zb,ze,zm,zp,zj,zc,List.length_map,zK,List.append_assoc,zab,zC,List.take_length,Nat.zero_le,Bool.true_or,za6,zbP,Int.lt_irrefl];(repeat' first|apply a.1|apply b.1|refine iteI (fun h=>?_) fun h=>?_)<;>clear a b A B))
    simp only [go_sem,zr ty29 rfl,zk ty29 rfl,zh ty29 rfl,q,zb,ze,zm,zp,zj,zc,List.length_map,zK,List.append_assoc,zab,zC,List.take_length,Nat.zero_le,Bool.true_or,za6,zbP]
    exact .nil hl
  | cons x post=>
   have i1:=idxS (b:=2) (n:=pre.length+(post.length+1)) (off:=0) (len:=pre.length+(post.length+1)) (j:=pre.length) (k := .i64) (by omega)
   have i2:=zb8 pre x post
   have lt0:pre.length<pre.length+(post.length+1):=by omega
   have w1:=zB (n:=pre.length) (by simp at hLb;omega)
   have q:=(findU h x).rw
   have g1:=fnd_ok h x
   have c1:=g1.pv.cell
   have c2:=g1.sv.cell
   have p3:=fnd_ppl h x
   have r1:=fun S=>g1.pv.rowsOf S
   have b1:((pplOf gs pre).length+(fnd gs x).people.length)*8≤140737488355328:=by simp at hLb;omega
   have b2:(pplOf gs pre).length+(fnd gs x).people.length≤140737488355328:=by simp at hLb;omega
   repeat' (first|refine go1 ?_|refine za rfl ?_|(refine go2 fun A B a b=>?_;simp only [go_sem, *,zr ty29 rfl,zk ty29 rfl,zh ty29 rfl,zb,ze,zm,zp,zj,zc,List.length_map,zK,List.append_assoc,zab,zC,List.take_length,Nat.zero_le,Bool.true_or,za6,zbP,zbL,encG];(repeat' first|apply a.1|apply b.1|refine iteI (fun h=>?_) fun h=>?_)<;>clear a b A B))
   ·have e:=List.eq_nil_of_length_eq_zero h
    refine zy (pre++[x],post) (Nat.lt_succ_self _) (by simp) ?_ ?_
    ·((try simp only [zg,zi,zd,zf,List.set_cons_zero,List.set_cons_succ]);all_goals (first|rfl|(simp only [zn,zc,List.length_map,pplOf_snoc,h,Nat.add_zero];done)|(simp only [zn,zj,zc,List.length_map,List.length_append,List.length_cons,List.length_nil,Nat.zero_add,pplOf_snoc,h,Nat.add_zero];first|done|rfl)))
    ·simp only [pplOf_snoc,e,List.append_nil];exact⟨_,rfl⟩
   ·refine zy (pre++[x],post) (Nat.lt_succ_self _) (by simp) ?_ ?_
    ·((try simp only [zg,zi,zd,zf,List.set_cons_zero,List.set_cons_succ]);all_goals (first|rfl|(simp only [zn,zc,List.length_map,pplOf_snoc];done)|(simp only [zn,zj,zc,List.length_map,List.length_append,List.length_cons,List.length_nil,Nat.zero_add,pplOf_snoc];first|done|rfl)))
    ·simp only [pplOf_snoc,ints_append];exact⟨_,rfl⟩

/- Groups: In, Of. -/
open Go.Proofs
attribute [local go_sem] br139 fz37
set_option maxHeartbeats 4000000

theorem members_len {v:AV}{gs:List Grp}(h:GsOK v gs) (n:Int):(members gs n).length≤1001000:=by
 have h1:=sorted_len (pplOf gs (n::below gs n))
 have h2:=pplOf_len h (n::below gs n)
 have h3:=below_len gs n
 have h4:=h.len
 unfold members
 simp only [List.length_cons] at h2
 omega

theorem inE {v:AV}{gs:List Grp}(h:GsOK v gs) (n p:Int):EvV CX 128 [v,.int .i64 n,.int .i64 p] (· = .bool ((members gs n).contains p)):=by
 have hv:=h.sl.cell
 have hvs:=fun S=>h.sl.snap (S:=S)
 have hl:=members_len h n
 obtain⟨r,hr,hq⟩:=membersE h n
 have q:=hq.rw
 clear hq
 cases hr with
 | own=>
  have q2:=(hasN (.tsl false 1 (ints (members gs n))) _ p (.rows false) (by omega)).rw
  refine EvV.walk rfl fn128 rfl nt128 rfl ?_
  simp only [List.length_cons,List.length_nil,List.cons_append,List.nil_append,Nat.reduceAdd,Nat.reduceSub,List.replicate]
  repeat' (first|refine go1 ?_|refine za rfl ?_|(refine go2 fun A B a b=>?_;simp only [go_sem, *,zb,ze,zm,zp,zj,zc,List.length_map,zK,List.append_assoc,zab,zbI,zC,List.take_length,Nat.zero_le,Bool.true_or,za6,zbP];(repeat' first|apply a.1|apply b.1|refine iteI (fun h=>?_) fun h=>?_)<;>clear a b A B))
  simp only [go_sem]
 | part=>
  have q2:=(hasN (.tsl true 1 (ints (members gs n))) _ p (.rows true) (by omega)).rw
  refine EvV.walk rfl fn128 rfl nt128 rfl ?_
  simp only [List.length_cons,List.length_nil,List.cons_append,List.nil_append,Nat.reduceAdd,Nat.reduceSub,List.replicate]
  repeat' (first|refine go1 ?_|refine za rfl ?_|(refine go2 fun A B a b=>?_;simp only [go_sem, *,zb,ze,zm,zp,zj,zc,List.length_map,zK,List.append_assoc,zab,zbI,zC,List.take_length,Nat.zero_le,Bool.true_or,za6,zbP];(repeat' first|apply a.1|apply b.1|refine iteI (fun h=>?_) fun h=>?_)<;>clear a b A B))
  simp only [go_sem]
 | nil hl=>
  have q2:=(hasN (.flat (.slice none 0 0)) (members gs n) p (.nil (by rw [hl];rfl)) (by omega)).rw
  refine EvV.walk rfl fn128 rfl nt128 rfl ?_
  simp only [List.length_cons,List.length_nil,List.cons_append,List.nil_append,Nat.reduceAdd,Nat.reduceSub,List.replicate]
  repeat' (first|refine go1 ?_|refine za rfl ?_|(refine go2 fun A B a b=>?_;simp only [go_sem, *,zb,ze,zm,zp,zj,zc,List.length_map,zK,List.append_assoc,zab,zbI,zC,List.take_length,Nat.zero_le,Bool.true_or,za6,zbP];(repeat' first|apply a.1|apply b.1|refine iteI (fun h=>?_) fun h=>?_)<;>clear a b A B))
  simp only [go_sem]
  rw [hl]

end Go.Eng

/- What is below a group, as the reference finds it (plain). -/
namespace Go.Eng

def moreB (gs:List Grp) (out more:List Int):List Int:=out.foldl (fun more x=>if isG gs x then sorted (more++(fnd gs x).subs) else more) more
def rndB (gs:List Grp):Nat→List Int→List Int
 | 0,out=>out
 | k+1,out=>rndB gs k (moreB gs out out)
def belowR (gs:List Grp) (n:Int):List Int:=rndB gs gs.length (if isG gs n then sorted (fnd gs n).subs else [])

theorem moreB_up {gs:List Grp}:∀ {out more:List Int},UpL more→UpL (moreB gs out more)
 | [],_,h=>h
 | x::out,more,h=>by
  unfold moreB
  rw [List.foldl_cons]
  refine moreB_up (out:=out) ?_
  split
  ·exact zcw _
  ·exact h
theorem mem_moreB {gs:List Grp}{y:Int}:∀ {out more:List Int},y∈moreB gs out more↔y∈more∨∃ x∈out,isG gs x=true∧y∈(fnd gs x).subs
 | [],more=>by simp [moreB]
 | x::out,more=>by
  unfold moreB
  rw [List.foldl_cons]
  have ih:=fun m=>mem_moreB (gs:=gs) (y:=y) (out:=out) (more:=m)
  unfold moreB at ih
  rw [ih]
  by_cases hx:isG gs x=true
  ·rw [if_pos hx,zb9,List.mem_append]
   constructor
   ·rintro ((h|h)|⟨z,h1,h2⟩)
    ·exact .inl h
    ·exact .inr ⟨x,by simp,hx,h⟩
    ·exact .inr ⟨z,by simp [h1],h2⟩
   ·rintro (h|⟨z,h1,h2,h3⟩)
    ·exact .inl (.inl h)
    ·rcases List.mem_cons.mp h1 with e|e
     ·subst e;exact .inl (.inr h3)
     ·exact .inr ⟨z,e,h2,h3⟩
  ·rw [if_neg hx]
   constructor
   ·rintro (h|⟨z,h1,h2⟩)
    ·exact .inl h
    ·exact .inr ⟨z,by simp [h1],h2⟩
   ·rintro (h|⟨z,h1,h2,h3⟩)
    ·exact .inl h
    ·rcases List.mem_cons.mp h1 with e|e
     ·subst e;exact absurd h2 hx
     ·exact .inr ⟨z,e,h2,h3⟩
def Clo (gs:List Grp):Prop := ∀ g∈gs,∀ s∈g.subs,isG gs s=true
theorem Clo.fnd {gs:List Grp}(h:Clo gs){n s:Int}(hs:s∈(fnd gs n).subs):isG gs s=true:=by
 rcases zcN gs n with ⟨_,e⟩|⟨_,_,e⟩
 ·rw [e] at hs;simp [noG] at hs
 ·exact h _ e s hs
def Closed (gs:List Grp) (out:List Int):Prop := ∀ x∈out,isG gs x=true→∀ s∈(Go.Eng.fnd gs x).subs,s∈out
theorem rnd_spec {gs:List Grp}(hc:Clo gs) (n:Int):∀ (k:Nat) (out:List Int),UpL out→(∀ x∈out,Rch gs n x)→(Closed gs out∨gs.length+1≤k+out.length) →
  UpL (rndB gs k out)∧(∀ x∈rndB gs k out,Rch gs n x)∧Closed gs (rndB gs k out)∧∀ x∈out,x∈rndB gs k out:=by
 intro k
 induction k with
 | zero=>
  intro out hu hr hk
  refine⟨hu,hr,?_,fun x hx=>hx⟩
  rcases hk with hk|hk
  ·exact hk
  ·exfalso
   have:out.length≤(gs.map (·.id)).length:=nodup_len (up_nodup hu) fun x hx=>isG_mem.mp (hr x hx).isG
   simp at this;omega
 | succ k ih=>
  intro out hu hr hk
  have hu':UpL (moreB gs out out):=moreB_up hu
  have hr':∀ x∈moreB gs out out,Rch gs n x:=by
   intro x hx
   rcases mem_moreB.mp hx with h|⟨z,h1,h2,h3⟩
   ·exact hr x h
   ·exact .step (hr z h1) h3 (hc.fnd h3)
  have hsub:∀ x∈out,x∈moreB gs out out:=fun x hx=>mem_moreB.mpr (.inl hx)
  have hk2:Closed gs (moreB gs out out)∨gs.length+1≤k+(moreB gs out out).length:=by
   by_cases hcl:Closed gs out
   ·left
    have e:moreB gs out out=out:=up_unique hu' hu fun x=>by
     rw [mem_moreB]
     constructor
     ·rintro (h|⟨z,h1,h2,h3⟩)
      ·exact h
      ·exact hcl z h1 h2 x h3
     ·exact .inl
    rw [e];exact hcl
   ·right
    have hk':=hk.resolve_left hcl
    have:out.length+1≤(moreB gs out out).length:=by
     have hlt:∃ y,y∈moreB gs out out∧y∉out:=by
      apply Classical.byContradiction
      intro hno
      apply hcl
      intro x hx hg s hs
      apply Classical.byContradiction
      intro hns
      exact hno ⟨s,mem_moreB.mpr (.inr ⟨x,hx,hg,hs⟩),hns⟩
     obtain⟨y,hy,hyn⟩:=hlt
     have:(y::out).length≤(moreB gs out out).length:=nodup_len (List.nodup_cons.mpr ⟨hyn,up_nodup hu⟩) fun x hx=>by
      rcases List.mem_cons.mp hx with e|e
      ·subst e;exact hy
      ·exact hsub x e
     simpa using this
    omega
  obtain⟨i1,i2,i3,i4⟩:=ih (moreB gs out out) hu' hr' hk2
  exact⟨i1,i2,i3,fun x hx=>i4 x (hsub x hx)⟩
theorem belowR_eq {gs:List Grp}(hc:Clo gs) (n:Int):belowR gs n=below gs n:=by
 unfold belowR
 by_cases hg:isG gs n=true
 ·rw [if_pos hg]
  have hr:∀ x∈sorted (fnd gs n).subs,Rch gs n x:=fun x hx=> .one ((zb9 _ _).mp hx) (hc.fnd ((zb9 _ _).mp hx))
  have hk:Closed gs (sorted (fnd gs n).subs)∨gs.length+1≤gs.length+(sorted (fnd gs n).subs).length:=by
   cases h:sorted (fnd gs n).subs with
   | nil=>left;intro x hx;cases hx
   | cons x l=>right;simp only [List.length_cons];omega
  obtain⟨h1,h2,h3,h4⟩:=rnd_spec hc n gs.length _ (zcw _) hr hk
  refine up_unique h1 (below_up gs n) fun x=>?_
  rw [mem_below]
  refine⟨h2 x,fun hx=>?_⟩
  induction hx with
  | one h hg'=>exact h4 _ ((zb9 _ _).mpr h)
  | step hy h hg' ih=>exact h3 _ ih hy.isG _ h
 ·rw [if_neg hg]
  have e:(fnd gs n).subs = []:=by
   rcases zcN gs n with ⟨_,e⟩|⟨e,_⟩
   ·rw [e];rfl
   ·exact absurd e hg
  have e1:∀ k,rndB gs k [] = []:=by
   intro k;induction k with
   | zero=>rfl
   | succ k ih=>rw [rndB];exact ih
  rw [e1]
  refine up_unique up_nil (below_up gs n) fun x=>?_
  rw [mem_below]
  constructor
  ·intro h;cases h
  ·intro hx
   exfalso
   induction hx with
   | one h hg'=>rw [e] at h;cases h
   | step hy h hg' ih=>exact ih

end Go.Eng

/- Increasing lists as the code tests them. -/
namespace Go.Eng
open Go.Proofs
attribute [local irreducible] wpC wpO wp1 EvV EvR wpL
attribute [local go_sem] ty3 ty4 ty29 reduceIte Nat.reduceAdd Nat.reduceEqDiff Nat.reduceLT Nat.reduceLeDiff beq_iff_eq beq_eq_false_iff_ne Int.natCast_inj Bool.not_eq_false' zbD zbx zaE za9 zaw zas za7 zF zaB zaD zE zax zbw zP zH za8 zI zba zaC zbv zbu zL zar zR zaz zQ zay zS zaA za5 zat zae zbd zaG zbc zbb zbe zby zaF zaY zao zaX zaZ zav zaW zaV zaI zaK zaf zac zW z8 zbg zaJ boxK storeK zaq zaM zam zaN zbm zau zbz zbf zX zaa zaP zaQ zan zbn zaO zbr zaU zbp zbA zbs zbo zbq zaR zbC zaS zaT List.all_cons List.all_nil Bool.and_true Bool.and_self Bool.true_and z7 zaH List.set_cons_zero List.set_cons_succ List.length_cons List.length_nil List.nil_append List.cons_append stabL AV.stab fieldAddrA fieldA List.getElem?_cons_zero List.getElem?_cons_succ Nat.zero_add loadA rowOf Nat.le_refl and_self true_and and_true partA binA unA intBin eqBin eqCells eqCell Option.bind_some decide_true decide_false decide_eq_true_eq ite_not Bool.not_eq_true' decide_eq_false_iff_not Bool.false_eq_true Option.map_some Option.map_none Bool.not_true Bool.not_false buildA fillA patch List.take List.drop List.map_cons List.map_nil extK List.getD_cons_zero List.getD_cons_succ minmaxA minmaxGo zJ zV zak zU zai zT zal zaj zah zag zaL zbk zbi zbl zbj zbh bne Bool.false_and Bool.and_false ne_eq not_true_eq_false not_false_eq_true List.append_nil resultsR resultsL resultA za3 zap za2 za4 za0 za1 zZ zbK zad zO zD zbB
set_option maxHeartbeats 4000000

def upB:List Int→Bool
 | x::y::l=>decide (x<y) && upB (y::l)
 | _=>true

/- Sets of numbers: Sorted, Union, Up. -/
open Go.Proofs
attribute [local go_sem] br54 fz168 nilsK br104 fz176 fz177

theorem puts_snoc (a out:List Int) (x:Int):(a++[x]).foldl put out=put (a.foldl put out) x:=by simp [List.foldl_append]
theorem puts_len:∀ (a out:List Int),(a.foldl put out).length≤out.length+a.length
 | [],out=>by simp
 | x::a,out=>by
  have h1:=puts_len a (put out x)
  have h2:=put_len out x
  simp only [List.foldl_cons,List.length_cons];omega

theorem sorted1 (v:AV) (a:List Int) (hv:SLs 1 (ints a) v) (ha:a.length≤1099511627776):EvV CX 104 [v] (· = .osl 1 (ints (sorted a))):=by
 rw [←sortR_eq]
 refine EvV.walk rfl fn104 rfl nt104 rfl ?_
 simp only [List.length_cons,List.length_nil,List.cons_append,List.nil_append,Nat.reduceAdd,Nat.reduceSub,List.replicate]
 repeat' (first|refine go1 ?_|refine za rfl ?_|(refine go2 fun A B a b=>?_;simp only [go_sem, *,zk ty29 rfl,zA hv];(repeat' first|apply a.1|apply b.1|refine iteI (fun h=>?_) fun h=>?_)<;>clear a b A B))
 refine zN [4,8,9,10,11,12,13,14,15,16] (fun a:List Int×List Int×List Blk=>[(3,.sl (a.2.2.length+1) (a.1.foldl put []).length 0 (a.1.foldl put []).length 1),(7,.int .i64 a.1.length)]) (fun a G=> .arr [] 1 0 true::(a.2.2 ++ .arr (ints (a.1.foldl put [])) 1 0 true::G))
  (fun p=>a=p.1++p.2.1) (fun a=>a.2.1.length) ([],a,[]) rfl ?_ ?_ ?_
 ·rfl
 ·exact⟨[],rfl⟩
 rintro⟨pre,post,G1⟩ g G h1
 simp only at h1
 subst h1;simp only [zo,zq,zd,zf,List.set_cons_zero,List.set_cons_succ]
 cases post with
 | nil=>
  simp only [List.append_nil] at *
  repeat' (first|refine go1 ?_|refine za rfl ?_|(refine go2 fun A B a b=>?_;simp only [go_sem, *,zk ty29 rfl,zb,ze,zm,zp,zj,zc,List.length_map,zK,Int.lt_irrefl];(repeat' first|apply a.1|apply b.1|refine iteI (fun h=>?_) fun h=>?_)<;>clear a b A B))
  simp only [go_sem,zk ty29 rfl,zb,zc]
  simp
 | cons x post=>
  have i1:=zbE hv (X:=CX) ty29 ty3 rfl (zb8 pre x post) (k := .i64)
  have w1:=zB (n:=pre.length) (by simp at ha;omega)
  have m1:=puts_len pre []
  have p1:=(put1 false (pre.foldl put []) x (by simp at ha m1;omega)).rw
  repeat' (first|refine go1 ?_|refine za rfl ?_|(refine go2 fun A B a b=>?_;simp only [go_sem, *,zk ty29 rfl,zb,ze,zm,zp,zj,zc,List.length_map,zK,hv.snap,zab,zbI,zC,List.take_length,Nat.zero_le,Bool.true_or];(repeat' first|apply a.1|apply b.1|refine iteI (fun h=>?_) fun h=>?_)<;>clear a b A B))
  have e:=puts_snoc pre [] x
  refine zy (pre++[x],post,G1 ++ .arr (ints (pre.foldl put [])) 1 0 true::G) (Nat.lt_succ_self _) (by simp) ?_ ?_
  ·((try simp only [zg,zi,zd,zf,List.set_cons_zero,List.set_cons_succ]);all_goals (first|rfl|(simp only [zn,zc,List.length_map,e];done)|(simp only [zn,zj,zc,List.length_map,List.length_append,List.length_cons,List.length_nil,Nat.zero_add,e];first|done|rfl)))
  ·exact⟨[],by simp [e]⟩

theorem union1 (v w:AV) (a b:List Int) (hv:SLs 1 (ints a) v) (hw:SLs 1 (ints b) w) (ha:a.length≤1099511627) (hb:b.length≤1099511627):EvV CX 105 [v,w] (· = .osl 1 (ints (sorted (a++b)))):=by
 rw [←unionR_eq]
 have q:=(sorted1 v a hv (by omega)).rw
 have hl:=sorted_len a
 obtain⟨A,hA⟩:∃ A,sorted a=A:=⟨_,rfl⟩
 rw [hA] at q hl ⊢
 clear hA
 refine EvV.walk rfl fn105 rfl nt105 rfl ?_
 simp only [List.length_cons,List.length_nil,List.cons_append,List.nil_append,Nat.reduceAdd,Nat.reduceSub,List.replicate]
 repeat' (first|refine go1 ?_|refine za rfl ?_|(refine go2 fun A B a b=>?_;simp only [go_sem, *,zk ty29 rfl,zA hw,hv.snap];(repeat' first|apply a.1|apply b.1|refine iteI (fun h=>?_) fun h=>?_)<;>clear a b A B))
 refine zN [6,12,13,14,15,16,17,18,19,20] (fun a:List Int×List Int×List Blk=>[(5,.sl (a.2.2.length+1) (a.1.foldl put A).length 0 (a.1.foldl put A).length 1),(11,.int .i64 a.1.length)]) (fun a G=> .arr [] 1 0 true::(a.2.2 ++ .arr (ints (a.1.foldl put A)) 1 0 true::G))
  (fun p=>b=p.1++p.2.1) (fun a=>a.2.1.length) ([],b,[]) rfl ?_ ?_ ?_
 ·((try simp only [zg,zi,zd,zf,List.set_cons_zero,List.set_cons_succ]);all_goals (first|rfl|(simp only [zn,zj,zc,List.length_map,List.length_append,List.length_cons,List.length_nil,Nat.zero_add];first|done|rfl)))
 ·exact⟨[],rfl⟩
 rintro⟨pre,post,G1⟩ g G h1
 simp only at h1
 subst h1;simp only [zo,zq,zd,zf,List.set_cons_zero,List.set_cons_succ]
 cases post with
 | nil=>
  simp only [List.append_nil] at *
  repeat' (first|refine go1 ?_|refine za rfl ?_|(refine go2 fun A B a b=>?_;simp only [go_sem, *,zk ty29 rfl,zb,ze,zm,zp,zj,zc,List.length_map,zK,Int.lt_irrefl];(repeat' first|apply a.1|apply b.1|refine iteI (fun h=>?_) fun h=>?_)<;>clear a b A B))
  simp only [go_sem,zk ty29 rfl,zb,zc]
  simp
 | cons x post=>
  have i1:=zbE hw (X:=CX) ty29 ty3 rfl (zb8 pre x post) (k := .i64)
  have w1:=zB (n:=pre.length) (by simp at hb;omega)
  have m1:=puts_len pre A
  have p1:=(put1 false (pre.foldl put A) x (by simp at hb m1;omega)).rw
  clear q
  repeat' (first|refine go1 ?_|refine za rfl ?_|(refine go2 fun A B a b=>?_;simp only [go_sem, *,zk ty29 rfl,zb,ze,zm,zp,zj,zc,List.length_map,zK,hv.snap,hw.snap,zab,zbI,zC,List.take_length,Nat.zero_le,Bool.true_or];(repeat' first|apply a.1|apply b.1|refine iteI (fun h=>?_) fun h=>?_)<;>clear a b A B))
  have e:=puts_snoc pre A x
  refine zy (pre++[x],post,G1 ++ .arr (ints (pre.foldl put A)) 1 0 true::G) (Nat.lt_succ_self _) (by simp) ?_ ?_
  ·((try simp only [zg,zi,zd,zf,List.set_cons_zero,List.set_cons_succ]);all_goals (first|rfl|(simp only [zn,zc,List.length_map,e];done)|(simp only [zn,zj,zc,List.length_map,List.length_append,List.length_cons,List.length_nil,Nat.zero_add,e];first|done|rfl)))
  ·exact⟨[],by simp [e]⟩

theorem up1 (v:AV) (l:List Int) (hv:SLs 1 (ints l) v) (hl:l.length<9223372036854775807):EvV CX 103 [v] (· = .bool (upB l)):=by
 cases l with
 | nil=>
  refine EvV.walk rfl fn103 rfl nt103 rfl ?_
  simp only [List.length_cons,List.length_nil,List.cons_append,List.nil_append,Nat.reduceAdd,Nat.reduceSub,List.replicate]
  repeat' (first|refine go1 ?_|refine za rfl ?_|(refine go2 fun A B a b=>?_;simp only [go_sem, *,zA hv];(repeat' first|apply a.1|apply b.1|refine iteI (fun h=>?_) fun h=>?_)<;>clear a b A B))
  refine zN [2,4,5,6,7,8,9,10,11,12,13,14,15,16,17,18,19] (fun _:Unit=>[(3,.int .i64 1)]) (fun _ H=>H) (fun _=>True) (fun _=>0) () trivial ?_ ⟨_,rfl⟩ ?_
  ·rfl
  rintro _ g G _
  simp only [zo,zq,zd,zf,List.set_cons_zero,List.set_cons_succ]
  have z:¬(1:Int)<((0:Nat):Int):=by omega
  repeat' (first|refine go1 ?_|refine za rfl ?_|(refine go2 fun A B a b=>?_;simp only [go_sem, *,zA hv,zc];(repeat' first|apply a.1|apply b.1|refine iteI (fun h=>?_) fun h=>?_)<;>clear a b A B))
  simp only [go_sem]
  rfl
 | cons x0 l0=>
 refine EvV.walk rfl fn103 rfl nt103 rfl ?_
 simp only [List.length_cons,List.length_nil,List.cons_append,List.nil_append,Nat.reduceAdd,Nat.reduceSub,List.replicate]
 repeat' (first|refine go1 ?_|refine za rfl ?_|(refine go2 fun A B a b=>?_;simp only [go_sem, *,zA hv];(repeat' first|apply a.1|apply b.1|refine iteI (fun h=>?_) fun h=>?_)<;>clear a b A B))
 refine zN [2,4,5,6,7,8,9,10,11,12,13,14,15,16,17,18,19] (fun p:List Int×Int×List Int=>[(3,.int .i64 ((p.1.length+1:Nat):Int))]) (fun _ H=>H)
  (fun p=>x0::l0=p.1++p.2.1::p.2.2∧upB (x0::l0)=upB (p.2.1::p.2.2)) (fun p=>p.2.2.length) ([],x0,l0) ⟨rfl,rfl⟩ ?_ ⟨_,rfl⟩ ?_
 ·rfl
 rintro⟨pre,x,post⟩ g G ⟨h1,h2⟩
 simp only at h1 h2
 rw [h2]
 generalize x0::l0=l at *
 clear h2
 subst h1
 simp only [zo,zq,zd,zf,List.set_cons_zero,List.set_cons_succ]
 cases post with
 | nil=>
  have z:¬((pre.length+1:Nat):Int)<((pre.length+1:Nat):Int):=by omega
  repeat' (first|refine go1 ?_|refine za rfl ?_|(refine go2 fun A B a b=>?_;simp only [go_sem, *,zA hv,zc,zn];(repeat' first|apply a.1|apply b.1|refine iteI (fun h=>?_) fun h=>?_)<;>clear a b A B))
  simp only [go_sem]
  rfl
 | cons y post=>
  have i1:=zbE hv (X:=CX) ty29 ty3 rfl (zb8 pre x (y::post)) (k := .i64)
  have hv2:SLs 1 (ints ((pre++[x])++y::post)) v:=by rw [List.append_assoc];exact hv
  have i2:=zbE hv2 (X:=CX) ty29 ty3 rfl (zb8 (pre++[x]) y post) (k := .i64)
  rw [zn] at i2
  have z:((pre.length+1:Nat):Int)<((pre++x::y::post).length:Int):=by simp;omega
  have hl2:pre.length+2<9223372036854775807:=by simp at hl;omega
  have w1:=zB (n:=pre.length+1) (by omega)
  have w2:IntKind.wrap .i64 (((pre.length+1:Nat):Int)-1)=(pre.length:Int):=by rw [zu (by omega) (by omega)];omega
  clear hv2
  by_cases hxy:x<y
  ·have h3:¬y≤x:=by omega
   repeat' (first|refine go1 ?_|refine za rfl ?_|(refine go2 fun A B a b=>?_;simp only [go_sem, *,zA hv,zc];(repeat' first|apply a.1|apply b.1|refine iteI (fun h=>?_) fun h=>?_)<;>clear a b A B))
   refine zy (pre++[x],y,post) (Nat.lt_succ_self _) ⟨by simp,?_⟩ ?_ ⟨_,rfl⟩
   ·simp only [upB,decide_eq_true hxy,Bool.true_and]
   ·((try simp only [zg,zi,zd,zf,List.set_cons_zero,List.set_cons_succ]);all_goals (first|rfl|(simp only [zn,zj,zc,List.length_map,List.length_append,List.length_cons,List.length_nil,Nat.zero_add];first|done|rfl)))
  ·have h3:y≤x:=by omega
   repeat' (first|refine go1 ?_|refine za rfl ?_|(refine go2 fun A B a b=>?_;simp only [go_sem, *,zA hv,zc];(repeat' first|apply a.1|apply b.1|refine iteI (fun h=>?_) fun h=>?_)<;>clear a b A B))
   simp only [go_sem]
   simp only [upB,decide_eq_false hxy,Bool.false_and]

/- Groups: the reference's Find, Below, Members. -/
open Go.Proofs
attribute [local go_sem] ty9 ty24 ty68 br70 br105 fz166 fz167 fz169 fz170
set_option maxHeartbeats 4000000

theorem findR {v:AV}{gs:List Grp}(h:GsOK v gs) (n:Int):EvV CX 70 [v,.int .i64 n] (· = .int .i64 (codeOf (gIdx gs n 0))):=by
 have hv:=h.sl
 have hl:=h.len
 refine EvV.walk rfl fn70 rfl nt70 rfl ?_
 simp only [List.length_cons,List.length_nil,List.cons_append,List.nil_append,Nat.reduceAdd,Nat.reduceSub,List.replicate]
 repeat' (first|refine go1 ?_|refine za rfl ?_|(refine go2 fun A B a b=>?_;simp only [go_sem, *,zA hv];(repeat' first|apply a.1|apply b.1|refine iteI (fun h=>?_) fun h=>?_)<;>clear a b A B))
 refine zbS [4,5,9,10,11,12,13,14,15,16,17,18,19] 8 gs (fun pre post=>gIdx gs n 0=gIdx post n pre.length) ?_ ?_ ?_ ?_
 ·rfl
 ·rfl
 ·intro g G h2
  rw [h2];simp only [zo,zq,zd,zf,List.set_cons_zero,List.set_cons_succ]
  repeat' (first|refine go1 ?_|refine za rfl ?_|(refine go2 fun A B a b=>?_;simp only [go_sem, *,zc,List.length_map,Int.lt_irrefl];(repeat' first|apply a.1|apply b.1|refine iteI (fun h=>?_) fun h=>?_)<;>clear a b A B))
  simp only [go_sem]
  rfl
 ·intro g G pre x post h1 h2
  rw [h2]
  have i1:=zbE hv (X:=CX) ty24 ty68 rfl (by rw [h1];exact zcf encG pre x post) (k := .i64)
  have w1:=zB (n:=pre.length) (by simp [h1] at hl;omega)
  have lt1:(pre.length:Int)<(gs.length:Int):=by rw [h1];simp;omega
  have hh1:Hold (gs=pre++x::post):=⟨h1⟩
  clear h1
  simp only [zo,zq,zd,zf,List.set_cons_zero,List.set_cons_succ]
  by_cases hx:x.id=n
  ·have hh:Hold (x.id=n):=⟨hx⟩
   have hx':(x.id == n)=true:=by simpa using hx
   clear hx h2
   repeat' (first|refine go1 ?_|refine za rfl ?_|(refine go2 fun A B a b=>?_;simp only [go_sem, *,zb,ze,zm,zp,zj,zc,List.length_map,zK,encG,hx'];(repeat' first|apply a.1|apply b.1|refine iteI (fun h=>?_) fun h=>?_)<;>clear a b A B))
   simp only [go_sem]
   rw [gIdx,if_pos hh.out];rfl
  ·have hh:Hold (¬x.id=n):=⟨hx⟩
   have hx':(x.id == n)=false:=by simpa using hx
   have hh2:Hold (gIdx gs n 0=gIdx (x::post) n pre.length):=⟨h2⟩
   clear hx h2
   repeat' (first|refine go1 ?_|refine za rfl ?_|(refine go2 fun A B a b=>?_;simp only [go_sem, *,zb,ze,zm,zp,zj,zc,List.length_map,zK,encG,hx'];(repeat' first|apply a.1|apply b.1|refine iteI (fun h=>?_) fun h=>?_)<;>clear a b A B))
   refine zbH hh1.out ?_ ?_ ?_
   ·rw [gIdx,if_neg hh.out,zn]
   ·((try simp only [zg,zi,zd,zf,List.set_cons_zero,List.set_cons_succ]);all_goals (first|rfl|(simp only [zn,zj,zc,List.length_map,List.length_append,List.length_cons,List.length_nil,Nat.zero_add];first|done|rfl)))
   ·first|exact⟨[],(List.append_nil _).symm⟩|exact⟨_,rfl⟩|(simp only [List.append_assoc,List.cons_append,List.nil_append];exact⟨_,rfl⟩)

theorem map_at {β:Type}(f:β→List AV){l a b:List β}{x:β}(h:l=a++x::b):(l.map f)[a.length]? = some (f x):=by rw [h];exact zcf f a x b

theorem gIdx_cases (gs:List Grp) (n:Int):(isG gs n=false∧codeOf (gIdx gs n 0) = -1)∨∃ a b,isG gs n=true∧gs=a++fnd gs n::b∧codeOf (gIdx gs n 0)=(a.length:Int):=by
 rcases gIdx_find gs n 0 with ⟨h1,h2⟩|⟨a,g,b,h1,h2,h3⟩
 ·exact .inl ⟨by simp [isG,h2],by rw [h1];rfl⟩
 ·refine .inr ⟨a,b,by simp [isG,h3],?_,by rw [h2];simp [codeOf]⟩
  rw [fnd,h3];exact h1

def InB (gs:List Grp) (l:List Int):Prop:=UpL l∧∀ x∈l,x∈gs.flatMap (·.subs)
theorem subs_flat {gs:List Grp}(h:∀ g∈gs,g.subs.length≤1000):(gs.flatMap (·.subs)).length≤gs.length*1000:=by
 induction gs with
 | nil=>simp
 | cons g gs ih=>
  have h1:=h g (by simp)
  have h2:=ih fun x hx=>h x (by simp [hx])
  simp only [List.flatMap_cons,List.length_append,List.length_cons]
  omega
theorem InB.len {v:AV}{gs:List Grp}{l:List Int}(h:InB gs l) (hg:GsOK v gs):l.length≤1000000:=by
 have h1:=nodup_len (up_nodup h.1) h.2
 have h2:=subs_flat hg.subs
 have:=hg.len
 omega
theorem InB.more {gs:List Grp}{l:List Int}(h:InB gs l) (x:Int):InB gs (sorted (l++(fnd gs x).subs)):=by
 refine⟨zcw _,fun y hy=>?_⟩
 rw [zb9,List.mem_append] at hy
 rcases hy with hy|hy
 ·exact h.2 y hy
 ·rcases zcN gs x with ⟨_,e⟩|⟨_,_,e⟩
  ·rw [e] at hy;simp [noG] at hy
  ·exact List.mem_flatMap.mpr ⟨_,e,hy⟩
theorem moreB_cons (gs:List Grp) (x:Int) (out more:List Int):moreB gs (x::out) more=moreB gs out (if isG gs x then sorted (more++(fnd gs x).subs) else more):=rfl
theorem get_app {S G:Store}{b:Nat}{x:Blk}(h:S[b]? = some x):(S++G)[b]? = some x:=by
 rw [List.getElem?_append_left (List.getElem?_eq_some_iff.1 h).1];exact h

theorem belowRE {v:AV}{gs:List Grp}(h:GsOK v gs) (n:Int):EvV CX 72 [v,.int .i64 n] (· = .osl 1 (ints (belowR gs n))):=by
 have hv:=h.sl.cell
 have hvs:=fun S=>h.sl.snap (S:=S)
 have hgl:=h.len
 unfold belowR
 have q:=(findR h n).rw
 obtain⟨out0,h0⟩:∃ o,(if isG gs n=true then sorted (fnd gs n).subs else [])=o:=⟨_,rfl⟩
 have hi0:InB gs out0:=by
  rw [←h0]
  split
  ·have:=InB.more (gs:=gs) (l:=[]) ⟨up_nil,by simp⟩ n
   simpa using this
  ·exact⟨up_nil,by simp⟩
 rw [h0]
 refine EvV.walk rfl fn72 rfl nt72 rfl ?_
 simp only [List.length_cons,List.length_nil,List.cons_append,List.nil_append,Nat.reduceAdd,Nat.reduceSub,List.replicate]
 repeat' (first|refine go1 ?_|refine za rfl ?_|(refine zt fun A B a b=>?_;simp only [go_sem, *,zk ty29 rfl];(repeat' first|apply a.1|refine iteI (fun h=>?_) fun h=>?_)<;>clear a b A B))
 refine zcI [13,14,15,16,17,18,19,20] (fun p:Nat×Store=>[(5,.sl p.1 out0.length 0 out0.length 1)]) (fun p _=>p.2) (fun p=>p.2[p.1]? = some (.arr (ints out0) 1 0 true)) ?_ ?_
 ·rcases gIdx_cases gs n with ⟨e1,e2⟩|⟨a,b,e1,e2,e3⟩
  ·rw [e1] at h0
   subst h0
   have z:¬(0:Int)≤-1:=by omega
   rw [e2]
   clear q e1 e2
   repeat' (first|refine go1 ?_|refine za rfl ?_|(refine go2 fun A B a b=>?_;simp only [go_sem, *,zk ty29 rfl];(repeat' first|apply a.1|apply b.1|refine iteI (fun h=>?_) fun h=>?_)<;>clear a b A B))
   refine zM (1,_) ?_ ?_ ⟨[],rfl⟩
   ·rfl
   ·((try simp only [zg,zi,zd,zf,List.set_cons_zero,List.set_cons_succ]);all_goals (first|rfl|(simp only [zn,zj,zc,List.length_map,List.length_append,List.length_cons,List.length_nil,Nat.zero_add];first|done|rfl)))
  ·rw [e1] at h0
   simp only [if_true] at h0
   have i1:=zbE h.sl (X:=CX) ty24 ty68 rfl (n:=a.length) (row:=encG (fnd gs n)) (k := .i64) (map_at encG e2)
   have z:(0:Int)≤(a.length:Int):=by omega
   have g0:=fnd_ok h n
   have gl:=fnd_len h n
   have q2:=(sorted1 _ _ g0.sv (by omega)).rw
   rw [h0] at q2
   have s2:=g0.sv.snap
   rw [e3]
   clear q e1 e2 e3 h0
   repeat' (first|refine go1 ?_|refine za rfl ?_|(refine go2 fun A B a b=>?_;simp only [go_sem, *,zk ty29 rfl,encG];(repeat' first|apply a.1|apply b.1|refine iteI (fun h=>?_) fun h=>?_)<;>clear a b A B))
   refine zM (2,_) ?_ ?_ ⟨[],rfl⟩
   ·rfl
   ·((try simp only [zg,zi,zd,zf,List.set_cons_zero,List.set_cons_succ]);all_goals (first|rfl|(simp only [zn,zj,zc,List.length_map,List.length_append,List.length_cons,List.length_nil,Nat.zero_add];first|done|rfl)))
 rintro⟨b0,S0⟩ g G hb0
 simp only at hb0
 simp only [zo,zq,zd,zf,List.set_cons_zero,List.set_cons_succ]
 clear q h0
 repeat' (first|refine go1 ?_|refine za rfl ?_|(refine zt fun A B a b=>?_;simp only [go_sem, *,zk ty29 rfl,zA h.sl];(repeat' first|apply a.1|refine iteI (fun h=>?_) fun h=>?_)<;>clear a b A B))
 refine zN [7,8,9,24,25,26,27,28,29,30,31,32,33,34,35,36,37,38,39,40,41,42,43,44,45,46,47,48] (fun p:Nat×List Int×Nat×Store=>[(5,.sl p.2.2.1 p.2.1.length 0 p.2.1.length 1),(23,.int .i64 p.1)]) (fun p _=>p.2.2.2)
  (fun p=>p.1≤gs.length∧InB gs p.2.1∧rndB gs (gs.length-p.1) p.2.1=rndB gs gs.length out0∧p.2.2.2[p.2.2.1]? = some (.arr (ints p.2.1) 1 0 true)) (fun p=>gs.length-p.1) (0,out0,b0,S0) ⟨Nat.zero_le _,hi0,rfl,hb0⟩ ?_ ⟨[],rfl⟩ ?_
 ·((try simp only [zg,zi,zd,zf,List.set_cons_zero,List.set_cons_succ]);all_goals (first|rfl|(simp only [zn,zj,zc,List.length_map,List.length_append,List.length_cons,List.length_nil,Nat.zero_add];first|done|rfl)))
 rintro⟨k,out,b,S⟩ g G ⟨hk,hi,hr,hb⟩
 simp only at hk hi hr hb
 rw [←hr]
 clear hr hb0 hi0
 simp only [zo,zq,zd,zf,List.set_cons_zero,List.set_cons_succ]
 by_cases hkk:k=gs.length
 ·subst hkk
  rw [Nat.sub_self,rndB]
  repeat' (first|refine go1 ?_|refine za rfl ?_|(refine go2 fun A B a b=>?_;simp only [go_sem, *,zk ty29 rfl,Int.lt_irrefl,List.length_map];(repeat' first|apply a.1|apply b.1|refine iteI (fun h=>?_) fun h=>?_)<;>clear a b A B))
  simp only [go_sem,zk ty29 rfl,zab,zbI,zc,zC,List.take_length,Nat.zero_le,Bool.true_or,hb]
 have lt1:(k:Int)<(gs.length:Int):=by omega
 have hlen:=hi.len h
 repeat' (first|refine go1 ?_|refine za rfl ?_|(refine zt fun A B a b=>?_;simp only [go_sem, *,zk ty29 rfl,List.length_map];(repeat' first|apply a.1|refine iteI (fun h=>?_) fun h=>?_)<;>clear a b A B))
 (refine zY fun A B hA hB=>?_;simp only [go_sem, *,zk ty29 rfl];first|(refine hA.out ?_;clear hA hB A B)|(refine hB.out ?_;clear hA hB A B))
 repeat' (first|refine go1 ?_|refine za rfl ?_|(refine zt fun A B a b=>?_;simp only [go_sem, *,zk ty29 rfl,zbV];(repeat' first|apply a.1|refine iteI (fun h=>?_) fun h=>?_)<;>clear a b A B))
 refine zN [8,9,29,30,31,32,33,34,35,36,37,38,39,40,41,42,43,44,45,46] (fun p:List Int×List Int×List Int×Nat×Store=>[(7,.sl p.2.2.2.1 p.2.2.1.length 0 p.2.2.1.length 1),(28,.int .i64 p.1.length)]) (fun p _=>p.2.2.2.2)
  (fun p=>out=p.1++p.2.1∧InB gs p.2.2.1∧moreB gs p.2.1 p.2.2.1=moreB gs out out∧p.2.2.2.2[b]? = some (.arr (ints out) 1 0 true)∧p.2.2.2.2[p.2.2.2.1]? = some (.arr (ints p.2.2.1) 1 0 true)) (fun p=>p.2.1.length) ([],out,out,b,S) ⟨rfl,hi,rfl,hb,hb⟩ ?_ ⟨[],rfl⟩ ?_
 ·((try simp only [zg,zi,zd,zf,List.set_cons_zero,List.set_cons_succ]);all_goals (first|rfl|(simp only [zn,zj,zc,List.length_map,List.length_append,List.length_cons,List.length_nil,Nat.zero_add];first|done|rfl)))
 rintro⟨pre,post,more,b2,S2⟩ g G ⟨h1,h2,h3,h4,h5⟩
 simp only at h1 h2 h3 h4 h5
 clear hb
 simp only [zo,zq,zd,zf,List.set_cons_zero,List.set_cons_succ]
 cases post with
 | nil=>
  rw [List.append_nil] at h1
  have e:(out.length:Int)=(pre.length:Int):=by rw [h1]
  have hh:Hold (moreB gs out out=more):=⟨h3.symm⟩
  clear h1 h3
  have w1:=zB (n:=k) (by omega)
  repeat' (first|refine go1 ?_|refine za rfl ?_|(refine go2 fun A B a b=>?_;simp only [go_sem, *,zk ty29 rfl,Int.lt_irrefl];(repeat' first|apply a.1|apply b.1|refine iteI (fun h=>?_) fun h=>?_)<;>clear a b A B))
  refine zy (k+1,more,b2,S2) (by simp only;omega) ⟨by simp only;omega,h2,?_,h5⟩ ?_ ⟨[],rfl⟩
  ·obtain⟨j,hj⟩:∃ j,gs.length-k=j+1:=⟨gs.length-k-1,by omega⟩
   have hj2:gs.length-(k+1)=j:=by omega
   simp only [hj2,hj,rndB,hh.out]
  ·((try simp only [zg,zi,zd,zf,List.set_cons_zero,List.set_cons_succ]);all_goals (first|rfl|(simp only [zn,zj,zc,List.length_map,List.length_append,List.length_cons,List.length_nil,Nat.zero_add];first|done|rfl)))
 | cons x post=>
  have hlp:pre.length<out.length:=by rw [h1];simp
  have i1:=idxS (b:=b) (n:=out.length) (off:=0) (len:=out.length) (j:=pre.length) (k := .i64) hlp
  have i2:(ints out)[pre.length]? = some [.int .i64 x]:=by rw [h1];exact zb8 pre x post
  have lt2:(pre.length:Int)<(out.length:Int):=by omega
  have w1:=zB (n:=pre.length) (by omega)
  have q:=(findR h x).rw
  have hh1:Hold (out=(pre++[x])++post):=⟨by rw [h1];simp⟩
  have hm:=h2.len h
  clear h1
  rw [moreB_cons] at h3
  rcases gIdx_cases gs x with ⟨e1,e2⟩|⟨a,c,e1,e2,e3⟩
  ·rw [e1] at h3
   rw [e2] at q
   have hh3:Hold (moreB gs post more=moreB gs out out):=⟨h3⟩
   have z:¬(0:Int)≤-1:=by omega
   clear h3 e1 e2
   repeat' (first|refine go1 ?_|refine za rfl ?_|(refine go2 fun A B a b=>?_;simp only [go_sem, *,zk ty29 rfl];(repeat' first|apply a.1|apply b.1|refine iteI (fun h=>?_) fun h=>?_)<;>clear a b A B))
   repeat' (first|refine go1 ?_|refine za rfl ?_|(refine go2 fun A B a b=>?_;simp only [go_sem, *,zk ty29 rfl,zab,zbI,zc,zC,List.take_length,Nat.zero_le,Bool.true_or];(repeat' first|apply a.1|apply b.1|refine iteI (fun h=>?_) fun h=>?_)<;>clear a b A B))
   refine zy (pre++[x],post,more,b2,S2) (Nat.lt_succ_self _) ⟨hh1.out,h2,hh3.out,h4,h5⟩ ?_ ⟨[],rfl⟩
   ·((try simp only [zg,zi,zd,zf,List.set_cons_zero,List.set_cons_succ]);all_goals (first|rfl|(simp only [zn,zj,zc,List.length_map,List.length_append,List.length_cons,List.length_nil,Nat.zero_add];first|done|rfl)))
  ·rw [e1] at h3
   rw [e3] at q
   have hh3:Hold (moreB gs post (sorted (more++(fnd gs x).subs))=moreB gs out out):=⟨h3⟩
   have z:(0:Int)≤(a.length:Int):=by omega
   have j1:=zbE h.sl (X:=CX) ty24 ty68 rfl (n:=a.length) (row:=encG (fnd gs x)) (k := .i64) (map_at encG e2)
   have g0:=fnd_ok h x
   have gl:=fnd_len h x
   have s2:=g0.sv.snap
   have q2:=(union1 (.tsl false 1 (ints more)) _ more _ (.rows false) g0.sv (by omega) (by omega)).rw
   clear h3 e1 e2 e3
   repeat' (first|refine go1 ?_|refine za rfl ?_|(refine go2 fun A B a b=>?_;simp only [go_sem, *,zk ty29 rfl,encG,zab,zbI,zc,zC,List.take_length,Nat.zero_le,Bool.true_or];(repeat' first|apply a.1|apply b.1|refine iteI (fun h=>?_) fun h=>?_)<;>clear a b A B))
   refine zy (pre++[x],post,sorted (more++(fnd gs x).subs),S2.length,_) (Nat.lt_succ_self _) ⟨hh1.out,h2.more x,hh3.out,get_app h4,?_⟩ ?_ ⟨[],rfl⟩
   ·simp
   ·((try simp only [zg,zi,zd,zf,List.set_cons_zero,List.set_cons_succ]);all_goals (first|rfl|(simp only [zn,zj,zc,List.length_map,List.length_append,List.length_cons,List.length_nil,Nat.zero_add];first|done|rfl)))

/- Groups: the reference's Members, In, Of. -/
open Go.Proofs
attribute [local go_sem] br72 fz123 fz174 fz175 br71 br109 fz128
set_option maxHeartbeats 4000000

def InP (gs:List Grp) (l:List Int):Prop:=UpL l∧∀ x∈l,x∈gs.flatMap (·.people)
theorem ppl_flat {gs:List Grp}(h:∀ g∈gs,g.people.length≤1000):(gs.flatMap (·.people)).length≤gs.length*1000:=by
 induction gs with
 | nil=>simp
 | cons g gs ih=>
  have h1:=h g (by simp)
  have h2:=ih fun x hx=>h x (by simp [hx])
  simp only [List.flatMap_cons,List.length_append,List.length_cons]
  omega
theorem InP.len {v:AV}{gs:List Grp}{l:List Int}(h:InP gs l) (hg:GsOK v gs):l.length≤1000000:=by
 have h1:=nodup_len (up_nodup h.1) h.2
 have h2:=ppl_flat hg.ppl
 have:=hg.len
 omega
theorem InP.more {gs:List Grp}{l:List Int}(h:InP gs l) (x:Int):InP gs (sorted (l++(fnd gs x).people)):=by
 refine⟨zcw _,fun y hy=>?_⟩
 rw [zb9,List.mem_append] at hy
 rcases hy with hy|hy
 ·exact h.2 y hy
 ·rcases zcN gs x with ⟨_,e⟩|⟨_,_,e⟩
  ·rw [e] at hy;simp [noG] at hy
  ·exact List.mem_flatMap.mpr ⟨_,e,hy⟩
/- Groups: the check of one group, in the code and in the reference. -/
open Go.Proofs
attribute [local go_sem] ty23 ty34 ty66 br66 br92 br94 allocK fz39 fz40 fz41 fz42
set_option maxHeartbeats 4000000

def lastG (pre:List Grp):Grp:=pre.getLastD noG
def ordG (pre:List Grp) (x:Grp):Bool:=decide (pre = []) || decide ((lastG pre).id<x.id)
def errG (ps:List Psn) (pre:List Grp) (x:Grp):Int :=
 if idOK x.id=true then if ordG pre x=true then if nameL x.name.data.toList=true then if upB x.people=true then if x.people.all (isP ps)=true then if upB x.subs=true then 0 else 10 else 9 else 10 else 7 else 10 else 2

theorem idOK_cases (n:Int):(idOK n=true∧¬n<1∧¬1099511627776<n)∨(idOK n=false∧n<1)∨(idOK n=false∧¬n<1∧1099511627776<n):=by
 unfold idOK
 by_cases h:n<1
 ·right;left;exact⟨by simp;omega,h⟩
 ·by_cases h2:1099511627776<n
  ·right;right;exact⟨by simp;omega,h,h2⟩
  ·left;exact⟨by simp;omega,h,h2⟩
theorem ordG_cases {v:AV}{gs pre post:List Grp}{x:Grp}(h:GsOK v gs) (hg:gs=pre++x::post) :
  (ordG pre x=true∧¬(0:Int)<(pre.length:Int)) ∨
  (ordG pre x=true∧¬x.id≤(lastG pre).id∧(0:Int)<(pre.length:Int)∧indexAddrA CX 24 v (.int .i64 (IntKind.wrap .i64 ((pre.length:Int)-1)))=some (.tptr (stOf v) (encG (lastG pre)) 0)) ∨
  (ordG pre x=false∧x.id≤(lastG pre).id∧(0:Int)<(pre.length:Int)∧indexAddrA CX 24 v (.int .i64 (IntKind.wrap .i64 ((pre.length:Int)-1)))=some (.tptr (stOf v) (encG (lastG pre)) 0)):=by
 have hgl:=h.len
 by_cases hp:pre = []
 ·left;exact⟨by simp [ordG,hp],by simp [hp]⟩
 ·have z0:(0:Int)<(pre.length:Int):=by have:=List.length_pos_iff.mpr hp;omega
  have e:indexAddrA CX 24 v (.int .i64 (IntKind.wrap .i64 ((pre.length:Int)-1)))=some (.tptr (stOf v) (encG (lastG pre)) 0):=prev_sls (f:=encG) (by rw [←hg];exact h.sl) (by rw [←hg];omega) ty24 ty68 rfl noG z0
  by_cases hl:x.id≤(lastG pre).id
  ·right;right;exact⟨by simp [ordG,hp];omega,hl,z0,e⟩
  ·right;left;exact⟨by simp [ordG,hp];omega,hl,z0,e⟩

/- Groups: the check of one group, in the reference. -/
open Go.Proofs
attribute [local go_sem] br43 br55 br74 br103 fz140 fz143 fz144 fz146 fz148
set_option maxHeartbeats 4000000

theorem oneR {v w:AV}{gs pre post:List Grp}{x:Grp}{ps:List Psn}(h:GsOK v gs) (hw:SLs 3 (ps.map encP) w) (hps:ps.length≤1000) (hg:gs=pre++x::post) (hn:x.name.size≤1048576):EvV CX 69 [w,v,.int .i64 pre.length] (· = .int .i64 (errG ps pre x)):=by
 have i0:=zbE h.sl (X:=CX) ty24 ty68 rfl (n:=pre.length) (row:=encG x) (k := .i64) (map_at encG hg)
 have hx:=h.ok x (by rw [hg];simp)
 have c1:=hx.pv.cell
 have c2:=hx.sv.cell
 have s1:=hx.pv.snap
 have s2:=hx.sv.snap
 have hpl:=h.ppl x (by rw [hg];simp)
 have hsl:=h.subs x (by rw [hg];simp)
 have hws:=hw.snap
 have ho:=ordG_cases h hg
 clear hg
 have qn:=(nameR x.name hn).rw
 have qp:=(up1 _ _ hx.pv (by omega)).rw
 have qs:=(up1 _ _ hx.sv (by omega)).rw
 have qi:=(identR x.id).rw
 clear hn
 rcases idOK_cases x.id with ⟨k1,a1,a2⟩|⟨k1,a1⟩|⟨k1,a1,a2⟩
 rotate_left
 ·clear ho qn qp qs
  refine EvV.walk rfl fn69 rfl nt69 rfl ?_
  simp only [List.length_cons,List.length_nil,List.cons_append,List.nil_append,Nat.reduceAdd,Nat.reduceSub,List.replicate]
  repeat' (first|refine go1 ?_|refine za rfl ?_|(refine zt fun A B a b=>?_;simp only [go_sem, *,encG,zb,ze,zm,zp,zj,zc,List.length_map,zK];(repeat' first|apply a.1|refine iteI (fun h=>?_) fun h=>?_)<;>clear a b A B))
  (refine zY fun A B hA hB=>?_;simp only [go_sem, *];first|(refine hA.out ?_;clear hA hB A B)|(refine hB.out ?_;clear hA hB A B))
  repeat' (first|refine go1 ?_|refine za rfl ?_|(refine zt fun A B a b=>?_;simp only [go_sem, *];(repeat' first|apply a.1|refine iteI (fun h=>?_) fun h=>?_)<;>clear a b A B))
  simp only [go_sem]
  simp [errG,k1]
 ·clear ho qn qp qs
  refine EvV.walk rfl fn69 rfl nt69 rfl ?_
  simp only [List.length_cons,List.length_nil,List.cons_append,List.nil_append,Nat.reduceAdd,Nat.reduceSub,List.replicate]
  repeat' (first|refine go1 ?_|refine za rfl ?_|(refine zt fun A B a b=>?_;simp only [go_sem, *,encG,zb,ze,zm,zp,zj,zc,List.length_map,zK];(repeat' first|apply a.1|refine iteI (fun h=>?_) fun h=>?_)<;>clear a b A B))
  (refine zY fun A B hA hB=>?_;simp only [go_sem, *];first|(refine hA.out ?_;clear hA hB A B)|(refine hB.out ?_;clear hA hB A B))
  repeat' (first|refine go1 ?_|refine za rfl ?_|(refine zt fun A B a b=>?_;simp only [go_sem, *];(repeat' first|apply a.1|refine iteI (fun h=>?_) fun h=>?_)<;>clear a b A B))
  simp only [go_sem]
  simp [errG,k1]
 rcases ho with ⟨k2,e1⟩|⟨k2,e1,e2,e3⟩|⟨k2,e1,e2,e3⟩
 rotate_right
 ·clear qn qp qs
  refine EvV.walk rfl fn69 rfl nt69 rfl ?_
  simp only [List.length_cons,List.length_nil,List.cons_append,List.nil_append,Nat.reduceAdd,Nat.reduceSub,List.replicate]
  repeat' (first|refine go1 ?_|refine za rfl ?_|(refine zt fun A B a b=>?_;simp only [go_sem, *,encG,zb,ze,zm,zp,zj,zc,List.length_map,zK];(repeat' first|apply a.1|refine iteI (fun h=>?_) fun h=>?_)<;>clear a b A B))
  (refine zY fun A B hA hB=>?_;simp only [go_sem, *];first|(refine hA.out ?_;clear hA hB A B)|(refine hB.out ?_;clear hA hB A B))
  repeat' (first|refine go1 ?_|refine za rfl ?_|(refine zt fun A B a b=>?_;simp only [go_sem, *,encG,zb,ze,zm,zp,zj,zc,List.length_map,zK];(repeat' first|apply a.1|refine iteI (fun h=>?_) fun h=>?_)<;>clear a b A B))
  (refine zY fun A B hA hB=>?_;simp only [go_sem, *];first|(refine hA.out ?_;clear hA hB A B)|(refine hB.out ?_;clear hA hB A B))
  repeat' (first|refine go1 ?_|refine za rfl ?_|(refine zt fun A B a b=>?_;simp only [go_sem, *,encG,zb,ze,zm,zp,zj,zc,List.length_map,zK];(repeat' first|apply a.1|refine iteI (fun h=>?_) fun h=>?_)<;>clear a b A B))
  simp only [go_sem]
  simp [errG,k1,k2]
 all_goals
  by_cases k3:nameL x.name.data.toList=true
  rotate_left
  ·have k3:nameL x.name.data.toList=false:=by simpa using k3
   clear qp qs
   refine EvV.walk rfl fn69 rfl nt69 rfl ?_
   simp only [List.length_cons,List.length_nil,List.cons_append,List.nil_append,Nat.reduceAdd,Nat.reduceSub,List.replicate]
   repeat' (first|refine go1 ?_|refine za rfl ?_|(refine zt fun A B a b=>?_;simp only [go_sem, *,encG,zb,ze,zm,zp,zj,zc,List.length_map,zK];(repeat' first|apply a.1|refine iteI (fun h=>?_) fun h=>?_)<;>clear a b A B))
   (refine zY fun A B hA hB=>?_;simp only [go_sem, *];first|(refine hA.out ?_;clear hA hB A B)|(refine hB.out ?_;clear hA hB A B))
   repeat' (first|refine go1 ?_|refine za rfl ?_|(refine zt fun A B a b=>?_;simp only [go_sem, *,encG,zb,ze,zm,zp,zj,zc,List.length_map,zK];(repeat' first|apply a.1|refine iteI (fun h=>?_) fun h=>?_)<;>clear a b A B))
   (refine zY fun A B hA hB=>?_;simp only [go_sem, *];first|(refine hA.out ?_;clear hA hB A B)|(refine hB.out ?_;clear hA hB A B))
   repeat' (first|refine go1 ?_|refine za rfl ?_|(refine zt fun A B a b=>?_;simp only [go_sem, *,encG,zb,ze,zm,zp,zj,zc,List.length_map,zK];(repeat' first|apply a.1|refine iteI (fun h=>?_) fun h=>?_)<;>clear a b A B))
   (refine zY fun A B hA hB=>?_;simp only [go_sem, *];first|(refine hA.out ?_;clear hA hB A B)|(refine hB.out ?_;clear hA hB A B))
   repeat' (first|refine go1 ?_|refine za rfl ?_|(refine zt fun A B a b=>?_;simp only [go_sem, *];(repeat' first|apply a.1|refine iteI (fun h=>?_) fun h=>?_)<;>clear a b A B))
   simp only [go_sem]
   simp [errG,k1,k2,k3]
  by_cases k4:upB x.people=true
  rotate_left
  ·have k4:upB x.people=false:=by simpa using k4
   clear qs
   refine EvV.walk rfl fn69 rfl nt69 rfl ?_
   simp only [List.length_cons,List.length_nil,List.cons_append,List.nil_append,Nat.reduceAdd,Nat.reduceSub,List.replicate]
   repeat' (first|refine go1 ?_|refine za rfl ?_|(refine zt fun A B a b=>?_;simp only [go_sem, *,encG,zb,ze,zm,zp,zj,zc,List.length_map,zK];(repeat' first|apply a.1|refine iteI (fun h=>?_) fun h=>?_)<;>clear a b A B))
   (refine zY fun A B hA hB=>?_;simp only [go_sem, *];first|(refine hA.out ?_;clear hA hB A B)|(refine hB.out ?_;clear hA hB A B))
   repeat' (first|refine go1 ?_|refine za rfl ?_|(refine zt fun A B a b=>?_;simp only [go_sem, *,encG,zb,ze,zm,zp,zj,zc,List.length_map,zK];(repeat' first|apply a.1|refine iteI (fun h=>?_) fun h=>?_)<;>clear a b A B))
   (refine zY fun A B hA hB=>?_;simp only [go_sem, *];first|(refine hA.out ?_;clear hA hB A B)|(refine hB.out ?_;clear hA hB A B))
   repeat' (first|refine go1 ?_|refine za rfl ?_|(refine zt fun A B a b=>?_;simp only [go_sem, *,encG,zb,ze,zm,zp,zj,zc,List.length_map,zK];(repeat' first|apply a.1|refine iteI (fun h=>?_) fun h=>?_)<;>clear a b A B))
   (refine zY fun A B hA hB=>?_;simp only [go_sem, *];first|(refine hA.out ?_;clear hA hB A B)|(refine hB.out ?_;clear hA hB A B))
   repeat' (first|refine go1 ?_|refine za rfl ?_|(refine zt fun A B a b=>?_;simp only [go_sem, *,encG,zb,ze,zm,zp,zj,zc,List.length_map,zK];(repeat' first|apply a.1|refine iteI (fun h=>?_) fun h=>?_)<;>clear a b A B))
   (refine zY fun A B hA hB=>?_;simp only [go_sem, *];first|(refine hA.out ?_;clear hA hB A B)|(refine hB.out ?_;clear hA hB A B))
   repeat' (first|refine go1 ?_|refine za rfl ?_|(refine zt fun A B a b=>?_;simp only [go_sem, *];(repeat' first|apply a.1|refine iteI (fun h=>?_) fun h=>?_)<;>clear a b A B))
   simp only [go_sem]
   simp [errG,k1,k2,k3,k4]
  refine EvV.walk rfl fn69 rfl nt69 rfl ?_
  simp only [List.length_cons,List.length_nil,List.cons_append,List.nil_append,Nat.reduceAdd,Nat.reduceSub,List.replicate]
  repeat' (first|refine go1 ?_|refine za rfl ?_|(refine zt fun A B a b=>?_;simp only [go_sem, *,encG,zb,ze,zm,zp,zj,zc,List.length_map,zK];(repeat' first|apply a.1|refine iteI (fun h=>?_) fun h=>?_)<;>clear a b A B))
  (refine zY fun A B hA hB=>?_;simp only [go_sem, *];first|(refine hA.out ?_;clear hA hB A B)|(refine hB.out ?_;clear hA hB A B))
  repeat' (first|refine go1 ?_|refine za rfl ?_|(refine zt fun A B a b=>?_;simp only [go_sem, *,encG,zb,ze,zm,zp,zj,zc,List.length_map,zK];(repeat' first|apply a.1|refine iteI (fun h=>?_) fun h=>?_)<;>clear a b A B))
  (refine zY fun A B hA hB=>?_;simp only [go_sem, *];first|(refine hA.out ?_;clear hA hB A B)|(refine hB.out ?_;clear hA hB A B))
  repeat' (first|refine go1 ?_|refine za rfl ?_|(refine zt fun A B a b=>?_;simp only [go_sem, *,encG,zb,ze,zm,zp,zj,zc,List.length_map,zK];(repeat' first|apply a.1|refine iteI (fun h=>?_) fun h=>?_)<;>clear a b A B))
  (refine zY fun A B hA hB=>?_;simp only [go_sem, *];first|(refine hA.out ?_;clear hA hB A B)|(refine hB.out ?_;clear hA hB A B))
  repeat' (first|refine go1 ?_|refine za rfl ?_|(refine zt fun A B a b=>?_;simp only [go_sem, *,encG,zb,ze,zm,zp,zj,zc,List.length_map,zK];(repeat' first|apply a.1|refine iteI (fun h=>?_) fun h=>?_)<;>clear a b A B))
  (refine zY fun A B hA hB=>?_;simp only [go_sem, *];first|(refine hA.out ?_;clear hA hB A B)|(refine hB.out ?_;clear hA hB A B))
  repeat' (first|refine go1 ?_|refine za rfl ?_|(refine zt fun A B a b=>?_;simp only [go_sem, *,encG,zb,ze,zm,zp,zj,zc,List.length_map,zK,zA hx.pv];(repeat' first|apply a.1|refine iteI (fun h=>?_) fun h=>?_)<;>clear a b A B))
  clear qn qp qi
  refine zbS [6,8,9,10,44,45,46,47,48,49,50,51,52,53,54,55,56,57,58] 43 x.people (fun _ post=>x.people.all (isP ps)=post.all (isP ps)) ?_ ?_ ?_ ?_
  ·rfl
  ·rfl
  ·intro g G hE
   simp only [zo,zq,zd,zf,List.set_cons_zero,List.set_cons_succ]
   have k5:x.people.all (isP ps)=true:=by rw [hE];rfl
   clear hE
   repeat' (first|refine go1 ?_|refine za rfl ?_|(refine zt fun A B a b=>?_;simp only [go_sem, *,zc,List.length_map,Int.lt_irrefl];(repeat' first|apply a.1|refine iteI (fun h=>?_) fun h=>?_)<;>clear a b A B))
   (refine zY fun A B hA hB=>?_;simp only [go_sem, *,zc,List.length_map,Int.lt_irrefl];first|(refine hA.out ?_;clear hA hB A B)|(refine hB.out ?_;clear hA hB A B))
   repeat' (first|refine go1 ?_|refine za rfl ?_|(refine zt fun A B a b=>?_;simp only [go_sem, *,encG,zb,ze,zm,zp,zj,zc,List.length_map,zK];(repeat' first|apply a.1|refine iteI (fun h=>?_) fun h=>?_)<;>clear a b A B))
   by_cases k6:upB x.subs=true
   ·(refine zY fun A B hA hB=>?_;simp only [go_sem, *];first|(refine hA.out ?_;clear hA hB A B)|(refine hB.out ?_;clear hA hB A B))
    repeat' (first|refine go1 ?_|refine za rfl ?_|(refine zt fun A B a b=>?_;simp only [go_sem, *];(repeat' first|apply a.1|refine iteI (fun h=>?_) fun h=>?_)<;>clear a b A B))
    simp only [go_sem]
    simp only [errG,k1,k2,k3,k4,k5,k6,if_true]
   ·have k6:upB x.subs=false:=by simpa using k6
    (refine zY fun A B hA hB=>?_;simp only [go_sem, *];first|(refine hA.out ?_;clear hA hB A B)|(refine hB.out ?_;clear hA hB A B))
    repeat' (first|refine go1 ?_|refine za rfl ?_|(refine zt fun A B a b=>?_;simp only [go_sem, *];(repeat' first|apply a.1|refine iteI (fun h=>?_) fun h=>?_)<;>clear a b A B))
    simp only [go_sem]
    simp [errG,k1,k2,k3,k4,k5,k6]
  ·intro g G pr y po h1 hE
   simp only [zo,zq,zd,zf,List.set_cons_zero,List.set_cons_succ]
   have j1:=zbE hx.pv (X:=CX) ty29 ty3 rfl (by rw [h1];exact zb8 pr y po) (k := .i64)
   have lt1:(pr.length:Int)<(x.people.length:Int):=by rw [h1];simp;omega
   have w1:=zB (n:=pr.length) (by omega)
   have q:=(personR w ps y hw (by omega)).rw
   have hh1:Hold (x.people=pr++y::po):=⟨h1⟩
   have hhE:Hold (x.people.all (isP ps)=(y::po).all (isP ps)):=⟨hE⟩
   clear h1 hE
   by_cases k5:isP ps y=true
   ·repeat' (first|refine go1 ?_|refine za rfl ?_|(refine zt fun A B a b=>?_;simp only [go_sem, *,encG,zb,ze,zm,zp,zj,zc,List.length_map,zK];(repeat' first|apply a.1|refine iteI (fun h=>?_) fun h=>?_)<;>clear a b A B))
    (refine zY fun A B hA hB=>?_;simp only [go_sem, *];first|(refine hA.out ?_;clear hA hB A B)|(refine hB.out ?_;clear hA hB A B))
    repeat' (first|refine go1 ?_|refine za rfl ?_|(refine zt fun A B a b=>?_;simp only [go_sem, *,encG,zb,ze,zm,zp,zj,zc,List.length_map,zK,zbL,encP];(repeat' first|apply a.1|refine iteI (fun h=>?_) fun h=>?_)<;>clear a b A B))
    (refine zY fun A B hA hB=>?_;simp only [go_sem, *];first|(refine hA.out ?_;clear hA hB A B)|(refine hB.out ?_;clear hA hB A B))
    repeat' (first|refine go1 ?_|refine za rfl ?_|(refine zt fun A B a b=>?_;simp only [go_sem, *];(repeat' first|apply a.1|refine iteI (fun h=>?_) fun h=>?_)<;>clear a b A B))
    refine zbH hh1.out ?_ ?_ ?_
    ·rw [hhE.out,List.all_cons,k5,Bool.true_and]
    ·((try simp only [zg,zi,zd,zf,List.set_cons_zero,List.set_cons_succ]);all_goals (first|rfl|(simp only [zn,zj,zc,List.length_map,List.length_append,List.length_cons,List.length_nil,Nat.zero_add];first|done|rfl)))
    ·first|exact⟨[],(List.append_nil _).symm⟩|exact⟨_,rfl⟩|(simp only [List.append_assoc,List.cons_append,List.nil_append];exact⟨_,rfl⟩)
   ·have k5:isP ps y=false:=by simpa using k5
    repeat' (first|refine go1 ?_|refine za rfl ?_|(refine zt fun A B a b=>?_;simp only [go_sem, *,encG,zb,ze,zm,zp,zj,zc,List.length_map,zK];(repeat' first|apply a.1|refine iteI (fun h=>?_) fun h=>?_)<;>clear a b A B))
    (refine zY fun A B hA hB=>?_;simp only [go_sem, *];first|(refine hA.out ?_;clear hA hB A B)|(refine hB.out ?_;clear hA hB A B))
    repeat' (first|refine go1 ?_|refine za rfl ?_|(refine zt fun A B a b=>?_;simp only [go_sem, *,encG,zb,ze,zm,zp,zj,zc,List.length_map,zK,zbL,encP];(repeat' first|apply a.1|refine iteI (fun h=>?_) fun h=>?_)<;>clear a b A B))
    (refine zY fun A B hA hB=>?_;simp only [go_sem, *];first|(refine hA.out ?_;clear hA hB A B)|(refine hB.out ?_;clear hA hB A B))
    repeat' (first|refine go1 ?_|refine za rfl ?_|(refine zt fun A B a b=>?_;simp only [go_sem, *];(repeat' first|apply a.1|refine iteI (fun h=>?_) fun h=>?_)<;>clear a b A B))
    simp only [go_sem]
    have e:x.people.all (isP ps)=false:=by rw [hhE.out,List.all_cons,k5,Bool.false_and]
    simp [errG,k1,k2,k3,k4,e]

/- Groups: Check, in the code and in the reference. -/
open Go.Proofs
attribute [local go_sem] br62 br63 br64 br65 fz43 fz44 fz45
set_option maxHeartbeats 4000000

def errF (ps:List Psn):List Grp→List Grp→Int
 | _,[]=>0
 | pre,x::post=>if errG ps pre x=0 then errF ps (pre++[x]) post else errG ps pre x
noncomputable def chkG (ps:List Psn) (gs:List Grp):Int :=
 if gs.length≤20 then if errF ps [] gs=0 then if gs.all (fun g=>g.subs.all (isG gs))=true then if gs.any (fun g=>(below gs g.id).contains g.id)=true then 17 else 0 else 9 else errF ps [] gs else 11

/- Groups: Check of the reference. -/
open Go.Proofs
attribute [local go_sem] br69 fz152 fz157 fz160
set_option maxHeartbeats 4000000

theorem clo_of {gs:List Grp}(h:gs.all (fun g=>g.subs.all (isG gs))=true):Clo gs:=by
 intro g hg s hs
 simp only [List.all_eq_true] at h
 exact h g hg s hs

theorem checkR {v w:AV}{gs:List Grp}{ps:List Psn}(h:GsOK v gs) (hw:SLs 3 (ps.map encP) w) (hps:ps.length≤1000) (hn:∀ g∈gs,g.name.size≤1048576):EvV CX 39 [w,v] (· = .int .i64 (chkG ps gs)):=by
 have hvs:=fun S=>h.sl.snap (S:=S)
 have hws:=hw.snap
 have hgl:=h.len
 by_cases k1:20<(gs.length:Int)
 ·refine EvV.walk rfl fn39 rfl nt39 rfl ?_
  simp only [List.length_cons,List.length_nil,List.cons_append,List.nil_append,Nat.reduceAdd,Nat.reduceSub,List.replicate]
  repeat' (first|refine go1 ?_|refine za rfl ?_|(refine zt fun A B a b=>?_;simp only [go_sem, *,zA h.sl,zb,ze,zm,zp,zj,zc,List.length_map,zK];(repeat' first|apply a.1|refine iteI (fun h=>?_) fun h=>?_)<;>clear a b A B))
  (refine zY fun A B hA hB=>?_;simp only [go_sem, *,zb,ze,zm,zp,zj,zc,List.length_map,zK];first|(refine hA.out ?_;clear hA hB A B)|(refine hB.out ?_;clear hA hB A B))
  repeat' (first|refine go1 ?_|refine za rfl ?_|(refine zt fun A B a b=>?_;simp only [go_sem, *];(repeat' first|apply a.1|refine iteI (fun h=>?_) fun h=>?_)<;>clear a b A B))
  simp only [go_sem]
  have:¬gs.length≤20:=by omega
  simp [chkG,this]
 have l20:gs.length≤20:=by omega
 refine EvV.walk rfl fn39 rfl nt39 rfl ?_
 simp only [List.length_cons,List.length_nil,List.cons_append,List.nil_append,Nat.reduceAdd,Nat.reduceSub,List.replicate]
 repeat' (first|refine go1 ?_|refine za rfl ?_|(refine zt fun A B a b=>?_;simp only [go_sem, *,zA h.sl,zb,ze,zm,zp,zj,zc,List.length_map,zK];(repeat' first|apply a.1|refine iteI (fun h=>?_) fun h=>?_)<;>clear a b A B))
 (refine zY fun A B hA hB=>?_;simp only [go_sem, *,zb,ze,zm,zp,zj,zc,List.length_map,zK];first|(refine hA.out ?_;clear hA hB A B)|(refine hB.out ?_;clear hA hB A B))
 repeat' (first|refine go1 ?_|refine za rfl ?_|(refine zt fun A B a b=>?_;simp only [go_sem, *,zA h.sl,zb,ze,zm,zp,zj,zc,List.length_map,zK];(repeat' first|apply a.1|refine iteI (fun h=>?_) fun h=>?_)<;>clear a b A B))
 have hl20:Hold (gs.length≤20):=⟨l20⟩
 clear k1 l20
 refine zbS [4,5,6,16,17,18,19,20,21,22,23,24,25] 15 gs (fun pre post=>errF ps [] gs=errF ps pre post) ?_ ?_ ?_ ?_
 ·rfl
 ·rfl
 rotate_left
 ·intro g G pre x post h1 hE
  have lt1:(pre.length:Int)<(gs.length:Int):=by rw [h1];simp;omega
  have w1:=zB (n:=pre.length) (by rw [h1] at hgl;simp at hgl;omega)
  have q:=(oneR h hw hps h1 (hn x (by rw [h1];simp))).rw
  have hh1:Hold (gs=pre++x::post):=⟨h1⟩
  have hhE:Hold (errF ps [] gs=errF ps pre (x::post)):=⟨hE⟩
  clear h1 hE
  obtain⟨e,he⟩:∃ e,errG ps pre x=e:=⟨_,rfl⟩
  have hhe:Hold (errG ps pre x=e):=⟨he⟩
  rw [he] at q
  clear he
  simp only [zo,zq,zd,zf,List.set_cons_zero,List.set_cons_succ]
  by_cases k2:e=0
  ·subst k2
   have z:((0:Int) != 0)=false:=rfl
   repeat' (first|refine go1 ?_|refine za rfl ?_|(refine zt fun A B a b=>?_;simp only [go_sem, *];(repeat' first|apply a.1|refine iteI (fun h=>?_) fun h=>?_)<;>clear a b A B))
   (refine zY fun A B hA hB=>?_;simp only [go_sem, *];first|(refine hA.out ?_;clear hA hB A B)|(refine hB.out ?_;clear hA hB A B))
   repeat' (first|refine go1 ?_|refine za rfl ?_|(refine zt fun A B a b=>?_;simp only [go_sem, *,zb,ze,zm,zp,zj,zc,List.length_map,zK];(repeat' first|apply a.1|refine iteI (fun h=>?_) fun h=>?_)<;>clear a b A B))
   (refine zY fun A B hA hB=>?_;simp only [go_sem, *];first|(refine hA.out ?_;clear hA hB A B)|(refine hB.out ?_;clear hA hB A B))
   repeat' (first|refine go1 ?_|refine za rfl ?_|(refine zt fun A B a b=>?_;simp only [go_sem, *];(repeat' first|apply a.1|refine iteI (fun h=>?_) fun h=>?_)<;>clear a b A B))
   refine zbH hh1.out ?_ ?_ ?_
   ·rw [hhE.out,errF,if_pos hhe.out]
   ·((try simp only [zg,zi,zd,zf,List.set_cons_zero,List.set_cons_succ]);all_goals (first|rfl|(simp only [zn,zj,zc,List.length_map,List.length_append,List.length_cons,List.length_nil,Nat.zero_add];first|done|rfl)))
   ·first|exact⟨[],(List.append_nil _).symm⟩|exact⟨_,rfl⟩|(simp only [List.append_assoc,List.cons_append,List.nil_append];exact⟨_,rfl⟩)
  ·repeat' (first|refine go1 ?_|refine za rfl ?_|(refine zt fun A B a b=>?_;simp only [go_sem, *];(repeat' first|apply a.1|refine iteI (fun h=>?_) fun h=>?_)<;>clear a b A B))
   (refine zY fun A B hA hB=>?_;simp only [go_sem, *];first|(refine hA.out ?_;clear hA hB A B)|(refine hB.out ?_;clear hA hB A B))
   repeat' (first|refine go1 ?_|refine za rfl ?_|(refine zt fun A B a b=>?_;simp only [go_sem, *,zb,ze,zm,zp,zj,zc,List.length_map,zK];(repeat' first|apply a.1|refine iteI (fun h=>?_) fun h=>?_)<;>clear a b A B))
   (refine zY fun A B hA hB=>?_;simp only [go_sem, *];first|(refine hA.out ?_;clear hA hB A B)|(refine hB.out ?_;clear hA hB A B))
   repeat' (first|refine go1 ?_|refine za rfl ?_|(refine zt fun A B a b=>?_;simp only [go_sem, *];(repeat' first|apply a.1|refine iteI (fun h=>?_) fun h=>?_)<;>clear a b A B))
   simp only [go_sem]
   have e1:errF ps [] gs=e:=by rw [hhE.out,errF,hhe.out,if_neg k2]
   simp [chkG,hl20.out,e1,k2]
 intro g G hE
 have hhE:Hold (errF ps [] gs=0):=⟨hE⟩
 clear hE
 simp only [zo,zq,zd,zf,List.set_cons_zero,List.set_cons_succ]
 repeat' (first|refine go1 ?_|refine za rfl ?_|(refine zt fun A B a b=>?_;simp only [go_sem, *];(repeat' first|apply a.1|refine iteI (fun h=>?_) fun h=>?_)<;>clear a b A B))
 (refine zY fun A B hA hB=>?_;simp only [go_sem, *,Int.lt_irrefl];first|(refine hA.out ?_;clear hA hB A B)|(refine hB.out ?_;clear hA hB A B))
 repeat' (first|refine go1 ?_|refine za rfl ?_|(refine zt fun A B a b=>?_;simp only [go_sem, *,zA h.sl,zb,ze,zm,zp,zj,zc,List.length_map,zK];(repeat' first|apply a.1|refine iteI (fun h=>?_) fun h=>?_)<;>clear a b A B))
 refine zbS [4,7,8,29,30,31,32,33,34,35,36,37,38,39,40,41,42,43,44,45,46,47,48,49,50,51,52] 28 gs (fun pre post=>gs.all (fun g=>g.subs.all (isG gs))=post.all (fun g=>g.subs.all (isG gs))) ?_ ?_ ?_ ?_
 ·rfl
 ·rfl
 rotate_left
 ·intro g G pre x post h1 hE
  have i0:=zbE h.sl (X:=CX) ty24 ty68 rfl (n:=pre.length) (row:=encG x) (k := .i64) (map_at encG h1)
  have lt1:(pre.length:Int)<(gs.length:Int):=by rw [h1];simp;omega
  have w1:=zB (n:=pre.length) (by rw [h1] at hgl;simp at hgl;omega)
  have hxm:x∈gs:=by rw [h1];simp
  have hx:=h.ok x hxm
  have hsl:=h.subs x hxm
  have c1:=hx.pv.cell
  have c2:=hx.sv.cell
  have s1:=hx.pv.snap
  have s2:=hx.sv.snap
  have hh1:Hold (gs=pre++x::post):=⟨h1⟩
  have hhE:Hold (gs.all (fun g=>g.subs.all (isG gs))=(x::post).all (fun g=>g.subs.all (isG gs))):=⟨hE⟩
  clear h1 hE hxm
  simp only [zo,zq,zd,zf,List.set_cons_zero,List.set_cons_succ]
  repeat' (first|refine go1 ?_|refine za rfl ?_|(refine zt fun A B a b=>?_;simp only [go_sem, *];(repeat' first|apply a.1|refine iteI (fun h=>?_) fun h=>?_)<;>clear a b A B))
  (refine zY fun A B hA hB=>?_;simp only [go_sem, *];first|(refine hA.out ?_;clear hA hB A B)|(refine hB.out ?_;clear hA hB A B))
  repeat' (first|refine go1 ?_|refine za rfl ?_|(refine zt fun A B a b=>?_;simp only [go_sem, *,encG,zb,ze,zm,zp,zj,zc,List.length_map,zK,zbL,za6,zA hx.sv];(repeat' first|apply a.1|refine iteI (fun h=>?_) fun h=>?_)<;>clear a b A B))
  refine zbS [4,8,38,39,40,41,42,43,44,45,46,47,48,49,50,51] 37 x.subs (fun _ post=>x.subs.all (isG gs)=post.all (isG gs)) ?_ ?_ ?_ ?_
  ·rfl
  ·rfl
  ·intro g' G' hS
   have hhS:Hold (x.subs.all (isG gs)=true):=⟨by rw [hS];rfl⟩
   clear hS
   simp only [zo,zq,zd,zf,List.set_cons_zero,List.set_cons_succ]
   repeat' (first|refine go1 ?_|refine za rfl ?_|(refine zt fun A B a b=>?_;simp only [go_sem, *];(repeat' first|apply a.1|refine iteI (fun h=>?_) fun h=>?_)<;>clear a b A B))
   (refine zY fun A B hA hB=>?_;simp only [go_sem, *,zc,List.length_map,Int.lt_irrefl];first|(refine hA.out ?_;clear hA hB A B)|(refine hB.out ?_;clear hA hB A B))
   repeat' (first|refine go1 ?_|refine za rfl ?_|(refine zt fun A B a b=>?_;simp only [go_sem, *];(repeat' first|apply a.1|refine iteI (fun h=>?_) fun h=>?_)<;>clear a b A B))
   refine zbH hh1.out ?_ ?_ ?_
   ·rw [hhE.out,List.all_cons,hhS.out,Bool.true_and]
   ·((try simp only [zg,zi,zd,zf,List.set_cons_zero,List.set_cons_succ]);all_goals (first|rfl|(simp only [zn,zj,zc,List.length_map,List.length_append,List.length_cons,List.length_nil,Nat.zero_add];first|done|rfl)))
   ·first|exact⟨[],(List.append_nil _).symm⟩|exact⟨_,rfl⟩|(simp only [List.append_assoc,List.cons_append,List.nil_append];exact⟨_,rfl⟩)
  ·intro g' G' pr y po h2 hS
   have j1:=zbE hx.sv (X:=CX) ty29 ty3 rfl (by rw [h2];exact zb8 pr y po) (k := .i64)
   have lt2:(pr.length:Int)<(x.subs.length:Int):=by rw [h2];simp;omega
   have w2:=zB (n:=pr.length) (by omega)
   have q:=(findR h y).rw
   have hh2:Hold (x.subs=pr++y::po):=⟨h2⟩
   have hhS:Hold (x.subs.all (isG gs)=(y::po).all (isG gs)):=⟨hS⟩
   clear h2 hS
   simp only [zo,zq,zd,zf,List.set_cons_zero,List.set_cons_succ]
   rcases gIdx_cases gs y with ⟨k5,e2⟩|⟨a,b,k5,e2,e3⟩
   rotate_left
   ·rw [e3] at q
    have z:¬(a.length:Int)<0:=by omega
    clear e2 e3
    repeat' (first|refine go1 ?_|refine za rfl ?_|(refine zt fun A B a b=>?_;simp only [go_sem, *,zc];(repeat' first|apply a.1|refine iteI (fun h=>?_) fun h=>?_)<;>clear a b A B))
    (refine zY fun A B hA hB=>?_;simp only [go_sem, *];first|(refine hA.out ?_;clear hA hB A B)|(refine hB.out ?_;clear hA hB A B))
    repeat' (first|refine go1 ?_|refine za rfl ?_|(refine zt fun A B a b=>?_;simp only [go_sem, *,encG,zb,ze,zm,zp,zj,zc,List.length_map,zK,zbL,za6];(repeat' first|apply a.1|refine iteI (fun h=>?_) fun h=>?_)<;>clear a b A B))
    (refine zY fun A B hA hB=>?_;simp only [go_sem, *];first|(refine hA.out ?_;clear hA hB A B)|(refine hB.out ?_;clear hA hB A B))
    repeat' (first|refine go1 ?_|refine za rfl ?_|(refine zt fun A B a b=>?_;simp only [go_sem, *];(repeat' first|apply a.1|refine iteI (fun h=>?_) fun h=>?_)<;>clear a b A B))
    refine zbH hh2.out ?_ ?_ ?_
    ·rw [hhS.out,List.all_cons,k5,Bool.true_and]
    ·((try simp only [zg,zi,zd,zf,List.set_cons_zero,List.set_cons_succ]);all_goals (first|rfl|(simp only [zn,zj,zc,List.length_map,List.length_append,List.length_cons,List.length_nil,Nat.zero_add];first|done|rfl)))
    ·first|exact⟨[],(List.append_nil _).symm⟩|exact⟨_,rfl⟩|(simp only [List.append_assoc,List.cons_append,List.nil_append];exact⟨_,rfl⟩)
   ·rw [e2] at q
    have z:(-1:Int)<0:=by omega
    clear e2
    repeat' (first|refine go1 ?_|refine za rfl ?_|(refine zt fun A B a b=>?_;simp only [go_sem, *,zc];(repeat' first|apply a.1|refine iteI (fun h=>?_) fun h=>?_)<;>clear a b A B))
    (refine zY fun A B hA hB=>?_;simp only [go_sem, *];first|(refine hA.out ?_;clear hA hB A B)|(refine hB.out ?_;clear hA hB A B))
    repeat' (first|refine go1 ?_|refine za rfl ?_|(refine zt fun A B a b=>?_;simp only [go_sem, *,encG,zb,ze,zm,zp,zj,zc,List.length_map,zK,zbL,za6];(repeat' first|apply a.1|refine iteI (fun h=>?_) fun h=>?_)<;>clear a b A B))
    (refine zY fun A B hA hB=>?_;simp only [go_sem, *];first|(refine hA.out ?_;clear hA hB A B)|(refine hB.out ?_;clear hA hB A B))
    repeat' (first|refine go1 ?_|refine za rfl ?_|(refine zt fun A B a b=>?_;simp only [go_sem, *];(repeat' first|apply a.1|refine iteI (fun h=>?_) fun h=>?_)<;>clear a b A B))
    simp only [go_sem]
    have e:gs.all (fun g=>g.subs.all (isG gs))=false:=by rw [hhE.out,List.all_cons,hhS.out,List.all_cons,k5,Bool.false_and,Bool.false_and]
    have e':¬gs.all (fun g=>g.subs.all (isG gs))=true:=by rw [e];decide
    rw [chkG,if_pos hl20.out,if_pos (by assumption:Hold (errF ps [] gs=0)).out,if_neg e']
 intro g' G' hA
 have hhA:Hold (gs.all (fun g=>g.subs.all (isG gs))=true):=⟨by rw [hA];rfl⟩
 clear hA
 simp only [zo,zq,zd,zf,List.set_cons_zero,List.set_cons_succ]
 generalize G++G'=G0
 repeat' (first|refine go1 ?_|refine za rfl ?_|(refine zt fun A B a b=>?_;simp only [go_sem, *];(repeat' first|apply a.1|refine iteI (fun h=>?_) fun h=>?_)<;>clear a b A B))
 (refine zY fun A B hA hB=>?_;simp only [go_sem, *,Int.lt_irrefl];first|(refine hA.out ?_;clear hA hB A B)|(refine hB.out ?_;clear hA hB A B))
 repeat' (first|refine go1 ?_|refine za rfl ?_|(refine zt fun A B a b=>?_;simp only [go_sem, *,zA h.sl,zb,ze,zm,zp,zj,zc,List.length_map,zK];(repeat' first|apply a.1|refine iteI (fun h=>?_) fun h=>?_)<;>clear a b A B))
 refine zbS [4,9,56,57,58,59,60,61,62,63,64,65,66,67,68,69,70,71] 55 gs (fun pre post=>gs.any (fun g=>(below gs g.id).contains g.id)=post.any (fun g=>(below gs g.id).contains g.id)) ?_ ?_ ?_ ?_
 ·rfl
 ·rfl
 ·intro g G hE
  have hhN:Hold (gs.any (fun g=>(below gs g.id).contains g.id)=false):=⟨by rw [hE];rfl⟩
  clear hE
  simp only [zo,zq,zd,zf,List.set_cons_zero,List.set_cons_succ]
  repeat' (first|refine go1 ?_|refine za rfl ?_|(refine zt fun A B a b=>?_;simp only [go_sem, *];(repeat' first|apply a.1|refine iteI (fun h=>?_) fun h=>?_)<;>clear a b A B))
  (refine zY fun A B hA hB=>?_;simp only [go_sem, *,Int.lt_irrefl];first|(refine hA.out ?_;clear hA hB A B)|(refine hB.out ?_;clear hA hB A B))
  repeat' (first|refine go1 ?_|refine za rfl ?_|(refine zt fun A B a b=>?_;simp only [go_sem, *];(repeat' first|apply a.1|refine iteI (fun h=>?_) fun h=>?_)<;>clear a b A B))
  simp only [go_sem]
  have e':¬gs.any (fun g=>(below gs g.id).contains g.id)=true:=by rw [hhN.out];decide
  rw [chkG,if_pos hl20.out,if_pos hhE.out,if_pos hhA.out,if_neg e']
 ·intro g G pre x post h1 hE
  have i0:=zbE h.sl (X:=CX) ty24 ty68 rfl (n:=pre.length) (row:=encG x) (k := .i64) (map_at encG h1)
  have lt1:(pre.length:Int)<(gs.length:Int):=by rw [h1];simp;omega
  have w1:=zB (n:=pre.length) (by rw [h1] at hgl;simp at hgl;omega)
  have hxm:x∈gs:=by rw [h1];simp
  have hx:=h.ok x hxm
  have c1:=hx.pv.cell
  have c2:=hx.sv.cell
  have s1:=hx.pv.snap
  have s2:=hx.sv.snap
  have hh1:Hold (gs=pre++x::post):=⟨h1⟩
  have hhN:Hold (gs.any (fun g=>(below gs g.id).contains g.id)=(x::post).any (fun g=>(below gs g.id).contains g.id)):=⟨hE⟩
  have hbl:=below_len gs x.id
  have q:=(belowRE h x.id).rw
  rw [belowR_eq (clo_of hhA.out)] at q
  clear h1 hE hxm
  simp only [zo,zq,zd,zf,List.set_cons_zero,List.set_cons_succ]
  obtain⟨GG,hGG⟩:∃ GG,GG=G0++G:=⟨_,rfl⟩
  rw [←hGG]
  have hhG:Hold (GG=G0++G):=⟨hGG⟩
  clear hGG
  have q2:=(has1 (.tsl false 1 (ints (below gs x.id))) _ x.id (.rows false) (by omega)).rw
  by_cases k5:(below gs x.id).contains x.id=true
  ·rw [k5] at q2
   repeat' (first|refine go1 ?_|refine za rfl ?_|(refine zt fun A B a b=>?_;simp only [go_sem, *];(repeat' first|apply a.1|refine iteI (fun h=>?_) fun h=>?_)<;>clear a b A B))
   (refine zY fun A B hA hB=>?_;simp only [go_sem, *];first|(refine hA.out ?_;clear hA hB A B)|(refine hB.out ?_;clear hA hB A B))
   repeat' (first|refine go1 ?_|refine za rfl ?_|(refine zt fun A B a b=>?_;simp only [go_sem, *,encG,zb,ze,zm,zp,zj,zc,List.length_map,zK,zbL,za6,zab,zbI,zC,List.take_length,Nat.zero_le,Bool.true_or,List.append_assoc];(repeat' first|apply a.1|refine iteI (fun h=>?_) fun h=>?_)<;>clear a b A B))
   (refine zY fun A B hA hB=>?_;simp only [go_sem, *];first|(refine hA.out ?_;clear hA hB A B)|(refine hB.out ?_;clear hA hB A B))
   repeat' (first|refine go1 ?_|refine za rfl ?_|(refine zt fun A B a b=>?_;simp only [go_sem, *];(repeat' first|apply a.1|refine iteI (fun h=>?_) fun h=>?_)<;>clear a b A B))
   simp only [go_sem]
   have e:gs.any (fun g=>(below gs g.id).contains g.id)=true:=by rw [hhN.out,List.any_cons,k5,Bool.true_or]
   rw [chkG,if_pos hl20.out,if_pos hhE.out,if_pos hhA.out,if_pos e]
  ·have k5:(below gs x.id).contains x.id=false:=by simpa using k5
   rw [k5] at q2
   repeat' (first|refine go1 ?_|refine za rfl ?_|(refine zt fun A B a b=>?_;simp only [go_sem, *];(repeat' first|apply a.1|refine iteI (fun h=>?_) fun h=>?_)<;>clear a b A B))
   (refine zY fun A B hA hB=>?_;simp only [go_sem, *];first|(refine hA.out ?_;clear hA hB A B)|(refine hB.out ?_;clear hA hB A B))
   repeat' (first|refine go1 ?_|refine za rfl ?_|(refine zt fun A B a b=>?_;simp only [go_sem, *,encG,zb,ze,zm,zp,zj,zc,List.length_map,zK,zbL,za6,zab,zbI,zC,List.take_length,Nat.zero_le,Bool.true_or,List.append_assoc];(repeat' first|apply a.1|refine iteI (fun h=>?_) fun h=>?_)<;>clear a b A B))
   (refine zY fun A B hA hB=>?_;simp only [go_sem, *];first|(refine hA.out ?_;clear hA hB A B)|(refine hB.out ?_;clear hA hB A B))
   repeat' (first|refine go1 ?_|refine za rfl ?_|(refine zt fun A B a b=>?_;simp only [go_sem, *];(repeat' first|apply a.1|refine iteI (fun h=>?_) fun h=>?_)<;>clear a b A B))
   refine zbH hh1.out ?_ ?_ ?_
   ·rw [hhN.out,List.any_cons,k5,Bool.false_or]
   ·((try simp only [zg,zi,zd,zf,List.set_cons_zero,List.set_cons_succ]);all_goals (first|rfl|(simp only [zn,zj,zc,List.length_map,List.length_append,List.length_cons,List.length_nil,Nat.zero_add];first|done|rfl)))
   ·rw [hhG.out];first|exact⟨[],(List.append_nil _).symm⟩|exact⟨_,rfl⟩|(simp only [List.append_assoc,List.cons_append,List.nil_append];exact⟨_,rfl⟩)

/- Small functions over lists of numbers. -/
open Go.Proofs


def known (gs:List Grp) (n:Int):Bool:=gs.any fun g=>g.id == n

theorem exists44 (v:AV) (gs:List Grp) (n:Int) (hv:SLs 4 (gs.map encG) v) (hl:gs.length<9223372036854775807):EvV CX 88 [v,.int .i64 n] (· = .bool (known gs n)):=by
 refine EvV.walk rfl fn88 rfl nt88 rfl ?_
 simp only [List.length_cons,List.length_nil,List.cons_append,List.nil_append,Nat.reduceAdd,Nat.reduceSub,List.replicate]
 repeat' (first|refine go1 ?_|refine za rfl ?_|(refine go2 fun A B a b=>?_;simp only [go_sem, *,zA hv];(repeat' first|apply a.1|apply b.1|refine iteI (fun h=>?_) fun h=>?_)<;>clear a b A B))
 refine zbS [4,6,7,8,9,10,11,12,13,14,15,16,17,18] 5 gs (fun _ post=>known gs n=known post n) ?_ ?_ ?_ ?_
 ·rfl
 ·rfl
 ·intro g G h2
  rw [h2];simp only [zo,zq,zd,zf,List.set_cons_zero,List.set_cons_succ]
  repeat' (first|refine go1 ?_|refine za rfl ?_|(refine go2 fun A B a b=>?_;simp only [go_sem, *,zc,List.length_map,Int.lt_irrefl,zA hv];(repeat' first|apply a.1|apply b.1|refine iteI (fun h=>?_) fun h=>?_)<;>clear a b A B))
  simp only [go_sem,known,List.any_nil]
 ·intro g G pre x post h1 h2
  rw [h2];subst h1;simp only [zo,zq,zd,zf,List.set_cons_zero,List.set_cons_succ]
  have i1:=zbE hv (X:=CX) ty24 ty68 rfl (zcf encG pre x post) (k := .i64)
  have w1:=zB (n:=pre.length) (by simp at hl;omega)
  repeat' (first|refine go1 ?_|refine za rfl ?_|(refine go2 fun A B a b=>?_;simp only [go_sem, *,zb,ze,zm,zp,zj,zc,List.length_map,zK,zA hv,encG];(repeat' first|apply a.1|apply b.1|refine iteI (fun h=>?_) fun h=>?_)<;>clear a b A B))
  ·simp only [go_sem]
   simp [known,h]
  ·refine zbH rfl ?_ ?_ ?_
   ·simp [known,h]
   ·((try simp only [zg,zi,zd,zf,List.set_cons_zero,List.set_cons_succ]);all_goals (first|rfl|(simp only [zn,zj,zc,List.length_map,List.length_append,List.length_cons,List.length_nil,Nat.zero_add];first|done|rfl)))
   ·first|exact⟨[],(List.append_nil _).symm⟩|exact⟨_,rfl⟩|(simp only [List.append_assoc,List.cons_append,List.nil_append];exact⟨_,rfl⟩)

def listedF (gs:List Grp):List Int→List Int→Int
 | _,[]=>0
 | pre,n::l=>if (0:Int)<(pre.length:Int)∧n≤pre.getLastD 0 then 10 else if known gs n=true then listedF gs (pre++[n]) l else 9

/- Protocols: Copy, Check, Wider, Same. -/
open Go.Proofs
attribute [local go_sem] ty56 br101 fz120 br88


def checkF (groups:List Grp) (lv:Int) (gs:List Int) (un:Int):Int :=
 if lv<0∨3<lv then 14 else if lv≠2∧(0:Int)<(gs.length:Int) then 1 else if lv=2∧(gs.length:Int)=0 then 4
 else if listedF groups [] gs≠0 then listedF groups [] gs else if un<0∨109573<un then 12 else 0

theorem check15 (v gv:AV) (groups:List Grp) (lv un:Int) (gs:List Int) (hv:SLs 4 (groups.map encG) v) (hw:SLs 1 (ints gs) gv) (hg:groups.length<9223372036854775807) (hl:gs.length<9223372036854775807) :
  EvV CX 56 [v,.agg [.int .i64 lv,gv,.int .i64 un]] (· = .int .i64 (checkF groups lv gs un)):=by
 have c1:=hw.cell
 refine EvV.walk rfl fn56 rfl nt56 rfl ?_
 simp only [List.length_cons,List.length_nil,List.cons_append,List.nil_append,Nat.reduceAdd,Nat.reduceSub,List.replicate]
 repeat' (first|refine go1 ?_|refine za rfl ?_|(refine go2 fun A B a b=>?_;simp only [go_sem, *,zA hw,zc,hw.snap,hv.snap];(repeat' first|apply a.1|apply b.1|refine iteI (fun h=>?_) fun h=>?_)<;>clear a b A B))
 all_goals first
  |(exfalso;omega)
  |(simp only [go_sem];simp only [checkF, *,if_true,if_false,true_or,or_true,and_true,true_and,ne_eq,not_true_eq_false,not_false_eq_true,false_and,and_false,or_self,and_self,false_or,or_false,Bool.false_eq_true,Bool.true_and,Bool.and_true,Bool.false_and,Bool.and_false,Bool.true_or,Bool.or_true,Bool.false_or,Bool.or_false,Bool.not_true,Bool.not_false,decide_true,decide_false,not_false_iff,reduceIte];(try simp);done)
  | skip
 all_goals
  have hF:checkF groups lv gs un=if listedF groups [] gs≠0 then listedF groups [] gs else if un<0∨109573<un then 12 else 0:=by
   unfold checkF;rw [if_neg (by omega),if_neg (by omega),if_neg (by omega)]
  rw [hF];clear hF
  refine zbS [4,32,33,34,35,36,37,38,39,40,41,42,43,44,45,46,47,48,49,50,51,52,53,54,55,56,57,58,59,60,61,62] 5 gs (fun pre post=>listedF groups [] gs=listedF groups pre post) ?_ ?_ ?_ ?_
  ·rfl
  ·rfl
  ·intro g G h2
   rw [h2];simp only [zo,zq,zd,zf,List.set_cons_zero,List.set_cons_succ]
   repeat' (first|refine go1 ?_|refine za rfl ?_|(refine go2 fun A B a b=>?_;simp only [go_sem, *,zc,List.length_map,Int.lt_irrefl,zA hw];(repeat' first|apply a.1|apply b.1|refine iteI (fun h=>?_) fun h=>?_)<;>clear a b A B))
   all_goals simp only [go_sem]
   all_goals simp [listedF, *]
  ·intro g G pre x post h1 h2
   rw [h2];subst h1;simp only [zo,zq,zd,zf,List.set_cons_zero,List.set_cons_succ]
   have i1:=zbE hw (X:=CX) ty29 ty3 rfl (zb8 pre x post) (k := .i64)
   have i2:=prev_ints hw hl (X:=CX) ty29 ty3 rfl (k := .i64)
   have w1:=zB (n:=pre.length) (by simp at hl;omega)
   repeat' (first|refine go1 ?_|refine za rfl ?_|(refine go2 fun A B a b=>?_;simp only [go_sem, *,zb,ze,zm,zp,zj,zc,List.length_map,zK,zA hw,hv.snap,(exists44 v groups x hv hg).rw];(repeat' first|apply a.1|apply b.1|refine iteI (fun h=>?_) fun h=>?_)<;>clear a b A B))
   all_goals first
    |(simp only [go_sem]
      simp only [listedF, *,false_and,and_false,if_true,if_false,Bool.false_eq_true];simp;done)
    |(refine zbH rfl ?_ ?_ ?_
      ·have hno:¬((0:Int)<(pre.length:Int)∧x≤pre.getLastD 0):=by rintro⟨_,_⟩;contradiction
       rw [listedF,if_neg hno,if_pos (by simpa using h)]
      ·((try simp only [zg,zi,zd,zf,List.set_cons_zero,List.set_cons_succ]);all_goals (first|rfl|(simp only [zn,zj,zc,List.length_map,List.length_append,List.length_cons,List.length_nil,Nat.zero_add];first|done|rfl)))
      ·first|exact⟨[],(List.append_nil _).symm⟩|exact⟨_,rfl⟩|(simp only [List.append_assoc,List.cons_append,List.nil_append];exact⟨_,rfl⟩))
end Go.Eng

/- Time spans and their lists (plain): two normal lists with the same times are one. -/
namespace Go.Eng

abbrev Spn:=Int×Int
def rgt (s:Spn):Bool:=decide (0≤s.1) && (decide (s.1<s.2) && decide (s.2≤86400000))
theorem zbU {s:Spn}:rgt s=true↔0≤s.1∧s.1<s.2∧s.2≤86400000:=by simp [rgt]
def Tm (l:List Spn) (t:Int):Prop := ∃ s∈l,s.1≤t∧t<s.2
theorem zbY {t:Int}:¬Tm [] t:=fun ⟨_,h,_⟩=>by cases h
theorem zbG {x:Spn}{l:List Spn}{t:Int}:Tm (x::l) t↔(x.1≤t∧t<x.2)∨Tm l t:=by simp [Tm]
theorem Tm_app {a b:List Spn}{t:Int}:Tm (a++b) t↔Tm a t∨Tm b t:=by
 unfold Tm
 constructor
 ·rintro⟨s,h,h2⟩
  rcases List.mem_append.mp h with h|h
  ·exact .inl ⟨s,h,h2⟩
  ·exact .inr ⟨s,h,h2⟩
 ·rintro (⟨s,h,h2⟩|⟨s,h,h2⟩)
  ·exact⟨s,by simp [h],h2⟩
  ·exact⟨s,by simp [h],h2⟩
structure Norm (l:List Spn):Prop where
 rg:∀ s∈l,rgt s=true
 sep:l.Pairwise fun a b=>a.2<b.1
theorem zci:Norm []:=⟨by simp,.nil⟩
theorem zcg {x:Spn}{l:List Spn}:Norm (x::l)↔rgt x=true∧(∀ y∈l,x.2<y.1)∧Norm l:=by
 constructor
 ·rintro⟨h1,h2⟩
  have h3:=List.pairwise_cons.mp h2
  exact⟨h1 x (by simp),h3.1,fun s hs=>h1 s (by simp [hs]),h3.2⟩
 ·rintro⟨h1,h2,h3,h4⟩
  refine⟨fun s hs=>?_,List.pairwise_cons.mpr ⟨h2,h4⟩⟩
  rcases List.mem_cons.mp hs with e|e
  ·subst e;exact h1
  ·exact h3 s e
theorem zcH {a b:List Spn}:Norm (a++b)↔Norm a∧Norm b∧∀ x∈a,∀ y∈b,x.2<y.1:=by
 constructor
 ·rintro⟨h1,h2⟩
  have h3:=List.pairwise_append.mp h2
  exact⟨⟨fun s hs=>h1 s (by simp [hs]),h3.1⟩,⟨fun s hs=>h1 s (by simp [hs]),h3.2.1⟩,h3.2.2⟩
 ·rintro⟨⟨h1,h2⟩,⟨h3,h4⟩,h5⟩
  refine⟨fun s hs=>?_,List.pairwise_append.mpr ⟨h2,h4,h5⟩⟩
  rcases List.mem_append.mp hs with e|e
  ·exact h1 s e
  ·exact h3 s e
theorem zcB {x:Spn}:Norm [x]↔rgt x=true:=by rw [zcg];simp [zci]

theorem norm_unique:∀ {a b:List Spn},Norm a→Norm b→(∀ t,Tm a t↔Tm b t)→a=b
 | [],[],_,_,_=>rfl
 | [],y::b,_,hb,h=>by
  obtain⟨h1,_,_⟩:=zcg.mp hb
  have:=zbU.mp h1
  exact absurd ((h y.1).mpr (zbG.mpr (.inl ⟨by omega,by omega⟩))) zbY
 | x::a,[],ha,_,h=>by
  obtain⟨h1,_,_⟩:=zcg.mp ha
  have:=zbU.mp h1
  exact absurd ((h x.1).mp (zbG.mpr (.inl ⟨by omega,by omega⟩))) zbY
 | x::a,y::b,ha,hb,h=>by
  obtain⟨r1,s1,n1⟩:=zcg.mp ha
  obtain⟨r2,s2,n2⟩:=zcg.mp hb
  have e1:=zbU.mp r1
  have e2:=zbU.mp r2
  have la:∀ t,Tm a t→x.2<t:=fun t ⟨s,hs,h1,_⟩=>by have:=s1 s hs;omega
  have lb:∀ t,Tm b t→y.2<t:=fun t ⟨s,hs,h1,_⟩=>by have:=s2 s hs;omega
  have f1:y.1≤x.1:=by
   rcases zbG.mp ((h x.1).mp (zbG.mpr (.inl ⟨by omega,by omega⟩))) with k|k
   ·omega
   ·have:=lb _ k;omega
  have f2:x.1≤y.1:=by
   rcases zbG.mp ((h y.1).mpr (zbG.mpr (.inl ⟨by omega,by omega⟩))) with k|k
   ·omega
   ·have:=la _ k;omega
  have g1:¬x.2<y.2:=fun hlt=>by
   rcases zbG.mp ((h x.2).mpr (zbG.mpr (.inl ⟨by omega,by omega⟩))) with k|k
   ·omega
   ·have:=la _ k;omega
  have g2:¬y.2<x.2:=fun hlt=>by
   rcases zbG.mp ((h y.2).mp (zbG.mpr (.inl ⟨by omega,by omega⟩))) with k|k
   ·omega
   ·have:=lb _ k;omega
  have hxy:x=y:=Prod.ext (by omega) (by omega)
  subst hxy
  rw [norm_unique n1 n2 fun t=>?_]
  constructor
  ·intro k
   rcases zbG.mp ((h t).mp (zbG.mpr (.inr k))) with k2|k2
   ·have:=la t k;omega
   ·exact k2
  ·intro k
   rcases zbG.mp ((h t).mpr (zbG.mpr (.inr k))) with k2|k2
   ·have:=lb t k;omega
   ·exact k2

def insGo (b a:List Spn) (s:Spn):List Spn→List Spn
 | []=>b++s::a
 | x::l=>if x.2<s.1 then insGo (b++[x]) a s l else if s.2<x.1 then insGo b (a++[x]) s l else insGo b a (min s.1 x.1,max s.2 x.2) l
def insS (l:List Spn) (s:Spn):List Spn:=insGo [] [] s l
theorem insGo_spec:∀ (l b a:List Spn) (s:Spn),rgt s=true→Norm b→Norm a→Norm l→(∀ x∈b,x.2<s.1)→(∀ x∈a,s.2<x.1)→(∀ x∈b,∀ y∈l,x.2<y.1)→(∀ x∈a,∀ y∈l,x.2<y.1) →
  Norm (insGo b a s l)∧∀ t,Tm (insGo b a s l) t↔Tm b t∨Tm a t∨Tm l t∨(s.1≤t∧t<s.2)
 | [],b,a,s,hs,hb,ha,_,h1,h2,_,_=>by
  have e:=zbU.mp hs
  refine⟨zcH.mpr ⟨hb,zcg.mpr ⟨hs,h2,ha⟩,fun x hx y hy=>?_⟩,fun t=>?_⟩
  ·rcases List.mem_cons.mp hy with k|k
   ·subst k;exact h1 x hx
   ·have:=h1 x hx;have:=h2 y k;omega
  ·unfold insGo
   rw [Tm_app,zbG]
   constructor
   ·rintro (k|k|k)
    ·exact .inl k
    ·exact .inr (.inr (.inr k))
    ·exact .inr (.inl k)
   ·rintro (k|k|k|k)
    ·exact .inl k
    ·exact .inr (.inr k)
    ·exact absurd k zbY
    ·exact .inr (.inl k)
 | x::l,b,a,s,hs,hb,ha,hl,h1,h2,h3,h4=>by
  have e:=zbU.mp hs
  obtain⟨rx,sx,nl⟩:=zcg.mp hl
  have ex:=zbU.mp rx
  unfold insGo
  split
  ·rename_i hc
   obtain⟨i1,i2⟩:=insGo_spec l (b++[x]) a s hs (zcH.mpr ⟨hb,zcB.mpr rx,fun y hy z hz=>by
    have:=List.mem_singleton.mp hz;subst this;exact h3 y hy _ (by simp)⟩) ha nl (fun y hy=>by
    rcases List.mem_append.mp hy with k|k
    ·exact h1 y k
    ·have:=List.mem_singleton.mp k;subst this;exact hc) h2 (fun y hy z hz=>by
    rcases List.mem_append.mp hy with k|k
    ·exact h3 y k z (by simp [hz])
    ·have:=List.mem_singleton.mp k;subst this;exact sx z hz) (fun y hy z hz=>h4 y hy z (by simp [hz]))
   refine⟨i1,fun t=>?_⟩
   rw [i2,Tm_app,zbG,zbG]
   constructor
   ·rintro ((k|k|k)|k|k|k)
    ·exact .inl k
    ·exact .inr (.inr (.inl (.inl k)))
    ·exact absurd k zbY
    ·exact .inr (.inl k)
    ·exact .inr (.inr (.inl (.inr k)))
    ·exact .inr (.inr (.inr k))
   ·rintro (k|k|(k|k)|k)
    ·exact .inl (.inl k)
    ·exact .inr (.inl k)
    ·exact .inl (.inr (.inl k))
    ·exact .inr (.inr (.inl k))
    ·exact .inr (.inr (.inr k))
  ·rename_i hc
   split
   ·rename_i hd
    obtain⟨i1,i2⟩:=insGo_spec l b (a++[x]) s hs hb (zcH.mpr ⟨ha,zcB.mpr rx,fun y hy z hz=>by
     have:=List.mem_singleton.mp hz;subst this;exact h4 y hy _ (by simp)⟩) nl h1 (fun y hy=>by
     rcases List.mem_append.mp hy with k|k
     ·exact h2 y k
     ·have:=List.mem_singleton.mp k;subst this;exact hd) (fun y hy z hz=>h3 y hy z (by simp [hz])) (fun y hy z hz=>by
     rcases List.mem_append.mp hy with k|k
     ·exact h4 y k z (by simp [hz])
     ·have:=List.mem_singleton.mp k;subst this;exact sx z hz)
    refine⟨i1,fun t=>?_⟩
    rw [i2,Tm_app,zbG,zbG]
    constructor
    ·rintro (k|(k|k|k)|k|k)
     ·exact .inl k
     ·exact .inr (.inl k)
     ·exact .inr (.inr (.inl (.inl k)))
     ·exact absurd k zbY
     ·exact .inr (.inr (.inl (.inr k)))
     ·exact .inr (.inr (.inr k))
    ·rintro (k|k|(k|k)|k)
     ·exact .inl k
     ·exact .inr (.inl (.inl k))
     ·exact .inr (.inl (.inr (.inl k)))
     ·exact .inr (.inr (.inl k))
     ·exact .inr (.inr (.inr k))
   ·rename_i hd
    obtain⟨i1,i2⟩:=insGo_spec l b a (min s.1 x.1,max s.2 x.2) (zbU.mpr ⟨by simp only;omega,by simp only;omega,by simp only;omega⟩) hb ha nl (fun y hy=>by
     have:=h1 y hy;have:=h3 y hy x (by simp);simp only;omega) (fun y hy=>by
     have:=h2 y hy;have:=h4 y hy x (by simp);have:=zbU.mp (ha.rg y hy);simp only;omega) (fun y hy z hz=>h3 y hy z (by simp [hz])) (fun y hy z hz=>h4 y hy z (by simp [hz]))
    refine⟨i1,fun t=>?_⟩
    rw [i2,zbG]
    simp only
    constructor
    ·rintro (k|k|k|k)
     ·exact .inl k
     ·exact .inr (.inl k)
     ·exact .inr (.inr (.inl (.inr k)))
     ·by_cases h:s.1≤t∧t<s.2
      ·exact .inr (.inr (.inr h))
      ·exact .inr (.inr (.inl (.inl (by omega))))
    ·rintro (k|k|(k|k)|k)
     ·exact .inl k
     ·exact .inr (.inl k)
     ·exact .inr (.inr (.inr (by omega)))
     ·exact .inr (.inr (.inl k))
     ·exact .inr (.inr (.inr (by omega)))
theorem insS_spec {l:List Spn}{s:Spn}(hl:Norm l) (hs:rgt s=true):Norm (insS l s)∧∀ t,Tm (insS l s) t↔Tm l t∨(s.1≤t∧t<s.2):=by
 obtain⟨h1,h2⟩:=insGo_spec l [] [] s hs zci zci hl (by simp) (by simp) (by simp) (by simp)
 refine⟨h1,fun t=>?_⟩
 unfold insS
 rw [h2]
 constructor
 ·rintro (k|k|k|k)
  ·exact absurd k zbY
  ·exact absurd k zbY
  ·exact .inl k
  ·exact .inr k
 ·rintro (k|k)
  ·exact .inr (.inr (.inl k))
  ·exact .inr (.inr (.inr k))

def uniR (l:List Spn):List Spn:=l.foldl (fun out x=>if rgt x=true then insS out x else out) []
theorem uniGo_spec:∀ (l out:List Spn),Norm out→Norm (l.foldl (fun out x=>if rgt x=true then insS out x else out) out)∧∀ t,Tm (l.foldl (fun out x=>if rgt x=true then insS out x else out) out) t↔Tm out t∨Tm (l.filter fun x=>rgt x) t
 | [],out,h=>⟨h,fun t=>⟨.inl,fun k=>k.resolve_right (by simpa using zbY)⟩⟩
 | x::l,out,h=>by
  rw [List.foldl_cons]
  by_cases hx:rgt x=true
  ·rw [if_pos hx,List.filter_cons,if_pos hx]
   obtain⟨i1,i2⟩:=insS_spec h hx
   obtain⟨j1,j2⟩:=uniGo_spec l _ i1
   refine⟨j1,fun t=>?_⟩
   rw [j2,i2,zbG]
   constructor
   ·rintro ((k|k)|k)
    ·exact .inl k
    ·exact .inr (.inl k)
    ·exact .inr (.inr k)
   ·rintro (k|k|k)
    ·exact .inl (.inl k)
    ·exact .inl (.inr k)
    ·exact .inr k
  ·rw [if_neg hx,List.filter_cons,if_neg hx]
   exact uniGo_spec l out h
def Tr (l:List Spn) (t:Int):Prop:=Tm (l.filter fun x=>rgt x) t
theorem uniR_spec (l:List Spn):Norm (uniR l)∧∀ t,Tm (uniR l) t↔Tr l t:=by
 obtain⟨h1,h2⟩:=uniGo_spec l [] zci
 exact⟨h1,fun t=>by unfold uniR;rw [h2];exact⟨fun k=>k.resolve_left zbY,.inr⟩⟩
theorem filter_norm {l:List Spn}(h:Norm l):(l.filter fun x=>rgt x)=l:=by
 rw [List.filter_eq_self];exact h.rg
theorem Tr_norm {l:List Spn}(h:Norm l) (t:Int):Tr l t↔Tm l t:=by unfold Tr;rw [filter_norm h]

def mrgGo (pre:List Spn) (y:Spn):List Spn→List Spn
 | []=>pre++[y]
 | s::l=>if s.1≤y.2 then mrgGo pre (y.1,max y.2 s.2) l else mrgGo (pre++[y]) s l
def mrg:List Spn→List Spn
 | []=>[]
 | s::l=>mrgGo [] s l
theorem mrgGo_spec:∀ (l pre:List Spn) (y:Spn),Norm (pre++[y])→(∀ s∈l,rgt s=true)→(∀ s∈l,y.1≤s.1)→(l.Pairwise fun a b=>a.1≤b.1) →
  Norm (mrgGo pre y l)∧∀ t,Tm (mrgGo pre y l) t↔Tm (pre++[y]) t∨Tm l t
 | [],pre,y,h,_,_,_=>⟨h,fun t=>⟨.inl,fun k=>k.resolve_right zbY⟩⟩
 | s::l,pre,y,h,hr,hy,hp=>by
  obtain⟨n1,n2,n3⟩:=zcH.mp h
  have ry:=zbU.mp (zcB.mp n2)
  have rs:=zbU.mp (hr s (by simp))
  have hp':=List.pairwise_cons.mp hp
  have hys:=hy s (by simp)
  unfold mrgGo
  split
  ·rename_i hc
   obtain⟨i1,i2⟩:=mrgGo_spec l pre (y.1,max y.2 s.2) (zcH.mpr ⟨n1,zcB.mpr (zbU.mpr ⟨by simp only;omega,by simp only;omega,by simp only;omega⟩),fun x hx z hz=>by
    have:=List.mem_singleton.mp hz;subst this
    exact n3 x hx y (by simp)⟩) (fun z hz=>hr z (by simp [hz])) (fun z hz=>hy z (by simp [hz])) hp'.2
   refine⟨i1,fun t=>?_⟩
   rw [i2,Tm_app,Tm_app,zbG,zbG,zbG]
   simp only
   constructor
   ·rintro ((k|k|k)|k)
    ·exact .inl (.inl k)
    ·by_cases h2:t<y.2
     ·exact .inl (.inr (.inl ⟨k.1,h2⟩))
     ·exact .inr (.inl (by omega))
    ·exact absurd k zbY
    ·exact .inr (.inr k)
   ·rintro ((k|k|k)|k|k)
    ·exact .inl (.inl k)
    ·exact .inl (.inr (.inl (by omega)))
    ·exact absurd k zbY
    ·exact .inl (.inr (.inl (by omega)))
    ·exact .inr k
  ·rename_i hc
   obtain⟨i1,i2⟩:=mrgGo_spec l (pre++[y]) s (zcH.mpr ⟨h,zcB.mpr (hr s (by simp)),fun x hx z hz=>by
    have:=List.mem_singleton.mp hz;subst this
    rcases List.mem_append.mp hx with k|k
    ·have:=n3 x k y (by simp);omega
    ·have:=List.mem_singleton.mp k;subst this;omega⟩) (fun z hz=>hr z (by simp [hz])) hp'.1 hp'.2
   refine⟨i1,fun t=>?_⟩
   rw [i2,Tm_app (a:=pre++[y]),zbG (l:=l),zbG (l:=[])]
   constructor
   ·rintro ((k|k|k)|k)
    ·exact .inl k
    ·exact .inr (.inl k)
    ·exact absurd k zbY
    ·exact .inr (.inr k)
   ·rintro (k|k|k)
    ·exact .inl (.inl k)
    ·exact .inl (.inr (.inl k))
    ·exact .inr k
theorem mrg_spec {l:List Spn}(hr:∀ s∈l,rgt s=true) (hp:l.Pairwise fun a b=>a.1≤b.1):Norm (mrg l)∧∀ t,Tm (mrg l) t↔Tm l t:=by
 cases l with
 | nil=>exact⟨zci,fun t=>Iff.rfl⟩
 | cons s l=>
  have hp':=List.pairwise_cons.mp hp
  obtain⟨h1,h2⟩:=mrgGo_spec l [] s (zcB.mpr (hr s (by simp))) (fun z hz=>hr z (by simp [hz])) hp'.1 hp'.2
  refine⟨h1,fun t=>?_⟩
  show Tm (mrgGo [] s l) t↔_
  rw [h2,List.nil_append,zbG (l:=l),zbG (l:=[])]
  constructor
  ·rintro ((k|k)|k)
   ·exact .inl k
   ·exact absurd k zbY
   ·exact .inr k
  ·rintro (k|k)
   ·exact .inl (.inl k)
   ·exact .inr k
theorem mrg_uni {l m:List Spn}(h:m.Perm (l.filter fun x=>rgt x)) (hp:m.Pairwise fun a b=>a.1≤b.1):mrg m=uniR l:=by
 have hr:∀ s∈m,rgt s=true:=fun s hs=>by
  have:=(h.mem_iff).mp hs
  simpa using (List.mem_filter.mp this).2
 obtain⟨h1,h2⟩:=mrg_spec hr hp
 obtain⟨h3,h4⟩:=uniR_spec l
 refine norm_unique h1 h3 fun t=>?_
 rw [h2,h4]
 unfold Tr Tm
 constructor
 ·rintro⟨s,hs,k⟩;exact⟨s,h.mem_iff.mp hs,k⟩
 ·rintro⟨s,hs,k⟩;exact⟨s,h.mem_iff.mpr hs,k⟩
end Go.Eng

/- Rights: Rule and Check of the reference. -/
namespace Go.Eng
open Go.Proofs
attribute [local irreducible] wpC wpO wp1 EvV EvR wpL
attribute [local go_sem] ty3 ty4 ty47 eq47 ty9 ty22 ty23 ty24 ty25 ty26 ty28 ty29 ty31 ty34 ty53 ty56 ty58 ty66 ty68 br50 br55 br56 fz136 fz138 fz141 reduceIte Nat.reduceAdd Nat.reduceEqDiff Nat.reduceLT Nat.reduceLeDiff beq_iff_eq beq_eq_false_iff_ne Int.natCast_inj Bool.not_eq_false' zbD zbx zaE za9 zaw zas za7 zF zaB zaD zE zax zbw zP zH za8 zI zba zaC zbv zbu zL zar zR zaz zQ zay zS zaA za5 zat zae zbd zaG zbc zbb zbe zby zaF zaY zao zaX zaZ zav zaW zaV zaI zaK zaf zac zW z8 zbg zaJ boxK storeK zaq zaM zam zaN zbm zau zbz zbf zX zaa zaP zaQ zan zbn zaO zbr zaU zbp zbA zbs zbo zbq zaR zbC zaS zaT List.all_cons List.all_nil Bool.and_true Bool.and_self Bool.true_and z7 zaH List.set_cons_zero List.set_cons_succ List.length_cons List.length_nil List.nil_append List.cons_append stabL AV.stab fieldAddrA fieldA List.getElem?_cons_zero List.getElem?_cons_succ Nat.zero_add loadA rowOf Nat.le_refl and_self true_and and_true partA binA unA intBin eqBin eqCells eqCell Option.bind_some decide_true decide_false decide_eq_true_eq ite_not Bool.not_eq_true' decide_eq_false_iff_not Bool.false_eq_true Option.map_some Option.map_none Bool.not_true Bool.not_false buildA fillA patch List.take List.drop List.map_cons List.map_nil extK List.getD_cons_zero List.getD_cons_succ minmaxA minmaxGo zJ zV zak zU zai zT zal zaj zah zag zaL zbk zbi zbl zbj zbh bne Bool.false_and Bool.and_false ne_eq not_true_eq_false not_false_eq_true List.append_nil resultsR resultsL resultA za3 zap za2 za4 za0 za1 zZ zbK zad zO zD zbB
set_option maxHeartbeats 4000000

theorem rightN (a b:Int):EvV CX 50 [.agg [.int .i64 a,.int .i64 b]] (· = .bool (rgt (a,b))):=by
 refine EvV.walk rfl fn50 rfl nt50 rfl ?_
 simp only [List.length_cons,List.length_nil,List.cons_append,List.nil_append,Nat.reduceAdd,Nat.reduceSub,List.replicate]
 repeat' (first|refine go1 ?_|refine za rfl ?_|(refine go2 fun A B a b=>?_;simp only [go_sem, *];(repeat' first|apply a.1|apply b.1|refine iteI (fun h=>?_) fun h=>?_)<;>clear a b A B))
 all_goals simp only [go_sem]
 all_goals simp [rgt, *]

def spOK (s:Int×Int):Bool:=((s.1 == 0) && (s.2 == 0)) || rgt s
def outR (x:Ru) (r:Rec):Bool:=(r.id == x.rc) && decide (r.len<x.sp.2)
def ruleF (recs:List Rec) (gs:List Grp) (x:Ru):Int :=
 if idOK x.rc=true then if spOK x.sp=true then if recs.any (outR x)=true then 12 else checkF gs x.lv x.gl x.un else 12 else 2
def rulesF (recs:List Rec) (gs:List Grp):List Ru→Int
 | []=>0
 | x::l=>if ruleF recs gs x=0 then rulesF recs gs l else ruleF recs gs x
noncomputable def chkRt (ps:List Psn) (recs:List Rec) (gs:List Grp) (cs:List Con) (rs:List Ru):Int :=
 if pplF ps=0 then if recsF ps recs=0 then if chkG ps gs=0 then if cnsF ps cs=0 then if rs.length≤60 then rulesF recs gs rs else 11 else cnsF ps cs else chkG ps gs else recsF ps recs else pplF ps

theorem ruleR {pv gv cv rv u:AV}{ps:List Psn}{gs:List Grp}{cs:List Con}{rs:List Ru}{recs:List Rec}(h:RtV pv gv cv rv ps gs cs rs) (hu:SLs 5 (recs.map encRc) u) (hok:∀ r∈recs,r.ok) (hl:recs.length≤1000) (hgl:gs.length≤1000) (x:Ru) (hx:x.ok) (hxl:x.gl.length≤1000) :
  EvV CX 28 [u,.agg [pv,gv,cv,rv],.agg (encRu x)] (· = .int .i64 (ruleF recs gs x)):=by
 have c1:=h.p.cell
 have c2:=h.g.cell
 have c3:=h.c.cell
 have c4:=h.r.cell
 have c5:=hx.sl.cell
 have s2:=h.g.snap
 have s5:=hx.sl.snap
 have su:=hu.snap
 have qi:=(identR x.rc).rw
 have qr:=(rightN x.sp.1 x.sp.2).rw
 have qc:=(check15 gv x.gv gs x.lv x.un x.gl h.g hx.sl (by omega) (by omega)).rw
 have hE:ruleF recs gs x=if idOK x.rc=true then if spOK x.sp=true then if recs.any (outR x)=true then 12 else checkF gs x.lv x.gl x.un else 12 else 2:=rfl
 have hS:spOK x.sp=(((x.sp.1 == 0) && (x.sp.2 == 0)) || rgt (x.sp.1,x.sp.2)):=rfl
 cases k1:idOK x.rc with
 | false=>
  rw [k1] at hE qi
  rw [hE]
  clear hE hS k1
  refine EvV.walk rfl fn28 rfl nt28 rfl ?_
  simp only [List.length_cons,List.length_nil,List.cons_append,List.nil_append,Nat.reduceAdd,Nat.reduceSub,List.replicate]
  repeat' (first|refine go1 ?_|refine za rfl ?_|(refine go2 fun A B a b=>?_;simp only [go_sem, *,encRu];(repeat' first|apply a.1|apply b.1|refine iteI (fun h=>?_) fun h=>?_)<;>clear a b A B))
  simp only [go_sem]
 | true=>
  rw [k1,if_pos rfl] at hE
  rw [k1] at qi
  clear k1
  have ways:((x.sp.1 == 0)=true∧(x.sp.2 == 0)=true)∨((x.sp.1 == 0)=true∧(x.sp.2 == 0)=false)∨(x.sp.1 == 0)=false:=by
   cases (x.sp.1 == 0)<;>cases (x.sp.2 == 0)<;>simp
  cases k2:spOK x.sp with
  | false=>
   rw [k2] at hE
   rw [hE]
   have k3:rgt (x.sp.1,x.sp.2)=false:=by
    cases e:rgt (x.sp.1,x.sp.2) with
    | false=>rfl
    | true=>rw [hS,e,Bool.or_true] at k2;cases k2
   rw [k3] at qr
   clear hE
   rcases ways with ⟨b1,b2⟩|⟨b1,b2⟩|b1
   ·rw [hS,b1,b2] at k2;cases k2
   all_goals
    clear hS k2 k3
    refine EvV.walk rfl fn28 rfl nt28 rfl ?_
    simp only [List.length_cons,List.length_nil,List.cons_append,List.nil_append,Nat.reduceAdd,Nat.reduceSub,List.replicate]
    repeat' (first|refine go1 ?_|refine za rfl ?_|(refine go2 fun A B a b=>?_;simp only [go_sem, *,encRu];(repeat' first|apply a.1|apply b.1|refine iteI (fun h=>?_) fun h=>?_)<;>clear a b A B))
    simp only [go_sem]
  | true=>
   rw [k2,if_pos rfl] at hE
   obtain⟨R,hR⟩:∃ R,ruleF recs gs x=R:=⟨_,rfl⟩
   have hhE:Hold (R=if recs.any (outR x)=true then 12 else checkF gs x.lv x.gl x.un):=⟨by rw [←hR,hE]⟩
   rw [hR]
   clear hE hR
   have qr2:((x.sp.1 == 0)=true∧(x.sp.2 == 0)=true)∨(((x.sp.1 == 0)=true∧(x.sp.2 == 0)=false)∨(x.sp.1 == 0)=false)∧rgt (x.sp.1,x.sp.2)=true:=by
    rcases ways with w|w|w
    ·exact .inl w
    ·refine .inr ⟨.inl w,?_⟩;rw [hS,w.1,w.2] at k2;exact k2
    ·refine .inr ⟨.inr w,?_⟩;rw [hS,w] at k2;exact k2
   clear ways k2 hS
   rcases qr2 with ⟨b1,b2⟩|⟨⟨b1,b2⟩|b1,k3⟩
   all_goals (try rw [k3] at qr)
   all_goals (try clear k3)
   all_goals
    refine EvV.walk rfl fn28 rfl nt28 rfl ?_
    simp only [List.length_cons,List.length_nil,List.cons_append,List.nil_append,Nat.reduceAdd,Nat.reduceSub,List.replicate]
    repeat' (first|refine go1 ?_|refine za rfl ?_|(refine go2 fun A B a b=>?_;simp only [go_sem, *,encRu,zA hu,List.length_map];(repeat' first|apply a.1|apply b.1|refine iteI (fun h=>?_) fun h=>?_)<;>clear a b A B))
    refine zbS [6,7,25,26,27,28,29,30,31,32,33,34,35,36,37,38,39,40,41,42,43,44,45,46] 24 recs (fun pre _=>pre.any (outR x)=false) ?_ ?_ ?_ ?_
    ·rfl
    ·rfl
    ·intro g G hA
     have e:R=checkF gs x.lv x.gl x.un:=by rw [hhE.out,hA];rfl
     rw [e]
     clear e hA hhE
     simp only [zo,zq,zd,zf,List.set_cons_zero,List.set_cons_succ]
     repeat' (first|refine go1 ?_|refine za rfl ?_|(refine go2 fun A B a b=>?_;simp only [go_sem, *,Int.lt_irrefl];(repeat' first|apply a.1|apply b.1|refine iteI (fun h=>?_) fun h=>?_)<;>clear a b A B))
     simp only [go_sem]
    ·intro g G pre r post h1 hA
     have hpl:pre.length<recs.length:=by rw [h1];simp
     have lt1:(pre.length:Int)<(recs.length:Int):=by omega
     have w1:=zB (n:=pre.length) (by omega)
     have i0:=zbE hu (X:=CX) ty22 ty31 rfl (n:=pre.length) (row:=encRc r) (k := .i64) (by rw [h1];exact zcf encRc pre r post)
     have hrm:r∈recs:=by rw [h1];simp
     have hr:=hok r hrm
     have d1:=hr.sv.cell
     have hh1:Hold (recs=pre++r::post):=⟨h1⟩
     have hyes:Hold (outR x r=true→R=12):=⟨fun e=>by rw [hhE.out,if_pos (List.any_eq_true.2 ⟨r,hrm,e⟩)]⟩
     have hno:Hold (outR x r=false→(pre++[r]).any (outR x)=false):=⟨fun e=>by rw [List.any_append,hA];simp [e]⟩
     have ho:outR x r=((r.id == x.rc) && decide (r.len<x.sp.2)):=rfl
     clear h1 hpl hA hrm hhE
     cases e1:(r.id == x.rc) with
     | false=>
      rw [e1] at ho
      have hh2:=hno.out ho
      have hhn:Hold ((pre++[r]).any (outR x)=false):=⟨hh2⟩
      clear ho hh2 hyes hno
      simp only [zo,zq,zd,zf,List.set_cons_zero,List.set_cons_succ]
      repeat' (first|refine go1 ?_|refine za rfl ?_|(refine go2 fun A B a b=>?_;simp only [go_sem, *,encRc];(repeat' first|apply a.1|apply b.1|refine iteI (fun h=>?_) fun h=>?_)<;>clear a b A B))
      refine zbH hh1.out hhn.out ?_ ?_
      ·((try simp only [zg,zi,zd,zf,List.set_cons_zero,List.set_cons_succ]);all_goals (first|rfl|(simp only [zn,zj,zc,List.length_map,List.length_append,List.length_cons,List.length_nil,Nat.zero_add];first|done|rfl)))
      ·first|exact⟨[],(List.append_nil _).symm⟩|exact⟨_,rfl⟩|(simp only [List.append_assoc,List.cons_append,List.nil_append];exact⟨_,rfl⟩)
     | true=>
      by_cases e2:r.len<x.sp.2
      ·have e:R=12:=hyes.out (by rw [ho,e1];simp [e2])
       rw [e]
       clear e ho hyes hno
       simp only [zo,zq,zd,zf,List.set_cons_zero,List.set_cons_succ]
       repeat' (first|refine go1 ?_|refine za rfl ?_|(refine go2 fun A B a b=>?_;simp only [go_sem, *,encRc];(repeat' first|apply a.1|apply b.1|refine iteI (fun h=>?_) fun h=>?_)<;>clear a b A B))
       simp only [go_sem]
      ·have hhn:Hold ((pre++[r]).any (outR x)=false):=⟨hno.out (by rw [ho,e1];simp [e2])⟩
       clear ho hyes hno
       simp only [zo,zq,zd,zf,List.set_cons_zero,List.set_cons_succ]
       repeat' (first|refine go1 ?_|refine za rfl ?_|(refine go2 fun A B a b=>?_;simp only [go_sem, *,encRc];(repeat' first|apply a.1|apply b.1|refine iteI (fun h=>?_) fun h=>?_)<;>clear a b A B))
       refine zbH hh1.out hhn.out ?_ ?_
       ·((try simp only [zg,zi,zd,zf,List.set_cons_zero,List.set_cons_succ]);all_goals (first|rfl|(simp only [zn,zj,zc,List.length_map,List.length_append,List.length_cons,List.length_nil,Nat.zero_add];first|done|rfl)))
       ·first|exact⟨[],(List.append_nil _).symm⟩|exact⟨_,rfl⟩|(simp only [List.append_assoc,List.cons_append,List.nil_append];exact⟨_,rfl⟩)
end Go.Eng
