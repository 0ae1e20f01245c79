/- Part 6 of the texts behind this claim. -/
import Derived.Test.YtpdacimgcojgnaaGreatDoorZ5
import Derived.Test.YtpdacimgcojgnaaGreatDoorCtxS
import Derived.Test.YtpdacimgcojgnaaGreatDoorEngV
import Derived.Sort.AssemblyPlain
import Derived.Sort.LotD4
import Derived.Sort.LotD5
set_option linter.all false

/- Rights: Check of the reference; what right is. -/
namespace Go.Eng
open Go.Proofs
attribute [local irreducible] wpC wpO wp1 EvV EvR wpL
attribute [local go_sem] ty3 ty4 ty9 ty22 ty23 ty29 ty31 ty34 ty66 br41 fz177 ty24 ty25 ty26 ty28 ty47 ty53 ty56 ty58 ty68 eq47 br28 br37 br38 br39 br40 fz144 fz146 fz147 fz149 fz151 ty38 ty40 br14 br16 fz86 fz87 reduceIte Nat.reduceAdd Nat.reduceEqDiff Nat.reduceLT Nat.reduceLeDiff beq_iff_eq beq_eq_false_iff_ne Int.natCast_inj Bool.not_eq_false' zbD zbx zaE za9 zaw zas za7 zF zaB zaD zE zax zbw zP zH za8 zI zba zaC zbv zbu zL zar zR zaz zQ zay zS zaA za5 zat zae zbd zaG zbc zbb zbe zby zaF zaY zao zaX zaZ zav zaW zaV zaI zaK zaf zac zW z8 zbg zaJ boxK storeK zaq zaM zam zaN zbm zau zbz zbf zX zaa zaP zaQ zan zbn zaO zbr zaU zbp zbA zbs zbo zbq zaR zbC zaS zaT List.all_cons List.all_nil Bool.and_true Bool.and_self Bool.true_and z7 zaH List.set_cons_zero List.set_cons_succ List.length_cons List.length_nil List.nil_append List.cons_append stabL AV.stab fieldAddrA fieldA List.getElem?_cons_zero List.getElem?_cons_succ Nat.zero_add loadA rowOf Nat.le_refl and_self true_and and_true partA binA unA intBin eqBin eqCells eqCell Option.bind_some decide_true decide_false decide_eq_true_eq ite_not Bool.not_eq_true' decide_eq_false_iff_not Bool.false_eq_true Option.map_some Option.map_none Bool.not_true Bool.not_false buildA fillA patch List.take List.drop List.map_cons List.map_nil extK List.getD_cons_zero List.getD_cons_succ minmaxA minmaxGo zJ zV zak zU zai zT zal zaj zah zag zaL zbk zbi zbl zbj zbh bne Bool.false_and Bool.and_false ne_eq not_true_eq_false not_false_eq_true List.append_nil resultsR resultsL resultA za3 zap za2 za4 za0 za1 zZ zbK zad zO zD zbB
set_option maxHeartbeats 4000000

theorem few_out {ps:List Psn}{gs:List Grp}{cs:List Con}{rs:List Ru}(h:fewRt ps gs cs rs=true) :
  ps.length≤50∧gs.length≤25∧cs.length≤65∧rs.length≤65∧(∀ p∈ps,p.name.size≤100)∧(∀ g∈gs,g.name.size≤100∧g.people.length≤50∧g.subs.length≤25)∧∀ x∈rs,x.gl.length≤25:=by
 simp only [fewRt,Bool.and_eq_true,decide_eq_true_eq,List.all_eq_true,fewG] at h
 obtain⟨⟨⟨⟨⟨⟨h1,h2⟩,h3⟩,h4⟩,h5⟩,h6⟩,h7⟩:=h
 exact⟨h1,h2,h3,h4,h5,fun g hg=>⟨(h6 g hg).1.1,(h6 g hg).1.2,(h6 g hg).2⟩,h7⟩
theorem RtV.gsok {pv gv cv rv:AV}{ps:List Psn}{gs:List Grp}{cs:List Con}{rs:List Ru}(h:RtV pv gv cv rv ps gs cs rs) (hf:fewRt ps gs cs rs=true):GsOK gv gs :=
 ⟨h.g,h.go,h.gt,by have:=(few_out hf).2.1;omega,fun g hg=>by have:=((few_out hf).2.2.2.2.2.1 g hg).2.2;omega,fun g hg=>by have:=((few_out hf).2.2.2.2.2.1 g hg).2.1;omega⟩

theorem recsNil {w:AV}{ps:List Psn}(hw:SLs 3 (ps.map encP) w):EvV CX 38 [w,.flat (.slice none 0 0)] (· = .int .i64 (recsF ps [])):=by
 obtain⟨L,hL,hv⟩:∃ L:List Rec,L = []∧SLs 5 (L.map encRc) (.flat (.slice none 0 0)):=⟨[],rfl,.nil rfl⟩
 have hws:=hw.snap
 have e:recsF ps []=0:=rfl
 rw [e]
 clear e
 have k:¬(12:Int)<(L.length:Int):=by rw [hL];simp
 have hhL:Hold (L = []):=⟨hL⟩
 clear hL
 refine EvV.walk rfl fn38 rfl nt38 rfl ?_
 simp only [List.length_cons,List.length_nil,List.cons_append,List.nil_append,Nat.reduceAdd,Nat.reduceSub,List.replicate]
 repeat' (first|refine go1 ?_|refine za rfl ?_|(refine go2 fun A B a b=>?_;simp only [go_sem, *,zA hv,List.length_map];(repeat' first|apply a.1|apply b.1|refine iteI (fun h=>?_) fun h=>?_)<;>clear a b A B))
 refine zbS [4,5,6,7,14,15,16,17,18,19,20,21,22,23,24,25,26,27,28,29,30,31,32,33,34,35,36,37,38,39,40,41,42,43,44,45,46,47,48,49,50,51,52,53,54,55,56,57] 13 L (fun _ _=>True) ?_ ?_ ?_ ?_
 ·trivial
 ·((try simp only [zg,zi,zd,zf,List.set_cons_zero,List.set_cons_succ]);all_goals (first|rfl|(simp only [zn,zj,zc,List.length_map,List.length_append,List.length_cons,List.length_nil,Nat.zero_add];first|done|rfl)))
 ·intro g G _
  simp only [zo,zq,zd,zf,List.set_cons_zero,List.set_cons_succ]
  repeat' (first|refine go1 ?_|refine za rfl ?_|(refine go2 fun A B a b=>?_;simp only [go_sem, *,Int.lt_irrefl];(repeat' first|apply a.1|apply b.1|refine iteI (fun h=>?_) fun h=>?_)<;>clear a b A B))
  simp only [go_sem]
 ·intro g G pre x post h1 _
  rw [hhL.out] at h1
  simp at h1

theorem chkR45 {pv gv cv rv u:AV}{ps:List Psn}{gs:List Grp}{cs:List Con}{rs:List Ru}{recs:List Rec}(h:RtV pv gv cv rv ps gs cs rs) (hu:SLs 5 (recs.map encRc) u) (hok:∀ r∈recs,r.ok) (hl:recs.length≤1000) (hf:fewRt ps gs cs rs=true)
  (qrec:EvV CX 38 [pv,u] (· = .int .i64 (recsF ps recs))):EvV CX 16 [u,.agg [pv,gv,cv,rv]] (· = .int .i64 (chkRt ps recs gs cs rs)):=by
 obtain⟨f1,f2,f3,f4,f5,f6,f7⟩:=few_out hf
 have hgs:=h.gsok hf
 have c1:=h.p.cell
 have c2:=h.g.cell
 have c3:=h.c.cell
 have c4:=h.r.cell
 have s1:=h.p.snap
 have s2:=h.g.snap
 have s3:=h.c.snap
 have s4:=h.r.snap
 have su:=hu.snap
 have q1:=(peopleR h.p (by omega) (fun p hp=>by have:=f5 p hp;omega)).rw
 have q2:=qrec.rw
 have q3:=(checkR hgs h.p (by omega) (fun g hg=>by have:=(f6 g hg).1;omega)).rw
 have q4:=(cnsR h.c h.p (by omega)).rw
 have hE:chkRt ps recs gs cs rs=if pplF ps=0 then if recsF ps recs=0 then if chkG ps gs=0 then if cnsF ps cs=0 then if rs.length≤60 then rulesF recs gs rs else 11 else cnsF ps cs else chkG ps gs else recsF ps recs else pplF ps:=rfl
 generalize pplF ps=e1 at *
 generalize recsF ps recs=e2 at *
 generalize chkG ps gs=e3 at *
 generalize cnsF ps cs=e4 at *
 clear qrec hgs
 obtain⟨R,hR⟩:∃ R,chkRt ps recs gs cs rs=R:=⟨_,rfl⟩
 rw [hR] at hE ⊢
 clear hR
 by_cases k1:e1=0
 rotate_left
 ·rw [if_neg k1] at hE
  have b1:(e1 == 0)=false:=beq_false_of_ne k1
  rw [hE]
  clear hE k1
  refine EvV.walk rfl fn16 rfl nt16 rfl ?_
  simp only [List.length_cons,List.length_nil,List.cons_append,List.nil_append,Nat.reduceAdd,Nat.reduceSub,List.replicate]
  repeat' (first|refine go1 ?_|refine za rfl ?_|(refine go2 fun A B a b=>?_;simp only [go_sem, *];(repeat' first|apply a.1|apply b.1|refine iteI (fun h=>?_) fun h=>?_)<;>clear a b A B))
  simp only [go_sem]
 subst k1
 rw [if_pos rfl] at hE
 by_cases k1:e2=0
 rotate_left
 ·rw [if_neg k1] at hE
  have b1:(e2 == 0)=false:=beq_false_of_ne k1
  rw [hE]
  clear hE k1
  refine EvV.walk rfl fn16 rfl nt16 rfl ?_
  simp only [List.length_cons,List.length_nil,List.cons_append,List.nil_append,Nat.reduceAdd,Nat.reduceSub,List.replicate]
  repeat' (first|refine go1 ?_|refine za rfl ?_|(refine go2 fun A B a b=>?_;simp only [go_sem, *];(repeat' first|apply a.1|apply b.1|refine iteI (fun h=>?_) fun h=>?_)<;>clear a b A B))
  simp only [go_sem]
 subst k1
 rw [if_pos rfl] at hE
 by_cases k1:e3=0
 rotate_left
 ·rw [if_neg k1] at hE
  have b1:(e3 == 0)=false:=beq_false_of_ne k1
  rw [hE]
  clear hE k1
  refine EvV.walk rfl fn16 rfl nt16 rfl ?_
  simp only [List.length_cons,List.length_nil,List.cons_append,List.nil_append,Nat.reduceAdd,Nat.reduceSub,List.replicate]
  repeat' (first|refine go1 ?_|refine za rfl ?_|(refine go2 fun A B a b=>?_;simp only [go_sem, *];(repeat' first|apply a.1|apply b.1|refine iteI (fun h=>?_) fun h=>?_)<;>clear a b A B))
  simp only [go_sem]
 subst k1
 rw [if_pos rfl] at hE
 by_cases k1:e4=0
 rotate_left
 ·rw [if_neg k1] at hE
  have b1:(e4 == 0)=false:=beq_false_of_ne k1
  rw [hE]
  clear hE k1
  refine EvV.walk rfl fn16 rfl nt16 rfl ?_
  simp only [List.length_cons,List.length_nil,List.cons_append,List.nil_append,Nat.reduceAdd,Nat.reduceSub,List.replicate]
  repeat' (first|refine go1 ?_|refine za rfl ?_|(refine go2 fun A B a b=>?_;simp only [go_sem, *];(repeat' first|apply a.1|apply b.1|refine iteI (fun h=>?_) fun h=>?_)<;>clear a b A B))
  simp only [go_sem]
 subst k1
 rw [if_pos rfl] at hE
 by_cases k1:60<(rs.length:Int)
 ·rw [if_neg (by omega)] at hE
  rw [hE]
  clear hE
  refine EvV.walk rfl fn16 rfl nt16 rfl ?_
  simp only [List.length_cons,List.length_nil,List.cons_append,List.nil_append,Nat.reduceAdd,Nat.reduceSub,List.replicate]
  repeat' (first|refine go1 ?_|refine za rfl ?_|(refine go2 fun A B a b=>?_;simp only [go_sem, *,zA h.r,List.length_map];(repeat' first|apply a.1|apply b.1|refine iteI (fun h=>?_) fun h=>?_)<;>clear a b A B))
  simp only [go_sem]
 rw [if_pos (by omega)] at hE
 have hhE:Hold (R=rulesF recs gs rs):=⟨hE⟩
 clear hE
 refine EvV.walk rfl fn16 rfl nt16 rfl ?_
 simp only [List.length_cons,List.length_nil,List.cons_append,List.nil_append,Nat.reduceAdd,Nat.reduceSub,List.replicate]
 repeat' (first|refine go1 ?_|refine za rfl ?_|(refine go2 fun A B a b=>?_;simp only [go_sem, *,zA h.r,List.length_map];(repeat' first|apply a.1|apply b.1|refine iteI (fun h=>?_) fun h=>?_)<;>clear a b A B))
 clear k1
 refine zbS [4,5,6,44,45,46,47,48,49,50,51,52,53,54,55,56,57] 43 rs (fun _ post=>rulesF recs gs rs=rulesF recs gs post) ?_ ?_ ?_ ?_
 ·rfl
 ·rfl
 ·intro g G hA
  have e:R=0:=by rw [hhE.out,hA];rfl
  rw [e]
  clear e hA hhE
  simp only [zo,zq,zd,zf,List.set_cons_zero,List.set_cons_succ]
  repeat' (first|refine go1 ?_|refine za rfl ?_|(refine go2 fun A B a b=>?_;simp only [go_sem, *,Int.lt_irrefl];(repeat' first|apply a.1|apply b.1|refine iteI (fun h=>?_) fun h=>?_)<;>clear a b A B))
  simp only [go_sem]
 intro g G pre x post h1 hA
 have hpl:pre.length<rs.length:=by rw [h1];simp
 have lt1:(pre.length:Int)<(rs.length:Int):=by omega
 have w1:=zB (n:=pre.length) (by omega)
 have i0:=zbE h.r (X:=CX) ty26 ty58 rfl (n:=pre.length) (row:=encRu x) (k := .i64) (by rw [h1];exact zcf encRu pre x post)
 have hxm:x∈rs:=by rw [h1];simp
 have hx:=h.ro x hxm
 have d1:=hx.sl.cell
 have t1:=hx.sl.snap
 have q5:=(ruleR h hu hok hl (by omega) x hx (by have:=f7 x hxm;omega)).rw
 have hh1:Hold (rs=pre++x::post):=⟨h1⟩
 have hhA:Hold (rulesF recs gs rs=rulesF recs gs (x::post)):=⟨hA⟩
 clear h1 hpl hA hxm
 obtain⟨e,he⟩:∃ e,ruleF recs gs x=e:=⟨_,rfl⟩
 rw [he] at q5
 have hhe:Hold (ruleF recs gs x=e):=⟨he⟩
 clear he
 simp only [encRu] at i0 q5
 by_cases k2:e=0
 ·subst k2
  simp only [zo,zq,zd,zf,List.set_cons_zero,List.set_cons_succ]
  repeat' (first|refine go1 ?_|refine za rfl ?_|(refine go2 fun A B a b=>?_;simp only [go_sem, *,zA h.r,List.length_map];(repeat' first|apply a.1|apply b.1|refine iteI (fun h=>?_) fun h=>?_)<;>clear a b A B))
  refine zbH hh1.out ?_ ?_ ?_
  ·rw [hhA.out,rulesF,if_pos hhe.out]
  ·((try simp only [zg,zi,zd,zf,List.set_cons_zero,List.set_cons_succ]);all_goals (first|rfl|(simp only [zn,zj,zc,List.length_map,List.length_append,List.length_cons,List.length_nil,Nat.zero_add];first|done|rfl)))
  ·first|exact⟨[],(List.append_nil _).symm⟩|exact⟨_,rfl⟩|(simp only [List.append_assoc,List.cons_append,List.nil_append];exact⟨_,rfl⟩)
 ·have b1:(e == 0)=false:=beq_false_of_ne k2
  have eR:R=e:=by rw [hhE.out,hhA.out,rulesF,hhe.out,if_neg k2]
  rw [eR]
  clear eR hhA hhe hhE k2
  simp only [zo,zq,zd,zf,List.set_cons_zero,List.set_cons_succ]
  repeat' (first|refine go1 ?_|refine za rfl ?_|(refine go2 fun A B a b=>?_;simp only [go_sem, *,zA h.r,List.length_map];(repeat' first|apply a.1|apply b.1|refine iteI (fun h=>?_) fun h=>?_)<;>clear a b A B))
  simp only [go_sem]

noncomputable def rightC (ps:List Psn) (gs:List Grp) (cs:List Con) (rs:List Ru) (r:Rec):Bool :=
 fewRt ps gs cs rs && (decide (r.name.size≤100) && (decide (r.sp.length≤50) && (decide (chkRt ps [] gs cs rs=0) && decide (chkC ps r=0))))
theorem rightE45 {pv gv cv rv:AV}{ps:List Psn}{gs:List Grp}{cs:List Con}{rs:List Ru}(h:RtV pv gv cv rv ps gs cs rs) (r:Rec) (hr:r.ok) (vp vd:Int) :
  EvV CX 17 [.agg [pv,gv,cv,rv,.int .i64 r.id,.str r.name,.int .i64 r.len,.int .i64 r.day,r.sv,.int .i64 vp,.int .i64 vd]] (· = .bool (rightC ps gs cs rs r)):=by
 have c1:=h.p.cell
 have c2:=h.g.cell
 have c3:=h.c.cell
 have c4:=h.r.cell
 have c5:=hr.sv.cell
 have s1:=h.p.snap
 have s2:=h.g.snap
 have s3:=h.c.snap
 have s4:=h.r.snap
 have s5:=hr.sv.snap
 have q1:=(fewR h).rw
 have hE:rightC ps gs cs rs r=(fewRt ps gs cs rs && (decide (r.name.size≤100) && (decide (r.sp.length≤50) && (decide (chkRt ps [] gs cs rs=0) && decide (chkC ps r=0))))):=rfl
 cases k1:fewRt ps gs cs rs with
 | false=>
  rw [k1] at hE q1
  rw [hE]
  clear hE k1
  refine EvV.walk rfl fn17 rfl nt17 rfl ?_
  simp only [List.length_cons,List.length_nil,List.cons_append,List.nil_append,Nat.reduceAdd,Nat.reduceSub,List.replicate]
  repeat' (first|refine go1 ?_|refine za rfl ?_|(refine go2 fun A B a b=>?_;simp only [go_sem, *];(repeat' first|apply a.1|apply b.1|refine iteI (fun h=>?_) fun h=>?_)<;>clear a b A B))
  simp only [go_sem]
 | true=>
  have q2:=(chkR45 (u := .flat (.slice none 0 0)) (recs:=[]) h (.nil rfl) (fun r hr=>by cases hr) (by simp) k1 (recsNil h.p)).rw
  have fo:=few_out k1
  rw [k1,Bool.true_and] at hE
  rw [k1] at q1
  clear k1
  by_cases k2:100<(r.name.size:Int)
  ·rw [decide_eq_false (show ¬r.name.size≤100 by omega),Bool.false_and] at hE
   rw [hE]
   clear hE q2 fo
   refine EvV.walk rfl fn17 rfl nt17 rfl ?_
   simp only [List.length_cons,List.length_nil,List.cons_append,List.nil_append,Nat.reduceAdd,Nat.reduceSub,List.replicate]
   repeat' (first|refine go1 ?_|refine za rfl ?_|(refine go2 fun A B a b=>?_;simp only [go_sem, *,zbQ];(repeat' first|apply a.1|apply b.1|refine iteI (fun h=>?_) fun h=>?_)<;>clear a b A B))
   simp only [go_sem]
  by_cases k3:50<(r.sp.length:Int)
  ·rw [decide_eq_false (show ¬r.sp.length≤50 by omega),Bool.false_and,Bool.and_false] at hE
   rw [hE]
   clear hE q2 fo
   refine EvV.walk rfl fn17 rfl nt17 rfl ?_
   simp only [List.length_cons,List.length_nil,List.cons_append,List.nil_append,Nat.reduceAdd,Nat.reduceSub,List.replicate]
   repeat' (first|refine go1 ?_|refine za rfl ?_|(refine go2 fun A B a b=>?_;simp only [go_sem, *,zbQ,zA hr.sv,zc];(repeat' first|apply a.1|apply b.1|refine iteI (fun h=>?_) fun h=>?_)<;>clear a b A B))
   simp only [go_sem]
  rw [decide_eq_true (show r.name.size≤100 by omega),decide_eq_true (show r.sp.length≤50 by omega),Bool.true_and,Bool.true_and] at hE
  have q3:=(checkRr h.p (by omega) hr (by omega) (by omega)).rw
  simp only [encRc] at q3
  rw [hE]
  clear hE fo
  generalize chkRt ps [] gs cs rs=e1 at *
  generalize chkC ps r=e2 at *
  by_cases k4:e1=0
  ·subst k4
   have b1:decide ((0:Int)=0)=true:=rfl
   rw [b1,Bool.true_and]
   clear b1
   have b2:(e2 == 0)=decide (e2=0):=by rw [Bool.eq_iff_iff];simp
   refine EvV.walk rfl fn17 rfl nt17 rfl ?_
   simp only [List.length_cons,List.length_nil,List.cons_append,List.nil_append,Nat.reduceAdd,Nat.reduceSub,List.replicate]
   repeat' (first|refine go1 ?_|refine za rfl ?_|(refine go2 fun A B a b=>?_;simp only [go_sem, *,zbQ,zA hr.sv,zc];(repeat' first|apply a.1|apply b.1|refine iteI (fun h=>?_) fun h=>?_)<;>clear a b A B))
   simp only [go_sem]
  ·have b1:(e1 == 0)=false:=beq_false_of_ne k4
   rw [decide_eq_false k4,Bool.false_and]
   clear k4
   refine EvV.walk rfl fn17 rfl nt17 rfl ?_
   simp only [List.length_cons,List.length_nil,List.cons_append,List.nil_append,Nat.reduceAdd,Nat.reduceSub,List.replicate]
   repeat' (first|refine go1 ?_|refine za rfl ?_|(refine go2 fun A B a b=>?_;simp only [go_sem, *,zbQ,zA hr.sv,zc];(repeat' first|apply a.1|apply b.1|refine iteI (fun h=>?_) fun h=>?_)<;>clear a b A B))
   simp only [go_sem]

/- Rights: Base, as the program and the reference tell it. -/
open Go.Proofs
attribute [local go_sem] ty75 br66 allocK fz10 ty77 br75 br76 fz12 fz13 br42 fz1 br43 br44 fz158 fz159
set_option maxHeartbeats 4000000

theorem atM {cv:AV}{cs:List Con}(h:consAV cv=some cs) (hl:cs.length≤1000000) (p r d:Int):EvV CX 75 [cv,.int .i64 p,.int .i64 r,.int .i64 d] (· = .int .i64 (atF cs p r d)) :=
 EvV.prim (r := .int .i64 (atF cs p r d)) (S:=[]) rfl (by simp only [primAt,h,if_pos hl]) rfl

def memB (ps:List Psn) (n:Int):Bool:=isP ps n && (psn ps n).mem
theorem memberM {pv gv cv rv:AV}{ps:List Psn}{gs:List Grp}{cs:List Con}{rs:List Ru}(h:RtV pv gv cv rv ps gs cs rs) (hl:ps.length≤1000) (n:Int):EvV CX 76 [.agg [pv,gv,cv,rv],.int .i64 n] (· = .bool (memB ps n)):=by
 have c1:=h.p.cell
 have c2:=h.g.cell
 have c3:=h.c.cell
 have c4:=h.r.cell
 have s1:=h.p.snap
 have q:=(personE pv ps n h.p (by omega)).rw
 have hE:memB ps n=(isP ps n && (psn ps n).mem):=rfl
 cases k:isP ps n with
 | false=>
  rw [k] at q hE
  rw [hE]
  clear hE k
  refine EvV.walk rfl fn76 rfl nt76 rfl ?_
  simp only [List.length_cons,List.length_nil,List.cons_append,List.nil_append,Nat.reduceAdd,Nat.reduceSub,List.replicate]
  repeat' (first|refine go1 ?_|refine za rfl ?_|(refine go2 fun A B a b=>?_;simp only [go_sem, *,↓zcJ,encP];(repeat' first|apply a.1|apply b.1|refine iteI (fun h=>?_) fun h=>?_)<;>clear a b A B))
  simp only [go_sem]
 | true=>
  rw [k] at q hE
  rw [hE]
  clear hE k
  refine EvV.walk rfl fn76 rfl nt76 rfl ?_
  simp only [List.length_cons,List.length_nil,List.cons_append,List.nil_append,Nat.reduceAdd,Nat.reduceSub,List.replicate]
  repeat' (first|refine go1 ?_|refine za rfl ?_|(refine go2 fun A B a b=>?_;simp only [go_sem, *,↓zcJ,encP];(repeat' first|apply a.1|apply b.1|refine iteI (fun h=>?_) fun h=>?_)<;>clear a b A B))
  simp only [go_sem]

def baseGo (M:Bool) (cs:List Con) (id day:Int):List Int→Int
 | []=>0
 | s::l=>if atF cs s id day=0 then 26 else if atF cs s id day=1∧M=false then 25 else baseGo M cs id day l
def baseF (ps:List Psn) (cs:List Con) (r:Rec) (pe day:Int):Int:=baseGo (memB ps pe) cs r.id day r.sp

theorem baseM {pv gv cv rv:AV}{ps:List Psn}{gs:List Grp}{cs:List Con}{rs:List Ru}(h:RtV pv gv cv rv ps gs cs rs) (hl:ps.length≤1000) (hcl:cs.length≤1000) (r:Rec) (hr:r.ok) (hrl:r.sp.length≤1000) (pe day:Int) :
  EvV CX 42 [.agg [pv,gv,cv,rv,.int .i64 r.id,.str r.name,.int .i64 r.len,.int .i64 r.day,r.sv,.int .i64 pe,.int .i64 day]] (· = .int .i64 (baseF ps cs r pe day)):=by
 have c1:=h.p.cell
 have c2:=h.g.cell
 have c3:=h.c.cell
 have c4:=h.r.cell
 have c5:=hr.sv.cell
 have s1:=h.p.snap
 have s2:=h.g.snap
 have s3:=h.c.snap
 have s4:=h.r.snap
 have s5:=hr.sv.snap
 have q:=(memberM h hl pe).rw
 unfold baseF
 obtain⟨M,hM⟩:∃ M,memB ps pe=M:=⟨_,rfl⟩
 rw [hM] at q ⊢
 clear hM
 obtain⟨R,hR⟩:∃ R,baseGo M cs r.id day r.sp=R:=⟨_,rfl⟩
 have hhR:Hold (baseGo M cs r.id day r.sp=R):=⟨hR⟩
 rw [hR]
 clear hR
 refine EvV.walk rfl fn42 rfl nt42 rfl ?_
 simp only [List.length_cons,List.length_nil,List.cons_append,List.nil_append,Nat.reduceAdd,Nat.reduceSub,List.replicate]
 repeat' (first|refine go1 ?_|refine za rfl ?_|(refine go2 fun A B a b=>?_;simp only [go_sem, *,zA hr.sv,zc];(repeat' first|apply a.1|apply b.1|refine iteI (fun h=>?_) fun h=>?_)<;>clear a b A B))
 refine zbS [2,4,5,11,12,13,14,15,16,17,18,19,20,21,22,23,24,25,26,27,28,29,30,31,32,33,34,35,36,37,38,39] 10 r.sp (fun _ post=>baseGo M cs r.id day r.sp=baseGo M cs r.id day post) ?_ ?_ ?_ ?_
 ·rfl
 ·rfl
 ·intro g G hA
  have e:R=0:=by rw [←hhR.out,hA];rfl
  rw [e]
  clear e hA hhR
  simp only [zo,zq,zd,zf,List.set_cons_zero,List.set_cons_succ]
  repeat' (first|refine go1 ?_|refine za rfl ?_|(refine go2 fun A B a b=>?_;simp only [go_sem, *,Int.lt_irrefl];(repeat' first|apply a.1|apply b.1|refine iteI (fun h=>?_) fun h=>?_)<;>clear a b A B))
  simp only [go_sem]
 intro g G pre x post h1 hA
 have i1:=zbE hr.sv (X:=CX) ty29 ty3 rfl (by rw [h1];exact zb8 pre x post) (k := .i64)
 have hpl:pre.length<r.sp.length:=by rw [h1];simp
 have lt1:(pre.length:Int)<(r.sp.length:Int):=by omega
 have w1:=zB (n:=pre.length) (by omega)
 have qa:=(atM h.ca (by omega) x r.id day).rw
 have hh1:Hold (r.sp=pre++x::post):=⟨h1⟩
 obtain⟨A,hAt⟩:∃ A,atF cs x r.id day=A:=⟨_,rfl⟩
 have hs:baseGo M cs r.id day r.sp=if A=0 then 26 else if A=1∧M=false then 25 else baseGo M cs r.id day post:=by rw [hA,baseGo,hAt]
 rw [hAt] at qa
 have hhs:Hold (baseGo M cs r.id day r.sp=if A=0 then 26 else if A=1∧M=false then 25 else baseGo M cs r.id day post):=⟨hs⟩
 clear h1 hpl hA hs hAt
 by_cases k1:A=0
 ·subst k1
  have e:R=26:=by rw [←hhR.out,hhs.out];rfl
  rw [e]
  clear e hhs hhR
  simp only [zo,zq,zd,zf,List.set_cons_zero,List.set_cons_succ]
  repeat' (first|refine go1 ?_|refine za rfl ?_|(refine go2 fun A B a b=>?_;simp only [go_sem, *];(repeat' first|apply a.1|apply b.1|refine iteI (fun h=>?_) fun h=>?_)<;>clear a b A B))
  simp only [go_sem]
 have b1:(A == 0)=false:=beq_false_of_ne k1
 by_cases k2:A=1
 ·subst k2
  cases M with
  | false=>
   have e:R=25:=by rw [←hhR.out,hhs.out];rfl
   rw [e]
   clear e hhs hhR
   simp only [zo,zq,zd,zf,List.set_cons_zero,List.set_cons_succ]
   repeat' (first|refine go1 ?_|refine za rfl ?_|(refine go2 fun A B a b=>?_;simp only [go_sem, *];(repeat' first|apply a.1|apply b.1|refine iteI (fun h=>?_) fun h=>?_)<;>clear a b A B))
   simp only [go_sem]
  | true=>
   simp only [zo,zq,zd,zf,List.set_cons_zero,List.set_cons_succ]
   repeat' (first|refine go1 ?_|refine za rfl ?_|(refine go2 fun A B a b=>?_;simp only [go_sem, *];(repeat' first|apply a.1|apply b.1|refine iteI (fun h=>?_) fun h=>?_)<;>clear a b A B))
   refine zbH hh1.out ?_ ?_ ?_
   ·rw [hhs.out];rfl
   ·((try simp only [zg,zi,zd,zf,List.set_cons_zero,List.set_cons_succ]);all_goals (first|rfl|(simp only [zn,zj,zc,List.length_map,List.length_append,List.length_cons,List.length_nil,Nat.zero_add];first|done|rfl)))
   ·first|exact⟨[],(List.append_nil _).symm⟩|exact⟨_,rfl⟩|(simp only [List.append_assoc,List.cons_append,List.nil_append];exact⟨_,rfl⟩)
 ·have b2:(A == 1)=false:=beq_false_of_ne k2
  have hhn:Hold (baseGo M cs r.id day r.sp=baseGo M cs r.id day post):=⟨by rw [hhs.out,if_neg k1,if_neg (fun e=>k2 e.1)]⟩
  clear k1 k2
  simp only [zo,zq,zd,zf,List.set_cons_zero,List.set_cons_succ]
  repeat' (first|refine go1 ?_|refine za rfl ?_|(refine go2 fun A B a b=>?_;simp only [go_sem, *];(repeat' first|apply a.1|apply b.1|refine iteI (fun h=>?_) fun h=>?_)<;>clear a b A B))
  refine zbH hh1.out hhn.out ?_ ?_
  ·((try simp only [zg,zi,zd,zf,List.set_cons_zero,List.set_cons_succ]);all_goals (first|rfl|(simp only [zn,zj,zc,List.length_map,List.length_append,List.length_cons,List.length_nil,Nat.zero_add];first|done|rfl)))
  ·first|exact⟨[],(List.append_nil _).symm⟩|exact⟨_,rfl⟩|(simp only [List.append_assoc,List.cons_append,List.nil_append];exact⟨_,rfl⟩)

theorem baseMM {pv gv cv rv:AV}{ps:List Psn}{gs:List Grp}{cs:List Con}{rs:List Ru}(h:RtV pv gv cv rv ps gs cs rs) (hl:ps.length≤1000) (hcl:cs.length≤1000) (r:Rec) (hr:r.ok) (hrl:r.sp.length≤1000) (pe day:Int) :
  EvV CX 18 [.agg [pv,gv,cv,rv],.agg [.int .i64 r.id,.str r.name,.int .i64 r.len,.int .i64 r.day,r.sv],.agg [.int .i64 pe,.int .i64 day]] (· = .int .i64 (baseF ps cs r pe day)):=by
 have c1:=h.p.cell
 have c2:=h.g.cell
 have c3:=h.c.cell
 have c4:=h.r.cell
 have c5:=hr.sv.cell
 have s1:=h.p.snap
 have s2:=h.g.snap
 have s3:=h.c.snap
 have s4:=h.r.snap
 have s5:=hr.sv.snap
 have q:=(baseM h hl hcl r hr hrl pe day).rw
 refine EvV.walk rfl fn18 rfl nt18 rfl ?_
 simp only [List.length_cons,List.length_nil,List.cons_append,List.nil_append,Nat.reduceAdd,Nat.reduceSub,List.replicate]
 repeat' (first|refine go1 ?_|refine za rfl ?_|(refine go2 fun A B a b=>?_;simp only [go_sem, *];(repeat' first|apply a.1|apply b.1|refine iteI (fun h=>?_) fun h=>?_)<;>clear a b A B))
 simp only [go_sem]

/- Rights: the law Base. -/
open Go.Proofs
attribute [local go_sem] br13 br17 br18 br19 fz93 fz94 fz95
set_option maxHeartbeats 4000000

theorem right_out {ps:List Psn}{gs:List Grp}{cs:List Con}{rs:List Ru}{r:Rec}(h:rightC ps gs cs rs r=true):fewRt ps gs cs rs=true∧r.name.size≤100∧r.sp.length≤50∧chkRt ps [] gs cs rs=0∧chkC ps r=0:=by
 simp only [rightC,Bool.and_eq_true,decide_eq_true_eq] at h
 exact⟨h.1,h.2.1,h.2.2.1,h.2.2.2.1,h.2.2.2.2⟩

/- Protocols: May and All, in the code and in the reference. -/
open Go.Proofs
attribute [local go_sem] br128 fz121 fz122 br79 fz153 fz157
set_option maxHeartbeats 4000000

noncomputable def mayF (ps:List Psn) (gs:List Grp) (lv:Int) (gl:List Int) (un pe day:Int):Bool :=
 if day<un then false else if lv=2 then gl.any fun g=>(members gs g).contains pe else if lv=3 then false else if lv=1 then isP ps pe && (psn ps pe).mem else true

theorem mayE {v w:AV}{gs:List Grp}{ps:List Psn}(h:GsOK v gs) (hw:SLs 3 (ps.map encP) w) (hps:ps.length≤1000){pg:AV}{gl:List Int}(hp:SLs 1 (ints gl) pg) (hgl:gl.length≤1000) (lv un pe day:Int) :
  EvV CX 107 [w,v,.agg [.int .i64 lv,pg,.int .i64 un],.agg [.int .i64 pe,.int .i64 day]] (· = .bool (mayF ps gs lv gl un pe day)):=by
 have hvs:=fun S=>h.sl.snap (S:=S)
 have hws:=hw.snap
 have c1:=hp.cell
 have s1:=hp.snap
 by_cases h1:day<un
 ·refine EvV.walk rfl fn107 rfl nt107 rfl ?_
  simp only [List.length_cons,List.length_nil,List.cons_append,List.nil_append,Nat.reduceAdd,Nat.reduceSub,List.replicate]
  repeat' (first|refine go1 ?_|refine za rfl ?_|(refine go2 fun A B a b=>?_;simp only [go_sem, *,zb,ze,zm,zp,zj,zc,List.length_map,zK,zbL,za6];(repeat' first|apply a.1|apply b.1|refine iteI (fun h=>?_) fun h=>?_)<;>clear a b A B))
  simp only [go_sem]
  simp [mayF,h1]
 by_cases h2:lv=2
 ·subst h2
  have e:mayF ps gs 2 gl un pe day=gl.any fun g=>(members gs g).contains pe:=by simp [mayF,h1]
  rw [e]
  clear e
  have z:((2:Int) == 2)=true:=rfl
  refine EvV.walk rfl fn107 rfl nt107 rfl ?_
  simp only [List.length_cons,List.length_nil,List.cons_append,List.nil_append,Nat.reduceAdd,Nat.reduceSub,List.replicate]
  repeat' (first|refine go1 ?_|refine za rfl ?_|(refine go2 fun A B a b=>?_;simp only [go_sem, *,zb,ze,zm,zp,zj,zc,List.length_map,zK,zbL,za6,zA hp];(repeat' first|apply a.1|apply b.1|refine iteI (fun h=>?_) fun h=>?_)<;>clear a b A B))
  refine zbS [8,10,30,31,32,33,34,35,36,37,38] 29 gl (fun _ post=>(gl.any fun g=>(members gs g).contains pe)=post.any fun g=>(members gs g).contains pe) ?_ ?_ ?_ ?_
  ·rfl
  ·rfl
  ·intro g G hE
   rw [hE]
   simp only [zo,zq,zd,zf,List.set_cons_zero,List.set_cons_succ]
   repeat' (first|refine go1 ?_|refine za rfl ?_|(refine go2 fun A B a b=>?_;simp only [go_sem, *,zc,List.length_map,Int.lt_irrefl];(repeat' first|apply a.1|apply b.1|refine iteI (fun h=>?_) fun h=>?_)<;>clear a b A B))
   simp only [go_sem]
   rfl
  ·intro g G pre x post h3 hE
   rw [hE]
   have i1:=zbE hp (X:=CX) ty29 ty3 rfl (by rw [h3];exact zb8 pre x post) (k := .i64)
   have lt1:(pre.length:Int)<(gl.length:Int):=by rw [h3];simp;omega
   have w1:=zB (n:=pre.length) (by rw [h3] at hgl;simp at hgl;omega)
   have q:=(inE h x pe).rw
   have hh:Hold (gl=pre++x::post):=⟨h3⟩
   have hhE:Hold ((gl.any fun g=>(members gs g).contains pe)=(x::post).any fun g=>(members gs g).contains pe):=⟨hE⟩
   clear h3 hE
   simp only [zo,zq,zd,zf,List.set_cons_zero,List.set_cons_succ]
   by_cases k:(members gs x).contains pe=true
   ·rw [k] at q
    repeat' (first|refine go1 ?_|refine za rfl ?_|(refine go2 fun A B a b=>?_;simp only [go_sem, *,zb,ze,zm,zp,zj,zc,List.length_map,zK,zbL,za6];(repeat' first|apply a.1|apply b.1|refine iteI (fun h=>?_) fun h=>?_)<;>clear a b A B))
    simp only [go_sem]
    rw [List.any_cons,k];rfl
   ·have k:(members gs x).contains pe=false:=by simpa using k
    rw [k] at q
    repeat' (first|refine go1 ?_|refine za rfl ?_|(refine go2 fun A B a b=>?_;simp only [go_sem, *,zb,ze,zm,zp,zj,zc,List.length_map,zK,zbL,za6];(repeat' first|apply a.1|apply b.1|refine iteI (fun h=>?_) fun h=>?_)<;>clear a b A B))
    refine zbH hh.out ?_ ?_ ?_
    ·rw [List.any_cons,k,Bool.false_or]
    ·((try simp only [zg,zi,zd,zf,List.set_cons_zero,List.set_cons_succ]);all_goals (first|rfl|(simp only [zn,zj,zc,List.length_map,List.length_append,List.length_cons,List.length_nil,Nat.zero_add];first|done|rfl)))
    ·first|exact⟨[],(List.append_nil _).symm⟩|exact⟨_,rfl⟩|(simp only [List.append_assoc,List.cons_append,List.nil_append];exact⟨_,rfl⟩)
 by_cases h3:lv=3
 ·subst h3
  have z:((3:Int) == 3)=true:=rfl
  have z2:((3:Int) == 2)=false:=rfl
  refine EvV.walk rfl fn107 rfl nt107 rfl ?_
  simp only [List.length_cons,List.length_nil,List.cons_append,List.nil_append,Nat.reduceAdd,Nat.reduceSub,List.replicate]
  repeat' (first|refine go1 ?_|refine za rfl ?_|(refine go2 fun A B a b=>?_;simp only [go_sem, *,zb,ze,zm,zp,zj,zc,List.length_map,zK,zbL,za6];(repeat' first|apply a.1|apply b.1|refine iteI (fun h=>?_) fun h=>?_)<;>clear a b A B))
  simp only [go_sem]
  simp [mayF,h1]
 by_cases h4:lv=1
 ·subst h4
  have z:((1:Int) == 3)=false:=rfl
  have z2:((1:Int) == 2)=false:=rfl
  have z1:((1:Int) == 1)=true:=rfl
  have q:=(personE w ps pe hw (by omega)).rw
  by_cases k:isP ps pe=true
  ·refine EvV.walk rfl fn107 rfl nt107 rfl ?_
   simp only [List.length_cons,List.length_nil,List.cons_append,List.nil_append,Nat.reduceAdd,Nat.reduceSub,List.replicate]
   repeat' (first|refine go1 ?_|refine za rfl ?_|(refine go2 fun A B a b=>?_;simp only [go_sem, *,zb,ze,zm,zp,zj,zc,List.length_map,zK,zbL,za6,encP];(repeat' first|apply a.1|apply b.1|refine iteI (fun h=>?_) fun h=>?_)<;>clear a b A B))
   simp only [go_sem]
   simp [mayF,h1,k]
  ·have k:isP ps pe=false:=by simpa using k
   refine EvV.walk rfl fn107 rfl nt107 rfl ?_
   simp only [List.length_cons,List.length_nil,List.cons_append,List.nil_append,Nat.reduceAdd,Nat.reduceSub,List.replicate]
   repeat' (first|refine go1 ?_|refine za rfl ?_|(refine go2 fun A B a b=>?_;simp only [go_sem, *,zb,ze,zm,zp,zj,zc,List.length_map,zK,zbL,za6,encP];(repeat' first|apply a.1|apply b.1|refine iteI (fun h=>?_) fun h=>?_)<;>clear a b A B))
   simp only [go_sem]
   simp [mayF,h1,k]
 ·refine EvV.walk rfl fn107 rfl nt107 rfl ?_
  simp only [List.length_cons,List.length_nil,List.cons_append,List.nil_append,Nat.reduceAdd,Nat.reduceSub,List.replicate]
  repeat' (first|refine go1 ?_|refine za rfl ?_|(refine go2 fun A B a b=>?_;simp only [go_sem, *,zb,ze,zm,zp,zj,zc,List.length_map,zK,zbL,za6];(repeat' first|apply a.1|apply b.1|refine iteI (fun h=>?_) fun h=>?_)<;>clear a b A B))
  simp only [go_sem]
  simp [mayF,h1,h2,h3,h4]

structure Prt where
 lv:Int
 gl:List Int
 un:Int
 gv:AV
structure Prt.ok (p:Prt):Prop where
 gv:SLs 1 (ints p.gl) p.gv
 len:p.gl.length≤1000
end Go.Eng

/- The library's sort of spans by a function as a run: what the walks use; insertion sort, heap sort. -/
namespace Go.Eng.Fo
open Go.Proofs
attribute [local irreducible] wpC wpO wp1 EvV EvR wpL
attribute [local go_sem] ty3 ty4 br131 fz28 fz29 ty47 eq47 br117 fz196 ty44 ty132 fz207 fz221 fz227 reduceIte Nat.reduceAdd Nat.reduceEqDiff Nat.reduceLT Nat.reduceLeDiff beq_iff_eq beq_eq_false_iff_ne Int.natCast_inj Bool.not_eq_false' zbD zbx zaE za9 zaw zas za7 zF zaB zaD zE zax zbw zP zH za8 zI zba zaC zbv zbu zL zar zR zaz zQ zay zS zaA za5 zat zae zbd zaG zbc zbb zbe zby zaF zaY zao zaX zaZ zav zaW zaV zaI zaK zaf zac zW z8 zbg zaJ boxK storeK zaq zaM zam zaN zbm zau zbz zbf zX zaa zaP zaQ zan zbn zaO zbr zaU zbp zbA zbs zbo zbq zaR zbC zaS zaT List.all_cons List.all_nil Bool.and_true Bool.and_self Bool.true_and z7 zaH List.set_cons_zero List.set_cons_succ List.length_cons List.length_nil List.nil_append List.cons_append stabL AV.stab fieldAddrA fieldA List.getElem?_cons_zero List.getElem?_cons_succ Nat.zero_add loadA rowOf Nat.le_refl and_self true_and and_true partA binA unA intBin eqBin eqCells eqCell Option.bind_some decide_true decide_false decide_eq_true_eq ite_not Bool.not_eq_true' decide_eq_false_iff_not Bool.false_eq_true Option.map_some Option.map_none Bool.not_true Bool.not_false buildA fillA patch List.take List.drop List.map_cons List.map_nil extK List.getD_cons_zero List.getD_cons_succ minmaxA minmaxGo zJ zV zak zU zai zT zal zaj zah zag zaL zbk zbi zbl zbj zbh bne Bool.false_and Bool.and_false ne_eq not_true_eq_false not_false_eq_true List.append_nil resultsR resultsL resultA za3 zap za2 za4 za0 za1 zZ zbK zad zO zD zbB

abbrev El:=Int×Int
def encE (x:El):List AV:=[.int .i64 x.1,.int .i64 x.2]
def rowsD (T:List (List AV)) (d:Array El):List (List AV):=d.toList.map encE++T
def ltE (x y:El):Bool:=decide (x.1<y.1)
abbrev cmpV:AV := .fn 116 []
def cmpI (a b:Int):Int:=if a<b then -1 else if b<a then 1 else 0
theorem zbt (x y:El):(cmpI x.1 y.1<0)↔ltE x y=true:=by
 unfold cmpI ltE
 by_cases h:x.1<y.1
 ·simp [h]
 ·by_cases h2:y.1<x.1<;>simp [h,h2]
theorem swo_ltE:Go.Sort.SWO ltE where
 irrefl x:=by simp [ltE]
 trans x y z h1 h2:=by simp only [ltE,decide_eq_true_eq] at h1 h2 ⊢;omega
 ntrans x y z h1 h2:=by simp only [ltE,decide_eq_false_iff_not] at h1 h2 ⊢;omega

variable {T:List (List AV)}
theorem rowsD_len (d:Array El):(rowsD T d).length=d.size+T.length:=by simp [rowsD]
theorem rowsD_get {d:Array El}{i:Nat}(h:i<d.size):(rowsD T d)[i]? = some (encE d[i]!):=by
 have h2:i<(d.toList.map encE).length:=by simpa using h
 rw [rowsD,List.getElem?_append_left h2]
 simp [h]
theorem rowsD_set {d:Array El}{i:Nat}{x:El}(h:i<d.size):(rowsD T d).set i (encE x)=rowsD T (d.setIfInBounds i x):=by
 have h2:i<(d.toList.map encE).length:=by simpa using h
 rw [rowsD,rowsD,List.set_append_left _ _ h2,Array.toList_setIfInBounds,List.map_set]
theorem rowsD_put {d:Array El}{i:Nat}{x:El}(h:i<d.size):(rowsD T d).set i [.int .i64 x.1,.int .i64 x.2]=rowsD T (d.setIfInBounds i x):=rowsD_set h
theorem dropD {d:Array El}{i:Nat}(h:i<d.size):List.drop 2 ((rowsD T d).getD i []) = []:=by
 rw [List.getD_eq_getElem?_getD,rowsD_get h];rfl
theorem ltT {i n t:Nat}(h:i<n):i<n+t:=Nat.lt_of_lt_of_le h (Nat.le_add_right _ _)
theorem takeD {l:List AV}:List.take 0 l = []:=rfl
theorem sizeD {d:Array El}{i:Nat}{x:El}:(d.setIfInBounds i x).size=d.size:=by simp
theorem idxD {b n i t:Nat}{k:IntKind}(h:i<n):indexAddrA CX 44 (.sl b (n+t) 0 n 2) (.int k i)=some (.ptr b (n+t) 2 i 0):=by
 have:(i:Int)<n:=by omega
 simp [indexAddrA,ty44,ty47,this]

theorem nan (a:Int):EvV CX 131 [.int .i64 a] (· = .bool false):=by
 refine EvV.walk rfl fn131 rfl nt131 rfl ?_
 simp only [List.length_cons,List.length_nil,List.cons_append,List.nil_append,Nat.reduceAdd,Nat.reduceSub,List.replicate]
 repeat' (first|refine go1 ?_|refine za rfl ?_|(refine go2 fun A B a b=>?_;simp only [go_sem, *];(repeat' first|apply a.1|apply b.1|refine iteI (fun h=>?_) fun h=>?_)<;>clear a b A B))
 all_goals simp only [go_sem]
 all_goals simp [*]
theorem cmpE (x y:Int):EvV CX 117 [.int .i64 x,.int .i64 y] (· = .int .i64 (cmpI x y)):=by
 refine EvV.walk rfl fn117 rfl nt117 rfl ?_
 simp only [List.length_cons,List.length_nil,List.cons_append,List.nil_append,Nat.reduceAdd,Nat.reduceSub,List.replicate]
 repeat' (first|refine go1 ?_|refine za rfl ?_|(refine go2 fun A B a b=>?_;simp only [go_sem, *,(nan _).rw];(repeat' first|apply a.1|apply b.1|refine iteI (fun h=>?_) fun h=>?_)<;>clear a b A B))
 all_goals simp only [go_sem]
 all_goals simp [cmpI, *]
theorem lessE (a b c e:Int):EvV CX 116 [.agg [.int .i64 a,.int .i64 b],.agg [.int .i64 c,.int .i64 e]] (· = .int .i64 (cmpI a c)):=by
 refine EvV.walk rfl fn116 rfl nt116 rfl ?_
 simp only [List.length_cons,List.length_nil,List.cons_append,List.nil_append,Nat.reduceAdd,Nat.reduceSub,List.replicate]
 repeat' (first|refine go1 ?_|refine za rfl ?_|(refine go2 fun A B a b=>?_;simp only [go_sem, *,(cmpE _ _).rw];(repeat' first|apply a.1|apply b.1|refine iteI (fun h=>?_) fun h=>?_)<;>clear a b A B))
 simp only [go_sem]

def SB (T:List (List AV)) (A C:Store) (d:Array El) (w:Nat):Store:=A ++ .arr (rowsD T d) 2 w true::C

def Left (T:List (List AV)) (A C:Store) (n:Nat) (d:Array El) (S:Store):Prop:=d.size=n∧∃ w C',w≤n+T.length∧S=SB T A (C++C') d w

theorem insE (A C:Store) (d:Array El) (n w a b:Nat) (hn:d.size=n) (hw:w≤n+T.length) (hb:b≤n) (hab:a≤b) (hsm:n<4611686018427387904):EvR CX 140 [.sl A.length (n+T.length) 0 n 2,.int .i64 a,.int .i64 b,cmpV] (A ++ .arr (rowsD T d) 2 w true::C) (fun v S=>v = .tup []∧Left T A C n (Go.Sort.insertionSort ltE d a b) S):=by
 have w1:=zB (n:=a) (by omega)
 refine EvR.walk rfl fn140 rfl nt140 rfl ?_
 simp only [List.length_cons,List.length_nil,List.cons_append,List.nil_append,Nat.reduceAdd,Nat.reduceSub,List.replicate]
 repeat' (first|refine go1 ?_|refine za rfl ?_|(refine go2 fun A B a b=>?_;simp only [go_sem, *];(repeat' first|apply a.1|apply b.1|refine iteI (fun h=>?_) fun h=>?_)<;>clear a b A B))
 refine zN [9,12,13,14,15,16,17,18,19,20,21,22,23,24,25,26,27,28,29,30,31,32,33,34,35,36,37,38,39,40,41,42,43,44,45,46,47,48,49,50,51,52] (fun p:Nat×Array El×Nat=>[(8,.int .i64 p.1)]) (fun p G=>A ++ .arr (rowsD T p.2.1) 2 p.2.2 true::(C++G))
  (fun p=>p.2.1.size=n∧p.2.2≤n+T.length∧a<p.1∧Go.Sort.insOuter ltE a b p.1 p.2.1=Go.Sort.insertionSort ltE d a b) (fun p=>b-p.1) (a+1,d,w) ⟨hn,hw,Nat.lt_succ_self _,rfl⟩ ?_ ?_ ?_
 ·rfl
 ·exact⟨[],by rw [List.append_nil]⟩
 clear hn hw w
 rintro⟨i,d1,w⟩ g G ⟨hn,hw,hai,hE⟩
 simp only at hn hw hai hE
 simp only [zo,zq,zd,zf,List.set_cons_zero,List.set_cons_succ]
 repeat' (first|refine go1 ?_|refine za rfl ?_|(refine go2 fun A B a b=>?_;simp only [go_sem, *];(repeat' first|apply a.1|apply b.1|refine iteI (fun h=>?_) fun h=>?_)<;>clear a b A B))
 ·have hib:i<b:=by omega
  have w2:=zB (n:=i) (by omega)
  refine zN [18,19,20,21,22,23,24,25,26,27,28,29,30,31,32,33,34,35,36,37,38,39,40,41,42,43,44,45,46,47,48,49,50,51,52] (fun p:Nat×Array El×Nat=>[(9,.int .i64 p.1)]) (fun p G=>A ++ .arr (rowsD T p.2.1) 2 p.2.2 true::(C++G))
   (fun p=>p.2.1.size=n∧p.2.2≤n+T.length∧p.1≤i∧Go.Sort.insInner ltE a p.1 p.2.1=Go.Sort.insInner ltE a i d1) (fun p=>p.1) (i,d1,w) ⟨hn,hw,Nat.le_refl _,rfl⟩ ?_ ?_ ?_
  ·rfl
  ·exact⟨G,rfl⟩
  rintro⟨j,d2,w'⟩ g' G' ⟨hn2,hw2,hji,hE2⟩
  simp only at hn2 hw2 hji hE2
  simp only [zo,zq,zd,zf,List.set_cons_zero,List.set_cons_succ]
  cases j with
  | zero=>
   have h0:¬(a:Int)<((0:Nat):Int):=by omega
   repeat' (first|refine go1 ?_|refine za rfl ?_|(refine go2 fun A B a b=>?_;simp only [go_sem, *];(repeat' first|apply a.1|apply b.1|refine iteI (fun h=>?_) fun h=>?_)<;>clear a b A B))
   refine zy (i+1,d2,w') (by simp only;omega) ⟨hn2,hw2,by omega,?_⟩ ?_ ⟨_,rfl⟩
   ·rw [←hE];conv=>rhs;rw [Go.Sort.insOuter,if_pos hib,←hE2]
    simp only [Go.Sort.insInner]
   ·((try simp only [zg,zi,zd,zf,List.set_cons_zero,List.set_cons_succ]);all_goals (first|rfl|(simp only [zn,zj,zc,List.length_map,List.length_append,List.length_cons,List.length_nil,Nat.zero_add];first|done|rfl)))
  | succ j=>
   have hj1:j<n:=by omega
   have hj2:j+1<n:=by omega
   have w3:IntKind.wrap .i64 (((j+1:Nat):Int)-1)=(j:Int):=by rw [zu (by omega) (by omega)];omega
   repeat' (first|refine go1 ?_|refine za rfl ?_|(refine go2 fun A B a b=>?_;simp only [go_sem, *,zb,zm,idxD,ltT,rowsD_get,rowsD_len,rowsD_put,dropD,takeD,sizeD,(lessE _ _ _ _).rw,zbt,Bool.decide_eq_true,encE];(repeat' first|apply a.1|apply b.1|refine iteI (fun h=>?_) fun h=>?_)<;>clear a b A B))
   ·have ha:a<j+1:=by omega
    refine zy (j,Go.Sort.swp d2 (j+1) j,n+T.length) (Nat.lt_succ_self _) ⟨by simp [Go.Sort.swp,hn2],Nat.le_refl _,by omega,?_⟩ ?_ ⟨_,rfl⟩
    ·rw [←hE2];conv=>rhs;rw [Go.Sort.insInner]
     rw [if_pos]
     rw [Bool.and_eq_true];exact⟨by simpa using ha,h⟩
    ·((try simp only [zg,zi,zd,zf,List.set_cons_zero,List.set_cons_succ]);all_goals (first|rfl|(simp only [zn,zj,zc,List.length_map,List.length_append,List.length_cons,List.length_nil,Nat.zero_add];first|done|rfl)))
   all_goals
    refine zy (i+1,d2,w') (by simp only;omega) ⟨hn2,hw2,by omega,?_⟩ ?_ ⟨_,rfl⟩
    ·rw [←hE];conv=>rhs;rw [Go.Sort.insOuter,if_pos hib,←hE2,Go.Sort.insInner]
     rw [if_neg]
     rw [Bool.and_eq_true,decide_eq_true_eq]
     rintro⟨k1,k2⟩
     first|contradiction|omega
    ·((try simp only [zg,zi,zd,zf,List.set_cons_zero,List.set_cons_succ]);all_goals (first|rfl|(simp only [zn,zj,zc,List.length_map,List.length_append,List.length_cons,List.length_nil,Nat.zero_add];first|done|rfl)))
 ·have e:Go.Sort.insertionSort ltE d a b=d1:=by rw [←hE,Go.Sort.insOuter,if_neg (by omega)]
  simp only [go_sem,e]
  exact⟨hn,w,G,hw,rfl⟩

theorem siftE (A C:Store) (d:Array El) (n w hi first root:Nat) (hn:d.size=n) (hw:w≤n+T.length) (hb:first+hi≤n) (hr:root≤n) (hsm:n<1152921504606846976):EvR CX 159 [.sl A.length (n+T.length) 0 n 2,.int .i64 root,.int .i64 hi,.int .i64 first,cmpV] (A ++ .arr (rowsD T d) 2 w true::C) (fun v S=>v = .tup []∧Left T A C n (Go.Sort.siftDown ltE hi first root d) S):=by
 refine EvR.walk rfl fn159 rfl nt159 rfl ?_
 simp only [List.length_cons,List.length_nil,List.cons_append,List.nil_append,Nat.reduceAdd,Nat.reduceSub,List.replicate]
 repeat' (first|refine go1 ?_|refine za rfl ?_|(refine go2 fun A B a b=>?_;simp only [go_sem, *];(repeat' first|apply a.1|apply b.1|refine iteI (fun h=>?_) fun h=>?_)<;>clear a b A B))
 refine zN [11,13,14,15,16,17,18,19,20,21,22,23,24,25,26,27,28,29,30,31,32,33,34,35,36,37,38,39,40,41,42,43,44,45,46,47,48,49,50,51,52,53,54,55,56,57,58,59,60,61,62,63,64,65,66,67,68,69,70,71,72,73,74,75,76,77,78,79,80,81] (fun p:Nat×Array El×Nat=>[(10,.int .i64 p.1)]) (fun p G=>A ++ .arr (rowsD T p.2.1) 2 p.2.2 true::(C++G))
  (fun p=>p.2.1.size=n∧p.2.2≤n+T.length∧p.1≤n∧Go.Sort.siftDown ltE hi first p.1 p.2.1=Go.Sort.siftDown ltE hi first root d) (fun p=>hi-p.1) (root,d,w) ⟨hn,hw,hr,rfl⟩ ?_ ?_ ?_
 ·rfl
 ·exact⟨[],by rw [List.append_nil]⟩
 clear hn hw w hr
 rintro⟨r,d1,w⟩ g G ⟨hn,hw,hr,hE⟩
 simp only at hn hw hr hE
 rw [←hE]
 simp only [zo,zq,zd,zf,List.set_cons_zero,List.set_cons_succ]
 have m1:IntKind.wrap .i64 (2*(r:Int))=((2*r:Nat):Int):=by rw [zu (by omega) (by omega)];omega
 have m2:=zB (n:=2*r) (by omega)
 have m3:=zB (n:=2*r+1) (by omega)
 have m4:IntKind.wrap .i64 ((first:Int)+((2*r+1:Nat):Int))=((first+(2*r+1):Nat):Int):=by rw [zu (by omega) (by omega)];omega
 have m5:IntKind.wrap .i64 ((first:Int)+((2*r+1+1:Nat):Int))=((first+(2*r+1+1):Nat):Int):=by rw [zu (by omega) (by omega)];omega
 have m6:IntKind.wrap .i64 ((first:Int)+(r:Int))=((first+r:Nat):Int):=by rw [zu (by omega) (by omega)];omega
 have m7:=zB (n:=first+(2*r+1)) (by omega)
 by_cases h1:hi≤2*r+1
 ·have h1':(hi:Int)≤((2*r+1:Nat):Int):=by omega
  repeat' (first|refine go1 ?_|refine za rfl ?_|(refine go2 fun A B a b=>?_;simp only [go_sem, *];(repeat' first|apply a.1|apply b.1|refine iteI (fun h=>?_) fun h=>?_)<;>clear a b A B))
  have e:Go.Sort.siftDown ltE hi first r d1=d1:=by rw [Go.Sort.siftDown,dif_pos h1]
  simp only [go_sem,e]
  exact⟨hn,w,G,hw,rfl⟩
 ·have h1':¬(hi:Int)≤((2*r+1:Nat):Int):=by omega
  have i0:first+r<n:=by omega
  have i1:first+(2*r+1)<n:=by omega
  by_cases h2:2*r+1+1<hi
  ·have h2':((2*r+1+1:Nat):Int)<(hi:Int):=by omega
   have i2:first+(2*r+1)+1<n:=by omega
   have i3:first+(2*r+1+1)<n:=by omega
   repeat' (first|refine go1 ?_|refine za rfl ?_|(refine go2 fun A B a b=>?_;simp only [go_sem, *,zb,zm,idxD,ltT,rowsD_get,rowsD_len,rowsD_put,dropD,takeD,sizeD,(lessE _ _ _ _).rw,zbt,Bool.decide_eq_true,encE];(repeat' first|apply a.1|apply b.1|refine iteI (fun h=>?_) fun h=>?_)<;>clear a b A B))
   ·rename_i k1
    have e:Go.Sort.siftDown ltE hi first r d1=d1:=by
     rw [Go.Sort.siftDown,dif_neg (by omega),if_pos (by rw [k1];simp;omega),if_pos (by rw [show 2*r+2=2*r+1+1 from rfl,h];rfl)]
    simp only [go_sem,e]
    exact⟨hn,w,G,hw,rfl⟩
   ·rename_i k1
    refine zy (2*r+1+1,Go.Sort.swp d1 (first+r) (first+(2*r+1+1)),n+T.length) (by simp only;omega) ⟨by simp [Go.Sort.swp,hn],Nat.le_refl _,by simp only;omega,?_⟩ ?_ ⟨_,rfl⟩
    ·conv=>rhs;rw [Go.Sort.siftDown,dif_neg (show ¬2*r+1≥hi by omega),if_pos (show (decide (2*r+1+1<hi) && ltE d1[first+(2*r+1)]! d1[first+(2*r+1)+1]!)=true by rw [k1];simp;omega),if_neg (show ¬(!ltE d1[first+r]! d1[first+(2*r+2)]!)=true by rw [show 2*r+2=2*r+1+1 from rfl];simpa using h),dif_pos h2]
    ·((try simp only [zg,zi,zd,zf,List.set_cons_zero,List.set_cons_succ]);all_goals (first|rfl|(simp only [zn,zj,zc,List.length_map,List.length_append,List.length_cons,List.length_nil,Nat.zero_add];first|done|rfl)))
   ·rename_i k1
    have e:Go.Sort.siftDown ltE hi first r d1=d1:=by
     rw [Go.Sort.siftDown,dif_neg (by omega),if_neg (by simp only [Bool.and_eq_true];rintro⟨_,k⟩;exact k1 k),if_pos (by rw [h];rfl)]
    simp only [go_sem,e]
    exact⟨hn,w,G,hw,rfl⟩
   ·rename_i k1
    refine zy (2*r+1,Go.Sort.swp d1 (first+r) (first+(2*r+1)),n+T.length) (by simp only;omega) ⟨by simp [Go.Sort.swp,hn],Nat.le_refl _,by simp only;omega,?_⟩ ?_ ⟨_,rfl⟩
    ·conv=>rhs;rw [Go.Sort.siftDown,dif_neg (show ¬2*r+1≥hi by omega),if_neg (show ¬(decide (2*r+1+1<hi) && ltE d1[first+(2*r+1)]! d1[first+(2*r+1)+1]!)=true by simp only [Bool.and_eq_true];rintro⟨_,k⟩;exact k1 k),if_neg (show ¬(!ltE d1[first+r]! d1[first+(2*r+1)]!)=true by simpa using h)]
    ·((try simp only [zg,zi,zd,zf,List.set_cons_zero,List.set_cons_succ]);all_goals (first|rfl|(simp only [zn,zj,zc,List.length_map,List.length_append,List.length_cons,List.length_nil,Nat.zero_add];first|done|rfl)))
  ·have h2':¬((2*r+1+1:Nat):Int)<(hi:Int):=by omega
   have h3:¬(decide (2*r+1+1<hi) && ltE d1[first+(2*r+1)]! d1[first+(2*r+1)+1]!)=true:=by simp only [Bool.and_eq_true,decide_eq_true_eq];rintro⟨k,_⟩;exact h2 k
   repeat' (first|refine go1 ?_|refine za rfl ?_|(refine go2 fun A B a b=>?_;simp only [go_sem, *,zb,zm,idxD,ltT,rowsD_get,rowsD_len,rowsD_put,dropD,takeD,sizeD,(lessE _ _ _ _).rw,zbt,Bool.decide_eq_true,encE];(repeat' first|apply a.1|apply b.1|refine iteI (fun h=>?_) fun h=>?_)<;>clear a b A B))
   ·have e:Go.Sort.siftDown ltE hi first r d1=d1:=by
     rw [Go.Sort.siftDown,dif_neg (by omega),if_neg h3,if_pos (by rw [h];rfl)]
    simp only [go_sem,e]
    exact⟨hn,w,G,hw,rfl⟩
   ·refine zy (2*r+1,Go.Sort.swp d1 (first+r) (first+(2*r+1)),n+T.length) (by simp only;omega) ⟨by simp [Go.Sort.swp,hn],Nat.le_refl _,by simp only;omega,?_⟩ ?_ ⟨_,rfl⟩
    ·conv=>rhs;rw [Go.Sort.siftDown,dif_neg (show ¬2*r+1≥hi by omega),if_neg h3,if_neg (show ¬(!ltE d1[first+r]! d1[first+(2*r+1)]!)=true by simpa using h)]
    ·((try simp only [zg,zi,zd,zf,List.set_cons_zero,List.set_cons_succ]);all_goals (first|rfl|(simp only [zn,zj,zc,List.length_map,List.length_append,List.length_cons,List.length_nil,Nat.zero_add];first|done|rfl)))

theorem EvR.left {X:Ctx}{f:FuncId}{args:List AV}{S:Store}{R R':AV→Store→Prop}(h:EvR X f args S R) (hR:∀ r S,R r S→R' r S):EvR X f args S R':=EvR.mono h hR

/- The library's sort of spans by a function as a run: heap sort, reversing, the short insertion sort. -/
open Go.Proofs
attribute [local go_sem] br159 fz232 fz233
variable {T:List (List AV)}

theorem left_shift {A C G:Store}{n:Nat}{d:Array El}{S:Store}(h:Left T A (C++G) n d S):∃ w C',d.size=n∧w≤n+T.length∧S=A ++ .arr (rowsD T d) 2 w true::(C++C'):=by
 obtain⟨h1,w,C',h2,h3⟩:=h
 exact⟨w,G++C',h1,h2,by rw [h3,SB,List.append_assoc]⟩

theorem heapE (A C:Store) (d:Array El) (n w a b:Nat) (hn:d.size=n) (hw:w≤n+T.length) (hab:a≤b) (hb:b≤n) (hsm:n<1152921504606846976):EvR CX 141 [.sl A.length (n+T.length) 0 n 2,.int .i64 a,.int .i64 b,cmpV] (A ++ .arr (rowsD T d) 2 w true::C) (fun v S=>v = .tup []∧Left T A C n (Go.Sort.heapSort ltE d a b) S):=by
 have q1:IntKind.wrap .i64 ((b:Int)-(a:Int))=((b-a:Nat):Int):=by rw [zu (by omega) (by omega)];omega
 have q2:IntKind.wrap .i64 (((b-a:Nat):Int)-1)=((b-a:Nat):Int)-1:=zu (by omega) (by omega)
 have q3:IntKind.wrap .i64 ((((b-a:Nat):Int)-1).tdiv 2)=(((b-a-1) / 2+1:Nat):Int)-1:=by
  rcases Nat.eq_zero_or_pos (b-a) with h|h
  ·rw [h];rfl
  ·have e:((b-a:Nat):Int)-1=((b-a-1:Nat):Int):=by omega
   rw [e,Int.tdiv_eq_ediv_of_nonneg (by omega),zu (by omega) (by omega)];omega
 have q4:¬(2:Int)=0:=by omega
 refine EvR.walk rfl fn141 rfl nt141 rfl ?_
 simp only [List.length_cons,List.length_nil,List.cons_append,List.nil_append,Nat.reduceAdd,Nat.reduceSub,List.replicate]
 repeat' (first|refine go1 ?_|refine za rfl ?_|(refine go2 fun A B a b=>?_;simp only [go_sem, *];(repeat' first|apply a.1|apply b.1|refine iteI (fun h=>?_) fun h=>?_)<;>clear a b A B))
 refine zN [20,21,22,23,24,25,26,27,28,29] (fun p:Nat×Array El×Nat=>[(11,.int .i64 ((p.1:Int)-1))]) (fun p G=>A ++ .arr (rowsD T p.2.1) 2 p.2.2 true::(C++G))
  (fun p=>p.2.1.size=n∧p.2.2≤n+T.length∧p.1≤n+1∧Go.Sort.heapBuild ltE (b-a) a p.1 p.2.1=Go.Sort.heapBuild ltE (b-a) a ((b-a-1) / 2+1) d) (fun p=>p.1) ((b-a-1) / 2+1,d,w) ⟨hn,hw,by simp only;omega,rfl⟩ ?_ ?_ ?_
 ·rfl
 ·exact⟨[],by rw [List.append_nil]⟩
 clear hw w
 rintro⟨k,d1,w⟩ g G ⟨hn1,hw,hk,hE⟩
 simp only at hn1 hw hk hE
 simp only [zo,zq,zd,zf,List.set_cons_zero,List.set_cons_succ]
 cases k with
 | succ k=>
  have e1:(((k+1:Nat):Int)-1)=(k:Int):=by omega
  have e2:(0:Int)≤(k:Int):=by omega
  have e3:IntKind.wrap .i64 ((k:Int)-1)=(k:Int)-1:=zu (by omega) (by omega)
  rw [e1]
  repeat' (first|refine go1 ?_|refine za rfl ?_|(refine go2 fun A B a b=>?_;simp only [go_sem, *];(repeat' first|apply a.1|apply b.1|refine iteI (fun h=>?_) fun h=>?_)<;>clear a b A B))
  refine zG fun K hK=>?_
  simp only [go_sem]
  refine EvR.mono (siftE A (C++G) d1 n w (b-a) a k hn1 hw (by omega) (by omega) hsm) ?_
  rintro _ S ⟨rfl,hL⟩
  obtain⟨w',C',hn2,hw2,rfl⟩:=left_shift hL
  refine hK.out _ _ ?_
  clear hK K
  repeat' (first|refine go1 ?_|refine za rfl ?_|(refine go2 fun A B a b=>?_;simp only [go_sem, *];(repeat' first|apply a.1|apply b.1|refine iteI (fun h=>?_) fun h=>?_)<;>clear a b A B))
  refine zy (k,Go.Sort.siftDown ltE (b-a) a k d1,w') (Nat.lt_succ_self _) ⟨hn2,hw2,by omega,?_⟩ ?_ ⟨_,rfl⟩
  ·rw [←hE];rfl
  ·((try simp only [zg,zi,zd,zf,List.set_cons_zero,List.set_cons_succ]);all_goals (first|rfl|(simp only [zn,zj,zc,List.length_map,List.length_append,List.length_cons,List.length_nil,Nat.zero_add];first|done|rfl)))
 | zero=>
  have e1:(((0:Nat):Int)-1) = -1:=rfl
  rw [e1]
  have hE:=hE.symm
  simp only [Go.Sort.heapBuild] at hE
  clear hk e1
  repeat' (first|refine go1 ?_|refine za rfl ?_|(refine go2 fun A B a b=>?_;simp only [go_sem, *];(repeat' first|apply a.1|apply b.1|refine iteI (fun h=>?_) fun h=>?_)<;>clear a b A B))
  refine zN [32,33,34,35,36,37,38,39,40,41,42,43,44,45,46,47,48,49,50,51,52,53,54,55,56,57,58,59] (fun p:Nat×Array El×Nat=>[(12,.int .i64 ((p.1:Int)-1))]) (fun p G=>A ++ .arr (rowsD T p.2.1) 2 p.2.2 true::(C++G))
   (fun p=>p.2.1.size=n∧p.2.2≤n+T.length∧p.1≤b-a∧Go.Sort.heapPop ltE a p.1 p.2.1=Go.Sort.heapSort ltE d a b) (fun p=>p.1) (b-a,d1,w) ⟨hn1,hw,Nat.le_refl _,by rw [←hE];rfl⟩ ?_ ?_ ?_
  ·rfl
  ·exact⟨_,rfl⟩
  clear hw hn1 hE
  rintro⟨k,d1,w⟩ g G ⟨hn1,hw,hk,hE⟩
  simp only at hn1 hw hk hE
  simp only [zo,zq,zd,zf,List.set_cons_zero,List.set_cons_succ]
  cases k with
  | zero=>
   have e1:(((0:Nat):Int)-1) = -1:=rfl
   rw [e1]
   have hE:=hE.symm
   simp only [Go.Sort.heapPop] at hE
   repeat' (first|refine go1 ?_|refine za rfl ?_|(refine go2 fun A B a b=>?_;simp only [go_sem, *];(repeat' first|apply a.1|apply b.1|refine iteI (fun h=>?_) fun h=>?_)<;>clear a b A B))
   simp only [go_sem,hE]
   exact⟨hn1,w,G,hw,rfl⟩
  | succ k=>
   have e1:(((k+1:Nat):Int)-1)=(k:Int):=by omega
   have e2:(0:Int)≤(k:Int):=by omega
   have e3:IntKind.wrap .i64 ((k:Int)-1)=(k:Int)-1:=zu (by omega) (by omega)
   have e4:IntKind.wrap .i64 ((a:Int)+(k:Int))=((a+k:Nat):Int):=by rw [zu (by omega) (by omega)];omega
   have i1:a+k<n:=by omega
   have i2:a<n:=by omega
   rw [e1]
   repeat' (first|refine go1 ?_|refine za rfl ?_|(refine go2 fun A B a b=>?_;simp only [go_sem, *,zb,zm,idxD,ltT,rowsD_get,rowsD_len,rowsD_put,dropD,takeD,sizeD,(lessE _ _ _ _).rw,zbt,Bool.decide_eq_true,encE];(repeat' first|apply a.1|apply b.1|refine iteI (fun h=>?_) fun h=>?_)<;>clear a b A B))
   refine zG fun K hK=>?_
   simp only [go_sem]
   refine EvR.mono (siftE A (C++G) (Go.Sort.swp d1 a (a+k)) n (n+T.length) k a 0 (by simp [Go.Sort.swp,hn1]) (Nat.le_refl _) (by omega) (by omega) hsm) ?_
   rintro _ S ⟨rfl,hL⟩
   obtain⟨w',C',hn2,hw2,rfl⟩:=left_shift hL
   refine hK.out _ _ ?_
   clear hK K
   repeat' (first|refine go1 ?_|refine za rfl ?_|(refine go2 fun A B a b=>?_;simp only [go_sem, *];(repeat' first|apply a.1|apply b.1|refine iteI (fun h=>?_) fun h=>?_)<;>clear a b A B))
   refine zy (k,Go.Sort.siftDown ltE k a 0 (Go.Sort.swp d1 a (a+k)),w') (Nat.lt_succ_self _) ⟨hn2,hw2,by omega,?_⟩ ?_ ⟨_,rfl⟩
   ·rw [←hE];rfl
   ·((try simp only [zg,zi,zd,zf,List.set_cons_zero,List.set_cons_succ]);all_goals (first|rfl|(simp only [zn,zj,zc,List.length_map,List.length_append,List.length_cons,List.length_nil,Nat.zero_add];first|done|rfl)))

theorem revE (A C:Store) (d:Array El) (n w a b:Nat) (hn:d.size=n) (hw:w≤n+T.length) (hab:a<b) (hb:b≤n) (hsm:n<1152921504606846976):EvR CX 144 [.sl A.length (n+T.length) 0 n 2,.int .i64 a,.int .i64 b,cmpV] (A ++ .arr (rowsD T d) 2 w true::C) (fun v S=>v = .tup []∧Left T A C n (Go.Sort.reverseRange d a b) S):=by
 have q1:IntKind.wrap .i64 ((b:Int)-1)=((b-1:Nat):Int):=by rw [zu (by omega) (by omega)];omega
 refine EvR.walk rfl fn144 rfl nt144 rfl ?_
 simp only [List.length_cons,List.length_nil,List.cons_append,List.nil_append,Nat.reduceAdd,Nat.reduceSub,List.replicate]
 repeat' (first|refine go1 ?_|refine za rfl ?_|(refine go2 fun A B a b=>?_;simp only [go_sem, *];(repeat' first|apply a.1|apply b.1|refine iteI (fun h=>?_) fun h=>?_)<;>clear a b A B))
 refine zN [13,14,15,16,17,18,19,20,21,22,23,24,25,26,27,28,29,30,31,32,33] (fun p:Nat×Nat×Array El×Nat=>[(8,.int .i64 p.1),(9,.int .i64 p.2.1)]) (fun p G=>A ++ .arr (rowsD T p.2.2.1) 2 p.2.2.2 true::(C++G))
  (fun p=>p.2.2.1.size=n∧p.2.2.2≤n+T.length∧p.1≤n∧p.2.1<n∧Go.Sort.reverseLoop p.1 p.2.1 p.2.2.1=Go.Sort.reverseRange d a b) (fun p=>p.2.1-p.1) (a,b-1,d,w) ⟨hn,hw,by simp only;omega,by simp only;omega,rfl⟩ ?_ ?_ ?_
 ·rfl
 ·exact⟨[],by rw [List.append_nil]⟩
 clear hw w hn
 rintro⟨i,j,d1,w⟩ g G ⟨hn,hw,hi,hj,hE⟩
 simp only at hn hw hi hj hE
 simp only [zo,zq,zd,zf,List.set_cons_zero,List.set_cons_succ]
 by_cases h:i<j
 ·have h1:(i:Int)<(j:Int):=by omega
  have i1:i<n:=by omega
  have w1:=zB (n:=i) (by omega)
  have w2:IntKind.wrap .i64 ((j:Int)-1)=((j-1:Nat):Int):=by rw [zu (by omega) (by omega)];omega
  repeat' (first|refine go1 ?_|refine za rfl ?_|(refine go2 fun A B a b=>?_;simp only [go_sem, *,zb,zm,idxD,ltT,rowsD_get,rowsD_len,rowsD_put,dropD,takeD,sizeD,(lessE _ _ _ _).rw,zbt,Bool.decide_eq_true,encE];(repeat' first|apply a.1|apply b.1|refine iteI (fun h=>?_) fun h=>?_)<;>clear a b A B))
  refine zy (i+1,j-1,Go.Sort.swp d1 i j,n+T.length) (by simp only;omega) ⟨by simp [Go.Sort.swp,hn],Nat.le_refl _,by simp only;omega,by simp only;omega,?_⟩ ?_ ⟨_,rfl⟩
  ·rw [←hE];conv=>rhs;rw [Go.Sort.reverseLoop,if_pos h]
  ·((try simp only [zg,zi,zd,zf,List.set_cons_zero,List.set_cons_succ]);all_goals (first|rfl|(simp only [zn,zj,zc,List.length_map,List.length_append,List.length_cons,List.length_nil,Nat.zero_add];first|done|rfl)))
 ·have h1:¬(i:Int)<(j:Int):=by omega
  have e:Go.Sort.reverseRange d a b=d1:=by rw [←hE,Go.Sort.reverseLoop,if_neg h]
  clear hE
  repeat' (first|refine go1 ?_|refine za rfl ?_|(refine go2 fun A B a b=>?_;simp only [go_sem, *];(repeat' first|apply a.1|apply b.1|refine iteI (fun h=>?_) fun h=>?_)<;>clear a b A B))
  simp only [go_sem,e]
  exact⟨hn,w,G,hw,rfl⟩

/- The library's sort of spans by a function as a run: the short insertion sort. -/
open Go.Proofs
attribute [local go_sem] fz216 fz217 fz218
set_option maxRecDepth 20000
set_option maxHeartbeats 4000000
variable {T:List (List AV)}

theorem partE (A C:Store) (d:Array El) (n w a b:Nat) (hn:d.size=n) (hw:w≤n+T.length) (hab:a<b) (hb:b≤n) (hsm:n<1152921504606846976):EvR CX 145 [.sl A.length (n+T.length) 0 n 2,.int .i64 a,.int .i64 b,cmpV] (A ++ .arr (rowsD T d) 2 w true::C) (fun v S=>v = .bool (Go.Sort.partialInsertionSort ltE d a b).2∧Left T A C n (Go.Sort.partialInsertionSort ltE d a b).1 S):=by
 have w1:=zB (n:=a) (by omega)
 have q1:IntKind.wrap .i64 ((b:Int)-(a:Int))=((b-a:Nat):Int):=by rw [zu (by omega) (by omega)];omega
 refine EvR.walk rfl fn145 rfl nt145 rfl ?_
 simp only [List.length_cons,List.length_nil,List.cons_append,List.nil_append,Nat.reduceAdd,Nat.reduceSub,List.replicate]
 repeat' (first|refine go1 ?_|refine za rfl ?_|(refine go2 fun A B a b=>?_;simp only [go_sem, *];(repeat' first|apply a.1|apply b.1|refine iteI (fun h=>?_) fun h=>?_)<;>clear a b A B))
 refine zN [8,11,12,15,16,17,18,19,20,21,22,23,24,25,26,27,28,29,30,31,32,33,34,35,36,37,38,39,40,41,42,43,44,45,46,47,48,49,50,51,52,53,54,55,56,57,58,59,60,61,62,63,64,65,66,67,68,69,70,71,72,73,74,75,76,77,78,79,80,81,82,83,84,85,86,87,88,89,90,91,92,93,94,95,96,97,98,99,100,101,102,103,104,105,106,107,108,109,110,111,112,113,114,115,116,117,118,119,120,121,122,123,124,125,126,127,128,129,130,131,132,133,134,135,136,137,138,139,140] (fun p:Nat×Nat×Array El×Nat=>[(9,.int .i64 p.2.1),(10,.int .i64 p.1)]) (fun p G=>A ++ .arr (rowsD T p.2.2.1) 2 p.2.2.2 true::(C++G))
  (fun p=>p.2.2.1.size=n∧p.2.2.2≤n+T.length∧a<p.2.1∧p.2.1≤b∧p.1≤5∧Go.Sort.partialIns ltE a b (5-p.1) p.2.1 p.2.2.1=Go.Sort.partialInsertionSort ltE d a b) (fun p=>5-p.1) (0,a+1,d,w) ⟨hn,hw,by simp only;omega,by simp only;omega,by simp only;omega,rfl⟩ ?_ ?_ ?_
 ·rfl
 ·exact⟨[],by rw [List.append_nil]⟩
 clear hw w hn
 rintro⟨s,i0,d1,w⟩ g G ⟨hn,hw,hi0,hi0b,hs,hE⟩
 simp only at hn hw hi0 hi0b hs hE
 simp only [zo,zq,zd,zf,List.set_cons_zero,List.set_cons_succ]
 by_cases h5:s=5
 ·subst h5
  have hE:=hE.symm
  simp only [Nat.sub_self,Go.Sort.partialIns] at hE
  have h1:¬((5:Nat):Int)<5:=by omega
  repeat' (first|refine go1 ?_|refine za rfl ?_|(refine go2 fun A B a b=>?_;simp only [go_sem, *];(repeat' first|apply a.1|apply b.1|refine iteI (fun h=>?_) fun h=>?_)<;>clear a b A B))
  simp only [go_sem,hE]
  exact⟨hn,w,G,hw,rfl⟩
 have h1:(s:Int)<5:=by omega
 obtain⟨s',hs'⟩:∃ s',5-s=s'+1:=⟨4-s,by omega⟩
 rw [hs',Go.Sort.partialIns] at hE
 repeat' (first|refine go1 ?_|refine za rfl ?_|(refine go2 fun A B a b=>?_;simp only [go_sem, *];(repeat' first|apply a.1|apply b.1|refine iteI (fun h=>?_) fun h=>?_)<;>clear a b A B))
 refine zN [19,20,21,22,23,24,25,26,27,28,29,30,31,32,33,34,35,36,37,38] (fun p:Nat=>[(9,.int .i64 p)]) (fun p G'=>A ++ .arr (rowsD T d1) 2 w true::(C++(G++G')))
  (fun p=>a<p∧p≤b∧Go.Sort.scanSorted ltE d1 b p=Go.Sort.scanSorted ltE d1 b i0) (fun p=>b-p) i0 ⟨hi0,hi0b,rfl⟩ ?_ ?_ ?_
 ·rfl
 ·exact⟨[],by rw [List.append_nil]⟩
 rintro i g' G' ⟨hi,hib,hSc⟩
 simp only [zo,zq,zd,zf,List.set_cons_zero,List.set_cons_succ]
 have w2:=zB (n:=i) (by omega)
 have w3:IntKind.wrap .i64 ((i:Int)-1)=((i-1:Nat):Int):=by rw [zu (by omega) (by omega)];omega
 have j1:i-1<n:=by omega
 by_cases hlt:i<b
 ·have hlt':(i:Int)<(b:Int):=by omega
  have j2:i<n:=by omega
  by_cases hl:ltE d1[i]! d1[i-1]! = true
  ·-- out of order: the scan ends here
   have e:Go.Sort.scanSorted ltE d1 b i0=i:=by rw [←hSc,Go.Sort.scanSorted,if_neg (by simp only [Bool.and_eq_true];rintro⟨_,k⟩;rw [hl] at k;cases k)]
   have hib':¬i=b:=by omega
   have hib2:¬(i:Int)=(b:Int):=by omega
   simp only [e,if_neg hib'] at hE
   by_cases h50:b-a<50
   ·have h50':((b-a:Nat):Int)<50:=by omega
    rw [if_pos h50] at hE
    have hE:=hE.symm
    repeat' (first|refine go1 ?_|refine za rfl ?_|(refine go2 fun A B a b=>?_;simp only [go_sem, *,zb,zm,idxD,ltT,rowsD_get,rowsD_len,rowsD_put,dropD,takeD,sizeD,(lessE _ _ _ _).rw,zbt,Bool.decide_eq_true,encE];(repeat' first|apply a.1|apply b.1|refine iteI (fun h=>?_) fun h=>?_)<;>clear a b A B))
    simp only [go_sem,hE]
    exact⟨hn,w,_,hw,rfl⟩
   ·have h50':¬((b-a:Nat):Int)<50:=by omega
    rw [if_neg h50] at hE
    obtain⟨dS,hdS⟩:∃ dS,Go.Sort.swp d1 i (i-1)=dS:=⟨_,rfl⟩
    have hnS:dS.size=n:=by rw [←hdS];simp [Go.Sort.swp,hn]
    have hdS':(d1.setIfInBounds i d1[i-1]!).setIfInBounds (i-1) d1[i]! = dS:=hdS
    rw [hdS] at hE
    have q2:IntKind.wrap .i64 ((i:Int)-(a:Int))=((i-a:Nat):Int):=by rw [zu (by omega) (by omega)];omega
    have q3:IntKind.wrap .i64 ((b:Int)-(i:Int))=((b-i:Nat):Int):=by rw [zu (by omega) (by omega)];omega
    repeat' (first|refine go1 ?_|refine za rfl ?_|(refine zt fun A B a b=>?_;simp only [go_sem, *,zb,zm,idxD,ltT,rowsD_get,rowsD_len,rowsD_put,dropD,takeD,sizeD,(lessE _ _ _ _).rw,zbt,Bool.decide_eq_true,encE];(repeat' first|apply a.1|refine iteI (fun h=>?_) fun h=>?_)<;>clear a b A B))
    (refine zY fun A B hA hB=>?_;simp only [go_sem, *];first|(refine hA.out ?_;clear hA hB A B)|(refine hB.out ?_;clear hA hB A B))
    repeat' (first|refine go1 ?_|refine za rfl ?_|(refine zt fun A B a b=>?_;simp only [go_sem, *,zb,zm,idxD,ltT,rowsD_get,rowsD_len,rowsD_put,dropD,takeD,sizeD,(lessE _ _ _ _).rw,zbt,Bool.decide_eq_true,encE];(repeat' first|apply a.1|refine iteI (fun h=>?_) fun h=>?_)<;>clear a b A B))
    (refine zY fun A B hA hB=>?_;simp only [go_sem, *];first|(refine hA.out ?_;clear hA hB A B)|(refine hB.out ?_;clear hA hB A B))
    repeat' (first|refine go1 ?_|refine za rfl ?_|(refine zt fun A B a b=>?_;simp only [go_sem, *,zb,zm,idxD,ltT,rowsD_get,rowsD_len,rowsD_put,dropD,takeD,sizeD,(lessE _ _ _ _).rw,zbt,Bool.decide_eq_true,encE];(repeat' first|apply a.1|refine iteI (fun h=>?_) fun h=>?_)<;>clear a b A B))
    (refine zY fun A B hA hB=>?_;simp only [go_sem, *];first|(refine hA.out ?_;clear hA hB A B)|(refine hB.out ?_;clear hA hB A B))
    repeat' (first|refine go1 ?_|refine za rfl ?_|(refine zt fun A B a b=>?_;simp only [go_sem, *,zb,zm,idxD,ltT,rowsD_get,rowsD_len,rowsD_put,dropD,takeD,sizeD,(lessE _ _ _ _).rw,zbt,Bool.decide_eq_true,encE];(repeat' first|apply a.1|refine iteI (fun h=>?_) fun h=>?_)<;>clear a b A B))
    refine zcI [11,62,63,64,65,66,67,68,69,70,71,72,73,74,75,76,77,78,79,80,81,82,83,84,85,86,87,88,89,90,91,92,93,94,95,96,97,98,99,100] (fun _:Array El×Nat=>[]) (fun p H=>A ++ .arr (rowsD T p.1) 2 p.2 true::(C++H))
     (fun p=>p.1.size=n∧p.2≤n+T.length∧(if i-a≥2 then Go.Sort.shiftDown ltE (i-1) dS else dS)=p.1) ?_ ?_
    ·by_cases h2:i-a≥2
     ·have h2':(2:Int)≤((i-a:Nat):Int):=by omega
      repeat' (first|refine go1 ?_|refine za rfl ?_|(refine go2 fun A B a b=>?_;simp only [go_sem, *];(repeat' first|apply a.1|apply b.1|refine iteI (fun h=>?_) fun h=>?_)<;>clear a b A B))
      refine zN [68,69,70,71,72,73,74,75,76,77,78,79,80,81,82,83,84,85,86,87,88,89,90,91,92,93,94,95,96,97,98,99,100] (fun p:Nat×Array El×Nat=>[(11,.int .i64 p.1)]) (fun p H=>A ++ .arr (rowsD T p.2.1) 2 p.2.2 true::(C++H))
       (fun p=>p.2.1.size=n∧p.2.2≤n+T.length∧p.1<n∧Go.Sort.shiftDown ltE p.1 p.2.1=Go.Sort.shiftDown ltE (i-1) dS) (fun p=>p.1) (i-1,dS,n+T.length) ⟨hnS,Nat.le_refl _,j1,rfl⟩ ?_ ?_ ?_
      ·rfl
      ·exact⟨_,rfl⟩
      rintro⟨j,d3,w3'⟩ g3 G3 ⟨hn3,hw3,hj3,hE3⟩
      simp only at hn3 hw3 hj3 hE3
      simp only [zo,zq,zd,zf,List.set_cons_zero,List.set_cons_succ]
      cases j with
      | zero=>
       have z:¬(1:Int)≤((0:Nat):Int):=by omega
       repeat' (first|refine go1 ?_|refine za rfl ?_|(refine go2 fun A B a b=>?_;simp only [go_sem, *];(repeat' first|apply a.1|apply b.1|refine iteI (fun h=>?_) fun h=>?_)<;>clear a b A B))
       refine zM (d3,w3') ⟨hn3,hw3,by rw [if_pos h2,←hE3];rfl⟩ ?_ ⟨_,rfl⟩
       ((try simp only [zg,zi,zd,zf,List.set_cons_zero,List.set_cons_succ]);all_goals (first|rfl|(simp only [zn,zj,zc,List.length_map,List.length_append,List.length_cons,List.length_nil,Nat.zero_add];first|done|rfl)))
      | succ j=>
       have z:(1:Int)≤((j+1:Nat):Int):=by omega
       have z2:IntKind.wrap .i64 (((j+1:Nat):Int)-1)=(j:Int):=by rw [zu (by omega) (by omega)];omega
       have z3:j<n:=by omega
       by_cases hl3:ltE d3[j+1]! d3[j]! = true
       ·repeat' (first|refine go1 ?_|refine za rfl ?_|(refine go2 fun A B a b=>?_;simp only [go_sem, *,zb,zm,idxD,ltT,rowsD_get,rowsD_len,rowsD_put,dropD,takeD,sizeD,(lessE _ _ _ _).rw,zbt,Bool.decide_eq_true,encE];(repeat' first|apply a.1|apply b.1|refine iteI (fun h=>?_) fun h=>?_)<;>clear a b A B))
        refine zy (j,Go.Sort.swp d3 (j+1) j,n+T.length) (Nat.lt_succ_self _) ⟨by simp [Go.Sort.swp,hn3],Nat.le_refl _,z3,?_⟩ ?_ ⟨_,rfl⟩
        ·rw [←hE3];conv=>rhs;rw [Go.Sort.shiftDown,if_neg (by rw [hl3];simp)]
        ·((try simp only [zg,zi,zd,zf,List.set_cons_zero,List.set_cons_succ]);all_goals (first|rfl|(simp only [zn,zj,zc,List.length_map,List.length_append,List.length_cons,List.length_nil,Nat.zero_add];first|done|rfl)))
       ·have hl3':ltE d3[j+1]! d3[j]! = false:=by simpa using hl3
        repeat' (first|refine go1 ?_|refine za rfl ?_|(refine go2 fun A B a b=>?_;simp only [go_sem, *,zb,zm,idxD,ltT,rowsD_get,rowsD_len,rowsD_put,dropD,takeD,sizeD,(lessE _ _ _ _).rw,zbt,Bool.decide_eq_true,encE,hl3'];(repeat' first|apply a.1|apply b.1|refine iteI (fun h=>?_) fun h=>?_)<;>clear a b A B))
        refine zM (d3,w3') ⟨hn3,hw3,by rw [if_pos h2,←hE3,Go.Sort.shiftDown,if_pos (by rw [hl3'];rfl)]⟩ ?_ ⟨_,rfl⟩
        ((try simp only [zg,zi,zd,zf,List.set_cons_zero,List.set_cons_succ]);all_goals (first|rfl|(simp only [zn,zj,zc,List.length_map,List.length_append,List.length_cons,List.length_nil,Nat.zero_add];first|done|rfl)))
     ·have h2':¬(2:Int)≤((i-a:Nat):Int):=by omega
      repeat' (first|refine go1 ?_|refine za rfl ?_|(refine go2 fun A B a b=>?_;simp only [go_sem, *];(repeat' first|apply a.1|apply b.1|refine iteI (fun h=>?_) fun h=>?_)<;>clear a b A B))
      refine zM (dS,n+T.length) ⟨hnS,Nat.le_refl _,by rw [if_neg h2]⟩ ?_ ⟨_,rfl⟩
      ((try simp only [zg,zi,zd,zf,List.set_cons_zero,List.set_cons_succ]);all_goals (first|rfl|(simp only [zn,zj,zc,List.length_map,List.length_append,List.length_cons,List.length_nil,Nat.zero_add];first|done|rfl)))
    ·rintro⟨d3,w3'⟩ g3 G3 ⟨hn3,hw3,hE3⟩
     simp only at hn3 hw3 hE3
     rw [hE3] at hE
     clear hE3 hdS' hdS hnS
     simp only [zo,zq,zd,zf,List.set_cons_zero,List.set_cons_succ]
     repeat' (first|refine go1 ?_|refine za rfl ?_|(refine zt fun A B a b=>?_;simp only [go_sem, *];(repeat' first|apply a.1|refine iteI (fun h=>?_) fun h=>?_)<;>clear a b A B))
     refine wpC_cutQ [12,101,102,103,104,105,106,107,108,109,110,111,112,113,114,115,116,117,118,119,120,121,122,123,124,125,126,127,128,129,130,131,132,133,134,135,136,137,138,139,140] (fun _:Array El×Nat=>[]) (fun p H=>A ++ .arr (rowsD T p.1) 2 p.2 true::(C++H))
      (fun p=>p.1.size=n∧p.2≤n+T.length∧(if b-i≥2 then Go.Sort.shiftUp ltE b (i+1) d3 else d3)=p.1) ?_ ?_
     ·by_cases h2:b-i≥2
      ·have h2':(2:Int)≤((b-i:Nat):Int):=by omega
       repeat' (first|refine go1 ?_|refine za rfl ?_|(refine go2 fun A B a b=>?_;simp only [go_sem, *];(repeat' first|apply a.1|apply b.1|refine iteI (fun h=>?_) fun h=>?_)<;>clear a b A B))
       refine zN [107,108,109,110,111,112,113,114,115,116,117,118,119,120,121,122,123,124,125,126,127,128,129,130,131,132,133,134,135,136,137,138,139,140] (fun p:Nat×Array El×Nat=>[(12,.int .i64 p.1)]) (fun p H=>A ++ .arr (rowsD T p.2.1) 2 p.2.2 true::(C++H))
        (fun p=>p.2.1.size=n∧p.2.2≤n+T.length∧1≤p.1∧p.1≤n∧Go.Sort.shiftUp ltE b p.1 p.2.1=Go.Sort.shiftUp ltE b (i+1) d3) (fun p=>b-p.1) (i+1,d3,w3') ⟨hn3,hw3,by simp only;omega,by simp only;omega,rfl⟩ ?_ ?_ ?_
       ·rfl
       ·exact⟨_,rfl⟩
       clear hn3 hw3
       rintro⟨j,d4,w4⟩ g4 G4 ⟨hn4,hw4,hj4,hj5,hE4⟩
       simp only at hn4 hw4 hj4 hj5 hE4
       simp only [zo,zq,zd,zf,List.set_cons_zero,List.set_cons_succ]
       by_cases hjb:j<b
       ·have z:(j:Int)<(b:Int):=by omega
        have z2:IntKind.wrap .i64 ((j:Int)-1)=((j-1:Nat):Int):=by rw [zu (by omega) (by omega)];omega
        have z3:j<n:=by omega
        have z4:j-1<n:=by omega
        have z5:=zB (n:=j) (by omega)
        by_cases hl3:ltE d4[j]! d4[j-1]! = true
        ·repeat' (first|refine go1 ?_|refine za rfl ?_|(refine go2 fun A B a b=>?_;simp only [go_sem, *,zb,zm,idxD,ltT,rowsD_get,rowsD_len,rowsD_put,dropD,takeD,sizeD,(lessE _ _ _ _).rw,zbt,Bool.decide_eq_true,encE];(repeat' first|apply a.1|apply b.1|refine iteI (fun h=>?_) fun h=>?_)<;>clear a b A B))
         refine zy (j+1,Go.Sort.swp d4 j (j-1),n+T.length) (by simp only;omega) ⟨by simp [Go.Sort.swp,hn4],Nat.le_refl _,by simp only;omega,by simp only;omega,?_⟩ ?_ ⟨_,rfl⟩
         ·rw [←hE4];conv=>rhs;rw [Go.Sort.shiftUp,if_pos hjb,if_neg (by rw [hl3];simp)]
         ·((try simp only [zg,zi,zd,zf,List.set_cons_zero,List.set_cons_succ]);all_goals (first|rfl|(simp only [zn,zj,zc,List.length_map,List.length_append,List.length_cons,List.length_nil,Nat.zero_add];first|done|rfl)))
        ·have hl3':ltE d4[j]! d4[j-1]! = false:=by simpa using hl3
         repeat' (first|refine go1 ?_|refine za rfl ?_|(refine go2 fun A B a b=>?_;simp only [go_sem, *,zb,zm,idxD,ltT,rowsD_get,rowsD_len,rowsD_put,dropD,takeD,sizeD,(lessE _ _ _ _).rw,zbt,Bool.decide_eq_true,encE,hl3'];(repeat' first|apply a.1|apply b.1|refine iteI (fun h=>?_) fun h=>?_)<;>clear a b A B))
         refine zM (d4,w4) ⟨hn4,hw4,by rw [if_pos h2,←hE4,Go.Sort.shiftUp,if_pos hjb,if_pos (by rw [hl3'];rfl)]⟩ ?_ ⟨_,rfl⟩
         ((try simp only [zg,zi,zd,zf,List.set_cons_zero,List.set_cons_succ]);all_goals (first|rfl|(simp only [zn,zj,zc,List.length_map,List.length_append,List.length_cons,List.length_nil,Nat.zero_add];first|done|rfl)))
       ·have z:¬(j:Int)<(b:Int):=by omega
        repeat' (first|refine go1 ?_|refine za rfl ?_|(refine go2 fun A B a b=>?_;simp only [go_sem, *];(repeat' first|apply a.1|apply b.1|refine iteI (fun h=>?_) fun h=>?_)<;>clear a b A B))
        refine zM (d4,w4) ⟨hn4,hw4,by rw [if_pos h2,←hE4,Go.Sort.shiftUp,if_neg hjb]⟩ ?_ ⟨_,rfl⟩
        ((try simp only [zg,zi,zd,zf,List.set_cons_zero,List.set_cons_succ]);all_goals (first|rfl|(simp only [zn,zj,zc,List.length_map,List.length_append,List.length_cons,List.length_nil,Nat.zero_add];first|done|rfl)))
      ·have h2':¬(2:Int)≤((b-i:Nat):Int):=by omega
       repeat' (first|refine go1 ?_|refine za rfl ?_|(refine go2 fun A B a b=>?_;simp only [go_sem, *];(repeat' first|apply a.1|apply b.1|refine iteI (fun h=>?_) fun h=>?_)<;>clear a b A B))
       refine zM (d3,w3') ⟨hn3,hw3,by rw [if_neg h2]⟩ ?_ ⟨_,rfl⟩
       ((try simp only [zg,zi,zd,zf,List.set_cons_zero,List.set_cons_succ]);all_goals (first|rfl|(simp only [zn,zj,zc,List.length_map,List.length_append,List.length_cons,List.length_nil,Nat.zero_add];first|done|rfl)))
     ·clear hn3 hw3
      rintro⟨d4,w4⟩ g4 G4 ⟨hn4,hw4,hE4⟩
      simp only at hn4 hw4 hE4
      rw [hE4] at hE
      clear hE4
      have z:=zB (n:=s) (by omega)
      simp only [zo,zq,zd,zf,List.set_cons_zero,List.set_cons_succ]
      repeat' (first|refine go1 ?_|refine za rfl ?_|(refine go2 fun A B a b=>?_;simp only [go_sem, *];(repeat' first|apply a.1|apply b.1|refine iteI (fun h=>?_) fun h=>?_)<;>clear a b A B))
      refine zy (s+1,i,d4,w4) (by simp only;omega) ⟨hn4,hw4,hi,hib,by simp only;omega,?_⟩ ?_ ⟨_,rfl⟩
      ·rw [←hE,show 5-(s+1)=s' by omega]
      ·((try simp only [zg,zi,zd,zf,List.set_cons_zero,List.set_cons_succ]);all_goals (first|rfl|(simp only [zn,zj,zc,List.length_map,List.length_append,List.length_cons,List.length_nil,Nat.zero_add];first|done|rfl)))
  ·have hl':ltE d1[i]! d1[i-1]! = false:=by simpa using hl
   repeat' (first|refine go1 ?_|refine za rfl ?_|(refine go2 fun A B a b=>?_;simp only [go_sem, *,zb,zm,idxD,ltT,rowsD_get,rowsD_len,rowsD_put,dropD,takeD,sizeD,(lessE _ _ _ _).rw,zbt,Bool.decide_eq_true,encE,hl'];(repeat' first|apply a.1|apply b.1|refine iteI (fun h=>?_) fun h=>?_)<;>clear a b A B))
   refine zy (i+1) (by first|omega|(simp only;omega)) ⟨by omega,by omega,?_⟩ ?_ ⟨_,rfl⟩
   ·rw [←hSc];conv=>rhs;rw [Go.Sort.scanSorted,if_pos (by simp [hlt,hl'])]
   ·((try simp only [zg,zi,zd,zf,List.set_cons_zero,List.set_cons_succ]);all_goals (first|rfl|(simp only [zn,zj,zc,List.length_map,List.length_append,List.length_cons,List.length_nil,Nat.zero_add];first|done|rfl)))
 ·have hlt':¬(i:Int)<(b:Int):=by omega
  have hib:i=b:=by omega
  subst hib
  have e:Go.Sort.scanSorted ltE d1 i i0=i:=by rw [←hSc,Go.Sort.scanSorted,if_neg (by simp)]
  have hE:Go.Sort.partialInsertionSort ltE d a i=(d1,true):=by rw [←hE];simp [e]
  repeat' (first|refine go1 ?_|refine za rfl ?_|(refine go2 fun A B a b=>?_;simp only [go_sem, *];(repeat' first|apply a.1|apply b.1|refine iteI (fun h=>?_) fun h=>?_)<;>clear a b A B))
  simp only [go_sem,hE]
  exact⟨hn,w,_,hw,rfl⟩

/- The library's sort of spans by a function as a run: the two partitions. -/
open Go.Proofs
attribute [local go_sem] fz210 fz211 fz212 fz213 fz214 fz215
set_option maxRecDepth 20000
set_option maxHeartbeats 8000000
variable {T:List (List AV)}

theorem up_le (p:El→Bool) (d:Array El) (j i:Nat):i≤Go.Sort.scanUp p d j i:=by
 fun_induction Go.Sort.scanUp p d j i with
 | case1 i h1 ih=>omega
 | case2 i h1=>omega
theorem up_ge (p:El→Bool) (d:Array El) (j i m:Nat) (h:i≤m) (h':j+1≤m):Go.Sort.scanUp p d j i≤m:=by
 fun_induction Go.Sort.scanUp p d j i with
 | case1 i h1 ih=>simp at h1;exact ih (by omega)
 | case2 i h1=>exact h
theorem down_le (p:El→Bool) (d:Array El) (i:Nat):∀ j,Go.Sort.scanDown p d i j≤j
 | 0=>Nat.le_refl _
 | j+1=>by
  rw [Go.Sort.scanDown]
  split
  ·exact Nat.le_succ_of_le (down_le p d i j)
  ·exact Nat.le_refl _
theorem down_ge (p:El→Bool) (d:Array El) (i:Nat):∀ j,i-1≤j→i-1≤Go.Sort.scanDown p d i j
 | 0,h=>by rw [Go.Sort.scanDown];exact h
 | j+1,h=>by
  rw [Go.Sort.scanDown]
  split
  ·rename_i hc;simp at hc;exact down_ge p d i j (by omega)
  ·exact h

theorem partitE (A C:Store) (d:Array El) (n w a b pv:Nat) (hn:d.size=n) (hw:w≤n+T.length) (hap:a≤pv) (hpb:pv<b) (hb:b≤n) (hsm:n<1152921504606846976):EvR CX 147 [.sl A.length (n+T.length) 0 n 2,.int .i64 a,.int .i64 b,.int .i64 pv,cmpV] (A ++ .arr (rowsD T d) 2 w true::C) (fun v S=>v = .tup [.int .i64 ((Go.Sort.partition ltE d a b pv).1:Nat),.bool (Go.Sort.partition ltE d a b pv).2.1]∧Left T A C n (Go.Sort.partition ltE d a b pv).2.2 S):=by
 have w1:=zB (n:=a) (by omega)
 have q1:IntKind.wrap .i64 ((b:Int)-1)=((b-1:Nat):Int):=by rw [zu (by omega) (by omega)];omega
 have j1:a<n:=by omega
 have j2:pv<n:=by omega
 obtain⟨dS,hdS⟩:∃ dS,Go.Sort.swp d a pv=dS:=⟨_,rfl⟩
 have hdS':(d.setIfInBounds a d[pv]!).setIfInBounds pv d[a]! = dS:=hdS
 have hnS:dS.size=n:=by rw [←hdS];simp [Go.Sort.swp,hn]
 obtain⟨R,hR⟩:∃ R,Go.Sort.partition ltE d a b pv=R:=⟨_,rfl⟩
 rw [hR]
 unfold Go.Sort.partition at hR
 simp only [hdS] at hR
 refine EvR.walk rfl fn147 rfl nt147 rfl ?_
 simp only [List.length_cons,List.length_nil,List.cons_append,List.nil_append,Nat.reduceAdd,Nat.reduceSub,List.replicate]
 repeat' (first|refine go1 ?_|refine za rfl ?_|(refine go2 fun A B a b=>?_;simp only [go_sem, *,zb,zm,idxD,ltT,rowsD_get,rowsD_len,rowsD_put,dropD,takeD,sizeD,(lessE _ _ _ _).rw,zbt,Bool.decide_eq_true,encE];(repeat' first|apply a.1|apply b.1|refine iteI (fun h=>?_) fun h=>?_)<;>clear a b A B))
 clear hdS hdS' hn
 refine zcn [32,33,34,35,36,37,38,39,40,41,42,43,44,45,46,47,48,49] (fun p:Nat=>[(12,.int .i64 p)]) (fun _ H=>A ++ .arr (rowsD T dS) 2 (n+T.length) true::(C++H)) (fun p=>Go.Sort.scanUp (fun x=>ltE x dS[a]!) dS (b-1) (a+1)=p) ?_ ?_
 ·refine zN [32,33,34,35,36,37,38,39,40,41,42,43,44,45,46,47,48,49] (fun p:Nat=>[(12,.int .i64 p)]) (fun _ H=>A ++ .arr (rowsD T dS) 2 (n+T.length) true::(C++H)) (fun p=>p≤n∧Go.Sort.scanUp (fun x=>ltE x dS[a]!) dS (b-1) p=Go.Sort.scanUp (fun x=>ltE x dS[a]!) dS (b-1) (a+1)) (fun p=>n-p) (a+1) ⟨by omega,rfl⟩ ?_ ?_ ?_
  ·rfl
  ·first|exact⟨_,rfl⟩|exact⟨[],by rw [List.append_nil]⟩
  rintro i g G ⟨hi,hS⟩
  simp only [zo,zq,zd,zf,List.set_cons_zero,List.set_cons_succ]
  have w2:=zB (n:=i) (by omega)
  by_cases h1:i≤b-1
  ·have h1':(i:Int)≤((b-1:Nat):Int):=by omega
   have j3:i<n:=by omega
   by_cases h2:ltE dS[i]! dS[a]! = true
   ·repeat' (first|refine go1 ?_|refine za rfl ?_|(refine go2 fun A B a b=>?_;simp only [go_sem, *,zb,zm,idxD,ltT,rowsD_get,rowsD_len,rowsD_put,dropD,takeD,sizeD,(lessE _ _ _ _).rw,zbt,Bool.decide_eq_true,encE];(repeat' first|apply a.1|apply b.1|refine iteI (fun h=>?_) fun h=>?_)<;>clear a b A B))
    refine zy (i+1) (by first|omega|(simp only;omega)) ⟨by omega,?_⟩ ?_ ⟨_,rfl⟩
    ·rw [←hS];conv=>rhs;rw [Go.Sort.scanUp,if_pos (by simp only [Bool.and_eq_true,decide_eq_true_eq];exact⟨h1,by rw [h2]<;>rfl⟩)]
    ·((try simp only [zg,zi,zd,zf,List.set_cons_zero,List.set_cons_succ]);all_goals (first|rfl|(simp only [zn,zj,zc,List.length_map,List.length_append,List.length_cons,List.length_nil,Nat.zero_add];first|done|rfl)))
   ·have h2':ltE dS[i]! dS[a]! = false:=by simpa using h2
    repeat' (first|refine go1 ?_|refine za rfl ?_|(refine go2 fun A B a b=>?_;simp only [go_sem, *,zb,zm,idxD,ltT,rowsD_get,rowsD_len,rowsD_put,dropD,takeD,sizeD,(lessE _ _ _ _).rw,zbt,Bool.decide_eq_true,encE,h2'];(repeat' first|apply a.1|apply b.1|refine iteI (fun h=>?_) fun h=>?_)<;>clear a b A B))
    refine zM i (by rw [←hS,Go.Sort.scanUp,if_neg (by simp only [Bool.and_eq_true];rintro⟨_,k⟩;rw [h2'] at k;cases k)]) ?_ ⟨_,rfl⟩
    ((try simp only [zg,zi,zd,zf,List.set_cons_zero,List.set_cons_succ]);all_goals (first|rfl|(simp only [zn,zj,zc,List.length_map,List.length_append,List.length_cons,List.length_nil,Nat.zero_add];first|done|rfl)))
  ·have h1':¬(i:Int)≤((b-1:Nat):Int):=by omega
   repeat' (first|refine go1 ?_|refine za rfl ?_|(refine go2 fun A B a b=>?_;simp only [go_sem, *,zb,zm,idxD,ltT,rowsD_get,rowsD_len,rowsD_put,dropD,takeD,sizeD,(lessE _ _ _ _).rw,zbt,Bool.decide_eq_true,encE];(repeat' first|apply a.1|apply b.1|refine iteI (fun h=>?_) fun h=>?_)<;>clear a b A B))
   refine zM i (by rw [←hS,Go.Sort.scanUp,if_neg (by simp only [Bool.and_eq_true,decide_eq_true_eq];rintro⟨k,_⟩;exact h1 k)]) ?_ ⟨_,rfl⟩
   ((try simp only [zg,zi,zd,zf,List.set_cons_zero,List.set_cons_succ]);all_goals (first|rfl|(simp only [zn,zj,zc,List.length_map,List.length_append,List.length_cons,List.length_nil,Nat.zero_add];first|done|rfl)))
 intro i g G hi
 have hi1:=up_le (fun x=>ltE x dS[a]!) dS (b-1) (a+1)
 have hi2:=up_ge (fun x=>ltE x dS[a]!) dS (b-1) (a+1) b (by omega) (by omega)
 rw [hi] at hR hi1 hi2
 clear hi
 simp only [zo,zq,zd,zf,List.set_cons_zero,List.set_cons_succ]
 repeat' (first|refine go1 ?_|refine za rfl ?_|(refine zt fun A B a b=>?_;simp only [go_sem, *];(repeat' first|apply a.1|refine iteI (fun h=>?_) fun h=>?_)<;>clear a b A B))
 refine zcn [50,51,52,53,54,55,56,57,58,59,60,61,62,63,64,65,66,67,68] (fun p:Nat=>[(13,.int .i64 p)]) (fun _ H=>A ++ .arr (rowsD T dS) 2 (n+T.length) true::(C++H)) (fun p=>Go.Sort.scanDown (fun x=> !ltE x dS[a]!) dS (i) (b-1)=p) ?_ ?_
 ·refine zN [50,51,52,53,54,55,56,57,58,59,60,61,62,63,64,65,66,67,68] (fun p:Nat=>[(13,.int .i64 p)]) (fun _ H=>A ++ .arr (rowsD T dS) 2 (n+T.length) true::(C++H)) (fun p=>p<n∧Go.Sort.scanDown (fun x=> !ltE x dS[a]!) dS (i) p=Go.Sort.scanDown (fun x=> !ltE x dS[a]!) dS (i) (b-1)) (fun p=>p) (b-1) ⟨by omega,rfl⟩ ?_ ?_ ?_
  ·rfl
  ·exact⟨_,rfl⟩
  rintro j g G ⟨hj,hS⟩
  simp only [zo,zq,zd,zf,List.set_cons_zero,List.set_cons_succ]
  cases j with
  | zero=>
   have h1':¬(i:Int)≤((0:Nat):Int):=by omega
   repeat' (first|refine go1 ?_|refine za rfl ?_|(refine go2 fun A B a b=>?_;simp only [go_sem, *,zb,zm,idxD,ltT,rowsD_get,rowsD_len,rowsD_put,dropD,takeD,sizeD,(lessE _ _ _ _).rw,zbt,Bool.decide_eq_true,encE];(repeat' first|apply a.1|apply b.1|refine iteI (fun h=>?_) fun h=>?_)<;>clear a b A B))
   refine zM 0 (by rw [←hS,Go.Sort.scanDown]) ?_ ⟨_,rfl⟩
   ((try simp only [zg,zi,zd,zf,List.set_cons_zero,List.set_cons_succ]);all_goals (first|rfl|(simp only [zn,zj,zc,List.length_map,List.length_append,List.length_cons,List.length_nil,Nat.zero_add];first|done|rfl)))
  | succ j=>
   have w2:IntKind.wrap .i64 (((j+1:Nat):Int)-1)=(j:Int):=by rw [zu (by omega) (by omega)];omega
   by_cases h1:i≤j+1
   ·have h1':(i:Int)≤((j+1:Nat):Int):=by omega
    by_cases h2:ltE dS[j+1]! dS[a]! = false
    ·repeat' (first|refine go1 ?_|refine za rfl ?_|(refine go2 fun A B a b=>?_;simp only [go_sem, *,zb,zm,idxD,ltT,rowsD_get,rowsD_len,rowsD_put,dropD,takeD,sizeD,(lessE _ _ _ _).rw,zbt,Bool.decide_eq_true,encE];(repeat' first|apply a.1|apply b.1|refine iteI (fun h=>?_) fun h=>?_)<;>clear a b A B))
     refine zy j (by first|omega|(simp only;omega)) ⟨by omega,?_⟩ ?_ ⟨_,rfl⟩
     ·rw [←hS];conv=>rhs;rw [Go.Sort.scanDown,if_pos (by simp only [Bool.and_eq_true,decide_eq_true_eq];exact⟨h1,by rw [h2]<;>rfl⟩)]
     ·((try simp only [zg,zi,zd,zf,List.set_cons_zero,List.set_cons_succ]);all_goals (first|rfl|(simp only [zn,zj,zc,List.length_map,List.length_append,List.length_cons,List.length_nil,Nat.zero_add];first|done|rfl)))
    ·have h2':ltE dS[j+1]! dS[a]! = true:=by simpa using h2
     repeat' (first|refine go1 ?_|refine za rfl ?_|(refine go2 fun A B a b=>?_;simp only [go_sem, *,zb,zm,idxD,ltT,rowsD_get,rowsD_len,rowsD_put,dropD,takeD,sizeD,(lessE _ _ _ _).rw,zbt,Bool.decide_eq_true,encE,h2'];(repeat' first|apply a.1|apply b.1|refine iteI (fun h=>?_) fun h=>?_)<;>clear a b A B))
     refine zM (j+1) (by rw [←hS,Go.Sort.scanDown,if_neg (by simp only [Bool.and_eq_true];rintro⟨_,k⟩;rw [h2'] at k;cases k)]) ?_ ⟨_,rfl⟩
     ((try simp only [zg,zi,zd,zf,List.set_cons_zero,List.set_cons_succ]);all_goals (first|rfl|(simp only [zn,zj,zc,List.length_map,List.length_append,List.length_cons,List.length_nil,Nat.zero_add];first|done|rfl)))
   ·have h1':¬(i:Int)≤((j+1:Nat):Int):=by omega
    repeat' (first|refine go1 ?_|refine za rfl ?_|(refine go2 fun A B a b=>?_;simp only [go_sem, *,zb,zm,idxD,ltT,rowsD_get,rowsD_len,rowsD_put,dropD,takeD,sizeD,(lessE _ _ _ _).rw,zbt,Bool.decide_eq_true,encE];(repeat' first|apply a.1|apply b.1|refine iteI (fun h=>?_) fun h=>?_)<;>clear a b A B))
    refine zM (j+1) (by rw [←hS,Go.Sort.scanDown,if_neg (by simp only [Bool.and_eq_true,decide_eq_true_eq];rintro⟨k,_⟩;exact h1 k)]) ?_ ⟨_,rfl⟩
    ((try simp only [zg,zi,zd,zf,List.set_cons_zero,List.set_cons_succ]);all_goals (first|rfl|(simp only [zn,zj,zc,List.length_map,List.length_append,List.length_cons,List.length_nil,Nat.zero_add];first|done|rfl)))
 intro j g G hj
 have hj1:=down_le (fun x=> !ltE x dS[a]!) dS i (b-1)
 have hj2:=down_ge (fun x=> !ltE x dS[a]!) dS i (b-1) (by omega)
 rw [hj] at hR hj1 hj2
 clear hj
 simp only [zo,zq,zd,zf,List.set_cons_zero,List.set_cons_succ]
 have j3:j<n:=by omega
 by_cases hij:i > j
 ·have hij':(j:Int)<(i:Int):=by omega
  rw [if_pos hij] at hR
  subst hR
  repeat' (first|refine go1 ?_|refine za rfl ?_|(refine go2 fun A B a b=>?_;simp only [go_sem, *,zb,zm,idxD,ltT,rowsD_get,rowsD_len,rowsD_put,dropD,takeD,sizeD,(lessE _ _ _ _).rw,zbt,Bool.decide_eq_true,encE];(repeat' first|apply a.1|apply b.1|refine iteI (fun h=>?_) fun h=>?_)<;>clear a b A B))
  simp only [go_sem]
  exact⟨by simp [Go.Sort.swp,hnS],n+T.length,G,Nat.le_refl _,rfl⟩
 have hij':¬(j:Int)<(i:Int):=by omega
 have i3:i<n:=by omega
 rw [if_neg hij] at hR
 have w2:=zB (n:=i) (by omega)
 have w3:IntKind.wrap .i64 ((j:Int)-1)=((j-1:Nat):Int):=by rw [zu (by omega) (by omega)];omega
 obtain⟨dT,hdT⟩:∃ dT,Go.Sort.swp dS i j=dT:=⟨_,rfl⟩
 have hdT':(dS.setIfInBounds i dS[j]!).setIfInBounds j dS[i]! = dT:=hdT
 have hnT:dT.size=n:=by rw [←hdT];simp [Go.Sort.swp,hnS]
 rw [hdT] at hR
 obtain⟨L,hL⟩:∃ L,Go.Sort.partLoop ltE a (i+1) (j-1) dT=L:=⟨_,rfl⟩
 simp only [hL] at hR
 repeat' (first|refine go1 ?_|refine za rfl ?_|(refine go2 fun A B a b=>?_;simp only [go_sem, *,zb,zm,idxD,ltT,rowsD_get,rowsD_len,rowsD_put,dropD,takeD,sizeD,(lessE _ _ _ _).rw,zbt,Bool.decide_eq_true,encE];(repeat' first|apply a.1|apply b.1|refine iteI (fun h=>?_) fun h=>?_)<;>clear a b A B))
 refine zN [105,106,107,108,109,110,111,112,113,114,115,116,117,118,119,120,121,122,123,124,125,126,127,128,129,130,131,132,133,134,135,136,137,138,139,140,141,142,143,144,145,146,147,148,149,150,151,152,153,154,155,156,157,158,159,160,161,162] (fun p:Nat×Nat×Array El×Nat=>[(12,.int .i64 p.1),(13,.int .i64 p.2.1)]) (fun p H=>A ++ .arr (rowsD T p.2.2.1) 2 p.2.2.2 true::(C++H))
  (fun p=>p.2.2.1.size=n∧p.2.2.2≤n+T.length∧a<p.1∧p.1≤n∧p.2.1<n∧Go.Sort.partLoop ltE a p.1 p.2.1 p.2.2.1=L) (fun p=>p.2.1+1-p.1) (i+1,j-1,dT,n+T.length) ⟨hnT,Nat.le_refl _,by simp only;omega,by simp only;omega,by simp only;omega,hL⟩ ?_ ?_ ?_
 ·rfl
 ·exact⟨_,rfl⟩
 clear hL hdT hdT' hnT hnS w2 w3 hij' i3 hij j3 hj1 hj2 hi1 hi2
 rintro⟨i0,j0,dL,wL⟩ g G ⟨hnL,hwL,hi0,hi0n,hj0,hL⟩
 simp only at hnL hwL hi0 hi0n hj0 hL
 rw [Go.Sort.partLoop] at hL
 simp only [zo,zq,zd,zf,List.set_cons_zero,List.set_cons_succ]
 repeat' (first|refine go1 ?_|refine za rfl ?_|(refine zt fun A B a b=>?_;simp only [go_sem, *];(repeat' first|apply a.1|refine iteI (fun h=>?_) fun h=>?_)<;>clear a b A B))
 refine zcn [105,106,107,108,109,110,111,112,113,114,115,116,117,118,119,120,121,122] (fun p:Nat=>[(12,.int .i64 p)]) (fun _ H=>A ++ .arr (rowsD T dL) 2 wL true::(C++H)) (fun p=>Go.Sort.scanUp (fun x=>ltE x dL[a]!) dL (j0) (i0)=p) ?_ ?_
 ·refine zN [105,106,107,108,109,110,111,112,113,114,115,116,117,118,119,120,121,122] (fun p:Nat=>[(12,.int .i64 p)]) (fun _ H=>A ++ .arr (rowsD T dL) 2 wL true::(C++H)) (fun p=>p≤n∧Go.Sort.scanUp (fun x=>ltE x dL[a]!) dL (j0) p=Go.Sort.scanUp (fun x=>ltE x dL[a]!) dL (j0) (i0)) (fun p=>n-p) (i0) ⟨by omega,rfl⟩ ?_ ?_ ?_
  ·rfl
  ·first|exact⟨_,rfl⟩|exact⟨[],by rw [List.append_nil]⟩
  rintro i g G ⟨hi,hS⟩
  simp only [zo,zq,zd,zf,List.set_cons_zero,List.set_cons_succ]
  have w2:=zB (n:=i) (by omega)
  by_cases h1:i≤j0
  ·have h1':(i:Int)≤((j0:Nat):Int):=by omega
   have j3:i<n:=by omega
   by_cases h2:ltE dL[i]! dL[a]! = true
   ·repeat' (first|refine go1 ?_|refine za rfl ?_|(refine go2 fun A B a b=>?_;simp only [go_sem, *,zb,zm,idxD,ltT,rowsD_get,rowsD_len,rowsD_put,dropD,takeD,sizeD,(lessE _ _ _ _).rw,zbt,Bool.decide_eq_true,encE];(repeat' first|apply a.1|apply b.1|refine iteI (fun h=>?_) fun h=>?_)<;>clear a b A B))
    refine zy (i+1) (by first|omega|(simp only;omega)) ⟨by omega,?_⟩ ?_ ⟨_,rfl⟩
    ·rw [←hS];conv=>rhs;rw [Go.Sort.scanUp,if_pos (by simp only [Bool.and_eq_true,decide_eq_true_eq];exact⟨h1,by rw [h2]<;>rfl⟩)]
    ·((try simp only [zg,zi,zd,zf,List.set_cons_zero,List.set_cons_succ]);all_goals (first|rfl|(simp only [zn,zj,zc,List.length_map,List.length_append,List.length_cons,List.length_nil,Nat.zero_add];first|done|rfl)))
   ·have h2':ltE dL[i]! dL[a]! = false:=by simpa using h2
    repeat' (first|refine go1 ?_|refine za rfl ?_|(refine go2 fun A B a b=>?_;simp only [go_sem, *,zb,zm,idxD,ltT,rowsD_get,rowsD_len,rowsD_put,dropD,takeD,sizeD,(lessE _ _ _ _).rw,zbt,Bool.decide_eq_true,encE,h2'];(repeat' first|apply a.1|apply b.1|refine iteI (fun h=>?_) fun h=>?_)<;>clear a b A B))
    refine zM i (by rw [←hS,Go.Sort.scanUp,if_neg (by simp only [Bool.and_eq_true];rintro⟨_,k⟩;rw [h2'] at k;cases k)]) ?_ ⟨_,rfl⟩
    ((try simp only [zg,zi,zd,zf,List.set_cons_zero,List.set_cons_succ]);all_goals (first|rfl|(simp only [zn,zj,zc,List.length_map,List.length_append,List.length_cons,List.length_nil,Nat.zero_add];first|done|rfl)))
  ·have h1':¬(i:Int)≤((j0:Nat):Int):=by omega
   repeat' (first|refine go1 ?_|refine za rfl ?_|(refine go2 fun A B a b=>?_;simp only [go_sem, *,zb,zm,idxD,ltT,rowsD_get,rowsD_len,rowsD_put,dropD,takeD,sizeD,(lessE _ _ _ _).rw,zbt,Bool.decide_eq_true,encE];(repeat' first|apply a.1|apply b.1|refine iteI (fun h=>?_) fun h=>?_)<;>clear a b A B))
   refine zM i (by rw [←hS,Go.Sort.scanUp,if_neg (by simp only [Bool.and_eq_true,decide_eq_true_eq];rintro⟨k,_⟩;exact h1 k)]) ?_ ⟨_,rfl⟩
   ((try simp only [zg,zi,zd,zf,List.set_cons_zero,List.set_cons_succ]);all_goals (first|rfl|(simp only [zn,zj,zc,List.length_map,List.length_append,List.length_cons,List.length_nil,Nat.zero_add];first|done|rfl)))
 intro i g G hi
 have hi1:=up_le (fun x=>ltE x dL[a]!) dL j0 i0
 have hi2:=up_ge (fun x=>ltE x dL[a]!) dL j0 i0 n (by omega) (by omega)
 rw [hi] at hL hi1 hi2
 clear hi
 simp only [zo,zq,zd,zf,List.set_cons_zero,List.set_cons_succ]
 repeat' (first|refine go1 ?_|refine za rfl ?_|(refine zt fun A B a b=>?_;simp only [go_sem, *];(repeat' first|apply a.1|refine iteI (fun h=>?_) fun h=>?_)<;>clear a b A B))
 refine zcn [123,124,125,126,127,128,129,130,131,132,133,134,135,136,137,138,139,140,141] (fun p:Nat=>[(13,.int .i64 p)]) (fun _ H=>A ++ .arr (rowsD T dL) 2 wL true::(C++H)) (fun p=>Go.Sort.scanDown (fun x=> !ltE x dL[a]!) dL (i) (j0)=p) ?_ ?_
 ·refine zN [123,124,125,126,127,128,129,130,131,132,133,134,135,136,137,138,139,140,141] (fun p:Nat=>[(13,.int .i64 p)]) (fun _ H=>A ++ .arr (rowsD T dL) 2 wL true::(C++H)) (fun p=>p<n∧Go.Sort.scanDown (fun x=> !ltE x dL[a]!) dL (i) p=Go.Sort.scanDown (fun x=> !ltE x dL[a]!) dL (i) (j0)) (fun p=>p) (j0) ⟨by omega,rfl⟩ ?_ ?_ ?_
  ·rfl
  ·exact⟨_,rfl⟩
  rintro j g G ⟨hj,hS⟩
  simp only [zo,zq,zd,zf,List.set_cons_zero,List.set_cons_succ]
  cases j with
  | zero=>
   have h1':¬(i:Int)≤((0:Nat):Int):=by omega
   repeat' (first|refine go1 ?_|refine za rfl ?_|(refine go2 fun A B a b=>?_;simp only [go_sem, *,zb,zm,idxD,ltT,rowsD_get,rowsD_len,rowsD_put,dropD,takeD,sizeD,(lessE _ _ _ _).rw,zbt,Bool.decide_eq_true,encE];(repeat' first|apply a.1|apply b.1|refine iteI (fun h=>?_) fun h=>?_)<;>clear a b A B))
   refine zM 0 (by rw [←hS,Go.Sort.scanDown]) ?_ ⟨_,rfl⟩
   ((try simp only [zg,zi,zd,zf,List.set_cons_zero,List.set_cons_succ]);all_goals (first|rfl|(simp only [zn,zj,zc,List.length_map,List.length_append,List.length_cons,List.length_nil,Nat.zero_add];first|done|rfl)))
  | succ j=>
   have w2:IntKind.wrap .i64 (((j+1:Nat):Int)-1)=(j:Int):=by rw [zu (by omega) (by omega)];omega
   by_cases h1:i≤j+1
   ·have h1':(i:Int)≤((j+1:Nat):Int):=by omega
    by_cases h2:ltE dL[j+1]! dL[a]! = false
    ·repeat' (first|refine go1 ?_|refine za rfl ?_|(refine go2 fun A B a b=>?_;simp only [go_sem, *,zb,zm,idxD,ltT,rowsD_get,rowsD_len,rowsD_put,dropD,takeD,sizeD,(lessE _ _ _ _).rw,zbt,Bool.decide_eq_true,encE];(repeat' first|apply a.1|apply b.1|refine iteI (fun h=>?_) fun h=>?_)<;>clear a b A B))
     refine zy j (by first|omega|(simp only;omega)) ⟨by omega,?_⟩ ?_ ⟨_,rfl⟩
     ·rw [←hS];conv=>rhs;rw [Go.Sort.scanDown,if_pos (by simp only [Bool.and_eq_true,decide_eq_true_eq];exact⟨h1,by rw [h2]<;>rfl⟩)]
     ·((try simp only [zg,zi,zd,zf,List.set_cons_zero,List.set_cons_succ]);all_goals (first|rfl|(simp only [zn,zj,zc,List.length_map,List.length_append,List.length_cons,List.length_nil,Nat.zero_add];first|done|rfl)))
    ·have h2':ltE dL[j+1]! dL[a]! = true:=by simpa using h2
     repeat' (first|refine go1 ?_|refine za rfl ?_|(refine go2 fun A B a b=>?_;simp only [go_sem, *,zb,zm,idxD,ltT,rowsD_get,rowsD_len,rowsD_put,dropD,takeD,sizeD,(lessE _ _ _ _).rw,zbt,Bool.decide_eq_true,encE,h2'];(repeat' first|apply a.1|apply b.1|refine iteI (fun h=>?_) fun h=>?_)<;>clear a b A B))
     refine zM (j+1) (by rw [←hS,Go.Sort.scanDown,if_neg (by simp only [Bool.and_eq_true];rintro⟨_,k⟩;rw [h2'] at k;cases k)]) ?_ ⟨_,rfl⟩
     ((try simp only [zg,zi,zd,zf,List.set_cons_zero,List.set_cons_succ]);all_goals (first|rfl|(simp only [zn,zj,zc,List.length_map,List.length_append,List.length_cons,List.length_nil,Nat.zero_add];first|done|rfl)))
   ·have h1':¬(i:Int)≤((j+1:Nat):Int):=by omega
    repeat' (first|refine go1 ?_|refine za rfl ?_|(refine go2 fun A B a b=>?_;simp only [go_sem, *,zb,zm,idxD,ltT,rowsD_get,rowsD_len,rowsD_put,dropD,takeD,sizeD,(lessE _ _ _ _).rw,zbt,Bool.decide_eq_true,encE];(repeat' first|apply a.1|apply b.1|refine iteI (fun h=>?_) fun h=>?_)<;>clear a b A B))
    refine zM (j+1) (by rw [←hS,Go.Sort.scanDown,if_neg (by simp only [Bool.and_eq_true,decide_eq_true_eq];rintro⟨k,_⟩;exact h1 k)]) ?_ ⟨_,rfl⟩
    ((try simp only [zg,zi,zd,zf,List.set_cons_zero,List.set_cons_succ]);all_goals (first|rfl|(simp only [zn,zj,zc,List.length_map,List.length_append,List.length_cons,List.length_nil,Nat.zero_add];first|done|rfl)))
 intro j g G hj
 have hj1:=down_le (fun x=> !ltE x dL[a]!) dL i j0
 simp only [hj] at hL
 rw [hj] at hj1
 clear hj
 simp only [zo,zq,zd,zf,List.set_cons_zero,List.set_cons_succ]
 have j3:j<n:=by omega
 by_cases hij:i > j
 ·have hij':(j:Int)<(i:Int):=by omega
  rw [if_pos hij] at hL
  subst hL hR
  repeat' (first|refine go1 ?_|refine za rfl ?_|(refine go2 fun A B a b=>?_;simp only [go_sem, *,zb,zm,idxD,ltT,rowsD_get,rowsD_len,rowsD_put,dropD,takeD,sizeD,(lessE _ _ _ _).rw,zbt,Bool.decide_eq_true,encE];(repeat' first|apply a.1|apply b.1|refine iteI (fun h=>?_) fun h=>?_)<;>clear a b A B))
  simp only [go_sem]
  exact⟨by simp [Go.Sort.swp,hnL],n+T.length,_,Nat.le_refl _,rfl⟩
 ·have hij':¬(j:Int)<(i:Int):=by omega
  have i3:i<n:=by omega
  rw [if_neg hij,dif_pos (by omega)] at hL
  have w2:=zB (n:=i) (by omega)
  have w3:IntKind.wrap .i64 ((j:Int)-1)=((j-1:Nat):Int):=by rw [zu (by omega) (by omega)];omega
  repeat' (first|refine go1 ?_|refine za rfl ?_|(refine go2 fun A B a b=>?_;simp only [go_sem, *,zb,zm,idxD,ltT,rowsD_get,rowsD_len,rowsD_put,dropD,takeD,sizeD,(lessE _ _ _ _).rw,zbt,Bool.decide_eq_true,encE];(repeat' first|apply a.1|apply b.1|refine iteI (fun h=>?_) fun h=>?_)<;>clear a b A B))
  refine zy (i+1,j-1,Go.Sort.swp dL i j,n+T.length) (by simp only;omega) ⟨by simp [Go.Sort.swp,hnL],Nat.le_refl _,by simp only;omega,by simp only;omega,by simp only;omega,hL⟩ ?_ ⟨_,rfl⟩
  ((try simp only [zg,zi,zd,zf,List.set_cons_zero,List.set_cons_succ]);all_goals (first|rfl|(simp only [zn,zj,zc,List.length_map,List.length_append,List.length_cons,List.length_nil,Nat.zero_add];first|done|rfl)))

theorem partEqE (A C:Store) (d:Array El) (n w a b pv:Nat) (hn:d.size=n) (hw:w≤n+T.length) (hap:a≤pv) (hpb:pv<b) (hb:b≤n) (hsm:n<1152921504606846976):EvR CX 146 [.sl A.length (n+T.length) 0 n 2,.int .i64 a,.int .i64 b,.int .i64 pv,cmpV] (A ++ .arr (rowsD T d) 2 w true::C) (fun v S=>v = .int .i64 ((Go.Sort.partitionEqual ltE d a b pv).1:Nat)∧Left T A C n (Go.Sort.partitionEqual ltE d a b pv).2 S):=by
 have w1:=zB (n:=a) (by omega)
 have q1:IntKind.wrap .i64 ((b:Int)-1)=((b-1:Nat):Int):=by rw [zu (by omega) (by omega)];omega
 have j1:a<n:=by omega
 have j2:pv<n:=by omega
 obtain⟨dS,hdS⟩:∃ dS,Go.Sort.swp d a pv=dS:=⟨_,rfl⟩
 have hdS':(d.setIfInBounds a d[pv]!).setIfInBounds pv d[a]! = dS:=hdS
 have hnS:dS.size=n:=by rw [←hdS];simp [Go.Sort.swp,hn]
 obtain⟨L,hL⟩:∃ L,Go.Sort.partitionEqual ltE d a b pv=L:=⟨_,rfl⟩
 rw [hL]
 unfold Go.Sort.partitionEqual at hL
 rw [hdS] at hL
 refine EvR.walk rfl fn146 rfl nt146 rfl ?_
 simp only [List.length_cons,List.length_nil,List.cons_append,List.nil_append,Nat.reduceAdd,Nat.reduceSub,List.replicate]
 repeat' (first|refine go1 ?_|refine za rfl ?_|(refine go2 fun A B a b=>?_;simp only [go_sem, *,zb,zm,idxD,ltT,rowsD_get,rowsD_len,rowsD_put,dropD,takeD,sizeD,(lessE _ _ _ _).rw,zbt,Bool.decide_eq_true,encE];(repeat' first|apply a.1|apply b.1|refine iteI (fun h=>?_) fun h=>?_)<;>clear a b A B))
 clear hdS hdS' hn
 refine zN [31,32,33,34,35,36,37,38,39,40,41,42,43,44,45,46,47,48,49,50,51,52,53,54,55,56,57,58,59,60,61,62,63,64,65,66,67,68,69,70,71,72,73,74,75,76,77,78,79,80,81,82,83,84,85,86,87,88] (fun p:Nat×Nat×Array El×Nat=>[(11,.int .i64 p.1),(12,.int .i64 p.2.1)]) (fun p H=>A ++ .arr (rowsD T p.2.2.1) 2 p.2.2.2 true::(C++H))
  (fun p=>p.2.2.1.size=n∧p.2.2.2≤n+T.length∧a<p.1∧p.1≤n∧p.2.1<n∧Go.Sort.partEqLoop ltE a p.1 p.2.1 p.2.2.1=L) (fun p=>p.2.1+1-p.1) (a+1,b-1,dS,n+T.length) ⟨hnS,Nat.le_refl _,by simp only;omega,by simp only;omega,by simp only;omega,hL⟩ ?_ ?_ ?_
 ·rfl
 ·exact⟨[],by rw [List.append_nil]⟩
 clear hL hnS
 rintro⟨i0,j0,dL,wL⟩ g G ⟨hnL,hwL,hi0,hi0n,hj0,hL⟩
 simp only at hnL hwL hi0 hi0n hj0 hL
 rw [Go.Sort.partEqLoop] at hL
 simp only [zo,zq,zd,zf,List.set_cons_zero,List.set_cons_succ]
 repeat' (first|refine go1 ?_|refine za rfl ?_|(refine zt fun A B a b=>?_;simp only [go_sem, *];(repeat' first|apply a.1|refine iteI (fun h=>?_) fun h=>?_)<;>clear a b A B))
 refine zcn [31,32,33,34,35,36,37,38,39,40,41,42,43,44,45,46,47,48,49] (fun p:Nat=>[(11,.int .i64 p)]) (fun _ H=>A ++ .arr (rowsD T dL) 2 wL true::(C++H)) (fun p=>Go.Sort.scanUp (fun x=> !ltE dL[a]! x) dL (j0) (i0)=p) ?_ ?_
 ·refine zN [31,32,33,34,35,36,37,38,39,40,41,42,43,44,45,46,47,48,49] (fun p:Nat=>[(11,.int .i64 p)]) (fun _ H=>A ++ .arr (rowsD T dL) 2 wL true::(C++H)) (fun p=>p≤n∧Go.Sort.scanUp (fun x=> !ltE dL[a]! x) dL (j0) p=Go.Sort.scanUp (fun x=> !ltE dL[a]! x) dL (j0) (i0)) (fun p=>n-p) (i0) ⟨by omega,rfl⟩ ?_ ?_ ?_
  ·rfl
  ·first|exact⟨_,rfl⟩|exact⟨[],by rw [List.append_nil]⟩
  rintro i g G ⟨hi,hS⟩
  simp only [zo,zq,zd,zf,List.set_cons_zero,List.set_cons_succ]
  have w2:=zB (n:=i) (by omega)
  by_cases h1:i≤j0
  ·have h1':(i:Int)≤((j0:Nat):Int):=by omega
   have j3:i<n:=by omega
   by_cases h2:ltE dL[a]! dL[i]! = false
   ·repeat' (first|refine go1 ?_|refine za rfl ?_|(refine go2 fun A B a b=>?_;simp only [go_sem, *,zb,zm,idxD,ltT,rowsD_get,rowsD_len,rowsD_put,dropD,takeD,sizeD,(lessE _ _ _ _).rw,zbt,Bool.decide_eq_true,encE];(repeat' first|apply a.1|apply b.1|refine iteI (fun h=>?_) fun h=>?_)<;>clear a b A B))
    refine zy (i+1) (by first|omega|(simp only;omega)) ⟨by omega,?_⟩ ?_ ⟨_,rfl⟩
    ·rw [←hS];conv=>rhs;rw [Go.Sort.scanUp,if_pos (by simp only [Bool.and_eq_true,decide_eq_true_eq];exact⟨h1,by rw [h2]<;>rfl⟩)]
    ·((try simp only [zg,zi,zd,zf,List.set_cons_zero,List.set_cons_succ]);all_goals (first|rfl|(simp only [zn,zj,zc,List.length_map,List.length_append,List.length_cons,List.length_nil,Nat.zero_add];first|done|rfl)))
   ·have h2':ltE dL[a]! dL[i]! = true:=by simpa using h2
    repeat' (first|refine go1 ?_|refine za rfl ?_|(refine go2 fun A B a b=>?_;simp only [go_sem, *,zb,zm,idxD,ltT,rowsD_get,rowsD_len,rowsD_put,dropD,takeD,sizeD,(lessE _ _ _ _).rw,zbt,Bool.decide_eq_true,encE,h2'];(repeat' first|apply a.1|apply b.1|refine iteI (fun h=>?_) fun h=>?_)<;>clear a b A B))
    refine zM i (by rw [←hS,Go.Sort.scanUp,if_neg (by simp only [Bool.and_eq_true];rintro⟨_,k⟩;rw [h2'] at k;cases k)]) ?_ ⟨_,rfl⟩
    ((try simp only [zg,zi,zd,zf,List.set_cons_zero,List.set_cons_succ]);all_goals (first|rfl|(simp only [zn,zj,zc,List.length_map,List.length_append,List.length_cons,List.length_nil,Nat.zero_add];first|done|rfl)))
  ·have h1':¬(i:Int)≤((j0:Nat):Int):=by omega
   repeat' (first|refine go1 ?_|refine za rfl ?_|(refine go2 fun A B a b=>?_;simp only [go_sem, *,zb,zm,idxD,ltT,rowsD_get,rowsD_len,rowsD_put,dropD,takeD,sizeD,(lessE _ _ _ _).rw,zbt,Bool.decide_eq_true,encE];(repeat' first|apply a.1|apply b.1|refine iteI (fun h=>?_) fun h=>?_)<;>clear a b A B))
   refine zM i (by rw [←hS,Go.Sort.scanUp,if_neg (by simp only [Bool.and_eq_true,decide_eq_true_eq];rintro⟨k,_⟩;exact h1 k)]) ?_ ⟨_,rfl⟩
   ((try simp only [zg,zi,zd,zf,List.set_cons_zero,List.set_cons_succ]);all_goals (first|rfl|(simp only [zn,zj,zc,List.length_map,List.length_append,List.length_cons,List.length_nil,Nat.zero_add];first|done|rfl)))
 intro i g G hi
 have hi1:=up_le (fun x=> !ltE dL[a]! x) dL j0 i0
 have hi2:=up_ge (fun x=> !ltE dL[a]! x) dL j0 i0 n (by omega) (by omega)
 rw [hi] at hL hi1 hi2
 clear hi
 simp only [zo,zq,zd,zf,List.set_cons_zero,List.set_cons_succ]
 repeat' (first|refine go1 ?_|refine za rfl ?_|(refine zt fun A B a b=>?_;simp only [go_sem, *];(repeat' first|apply a.1|refine iteI (fun h=>?_) fun h=>?_)<;>clear a b A B))
 refine zcn [50,51,52,53,54,55,56,57,58,59,60,61,62,63,64,65,66,67] (fun p:Nat=>[(12,.int .i64 p)]) (fun _ H=>A ++ .arr (rowsD T dL) 2 wL true::(C++H)) (fun p=>Go.Sort.scanDown (fun x=>ltE dL[a]! x) dL (i) (j0)=p) ?_ ?_
 ·refine zN [50,51,52,53,54,55,56,57,58,59,60,61,62,63,64,65,66,67] (fun p:Nat=>[(12,.int .i64 p)]) (fun _ H=>A ++ .arr (rowsD T dL) 2 wL true::(C++H)) (fun p=>p<n∧Go.Sort.scanDown (fun x=>ltE dL[a]! x) dL (i) p=Go.Sort.scanDown (fun x=>ltE dL[a]! x) dL (i) (j0)) (fun p=>p) (j0) ⟨by omega,rfl⟩ ?_ ?_ ?_
  ·rfl
  ·exact⟨_,rfl⟩
  rintro j g G ⟨hj,hS⟩
  simp only [zo,zq,zd,zf,List.set_cons_zero,List.set_cons_succ]
  cases j with
  | zero=>
   have h1':¬(i:Int)≤((0:Nat):Int):=by omega
   repeat' (first|refine go1 ?_|refine za rfl ?_|(refine go2 fun A B a b=>?_;simp only [go_sem, *,zb,zm,idxD,ltT,rowsD_get,rowsD_len,rowsD_put,dropD,takeD,sizeD,(lessE _ _ _ _).rw,zbt,Bool.decide_eq_true,encE];(repeat' first|apply a.1|apply b.1|refine iteI (fun h=>?_) fun h=>?_)<;>clear a b A B))
   refine zM 0 (by rw [←hS,Go.Sort.scanDown]) ?_ ⟨_,rfl⟩
   ((try simp only [zg,zi,zd,zf,List.set_cons_zero,List.set_cons_succ]);all_goals (first|rfl|(simp only [zn,zj,zc,List.length_map,List.length_append,List.length_cons,List.length_nil,Nat.zero_add];first|done|rfl)))
  | succ j=>
   have w2:IntKind.wrap .i64 (((j+1:Nat):Int)-1)=(j:Int):=by rw [zu (by omega) (by omega)];omega
   by_cases h1:i≤j+1
   ·have h1':(i:Int)≤((j+1:Nat):Int):=by omega
    by_cases h2:ltE dL[a]! dL[j+1]! = true
    ·repeat' (first|refine go1 ?_|refine za rfl ?_|(refine go2 fun A B a b=>?_;simp only [go_sem, *,zb,zm,idxD,ltT,rowsD_get,rowsD_len,rowsD_put,dropD,takeD,sizeD,(lessE _ _ _ _).rw,zbt,Bool.decide_eq_true,encE];(repeat' first|apply a.1|apply b.1|refine iteI (fun h=>?_) fun h=>?_)<;>clear a b A B))
     refine zy j (by first|omega|(simp only;omega)) ⟨by omega,?_⟩ ?_ ⟨_,rfl⟩
     ·rw [←hS];conv=>rhs;rw [Go.Sort.scanDown,if_pos (by simp only [Bool.and_eq_true,decide_eq_true_eq];exact⟨h1,by rw [h2]<;>rfl⟩)]
     ·((try simp only [zg,zi,zd,zf,List.set_cons_zero,List.set_cons_succ]);all_goals (first|rfl|(simp only [zn,zj,zc,List.length_map,List.length_append,List.length_cons,List.length_nil,Nat.zero_add];first|done|rfl)))
    ·have h2':ltE dL[a]! dL[j+1]! = false:=by simpa using h2
     repeat' (first|refine go1 ?_|refine za rfl ?_|(refine go2 fun A B a b=>?_;simp only [go_sem, *,zb,zm,idxD,ltT,rowsD_get,rowsD_len,rowsD_put,dropD,takeD,sizeD,(lessE _ _ _ _).rw,zbt,Bool.decide_eq_true,encE,h2'];(repeat' first|apply a.1|apply b.1|refine iteI (fun h=>?_) fun h=>?_)<;>clear a b A B))
     refine zM (j+1) (by rw [←hS,Go.Sort.scanDown,if_neg (by simp only [Bool.and_eq_true];rintro⟨_,k⟩;rw [h2'] at k;cases k)]) ?_ ⟨_,rfl⟩
     ((try simp only [zg,zi,zd,zf,List.set_cons_zero,List.set_cons_succ]);all_goals (first|rfl|(simp only [zn,zj,zc,List.length_map,List.length_append,List.length_cons,List.length_nil,Nat.zero_add];first|done|rfl)))
   ·have h1':¬(i:Int)≤((j+1:Nat):Int):=by omega
    repeat' (first|refine go1 ?_|refine za rfl ?_|(refine go2 fun A B a b=>?_;simp only [go_sem, *,zb,zm,idxD,ltT,rowsD_get,rowsD_len,rowsD_put,dropD,takeD,sizeD,(lessE _ _ _ _).rw,zbt,Bool.decide_eq_true,encE];(repeat' first|apply a.1|apply b.1|refine iteI (fun h=>?_) fun h=>?_)<;>clear a b A B))
    refine zM (j+1) (by rw [←hS,Go.Sort.scanDown,if_neg (by simp only [Bool.and_eq_true,decide_eq_true_eq];rintro⟨k,_⟩;exact h1 k)]) ?_ ⟨_,rfl⟩
    ((try simp only [zg,zi,zd,zf,List.set_cons_zero,List.set_cons_succ]);all_goals (first|rfl|(simp only [zn,zj,zc,List.length_map,List.length_append,List.length_cons,List.length_nil,Nat.zero_add];first|done|rfl)))
 intro j g G hj
 have hj1:=down_le (fun x=>ltE dL[a]! x) dL i j0
 simp only [hj] at hL
 rw [hj] at hj1
 clear hj
 simp only [zo,zq,zd,zf,List.set_cons_zero,List.set_cons_succ]
 have j3:j<n:=by omega
 by_cases hij:i > j
 ·have hij':(j:Int)<(i:Int):=by omega
  rw [if_pos hij] at hL
  subst hL
  repeat' (first|refine go1 ?_|refine za rfl ?_|(refine go2 fun A B a b=>?_;simp only [go_sem, *,zb,zm,idxD,ltT,rowsD_get,rowsD_len,rowsD_put,dropD,takeD,sizeD,(lessE _ _ _ _).rw,zbt,Bool.decide_eq_true,encE];(repeat' first|apply a.1|apply b.1|refine iteI (fun h=>?_) fun h=>?_)<;>clear a b A B))
  simp only [go_sem]
  exact⟨hnL,wL,_,hwL,rfl⟩
 ·have hij':¬(j:Int)<(i:Int):=by omega
  have i3:i<n:=by omega
  rw [if_neg hij,dif_pos (by omega)] at hL
  have w2:=zB (n:=i) (by omega)
  have w3:IntKind.wrap .i64 ((j:Int)-1)=((j-1:Nat):Int):=by rw [zu (by omega) (by omega)];omega
  repeat' (first|refine go1 ?_|refine za rfl ?_|(refine go2 fun A B a b=>?_;simp only [go_sem, *,zb,zm,idxD,ltT,rowsD_get,rowsD_len,rowsD_put,dropD,takeD,sizeD,(lessE _ _ _ _).rw,zbt,Bool.decide_eq_true,encE];(repeat' first|apply a.1|apply b.1|refine iteI (fun h=>?_) fun h=>?_)<;>clear a b A B))
  refine zy (i+1,j-1,Go.Sort.swp dL i j,n+T.length) (by simp only;omega) ⟨by simp [Go.Sort.swp,hnL],Nat.le_refl _,by simp only;omega,by simp only;omega,by simp only;omega,hL⟩ ?_ ⟨_,rfl⟩
  ((try simp only [zg,zi,zd,zf,List.set_cons_zero,List.set_cons_succ]);all_goals (first|rfl|(simp only [zn,zj,zc,List.length_map,List.length_append,List.length_cons,List.length_nil,Nat.zero_add];first|done|rfl)))

/- The library's sort of spans by a function as a run: the choice of a pivot. -/
open Go.Proofs
attribute [local go_sem] ty179 fz226 br167 fz228 fz229 fz230 br163 fz231 ty159 br162 allocK fz222 fz223 fz224 fz225
set_option maxRecDepth 20000
set_option maxHeartbeats 4000000
variable {T:List (List AV)}

def SC (T:List (List AV)) (A C1 C2:Store) (d:Array El) (w s ws:Nat):Store:=A ++ .arr (rowsD T d) 2 w true::(C1 ++ .arr [[.int .i64 (s:Int)]] 1 ws true::C2)

theorem ordE (A C1 C2:Store) (d:Array El) (n w a b s ws:Nat) (hn:d.size=n) (hw:w≤n+T.length) (ha:a<n) (hb:b<n) (hs:s≤1000) (hws:ws≤1) :
  EvR CX 167 [.sl A.length (n+T.length) 0 n 2,.int .i64 a,.int .i64 b,.ptr (A.length+(C1.length+1)) 1 1 0 0,cmpV] (SC T A C1 C2 d w s ws)
   (fun v S=>v = .tup [.int .i64 ((Go.Sort.order2 ltE d a b s).1:Nat),.int .i64 ((Go.Sort.order2 ltE d a b s).2.1:Nat)]∧∃ ws',ws'≤1∧S=SC T A C1 C2 d w (Go.Sort.order2 ltE d a b s).2.2 ws'):=by
 unfold SC
 have w1:=zB (n:=s) (by omega)
 have z:(0:Nat)<1:=by omega
 by_cases h:ltE d[b]! d[a]! = true
 ·have e:Go.Sort.order2 ltE d a b s=(b,a,s+1):=by rw [Go.Sort.order2,if_pos h]
  rw [e]
  refine EvR.walk rfl fn167 rfl nt167 rfl ?_
  simp only [List.length_cons,List.length_nil,List.cons_append,List.nil_append,Nat.reduceAdd,Nat.reduceSub,List.replicate]
  repeat' (first|refine go1 ?_|refine za rfl ?_|(refine go2 fun A B a b=>?_;simp only [go_sem, *,zb,zm,idxD,ltT,rowsD_get,rowsD_len,rowsD_put,dropD,takeD,sizeD,(lessE _ _ _ _).rw,zbt,Bool.decide_eq_true,encE,ze,zp];(repeat' first|apply a.1|apply b.1|refine iteI (fun h=>?_) fun h=>?_)<;>clear a b A B))
  simp only [go_sem]
  exact⟨1,Nat.le_refl _,rfl⟩
 ·have h':ltE d[b]! d[a]! = false:=by simpa using h
  have e:Go.Sort.order2 ltE d a b s=(a,b,s):=by rw [Go.Sort.order2,if_neg h]
  rw [e]
  refine EvR.walk rfl fn167 rfl nt167 rfl ?_
  simp only [List.length_cons,List.length_nil,List.cons_append,List.nil_append,Nat.reduceAdd,Nat.reduceSub,List.replicate]
  repeat' (first|refine go1 ?_|refine za rfl ?_|(refine go2 fun A B a b=>?_;simp only [go_sem, *,zb,zm,idxD,ltT,rowsD_get,rowsD_len,rowsD_put,dropD,takeD,sizeD,(lessE _ _ _ _).rw,zbt,Bool.decide_eq_true,encE,ze,zp,h'];(repeat' first|apply a.1|apply b.1|refine iteI (fun h=>?_) fun h=>?_)<;>clear a b A B))
  simp only [go_sem]
  exact⟨ws,hws,rfl⟩

theorem ord_lt {d:Array El}{a b s n:Nat}(ha:a<n) (hb:b<n):(Go.Sort.order2 ltE d a b s).1<n∧(Go.Sort.order2 ltE d a b s).2.1<n:=by
 rcases Go.Sort.order2_mem ltE d a b s with ⟨h1,h2⟩|⟨h1,h2⟩<;>rw [h1,h2]<;>exact⟨by assumption,by assumption⟩

theorem medE (A C1 C2:Store) (d:Array El) (n w a b c s ws:Nat) (hn:d.size=n) (hw:w≤n+T.length) (ha:a<n) (hb:b<n) (hc:c<n) (hs:s≤900) (hws:ws≤1) :
  EvR CX 163 [.sl A.length (n+T.length) 0 n 2,.int .i64 a,.int .i64 b,.int .i64 c,.ptr (A.length+(C1.length+1)) 1 1 0 0,cmpV] (SC T A C1 C2 d w s ws)
   (fun v S=>v = .int .i64 ((Go.Sort.median ltE d a b c s).1:Nat)∧∃ ws',ws'≤1∧S=SC T A C1 C2 d w (Go.Sort.median ltE d a b c s).2 ws'):=by
 obtain⟨R,hR⟩:∃ R,Go.Sort.median ltE d a b c s=R:=⟨_,rfl⟩
 rw [hR]
 unfold Go.Sort.median at hR
 simp only [] at hR
 refine EvR.walk rfl fn163 rfl nt163 rfl ?_
 simp only [List.length_cons,List.length_nil,List.cons_append,List.nil_append,Nat.reduceAdd,Nat.reduceSub,List.replicate]
 repeat' (first|refine go1 ?_|refine za rfl ?_|(refine go2 fun A B a b=>?_;simp only [go_sem, *];(repeat' first|apply a.1|apply b.1|refine iteI (fun h=>?_) fun h=>?_)<;>clear a b A B))
 obtain⟨r1,hr1⟩:∃ r1,Go.Sort.order2 ltE d a b s=r1:=⟨_,rfl⟩
 have l1:=ord_lt (d:=d) (s:=s) ha hb
 have c1:=Go.Sort.order2_count ltE d a b s
 refine zG fun K hK=>?_
 simp only [go_sem]
 refine EvR.mono (ordE A C1 C2 d n w a b s ws hn hw ha hb (by omega) hws) ?_
 rw [hr1] at hR l1 c1 ⊢
 rintro _ S ⟨rfl,ws1,hws1,rfl⟩
 refine hK.out _ _ ?_
 clear hK K
 repeat' (first|refine go1 ?_|refine za rfl ?_|(refine go2 fun A B a b=>?_;simp only [go_sem, *];(repeat' first|apply a.1|apply b.1|refine iteI (fun h=>?_) fun h=>?_)<;>clear a b A B))
 obtain⟨r2,hr2⟩:∃ r2,Go.Sort.order2 ltE d r1.2.1 c r1.2.2=r2:=⟨_,rfl⟩
 have l2:=ord_lt (d:=d) (s:=r1.2.2) l1.2 hc
 have c2:=Go.Sort.order2_count ltE d r1.2.1 c r1.2.2
 refine zG fun K hK=>?_
 simp only [go_sem]
 refine EvR.mono (ordE A C1 C2 d n w r1.2.1 c r1.2.2 ws1 hn hw l1.2 hc (by omega) hws1) ?_
 rw [hr2] at hR l2 c2 ⊢
 rintro _ S ⟨rfl,ws2,hws2,rfl⟩
 refine hK.out _ _ ?_
 clear hK K
 repeat' (first|refine go1 ?_|refine za rfl ?_|(refine go2 fun A B a b=>?_;simp only [go_sem, *];(repeat' first|apply a.1|apply b.1|refine iteI (fun h=>?_) fun h=>?_)<;>clear a b A B))
 obtain⟨r3,hr3⟩:∃ r3,Go.Sort.order2 ltE d r1.1 r2.1 r2.2.2=r3:=⟨_,rfl⟩
 have c3:=Go.Sort.order2_count ltE d r1.1 r2.1 r2.2.2
 refine zG fun K hK=>?_
 simp only [go_sem]
 refine EvR.mono (ordE A C1 C2 d n w r1.1 r2.1 r2.2.2 ws2 hn hw l1.1 l2.1 (by omega) hws2) ?_
 rw [hr3] at hR c3 ⊢
 rintro _ S ⟨rfl,ws3,hws3,rfl⟩
 refine hK.out _ _ ?_
 clear hK K
 subst hR
 repeat' (first|refine go1 ?_|refine za rfl ?_|(refine go2 fun A B a b=>?_;simp only [go_sem, *];(repeat' first|apply a.1|apply b.1|refine iteI (fun h=>?_) fun h=>?_)<;>clear a b A B))
 simp only [go_sem]
 exact⟨ws3,hws3,rfl⟩

theorem adjE (A C1 C2:Store) (d:Array El) (n w a s ws:Nat) (hn:d.size=n) (hw:w≤n+T.length) (ha0:0<a) (ha:a+1<n) (hsm:n<1152921504606846976) (hs:s≤900) (hws:ws≤1) :
  EvR CX 162 [.sl A.length (n+T.length) 0 n 2,.int .i64 a,.ptr (A.length+(C1.length+1)) 1 1 0 0,cmpV] (SC T A C1 C2 d w s ws)
   (fun v S=>v = .int .i64 ((Go.Sort.medianAdjacent ltE d a s).1:Nat)∧∃ ws',ws'≤1∧S=SC T A C1 C2 d w (Go.Sort.medianAdjacent ltE d a s).2 ws'):=by
 have w1:=zB (n:=a) (by omega)
 have w2:IntKind.wrap .i64 ((a:Int)-1)=((a-1:Nat):Int):=by rw [zu (by omega) (by omega)];omega
 refine EvR.walk rfl fn162 rfl nt162 rfl ?_
 simp only [List.length_cons,List.length_nil,List.cons_append,List.nil_append,Nat.reduceAdd,Nat.reduceSub,List.replicate]
 repeat' (first|refine go1 ?_|refine za rfl ?_|(refine go2 fun A B a b=>?_;simp only [go_sem, *];(repeat' first|apply a.1|apply b.1|refine iteI (fun h=>?_) fun h=>?_)<;>clear a b A B))
 refine zG fun K hK=>?_
 simp only [go_sem]
 refine EvR.mono (medE A C1 C2 d n w (a-1) a (a+1) s ws hn hw (by omega) (by omega) ha hs hws) ?_
 rintro _ S ⟨rfl,ws3,hws3,rfl⟩
 refine hK.out _ _ ?_
 clear hK K
 repeat' (first|refine go1 ?_|refine za rfl ?_|(refine go2 fun A B a b=>?_;simp only [go_sem, *];(repeat' first|apply a.1|apply b.1|refine iteI (fun h=>?_) fun h=>?_)<;>clear a b A B))
 simp only [go_sem]
 exact⟨rfl,ws3,hws3,rfl⟩

theorem adj_lt {d:Array El}{a s n:Nat}(ha:a+1<n):(Go.Sort.medianAdjacent ltE d a s).1<n:=by
 rcases Go.Sort.medianAdjacent_mem ltE d a s with h|h|h<;>rw [h]<;>omega

theorem chooseE (A C:Store) (d:Array El) (n w a b:Nat) (hn:d.size=n) (hw:w≤n+T.length) (hab:a<b) (hb:b≤n) (hsm:n<1152921504606846976) :
  EvR CX 143 [.sl A.length (n+T.length) 0 n 2,.int .i64 a,.int .i64 b,cmpV] (A ++ .arr (rowsD T d) 2 w true::C)
   (fun v S=>v = .tup [.int .i64 ((Go.Sort.choosePivot ltE d a b).1:Nat),.int .i64 (Go.Sort.hintCode (Go.Sort.choosePivot ltE d a b).2)]∧Left T A C n d S):=by
 have q1:IntKind.wrap .i64 ((b:Int)-(a:Int))=((b-a:Nat):Int):=by rw [zu (by omega) (by omega)];omega
 have q2:IntKind.wrap .i64 (((b-a:Nat):Int).tdiv 4)=(((b-a) / 4:Nat):Int):=by rw [Int.tdiv_eq_ediv_of_nonneg (by omega),zu (by omega) (by omega)];omega
 have q3:IntKind.wrap .i64 ((((b-a) / 4:Nat):Int)*1)=(((b-a) / 4*1:Nat):Int):=by rw [zu (by omega) (by omega)];omega
 have q4:IntKind.wrap .i64 ((((b-a) / 4:Nat):Int)*2)=(((b-a) / 4*2:Nat):Int):=by rw [zu (by omega) (by omega)];omega
 have q5:IntKind.wrap .i64 ((((b-a) / 4:Nat):Int)*3)=(((b-a) / 4*3:Nat):Int):=by rw [zu (by omega) (by omega)];omega
 have q6:IntKind.wrap .i64 ((a:Int)+(((b-a) / 4*1:Nat):Int))=((a+(b-a) / 4*1:Nat):Int):=by rw [zu (by omega) (by omega)];omega
 have q7:IntKind.wrap .i64 ((a:Int)+(((b-a) / 4*2:Nat):Int))=((a+(b-a) / 4*2:Nat):Int):=by rw [zu (by omega) (by omega)];omega
 have q8:IntKind.wrap .i64 ((a:Int)+(((b-a) / 4*3:Nat):Int))=((a+(b-a) / 4*3:Nat):Int):=by rw [zu (by omega) (by omega)];omega
 have q9:¬(4:Int)=0:=by omega
 rw [Go.Sort.choosePivot_eq]
 obtain⟨R,hR⟩:∃ R,Go.Sort.rawPivot ltE d a b=R:=⟨_,rfl⟩
 rw [hR]
 unfold Go.Sort.rawPivot at hR
 have fin:∀ (s ws:Nat),R.2=s→ws≤1→Left T A C n d (SC T A C [] d w s ws):=fun s ws _ h=>⟨hn,w,[.arr [[.int .i64 (s:Int)]] 1 ws true],hw,rfl⟩
 refine EvR.walk rfl fn143 rfl nt143 rfl ?_
 simp only [List.length_cons,List.length_nil,List.cons_append,List.nil_append,Nat.reduceAdd,Nat.reduceSub,List.replicate]
 repeat' (first|refine go1 ?_|refine za rfl ?_|(refine zt fun A B a b=>?_;simp only [go_sem, *,List.length_append,List.append_assoc];(repeat' first|apply a.1|refine iteI (fun h=>?_) fun h=>?_)<;>clear a b A B))
 refine zcI [12,14,33,34,35,36,37,38,39,40,41,42,43,44,45,46,47,48,49,50,51,52,53,54] (fun _:Nat=>[(13,.int .i64 (R.1:Int))]) (fun ws H=>SC T A C H d w R.2 ws) (fun ws=>ws≤1) ?_ ?_
 ·by_cases h8:b-a≥8
  ·have h8':(8:Int)≤((b-a:Nat):Int):=by omega
   rw [if_pos h8] at hR
   by_cases h50:b-a≥50
   ·have h50':(50:Int)≤((b-a:Nat):Int):=by omega
    rw [if_pos h50] at hR
    repeat' (first|refine go1 ?_|refine za rfl ?_|(refine go2 fun A B a b=>?_;simp only [go_sem, *];(repeat' first|apply a.1|apply b.1|refine iteI (fun h=>?_) fun h=>?_)<;>clear a b A B))
    obtain⟨r1,hr1⟩:∃ r1,Go.Sort.medianAdjacent ltE d (a+(b-a) / 4*1) 0=r1:=⟨_,rfl⟩
    have l1:=adj_lt (d:=d) (a:=a+(b-a) / 4*1) (s:=0) (n:=n) (by omega)
    have c1:=Go.Sort.medianAdjacent_count ltE d (a+(b-a) / 4*1) 0
    refine zG fun K hK=>?_
    simp only [go_sem]
    refine EvR.mono (adjE A C [] d n w (a+(b-a) / 4*1) 0 0 hn hw (by omega) (by omega) hsm (by omega) (by omega)) ?_
    rw [hr1] at hR l1 c1 ⊢
    rintro _ S ⟨rfl,ws1,hws1,rfl⟩
    refine hK.out _ _ ?_
    clear hK K
    repeat' (first|refine go1 ?_|refine za rfl ?_|(refine go2 fun A B a b=>?_;simp only [go_sem, *];(repeat' first|apply a.1|apply b.1|refine iteI (fun h=>?_) fun h=>?_)<;>clear a b A B))
    obtain⟨r2,hr2⟩:∃ r2,Go.Sort.medianAdjacent ltE d (a+(b-a) / 4*2) r1.2=r2:=⟨_,rfl⟩
    have l2:=adj_lt (d:=d) (a:=a+(b-a) / 4*2) (s:=r1.2) (n:=n) (by omega)
    have c2:=Go.Sort.medianAdjacent_count ltE d (a+(b-a) / 4*2) r1.2
    refine zG fun K hK=>?_
    simp only [go_sem]
    refine EvR.mono (adjE A C [] d n w (a+(b-a) / 4*2) r1.2 ws1 hn hw (by omega) (by omega) hsm (by omega) hws1) ?_
    rw [hr2] at hR l2 c2 ⊢
    rintro _ S ⟨rfl,ws2,hws2,rfl⟩
    refine hK.out _ _ ?_
    clear hK K
    repeat' (first|refine go1 ?_|refine za rfl ?_|(refine go2 fun A B a b=>?_;simp only [go_sem, *];(repeat' first|apply a.1|apply b.1|refine iteI (fun h=>?_) fun h=>?_)<;>clear a b A B))
    obtain⟨r3,hr3⟩:∃ r3,Go.Sort.medianAdjacent ltE d (a+(b-a) / 4*3) r2.2=r3:=⟨_,rfl⟩
    have l3:=adj_lt (d:=d) (a:=a+(b-a) / 4*3) (s:=r2.2) (n:=n) (by omega)
    have c3:=Go.Sort.medianAdjacent_count ltE d (a+(b-a) / 4*3) r2.2
    refine zG fun K hK=>?_
    simp only [go_sem]
    refine EvR.mono (adjE A C [] d n w (a+(b-a) / 4*3) r2.2 ws2 hn hw (by omega) (by omega) hsm (by omega) hws2) ?_
    rw [hr3] at hR l3 c3 ⊢
    rintro _ S ⟨rfl,ws3,hws3,rfl⟩
    refine hK.out _ _ ?_
    clear hK K
    repeat' (first|refine go1 ?_|refine za rfl ?_|(refine go2 fun A B a b=>?_;simp only [go_sem, *];(repeat' first|apply a.1|apply b.1|refine iteI (fun h=>?_) fun h=>?_)<;>clear a b A B))
    refine zG fun K hK=>?_
    simp only [go_sem]
    refine EvR.mono (medE A C [] d n w r1.1 r2.1 r3.1 r3.2 ws3 hn hw l1 l2 l3 (by omega) hws3) ?_
    rw [hR]
    rintro _ S ⟨rfl,ws4,hws4,rfl⟩
    refine hK.out _ _ ?_
    clear hK K
    repeat' (first|refine go1 ?_|refine za rfl ?_|(refine go2 fun A B a b=>?_;simp only [go_sem, *];(repeat' first|apply a.1|apply b.1|refine iteI (fun h=>?_) fun h=>?_)<;>clear a b A B))
    refine zM ws4 hws4 ?_ ⟨[],rfl⟩
    ((try simp only [zg,zi,zd,zf,List.set_cons_zero,List.set_cons_succ]);all_goals (first|rfl|(simp only [zn,zj,zc,List.length_map,List.length_append,List.length_cons,List.length_nil,Nat.zero_add];first|done|rfl)))
   ·have h50':¬(50:Int)≤((b-a:Nat):Int):=by omega
    rw [if_neg h50] at hR
    repeat' (first|refine go1 ?_|refine za rfl ?_|(refine go2 fun A B a b=>?_;simp only [go_sem, *];(repeat' first|apply a.1|apply b.1|refine iteI (fun h=>?_) fun h=>?_)<;>clear a b A B))
    refine zG fun K hK=>?_
    simp only [go_sem]
    refine EvR.mono (medE A C [] d n w (a+(b-a) / 4*1) (a+(b-a) / 4*2) (a+(b-a) / 4*3) 0 0 hn hw (by omega) (by omega) (by omega) (by omega) (by omega)) ?_
    rw [hR]
    rintro _ S ⟨rfl,ws4,hws4,rfl⟩
    refine hK.out _ _ ?_
    clear hK K
    repeat' (first|refine go1 ?_|refine za rfl ?_|(refine go2 fun A B a b=>?_;simp only [go_sem, *];(repeat' first|apply a.1|apply b.1|refine iteI (fun h=>?_) fun h=>?_)<;>clear a b A B))
    refine zM ws4 hws4 ?_ ⟨[],rfl⟩
    ((try simp only [zg,zi,zd,zf,List.set_cons_zero,List.set_cons_succ]);all_goals (first|rfl|(simp only [zn,zj,zc,List.length_map,List.length_append,List.length_cons,List.length_nil,Nat.zero_add];first|done|rfl)))
  ·have h8':¬(8:Int)≤((b-a:Nat):Int):=by omega
   rw [if_neg h8] at hR
   subst hR
   repeat' (first|refine go1 ?_|refine za rfl ?_|(refine go2 fun A B a b=>?_;simp only [go_sem, *];(repeat' first|apply a.1|apply b.1|refine iteI (fun h=>?_) fun h=>?_)<;>clear a b A B))
   refine zM 0 (Nat.zero_le _) ?_ ⟨[],rfl⟩
   ((try simp only [zg,zi,zd,zf,List.set_cons_zero,List.set_cons_succ]);all_goals (first|rfl|(simp only [zn,zj,zc,List.length_map,List.length_append,List.length_cons,List.length_nil,Nat.zero_add];first|done|rfl)))
 ·intro ws g G hws
  unfold SC
  simp only [zo,zq,zd,zf,List.set_cons_zero,List.set_cons_succ]
  have z:(0:Nat)<1:=by omega
  by_cases h0:R.2=0
  ·have e:Go.Sort.hintCode (Go.Sort.hintOf R.2)=1:=by rw [Go.Sort.hintOf,if_pos h0];rfl
   rw [e]
   have h0':((R.2:Nat):Int)=0:=by omega
   clear h0
   repeat' (first|refine go1 ?_|refine za rfl ?_|(refine go2 fun A B a b=>?_;simp only [go_sem, *,ze,zp,zb,zm];(repeat' first|apply a.1|apply b.1|refine iteI (fun h=>?_) fun h=>?_)<;>clear a b A B))
   simp only [go_sem]
   exact⟨hn,w,_,hw,rfl⟩
  ·by_cases h12:R.2=12
   ·have e:Go.Sort.hintCode (Go.Sort.hintOf R.2)=2:=by rw [Go.Sort.hintOf,if_neg h0,if_pos h12];rfl
    rw [e]
    have h12':((R.2:Nat):Int)=12:=by omega
    clear h0 h12
    repeat' (first|refine go1 ?_|refine za rfl ?_|(refine go2 fun A B a b=>?_;simp only [go_sem, *,ze,zp,zb,zm];(repeat' first|apply a.1|apply b.1|refine iteI (fun h=>?_) fun h=>?_)<;>clear a b A B))
    simp only [go_sem]
    exact⟨hn,w,_,hw,rfl⟩
   ·have e:Go.Sort.hintCode (Go.Sort.hintOf R.2)=0:=by rw [Go.Sort.hintOf,if_neg h0,if_neg h12];rfl
    rw [e]
    have h0':¬((R.2:Nat):Int)=0:=by omega
    have h12':¬((R.2:Nat):Int)=12:=by omega
    clear h0 h12
    repeat' (first|refine go1 ?_|refine za rfl ?_|(refine go2 fun A B a b=>?_;simp only [go_sem, *,ze,zp,zb,zm];(repeat' first|apply a.1|apply b.1|refine iteI (fun h=>?_) fun h=>?_)<;>clear a b A B))
    simp only [go_sem]
    exact⟨hn,w,_,hw,rfl⟩

/- The library's sort of spans by a function as a run: bits, the stirring of a row that sorts badly. -/
open Go.Proofs
attribute [local go_sem] ty5 ty9 zbM zbF ty167 br148 br149 fz25 fz26 br130 fz189
set_option maxRecDepth 20000
set_option maxHeartbeats 4000000
variable {T:List (List AV)}

theorem fdiv16 (n:Nat):Int.fdiv (n:Int) 65536=((n / 65536:Nat):Int):=by rw [Int.fdiv_eq_ediv_of_nonneg _ (by omega)];rfl
theorem fdiv8 (n:Nat):Int.fdiv (n:Int) 256=((n / 256:Nat):Int):=by rw [Int.fdiv_eq_ediv_of_nonneg _ (by omega)];rfl
theorem fdiv7 (n:Nat):Int.fdiv (n:Int) 128=((n / 128:Nat):Int):=by rw [Int.fdiv_eq_ediv_of_nonneg _ (by omega)];rfl

theorem len_shift {n k:Nat}(h:2 ^ k≤n):Go.Sort.bitsLen n=k+Go.Sort.bitsLen (n / 2 ^ k):=by
 have h0:0<n:=Nat.lt_of_lt_of_le (Nat.two_pow_pos k) h
 have h1:0<n / 2 ^ k:=Nat.div_pos h (Nat.two_pow_pos k)
 apply Nat.le_antisymm
 ·rw [Go.Sort.bitsLen_le_iff,Nat.pow_add]
  have:=Go.Sort.lt_two_pow_bitsLen (n / 2 ^ k)
  rw [Nat.div_lt_iff_lt_mul (Nat.two_pow_pos k)] at this
  rw [Nat.mul_comm];exact this
 ·obtain⟨m,hm⟩:∃ m,Go.Sort.bitsLen (n / 2 ^ k)=m+1:=by
   cases hb:Go.Sort.bitsLen (n / 2 ^ k) with
   | zero=>have:=Go.Sort.lt_two_pow_bitsLen (n / 2 ^ k);rw [hb] at this;omega
   | succ m=>exact⟨m,rfl⟩
  rw [hm]
  apply Nat.lt_of_not_le
  intro hc
  rw [Go.Sort.bitsLen_le_iff] at hc
  have:Go.Sort.bitsLen (n / 2 ^ k)≤m:=by
   rw [Go.Sort.bitsLen_le_iff,Nat.div_lt_iff_lt_mul (Nat.two_pow_pos k),←Nat.pow_add,Nat.add_comm m k];exact hc
  omega

theorem tab_step {s:ByteArray}{m:Nat}{b:UInt8}{dst:Option Tmp}{K:List AV→Store→Prop}{fr:List AV}{S:Store}{a c:Nat}{bb:Bool}{z:List AV}(hty:CX.ty 9=some ⟨a,bb,c,z,.str⟩) (h:s[m]? = some b) (hk:K (putA fr dst (.int .u8 b.toNat)) S) :
  someK (indexA CX 9 (.str s) (.int .u8 (m:Int))) dst K fr S:=by
 have e:indexA CX 9 (.str s) (.int .u8 (m:Int))=some (.int .u8 b.toNat):=by simp [indexA,hty,h]
 rw [e,zW];exact hk

theorem shr16 (n:Nat):shiftBin .shr .u64 (n:Int) 16=some (.int .u64 ((n / 65536:Nat):Int)):=by rw [←fdiv16];rfl
theorem shr8 (n:Nat):shiftBin .shr .u64 (n:Int) 8=some (.int .u64 ((n / 256:Nat):Int)):=by rw [←fdiv8];rfl
theorem shr7 (n:Nat):shiftBin .shr .u64 (n:Int) 7=some (.int .u64 ((n / 128:Nat):Int)):=by rw [←fdiv7];rfl
theorem wrapU8 {n:Nat}(h:n<256):IntKind.wrap .u8 (n:Int)=(n:Int):=by
 simp [IntKind.wrap,IntKind.min,IntKind.max,IntKind.signed,IntKind.bits]
 omega
theorem wrapU64 {n:Nat}(h:n<18446744073709551616):IntKind.wrap .u64 (n:Int)=(n:Int):=by
 simp [IntKind.wrap,IntKind.min,IntKind.max,IntKind.signed,IntKind.bits]
 omega
theorem len_byte {n:Nat}(h:n<256):Go.Sort.bitsLen n≤8:=(Go.Sort.bitsLen_le_iff n 8).2 (by omega)

theorem len64 (n:Nat) (hn:n<4294967296):EvV CX 149 [.int .u64 n] (· = .int .i64 (Go.Sort.bitsLen n:Nat)):=by
 have h32:¬(4294967296:Int)≤(n:Int):=by omega
 have tail:∀ (m k:Nat),m<256→k≤24→Go.Sort.bitsLen n=k+Go.Sort.bitsLen m→IntKind.wrap .u8 (m:Int)=(m:Int)∧(UInt8.ofNat (Go.Sort.bitsLen m)).toNat=Go.Sort.bitsLen m∧IntKind.wrap .i64 ((Go.Sort.bitsLen m:Nat):Int)=((Go.Sort.bitsLen m:Nat):Int)∧IntKind.wrap .i64 ((k:Int)+((Go.Sort.bitsLen m:Nat):Int))=((Go.Sort.bitsLen n:Nat):Int):=fun m k hm hk e=>by
  have:=len_byte hm
  refine⟨wrapU8 hm,?_,zu (by omega) (by omega),?_⟩
  ·simp;omega
  ·rw [zu (by omega) (by omega),e];omega
 by_cases h16:65536≤n
 ·have h16':(65536:Int)≤(n:Int):=by omega
  by_cases h8:256≤n / 65536
  ·have h8':(256:Int)≤((n / 65536:Nat):Int):=by omega
   obtain⟨t1,t2,t3,t4⟩:=tail (n / 65536 / 256) 24 (by omega) (by omega) (by rw [len_shift (k:=16) h16,show 2 ^ 16=65536 from rfl,len_shift (k:=8) h8,show 2 ^ 8=256 from rfl];omega)
   have t4:IntKind.wrap .i64 (24+((Go.Sort.bitsLen (n / 65536 / 256):Nat):Int))=((Go.Sort.bitsLen n:Nat):Int):=t4
   have k1:IntKind.wrap .i64 (0+16)=16:=rfl
   have k2:IntKind.wrap .i64 (16+8)=24:=rfl
   refine EvV.walk rfl fn149 rfl nt149 rfl ?_
   simp only [List.length_cons,List.length_nil,List.cons_append,List.nil_append,Nat.reduceAdd,Nat.reduceSub,List.replicate]
   repeat' (first|refine go1 ?_|refine za rfl ?_|(refine go2 fun A B a b=>?_;simp only [go_sem, *,zx,zw zbM ty5 rfl,zw ty5 ty3 rfl,shr16,shr8];(repeat' first|apply a.1|apply b.1|refine iteI (fun h=>?_) fun h=>?_)<;>clear a b A B))
   refine zG fun K hK=>?_
   simp only [go_sem,zbN,zx,zw zbM ty5 rfl,zw ty5 ty3 rfl]
   refine tab_step (b:=UInt8.ofNat (Go.Sort.bitsLen (n / 65536 / 256))) ty9 ?_ ?_
   ·have hm:n / 65536 / 256<256:=by omega
    revert hm
    generalize n / 65536 / 256=m
    revert m
    decide +kernel
   ·refine hK.out _ _ ?_
    clear hK K
    rw [t2]
    repeat' (first|refine go1 ?_|refine za rfl ?_|(refine go2 fun A B a b=>?_;simp only [go_sem, *,zx,zw zbM ty5 rfl,zw ty5 ty3 rfl];(repeat' first|apply a.1|apply b.1|refine iteI (fun h=>?_) fun h=>?_)<;>clear a b A B))
    simp only [go_sem,zx,zw zbM ty5 rfl,zw ty5 ty3 rfl,t4]
  ·have h8':¬(256:Int)≤((n / 65536:Nat):Int):=by omega
   obtain⟨t1,t2,t3,t4⟩:=tail (n / 65536) 16 (by omega) (by omega) (by rw [len_shift (k:=16) h16])
   have t4:IntKind.wrap .i64 (16+((Go.Sort.bitsLen (n / 65536):Nat):Int))=((Go.Sort.bitsLen n:Nat):Int):=t4
   have k1:IntKind.wrap .i64 (0+16)=16:=rfl
   refine EvV.walk rfl fn149 rfl nt149 rfl ?_
   simp only [List.length_cons,List.length_nil,List.cons_append,List.nil_append,Nat.reduceAdd,Nat.reduceSub,List.replicate]
   repeat' (first|refine go1 ?_|refine za rfl ?_|(refine go2 fun A B a b=>?_;simp only [go_sem, *,zx,zw zbM ty5 rfl,zw ty5 ty3 rfl,shr16,shr8];(repeat' first|apply a.1|apply b.1|refine iteI (fun h=>?_) fun h=>?_)<;>clear a b A B))
   refine zG fun K hK=>?_
   simp only [go_sem,zbN,zx,zw zbM ty5 rfl,zw ty5 ty3 rfl]
   refine tab_step (b:=UInt8.ofNat (Go.Sort.bitsLen (n / 65536))) ty9 ?_ ?_
   ·have hm:n / 65536<256:=by omega
    revert hm
    generalize n / 65536=m
    revert m
    decide +kernel
   ·refine hK.out _ _ ?_
    clear hK K
    rw [t2]
    repeat' (first|refine go1 ?_|refine za rfl ?_|(refine go2 fun A B a b=>?_;simp only [go_sem, *,zx,zw zbM ty5 rfl,zw ty5 ty3 rfl];(repeat' first|apply a.1|apply b.1|refine iteI (fun h=>?_) fun h=>?_)<;>clear a b A B))
    simp only [go_sem,zx,zw zbM ty5 rfl,zw ty5 ty3 rfl,t4]
 ·have h16':¬(65536:Int)≤(n:Int):=by omega
  by_cases h8:256≤n
  ·have h8':(256:Int)≤(n:Int):=by omega
   obtain⟨t1,t2,t3,t4⟩:=tail (n / 256) 8 (by omega) (by omega) (by rw [len_shift (k:=8) h8])
   have t4:IntKind.wrap .i64 (8+((Go.Sort.bitsLen (n / 256):Nat):Int))=((Go.Sort.bitsLen n:Nat):Int):=t4
   have k1:IntKind.wrap .i64 (0+8)=8:=rfl
   refine EvV.walk rfl fn149 rfl nt149 rfl ?_
   simp only [List.length_cons,List.length_nil,List.cons_append,List.nil_append,Nat.reduceAdd,Nat.reduceSub,List.replicate]
   repeat' (first|refine go1 ?_|refine za rfl ?_|(refine go2 fun A B a b=>?_;simp only [go_sem, *,zx,zw zbM ty5 rfl,zw ty5 ty3 rfl,shr16,shr8];(repeat' first|apply a.1|apply b.1|refine iteI (fun h=>?_) fun h=>?_)<;>clear a b A B))
   refine zG fun K hK=>?_
   simp only [go_sem,zbN,zx,zw zbM ty5 rfl,zw ty5 ty3 rfl]
   refine tab_step (b:=UInt8.ofNat (Go.Sort.bitsLen (n / 256))) ty9 ?_ ?_
   ·have hm:n / 256<256:=by omega
    revert hm
    generalize n / 256=m
    revert m
    decide +kernel
   ·refine hK.out _ _ ?_
    clear hK K
    rw [t2]
    repeat' (first|refine go1 ?_|refine za rfl ?_|(refine go2 fun A B a b=>?_;simp only [go_sem, *,zx,zw zbM ty5 rfl,zw ty5 ty3 rfl];(repeat' first|apply a.1|apply b.1|refine iteI (fun h=>?_) fun h=>?_)<;>clear a b A B))
    simp only [go_sem,zx,zw zbM ty5 rfl,zw ty5 ty3 rfl,t4]
  ·have h8':¬(256:Int)≤(n:Int):=by omega
   obtain⟨t1,t2,t3,t4⟩:=tail n 0 (by omega) (by omega) (by omega)
   have t4:IntKind.wrap .i64 (0+((Go.Sort.bitsLen n:Nat):Int))=((Go.Sort.bitsLen n:Nat):Int):=t4
   clear t4
   have t4:IntKind.wrap .i64 (0+((Go.Sort.bitsLen n:Nat):Int))=((Go.Sort.bitsLen n:Nat):Int):=by rw [Int.zero_add];exact t3
   refine EvV.walk rfl fn149 rfl nt149 rfl ?_
   simp only [List.length_cons,List.length_nil,List.cons_append,List.nil_append,Nat.reduceAdd,Nat.reduceSub,List.replicate]
   repeat' (first|refine go1 ?_|refine za rfl ?_|(refine go2 fun A B a b=>?_;simp only [go_sem, *,zx,zw zbM ty5 rfl,zw ty5 ty3 rfl,shr16,shr8];(repeat' first|apply a.1|apply b.1|refine iteI (fun h=>?_) fun h=>?_)<;>clear a b A B))
   refine zG fun K hK=>?_
   simp only [go_sem,zbN,zx,zw zbM ty5 rfl,zw ty5 ty3 rfl]
   refine tab_step (b:=UInt8.ofNat (Go.Sort.bitsLen (n))) ty9 ?_ ?_
   ·have hm:n<256:=by omega
    revert hm
    generalize n=m
    revert m
    decide +kernel
   ·refine hK.out _ _ ?_
    clear hK K
    rw [t2]
    repeat' (first|refine go1 ?_|refine za rfl ?_|(refine go2 fun A B a b=>?_;simp only [go_sem, *,zx,zw zbM ty5 rfl,zw ty5 ty3 rfl];(repeat' first|apply a.1|apply b.1|refine iteI (fun h=>?_) fun h=>?_)<;>clear a b A B))
    simp only [go_sem,zx,zw zbM ty5 rfl,zw ty5 ty3 rfl,t4]

theorem lenE (n:Nat) (hn:n<4294967296):EvV CX 130 [.int .u64 n] (· = .int .i64 (Go.Sort.bitsLen n:Nat)):=by
 have q:=(len64 n hn).rw
 refine EvV.walk rfl fn130 rfl nt130 rfl ?_
 simp only [List.length_cons,List.length_nil,List.cons_append,List.nil_append,Nat.reduceAdd,Nat.reduceSub,List.replicate]
 repeat' (first|refine go1 ?_|refine za rfl ?_|(refine go2 fun A B a b=>?_;simp only [go_sem, *,zx,zw zbF ty167 rfl];(repeat' first|apply a.1|apply b.1|refine iteI (fun h=>?_) fun h=>?_)<;>clear a b A B))
 simp only [go_sem,zx,zw zbF ty167 rfl]

theorem shl1 {k:Nat}(h:k≤40):shiftBin .shl .u64 1 (k:Int)=some (.int .u64 ((1 <<< k:Nat):Int)):=by
 have e:IntKind.wrap .u64 ((1 <<< k:Nat):Int)=((1 <<< k:Nat):Int):=wrapU64 (by
  rw [Nat.one_shiftLeft];exact Nat.lt_of_le_of_lt (Nat.pow_le_pow_right (by omega) h) (by decide))
 have h1:¬((k:Int)<0):=by omega
 have h2:min (k:Nat) 64=k:=Nat.min_eq_left (by omega)
 simp only [shiftBin,h1,if_false,Int.toNat_natCast,IntKind.bits,h2,Int.one_mul]
 rw [←e]
 congr 3
 rw [Nat.one_shiftLeft];simp

theorem nextE (n:Nat) (hn:n<4294967296):EvV CX 160 [.int .i64 n] (· = .int .u64 ((1 <<< Go.Sort.bitsLen n:Nat):Int)):=by
 have q:=(lenE n hn).rw
 have w1:=wrapU64 (n:=n) (by omega)
 have hk:=(Go.Sort.bitsLen_le_iff n 32).2 (by omega)
 have w2:=shl1 (k:=Go.Sort.bitsLen n) (by omega)
 refine EvV.walk rfl fn160 rfl nt160 rfl ?_
 simp only [List.length_cons,List.length_nil,List.cons_append,List.nil_append,Nat.reduceAdd,Nat.reduceSub,List.replicate]
 repeat' (first|refine go1 ?_|refine za rfl ?_|(refine go2 fun A B a b=>?_;simp only [go_sem, *,zx,zw ty3 zbF rfl];(repeat' first|apply a.1|apply b.1|refine iteI (fun h=>?_) fun h=>?_)<;>clear a b A B))
 simp only [go_sem,zx,zw ty3 zbF rfl]

/- The library's sort of spans by a function as a run: bits, the stirring of a row that sorts badly. -/
open Go.Proofs
set_option maxRecDepth 20000
set_option maxHeartbeats 4000000
variable {T:List (List AV)}


theorem wrapU64m (n:Nat):IntKind.wrap .u64 (n:Int)=((n % 18446744073709551616:Nat):Int):=by
 simp [IntKind.wrap,IntKind.min,IntKind.max,IntKind.signed,IntKind.bits]
theorem shl13 (n:Nat):shiftBin .shl .u64 (n:Int) 13=some (.int .u64 ((n*8192 % 18446744073709551616:Nat):Int)):=by
 rw [←wrapU64m];rfl
theorem shl17 (n:Nat):shiftBin .shl .u64 (n:Int) 17=some (.int .u64 ((n*131072 % 18446744073709551616:Nat):Int)):=by
 rw [←wrapU64m];rfl
theorem xorN {x y:Nat}(hx:x<18446744073709551616) (hy:y<18446744073709551616):IntKind.wrap .u64 (((BitVec.ofInt 64 (x:Int) ^^^ BitVec.ofInt 64 (y:Int)).toNat:Nat):Int)=((x ^^^ y:Nat):Int):=by
 have e1:(BitVec.ofInt 64 (x:Int)).toNat=x:=by simp;omega
 have e2:(BitVec.ofInt 64 (y:Int)).toNat=y:=by simp;omega
 rw [BitVec.toNat_xor,e1,e2]
 exact wrapU64 (Nat.xor_lt_two_pow (n:=64) hx hy)
theorem andN {x y:Nat}(hx:x<18446744073709551616) (hy:y<18446744073709551616):IntKind.wrap .u64 (((BitVec.ofInt 64 (x:Int) &&& BitVec.ofInt 64 (y:Int)).toNat:Nat):Int)=((x &&& y:Nat):Int):=by
 have e1:(BitVec.ofInt 64 (x:Int)).toNat=x:=by simp;omega
 have e2:(BitVec.ofInt 64 (y:Int)).toNat=y:=by simp;omega
 rw [BitVec.toNat_and,e1,e2]
 exact wrapU64 (Nat.lt_of_le_of_lt Nat.and_le_left hx)

theorem xorB {x y:Nat}(hx:x<18446744073709551616) (hy:y<18446744073709551616):IntKind.wrap .u64 (((BitVec.ofInt IntKind.u64.bits (x:Int) ^^^ BitVec.ofInt IntKind.u64.bits (y:Int)).toNat:Nat):Int)=((x ^^^ y:Nat):Int):=xorN hx hy
theorem andB {x y:Nat}(hx:x<18446744073709551616) (hy:y<18446744073709551616):IntKind.wrap .u64 (((BitVec.ofInt IntKind.u64.bits (x:Int) &&& BitVec.ofInt IntKind.u64.bits (y:Int)).toNat:Nat):Int)=((x &&& y:Nat):Int):=andN hx hy

def SX (T:List (List AV)) (A C1 C2:Store) (d:Array El) (w x ws:Nat):Store:=A ++ .arr (rowsD T d) 2 w true::(C1 ++ .arr [[.int .u64 (x:Int)]] 1 ws true::C2)

theorem nxE (A C1 C2:Store) (d:Array El) (w x ws:Nat) (hx:x<18446744073709551616) (hws:ws≤1) :
  EvR CX 161 [.ptr (A.length+(C1.length+1)) 1 1 0 0] (SX T A C1 C2 d w x ws)
   (fun v S=>v = .int .u64 (Go.Sort.xorNextN x:Nat)∧S=SX T A C1 C2 d w (Go.Sort.xorNextN x) 1):=by
 unfold SX
 have z:(0:Nat)<1:=by omega
 obtain⟨p,hp⟩:∃ p,x ^^^ (x*8192 % 18446744073709551616)=p:=⟨_,rfl⟩
 have x1:=xorB (x:=x) (y:=x*8192 % 18446744073709551616) hx (by omega)
 have hpl:p<18446744073709551616:=by rw [←hp];exact Nat.xor_lt_two_pow (n:=64) hx (by omega)
 obtain⟨q,hq⟩:∃ q,p ^^^ (p / 128)=q:=⟨_,rfl⟩
 have x2:=xorB (x:=p) (y:=p / 128) hpl (by omega)
 have hql:q<18446744073709551616:=by rw [←hq];exact Nat.xor_lt_two_pow (n:=64) hpl (by omega)
 obtain⟨r,hr⟩:∃ r,q ^^^ (q*131072 % 18446744073709551616)=r:=⟨_,rfl⟩
 have x3:=xorB (x:=q) (y:=q*131072 % 18446744073709551616) hql (by omega)
 have e:Go.Sort.xorNextN x=r:=by unfold Go.Sort.xorNextN;simp only [hp,hq,hr]
 rw [e]
 rw [hp] at x1;rw [hq] at x2;rw [hr] at x3
 refine EvR.walk rfl fn161 rfl nt161 rfl ?_
 simp only [List.length_cons,List.length_nil,List.cons_append,List.nil_append,Nat.reduceAdd,Nat.reduceSub,List.replicate]
 repeat' (first|refine go1 ?_|refine za rfl ?_|(refine go2 fun A B a b=>?_;simp only [beq_iff_eq,beq_eq_false_iff_ne,Int.natCast_inj,Bool.not_eq_false',zbD,zbx,zaE,za9,zaw,zas,za7,zF,zaB,zaD,zE,zax,zbw,zP,zH,za8,zI,zba,zaC,zbv,zbu,zL,zar,zR,zaz,zQ,zay,zS,zaA,za5,zat,zae,zbd,zaG,zbc,zbb,zbe,zby,zaF,zaY,zao,zaX,zaZ,zav,zaW,zaV,zaI,zaK,zaf,zac,zW,z8,zbg,zaJ,boxK,storeK,zaq,zaM,zam,zaN,zbm,zau,zbz,zbf,zX,zaa,zaP,zaQ,zan,zbn,zaO,zbr,zaU,zbp,zbA,zbs,zbo,zbq,zaR,zbC,zaS,zaT,List.all_cons,List.all_nil,Bool.and_true,Bool.and_self,Bool.true_and,z7,zaH,List.set_cons_zero,List.set_cons_succ,List.length_cons,List.length_nil,List.nil_append,List.cons_append,stabL,AV.stab,fieldAddrA,fieldA,List.getElem?_cons_zero,List.getElem?_cons_succ,Nat.zero_add,loadA,rowOf,Nat.le_refl,and_self,true_and,and_true,partA,binA,unA,intBin,eqBin,eqCells,eqCell,Option.bind_some,decide_true,decide_false,decide_eq_true_eq,ite_not,Bool.not_eq_true',decide_eq_false_iff_not,Bool.false_eq_true,Option.map_some,Option.map_none,Bool.not_true,Bool.not_false,buildA,fillA,patch,List.take,List.drop,List.map_cons,List.map_nil,extK,List.getD_cons_zero,List.getD_cons_succ,minmaxA,minmaxGo,zJ,zV,zak,zU,zai,zT,zal,zaj,zah,zag,zaL,zbk,zbi,zbl,zbj,zbh,bne,Bool.false_and,Bool.and_false,ne_eq,not_true_eq_false,not_false_eq_true,List.append_nil,resultsR,resultsL,resultA,za3,zap,za2,za4,za0,za1,zZ,zbK,zad,zO,zD,zbB,reduceIte,Nat.reduceAdd,Nat.reduceEqDiff,Nat.reduceLT,Nat.reduceLeDiff, *,zbM,zbR,ty183,ze,zp,zb,zm,shl13,shl17,shr7];(repeat' first|apply a.1|apply b.1|refine iteI (fun h=>?_) fun h=>?_)<;>clear a b A B))
 simp only [resultsR,resultsL,resultA,za3,zap,za2,za4,za0,za1,zZ,beq_iff_eq,beq_eq_false_iff_ne,Int.natCast_inj,Bool.not_eq_false',zbD,zbx,zaE,za9,zaw,zas,za7,zF,zaB,zaD,zE,zax,zbw,zP,zH,za8,zI,zba,zaC,zbv,zbu,zL,zar,zR,zaz,zQ,zay,zS,zaA,za5,zat,zae,zbd,zaG,zbc,zbb,zbe,zby,zaF,zaY,zao,zaX,zaZ,zav,zaW,zaV,zaI,zaK,zaf,zac,zW,z8,zbg,zaJ,boxK,storeK,zaq,zaM,zam,zaN,zbm,zau,zbz,zbf,zX,zaa,zaP,zaQ,zan,zbn,zaO,zbr,zaU,zbp,zbA,zbs,zbo,zbq,zaR,zbC,zaS,zaT,List.all_cons,List.all_nil,Bool.and_true,Bool.and_self,Bool.true_and,z7,zaH,List.set_cons_zero,List.set_cons_succ,List.length_cons,List.length_nil,List.nil_append,List.cons_append,stabL,AV.stab,fieldAddrA,fieldA,List.getElem?_cons_zero,List.getElem?_cons_succ,Nat.zero_add,loadA,rowOf,Nat.le_refl,and_self,true_and,and_true,partA,binA,unA,intBin,eqBin,eqCells,eqCell,Option.bind_some,decide_true,decide_false,decide_eq_true_eq,ite_not,Bool.not_eq_true',decide_eq_false_iff_not,Bool.false_eq_true,Option.map_some,Option.map_none,Bool.not_true,Bool.not_false,buildA,fillA,patch,List.take,List.drop,List.map_cons,List.map_nil,extK,List.getD_cons_zero,List.getD_cons_succ,minmaxA,minmaxGo,zJ,zV,zak,zU,zai,zT,zal,zaj,zah,zag,zaL,zbk,zbi,zbl,zbj,zbh,bne,Bool.false_and,Bool.and_false,ne_eq,not_true_eq_false,not_false_eq_true,List.append_nil,resultsR,resultsL,resultA,za3,zap,za2,za4,za0,za1,zZ,zbK,zad,zO,zD,zbB,reduceIte,Nat.reduceAdd,Nat.reduceEqDiff,Nat.reduceLT,Nat.reduceLeDiff,zbM,zbR,ty183,]

def stir (a L M:Nat):Nat→Nat→UInt64×Array El→UInt64×Array El
 | 0,_,st=>st
 | k+1,idx,st=>stir a L M k (idx+1) (Go.Sort.breakStep a L M st idx)

theorem breakE (A C:Store) (d:Array El) (n w a b:Nat) (hn:d.size=n) (hw:w≤n+T.length) (hab:a<b) (hb:b≤n) (hsm:n<4294967296) :
  EvR CX 142 [.sl A.length (n+T.length) 0 n 2,.int .i64 a,.int .i64 b,cmpV] (A ++ .arr (rowsD T d) 2 w true::C) (fun v S=>v = .tup []∧Left T A C n (Go.Sort.breakPatterns d a b) S):=by
 have q1:IntKind.wrap .i64 ((b:Int)-(a:Int))=((b-a:Nat):Int):=by rw [zu (by omega) (by omega)];omega
 by_cases h8:b-a≥8
 ·have h8':(8:Int)≤((b-a:Nat):Int):=by omega
  obtain⟨L,hL⟩:∃ L,b-a=L:=⟨_,rfl⟩
  rw [hL] at h8 h8' q1
  have q2:IntKind.wrap .i64 ((L:Int).tdiv 4)=((L / 4:Nat):Int):=by rw [Int.tdiv_eq_ediv_of_nonneg (by omega),zu (by omega) (by omega)];omega
  have q4:IntKind.wrap .i64 (((L / 4:Nat):Int)*2)=((L / 4*2:Nat):Int):=by rw [zu (by omega) (by omega)];omega
  have q5:IntKind.wrap .i64 ((a:Int)+((L / 4*2:Nat):Int))=((a+L / 4*2:Nat):Int):=by rw [zu (by omega) (by omega)];omega
  have q6:IntKind.wrap .i64 (((a+L / 4*2:Nat):Int)-1)=((a+L / 4*2-1:Nat):Int):=by rw [zu (by omega) (by omega)];omega
  have q7:=zB (n:=a+L / 4*2) (by omega)
  have q8:=wrapU64 (n:=L) (by omega)
  have q9:¬(4:Int)=0:=by omega
  have z:(0:Nat)<1:=by omega
  obtain⟨M,hM⟩:∃ M,1 <<< Go.Sort.bitsLen L=M:=⟨_,rfl⟩
  have qn:=(nextE L (by omega)).rw
  rw [hM] at qn
  have hM1:M≤2*L:=by rw [←hM,Nat.one_shiftLeft];exact Go.Sort.two_pow_bitsLen_le (by omega)
  have hM0:0<M:=by rw [←hM,Nat.one_shiftLeft];exact Nat.two_pow_pos _
  have q10:IntKind.wrap .u64 ((M:Int)-1)=((M-1:Nat):Int):=by
   rw [←wrapU64 (n:=M-1) (by omega)];congr 1;omega
  have hB:Go.Sort.breakPatterns d a b=(stir a L M 3 (a+L / 4*2-1) (UInt64.ofNat L,d)).2:=by
   unfold Go.Sort.breakPatterns
   simp only [hL]
   rw [if_pos h8,hM]
   rfl
  rw [hB]
  obtain⟨R,hR⟩:∃ R,stir a L M 3 (a+L / 4*2-1) (UInt64.ofNat L,d)=R:=⟨_,rfl⟩
  rw [hR]
  refine EvR.walk rfl fn142 rfl nt142 rfl ?_
  simp only [List.length_cons,List.length_nil,List.cons_append,List.nil_append,Nat.reduceAdd,Nat.reduceSub,List.replicate]
  repeat' (first|refine go1 ?_|refine za rfl ?_|(refine go2 fun A B a b=>?_;simp only [beq_iff_eq,beq_eq_false_iff_ne,Int.natCast_inj,Bool.not_eq_false',zbD,zbx,zaE,za9,zaw,zas,za7,zF,zaB,zaD,zE,zax,zbw,zP,zH,za8,zI,zba,zaC,zbv,zbu,zL,zar,zR,zaz,zQ,zay,zS,zaA,za5,zat,zae,zbd,zaG,zbc,zbb,zbe,zby,zaF,zaY,zao,zaX,zaZ,zav,zaW,zaV,zaI,zaK,zaf,zac,zW,z8,zbg,zaJ,boxK,storeK,zaq,zaM,zam,zaN,zbm,zau,zbz,zbf,zX,zaa,zaP,zaQ,zan,zbn,zaO,zbr,zaU,zbp,zbA,zbs,zbo,zbq,zaR,zbC,zaS,zaT,List.all_cons,List.all_nil,Bool.and_true,Bool.and_self,Bool.true_and,z7,zaH,List.set_cons_zero,List.set_cons_succ,List.length_cons,List.length_nil,List.nil_append,List.cons_append,stabL,AV.stab,fieldAddrA,fieldA,List.getElem?_cons_zero,List.getElem?_cons_succ,Nat.zero_add,loadA,rowOf,Nat.le_refl,and_self,true_and,and_true,partA,binA,unA,intBin,eqBin,eqCells,eqCell,Option.bind_some,decide_true,decide_false,decide_eq_true_eq,ite_not,Bool.not_eq_true',decide_eq_false_iff_not,Bool.false_eq_true,Option.map_some,Option.map_none,Bool.not_true,Bool.not_false,buildA,fillA,patch,List.take,List.drop,List.map_cons,List.map_nil,extK,List.getD_cons_zero,List.getD_cons_succ,minmaxA,minmaxGo,zJ,zV,zak,zU,zai,zT,zal,zaj,zah,zag,zaL,zbk,zbi,zbl,zbj,zbh,bne,Bool.false_and,Bool.and_false,ne_eq,not_true_eq_false,not_false_eq_true,List.append_nil,resultsR,resultsL,resultA,za3,zap,za2,za4,za0,za1,zZ,zbK,zad,zO,zD,zbB,reduceIte,Nat.reduceAdd,Nat.reduceEqDiff,Nat.reduceLT,Nat.reduceLeDiff, *,ty3,ty4,ty44,ty47,zbF,zbM,zbR,eq47,zcs,zcr,allocK,zx,fz219,fz220,zw zbF ty3 rfl,zw ty3 zbR rfl,List.length_append,List.append_assoc,ze,zp,zb,zm];(repeat' first|apply a.1|apply b.1|refine iteI (fun h=>?_) fun h=>?_)<;>clear a b A B))
  obtain⟨I,hI⟩:∃ I,a+L / 4*2-1=I:=⟨_,rfl⟩
  rw [hI] at hR ⊢
  refine zN [12,28,29,30,31,32,33,34,35,36,37,38,39,40,41,42,43,44,45,46,47,48,49,50,51,52,53,54,55,56,57,58,59,60,61,62,63,64,65,66] (fun p:Nat×Nat×UInt64×Array El×Nat×Nat=>[(11,.int .i64 p.2.1)]) (fun p H=>SX T A C H p.2.2.2.1 p.2.2.2.2.1 p.2.2.1.toNat p.2.2.2.2.2)
   (fun p=>p.2.2.2.1.size=n∧p.2.2.2.2.1≤n+T.length∧p.2.2.2.2.2≤1∧p.2.1+p.1=a+L / 4*2+2∧p.1≤3∧stir a L M p.1 p.2.1 (p.2.2.1,p.2.2.2.1)=R) (fun p=>p.1) (3,I,UInt64.ofNat L,d,w,1) ⟨hn,hw,Nat.le_refl _,by simp only;omega,Nat.le_refl _,hR⟩ ?_ ?_ ?_
  ·rfl
  ·refine⟨[],?_⟩
   have e:(UInt64.ofNat L).toNat=L:=by simp;omega
   simp only [SX,e]
  clear hR hI hn hw w hB q6
  rintro⟨k,idx,r,d1,w,ws⟩ g G ⟨hn,hw,hws,hix,hk,hR⟩
  simp only at hn hw hws hix hk hR
  unfold SX
  simp only [zo,zq,zd,zf,List.set_cons_zero,List.set_cons_succ]
  cases k with
  | zero=>
   have h1:¬(idx:Int)≤((a+L / 4*2+1:Nat):Int):=by omega
   simp only [stir] at hR
   subst hR
   repeat' (first|refine go1 ?_|refine za rfl ?_|(refine go2 fun A B a b=>?_;simp only [beq_iff_eq,beq_eq_false_iff_ne,Int.natCast_inj,Bool.not_eq_false',zbD,zbx,zaE,za9,zaw,zas,za7,zF,zaB,zaD,zE,zax,zbw,zP,zH,za8,zI,zba,zaC,zbv,zbu,zL,zar,zR,zaz,zQ,zay,zS,zaA,za5,zat,zae,zbd,zaG,zbc,zbb,zbe,zby,zaF,zaY,zao,zaX,zaZ,zav,zaW,zaV,zaI,zaK,zaf,zac,zW,z8,zbg,zaJ,boxK,storeK,zaq,zaM,zam,zaN,zbm,zau,zbz,zbf,zX,zaa,zaP,zaQ,zan,zbn,zaO,zbr,zaU,zbp,zbA,zbs,zbo,zbq,zaR,zbC,zaS,zaT,List.all_cons,List.all_nil,Bool.and_true,Bool.and_self,Bool.true_and,z7,zaH,List.set_cons_zero,List.set_cons_succ,List.length_cons,List.length_nil,List.nil_append,List.cons_append,stabL,AV.stab,fieldAddrA,fieldA,List.getElem?_cons_zero,List.getElem?_cons_succ,Nat.zero_add,loadA,rowOf,Nat.le_refl,and_self,true_and,and_true,partA,binA,unA,intBin,eqBin,eqCells,eqCell,Option.bind_some,decide_true,decide_false,decide_eq_true_eq,ite_not,Bool.not_eq_true',decide_eq_false_iff_not,Bool.false_eq_true,Option.map_some,Option.map_none,Bool.not_true,Bool.not_false,buildA,fillA,patch,List.take,List.drop,List.map_cons,List.map_nil,extK,List.getD_cons_zero,List.getD_cons_succ,minmaxA,minmaxGo,zJ,zV,zak,zU,zai,zT,zal,zaj,zah,zag,zaL,zbk,zbi,zbl,zbj,zbh,bne,Bool.false_and,Bool.and_false,ne_eq,not_true_eq_false,not_false_eq_true,List.append_nil,resultsR,resultsL,resultA,za3,zap,za2,za4,za0,za1,zZ,zbK,zad,zO,zD,zbB,reduceIte,Nat.reduceAdd,Nat.reduceEqDiff,Nat.reduceLT,Nat.reduceLeDiff, *,ty3,ty4,ty44,ty47,zbF,zbM,zbR,eq47,zcs,zcr,allocK,zx,fz219,fz220,zw zbF ty3 rfl,zw ty3 zbR rfl];(repeat' first|apply a.1|apply b.1|refine iteI (fun h=>?_) fun h=>?_)<;>clear a b A B))
   simp only [resultsR,resultsL,resultA,za3,zap,za2,za4,za0,za1,zZ,beq_iff_eq,beq_eq_false_iff_ne,Int.natCast_inj,Bool.not_eq_false',zbD,zbx,zaE,za9,zaw,zas,za7,zF,zaB,zaD,zE,zax,zbw,zP,zH,za8,zI,zba,zaC,zbv,zbu,zL,zar,zR,zaz,zQ,zay,zS,zaA,za5,zat,zae,zbd,zaG,zbc,zbb,zbe,zby,zaF,zaY,zao,zaX,zaZ,zav,zaW,zaV,zaI,zaK,zaf,zac,zW,z8,zbg,zaJ,boxK,storeK,zaq,zaM,zam,zaN,zbm,zau,zbz,zbf,zX,zaa,zaP,zaQ,zan,zbn,zaO,zbr,zaU,zbp,zbA,zbs,zbo,zbq,zaR,zbC,zaS,zaT,List.all_cons,List.all_nil,Bool.and_true,Bool.and_self,Bool.true_and,z7,zaH,List.set_cons_zero,List.set_cons_succ,List.length_cons,List.length_nil,List.nil_append,List.cons_append,stabL,AV.stab,fieldAddrA,fieldA,List.getElem?_cons_zero,List.getElem?_cons_succ,Nat.zero_add,loadA,rowOf,Nat.le_refl,and_self,true_and,and_true,partA,binA,unA,intBin,eqBin,eqCells,eqCell,Option.bind_some,decide_true,decide_false,decide_eq_true_eq,ite_not,Bool.not_eq_true',decide_eq_false_iff_not,Bool.false_eq_true,Option.map_some,Option.map_none,Bool.not_true,Bool.not_false,buildA,fillA,patch,List.take,List.drop,List.map_cons,List.map_nil,extK,List.getD_cons_zero,List.getD_cons_succ,minmaxA,minmaxGo,zJ,zV,zak,zU,zai,zT,zal,zaj,zah,zag,zaL,zbk,zbi,zbl,zbj,zbh,bne,Bool.false_and,Bool.and_false,ne_eq,not_true_eq_false,not_false_eq_true,List.append_nil,resultsR,resultsL,resultA,za3,zap,za2,za4,za0,za1,zZ,zbK,zad,zO,zD,zbB,reduceIte,Nat.reduceAdd,Nat.reduceEqDiff,Nat.reduceLT,Nat.reduceLeDiff,ty3,ty4,ty44,ty47,zbF,zbM,zbR,eq47,zcs,zcr,allocK,zx,fz219,fz220,zw zbF ty3 rfl,zw ty3 zbR rfl,]
   exact⟨hn,w,_,hw,rfl⟩
  | succ k=>
   have h1:(idx:Int)≤((a+L / 4*2+1:Nat):Int):=by omega
   have hrl:r.toNat<18446744073709551616:=r.toNat_lt
   obtain⟨r',hr'⟩:∃ r',Go.Sort.xorNext r=r':=⟨_,rfl⟩
   have hx:Go.Sort.xorNextN r.toNat=r'.toNat:=by rw [←Go.Sort.xorNext_toNat,hr']
   have hrl':r'.toNat<18446744073709551616:=r'.toNat_lt
   obtain⟨o,ho⟩:∃ o,r'.toNat &&& (M-1)=o:=⟨_,rfl⟩
   have hol:o≤M-1:=by rw [←ho];exact Nat.and_le_right
   have a1:=andB (x:=r'.toNat) (y:=M-1) hrl' (by omega)
   rw [ho] at a1
   have a2:=zu (n:=(o:Int)) (by omega) (by omega)
   have w2:=zB (n:=idx) (by omega)
   simp only [stir,Go.Sort.breakStep,hr',ho] at hR
   obtain⟨t,ht⟩:∃ t,(if o≥L then o-L else o)=t:=⟨_,rfl⟩
   rw [ht] at hR
   have htl:t<L:=by rw [←ht];split<;>omega
   have a3:IntKind.wrap .i64 ((a:Int)+(t:Int))=((a+t:Nat):Int):=by rw [zu (by omega) (by omega)];omega
   have i1:a+t<n:=by omega
   have i2:idx<n:=by omega
   repeat' (first|refine go1 ?_|refine za rfl ?_|(refine zt fun A B a b=>?_;simp only [beq_iff_eq,beq_eq_false_iff_ne,Int.natCast_inj,Bool.not_eq_false',zbD,zbx,zaE,za9,zaw,zas,za7,zF,zaB,zaD,zE,zax,zbw,zP,zH,za8,zI,zba,zaC,zbv,zbu,zL,zar,zR,zaz,zQ,zay,zS,zaA,za5,zat,zae,zbd,zaG,zbc,zbb,zbe,zby,zaF,zaY,zao,zaX,zaZ,zav,zaW,zaV,zaI,zaK,zaf,zac,zW,z8,zbg,zaJ,boxK,storeK,zaq,zaM,zam,zaN,zbm,zau,zbz,zbf,zX,zaa,zaP,zaQ,zan,zbn,zaO,zbr,zaU,zbp,zbA,zbs,zbo,zbq,zaR,zbC,zaS,zaT,List.all_cons,List.all_nil,Bool.and_true,Bool.and_self,Bool.true_and,z7,zaH,List.set_cons_zero,List.set_cons_succ,List.length_cons,List.length_nil,List.nil_append,List.cons_append,stabL,AV.stab,fieldAddrA,fieldA,List.getElem?_cons_zero,List.getElem?_cons_succ,Nat.zero_add,loadA,rowOf,Nat.le_refl,and_self,true_and,and_true,partA,binA,unA,intBin,eqBin,eqCells,eqCell,Option.bind_some,decide_true,decide_false,decide_eq_true_eq,ite_not,Bool.not_eq_true',decide_eq_false_iff_not,Bool.false_eq_true,Option.map_some,Option.map_none,Bool.not_true,Bool.not_false,buildA,fillA,patch,List.take,List.drop,List.map_cons,List.map_nil,extK,List.getD_cons_zero,List.getD_cons_succ,minmaxA,minmaxGo,zJ,zV,zak,zU,zai,zT,zal,zaj,zah,zag,zaL,zbk,zbi,zbl,zbj,zbh,bne,Bool.false_and,Bool.and_false,ne_eq,not_true_eq_false,not_false_eq_true,List.append_nil,resultsR,resultsL,resultA,za3,zap,za2,za4,za0,za1,zZ,zbK,zad,zO,zD,zbB,reduceIte,Nat.reduceAdd,Nat.reduceEqDiff,Nat.reduceLT,Nat.reduceLeDiff, *,ty3,ty4,ty44,ty47,zbF,zbM,zbR,eq47,zcs,zcr,allocK,zx,fz219,fz220,zw zbF ty3 rfl,zw ty3 zbR rfl];(repeat' first|apply a.1|refine iteI (fun h=>?_) fun h=>?_)<;>clear a b A B))
   (refine zY fun A B hA hB=>?_;simp only [beq_iff_eq,beq_eq_false_iff_ne,Int.natCast_inj,Bool.not_eq_false',zbD,zbx,zaE,za9,zaw,zas,za7,zF,zaB,zaD,zE,zax,zbw,zP,zH,za8,zI,zba,zaC,zbv,zbu,zL,zar,zR,zaz,zQ,zay,zS,zaA,za5,zat,zae,zbd,zaG,zbc,zbb,zbe,zby,zaF,zaY,zao,zaX,zaZ,zav,zaW,zaV,zaI,zaK,zaf,zac,zW,z8,zbg,zaJ,boxK,storeK,zaq,zaM,zam,zaN,zbm,zau,zbz,zbf,zX,zaa,zaP,zaQ,zan,zbn,zaO,zbr,zaU,zbp,zbA,zbs,zbo,zbq,zaR,zbC,zaS,zaT,List.all_cons,List.all_nil,Bool.and_true,Bool.and_self,Bool.true_and,z7,zaH,List.set_cons_zero,List.set_cons_succ,List.length_cons,List.length_nil,List.nil_append,List.cons_append,stabL,AV.stab,fieldAddrA,fieldA,List.getElem?_cons_zero,List.getElem?_cons_succ,Nat.zero_add,loadA,rowOf,Nat.le_refl,and_self,true_and,and_true,partA,binA,unA,intBin,eqBin,eqCells,eqCell,Option.bind_some,decide_true,decide_false,decide_eq_true_eq,ite_not,Bool.not_eq_true',decide_eq_false_iff_not,Bool.false_eq_true,Option.map_some,Option.map_none,Bool.not_true,Bool.not_false,buildA,fillA,patch,List.take,List.drop,List.map_cons,List.map_nil,extK,List.getD_cons_zero,List.getD_cons_succ,minmaxA,minmaxGo,zJ,zV,zak,zU,zai,zT,zal,zaj,zah,zag,zaL,zbk,zbi,zbl,zbj,zbh,bne,Bool.false_and,Bool.and_false,ne_eq,not_true_eq_false,not_false_eq_true,List.append_nil,resultsR,resultsL,resultA,za3,zap,za2,za4,za0,za1,zZ,zbK,zad,zO,zD,zbB,reduceIte,Nat.reduceAdd,Nat.reduceEqDiff,Nat.reduceLT,Nat.reduceLeDiff, *,ty3,ty4,ty44,ty47,zbF,zbM,zbR,eq47,zcs,zcr,allocK,zx,fz219,fz220,zw zbF ty3 rfl,zw ty3 zbR rfl];first|(refine hA.out ?_;clear hA hB A B)|(refine hB.out ?_;clear hA hB A B))
   repeat' (first|refine go1 ?_|refine za rfl ?_|(refine zt fun A B a b=>?_;simp only [beq_iff_eq,beq_eq_false_iff_ne,Int.natCast_inj,Bool.not_eq_false',zbD,zbx,zaE,za9,zaw,zas,za7,zF,zaB,zaD,zE,zax,zbw,zP,zH,za8,zI,zba,zaC,zbv,zbu,zL,zar,zR,zaz,zQ,zay,zS,zaA,za5,zat,zae,zbd,zaG,zbc,zbb,zbe,zby,zaF,zaY,zao,zaX,zaZ,zav,zaW,zaV,zaI,zaK,zaf,zac,zW,z8,zbg,zaJ,boxK,storeK,zaq,zaM,zam,zaN,zbm,zau,zbz,zbf,zX,zaa,zaP,zaQ,zan,zbn,zaO,zbr,zaU,zbp,zbA,zbs,zbo,zbq,zaR,zbC,zaS,zaT,List.all_cons,List.all_nil,Bool.and_true,Bool.and_self,Bool.true_and,z7,zaH,List.set_cons_zero,List.set_cons_succ,List.length_cons,List.length_nil,List.nil_append,List.cons_append,stabL,AV.stab,fieldAddrA,fieldA,List.getElem?_cons_zero,List.getElem?_cons_succ,Nat.zero_add,loadA,rowOf,Nat.le_refl,and_self,true_and,and_true,partA,binA,unA,intBin,eqBin,eqCells,eqCell,Option.bind_some,decide_true,decide_false,decide_eq_true_eq,ite_not,Bool.not_eq_true',decide_eq_false_iff_not,Bool.false_eq_true,Option.map_some,Option.map_none,Bool.not_true,Bool.not_false,buildA,fillA,patch,List.take,List.drop,List.map_cons,List.map_nil,extK,List.getD_cons_zero,List.getD_cons_succ,minmaxA,minmaxGo,zJ,zV,zak,zU,zai,zT,zal,zaj,zah,zag,zaL,zbk,zbi,zbl,zbj,zbh,bne,Bool.false_and,Bool.and_false,ne_eq,not_true_eq_false,not_false_eq_true,List.append_nil,resultsR,resultsL,resultA,za3,zap,za2,za4,za0,za1,zZ,zbK,zad,zO,zD,zbB,reduceIte,Nat.reduceAdd,Nat.reduceEqDiff,Nat.reduceLT,Nat.reduceLeDiff, *,ty3,ty4,ty44,ty47,zbF,zbM,zbR,eq47,zcs,zcr,allocK,zx,fz219,fz220,zw zbF ty3 rfl,zw ty3 zbR rfl];(repeat' first|apply a.1|refine iteI (fun h=>?_) fun h=>?_)<;>clear a b A B))
   refine zG fun K hK=>?_
   simp only [beq_iff_eq,beq_eq_false_iff_ne,Int.natCast_inj,Bool.not_eq_false',zbD,zbx,zaE,za9,zaw,zas,za7,zF,zaB,zaD,zE,zax,zbw,zP,zH,za8,zI,zba,zaC,zbv,zbu,zL,zar,zR,zaz,zQ,zay,zS,zaA,za5,zat,zae,zbd,zaG,zbc,zbb,zbe,zby,zaF,zaY,zao,zaX,zaZ,zav,zaW,zaV,zaI,zaK,zaf,zac,zW,z8,zbg,zaJ,boxK,storeK,zaq,zaM,zam,zaN,zbm,zau,zbz,zbf,zX,zaa,zaP,zaQ,zan,zbn,zaO,zbr,zaU,zbp,zbA,zbs,zbo,zbq,zaR,zbC,zaS,zaT,List.all_cons,List.all_nil,Bool.and_true,Bool.and_self,Bool.true_and,z7,zaH,List.set_cons_zero,List.set_cons_succ,List.length_cons,List.length_nil,List.nil_append,List.cons_append,stabL,AV.stab,fieldAddrA,fieldA,List.getElem?_cons_zero,List.getElem?_cons_succ,Nat.zero_add,loadA,rowOf,Nat.le_refl,and_self,true_and,and_true,partA,binA,unA,intBin,eqBin,eqCells,eqCell,Option.bind_some,decide_true,decide_false,decide_eq_true_eq,ite_not,Bool.not_eq_true',decide_eq_false_iff_not,Bool.false_eq_true,Option.map_some,Option.map_none,Bool.not_true,Bool.not_false,buildA,fillA,patch,List.take,List.drop,List.map_cons,List.map_nil,extK,List.getD_cons_zero,List.getD_cons_succ,minmaxA,minmaxGo,zJ,zV,zak,zU,zai,zT,zal,zaj,zah,zag,zaL,zbk,zbi,zbl,zbj,zbh,bne,Bool.false_and,Bool.and_false,ne_eq,not_true_eq_false,not_false_eq_true,List.append_nil,resultsR,resultsL,resultA,za3,zap,za2,za4,za0,za1,zZ,zbK,zad,zO,zD,zbB,reduceIte,Nat.reduceAdd,Nat.reduceEqDiff,Nat.reduceLT,Nat.reduceLeDiff,ty3,ty4,ty44,ty47,zbF,zbM,zbR,eq47,zcs,zcr,allocK,zx,fz219,fz220,zw zbF ty3 rfl,zw ty3 zbR rfl,za5]
   refine EvR.mono (nxE A C G d1 w r.toNat ws hrl hws) ?_
   rw [hx]
   rintro _ S ⟨rfl,rfl⟩
   refine hK.out _ _ ?_
   clear hK K
   unfold SX
   repeat' (first|refine go1 ?_|refine za rfl ?_|(refine zt fun A B a b=>?_;simp only [beq_iff_eq,beq_eq_false_iff_ne,Int.natCast_inj,Bool.not_eq_false',zbD,zbx,zaE,za9,zaw,zas,za7,zF,zaB,zaD,zE,zax,zbw,zP,zH,za8,zI,zba,zaC,zbv,zbu,zL,zar,zR,zaz,zQ,zay,zS,zaA,za5,zat,zae,zbd,zaG,zbc,zbb,zbe,zby,zaF,zaY,zao,zaX,zaZ,zav,zaW,zaV,zaI,zaK,zaf,zac,zW,z8,zbg,zaJ,boxK,storeK,zaq,zaM,zam,zaN,zbm,zau,zbz,zbf,zX,zaa,zaP,zaQ,zan,zbn,zaO,zbr,zaU,zbp,zbA,zbs,zbo,zbq,zaR,zbC,zaS,zaT,List.all_cons,List.all_nil,Bool.and_true,Bool.and_self,Bool.true_and,z7,zaH,List.set_cons_zero,List.set_cons_succ,List.length_cons,List.length_nil,List.nil_append,List.cons_append,stabL,AV.stab,fieldAddrA,fieldA,List.getElem?_cons_zero,List.getElem?_cons_succ,Nat.zero_add,loadA,rowOf,Nat.le_refl,and_self,true_and,and_true,partA,binA,unA,intBin,eqBin,eqCells,eqCell,Option.bind_some,decide_true,decide_false,decide_eq_true_eq,ite_not,Bool.not_eq_true',decide_eq_false_iff_not,Bool.false_eq_true,Option.map_some,Option.map_none,Bool.not_true,Bool.not_false,buildA,fillA,patch,List.take,List.drop,List.map_cons,List.map_nil,extK,List.getD_cons_zero,List.getD_cons_succ,minmaxA,minmaxGo,zJ,zV,zak,zU,zai,zT,zal,zaj,zah,zag,zaL,zbk,zbi,zbl,zbj,zbh,bne,Bool.false_and,Bool.and_false,ne_eq,not_true_eq_false,not_false_eq_true,List.append_nil,resultsR,resultsL,resultA,za3,zap,za2,za4,za0,za1,zZ,zbK,zad,zO,zD,zbB,reduceIte,Nat.reduceAdd,Nat.reduceEqDiff,Nat.reduceLT,Nat.reduceLeDiff, *,ty3,ty4,ty44,ty47,zbF,zbM,zbR,eq47,zcs,zcr,allocK,zx,fz219,fz220,zw zbF ty3 rfl,zw ty3 zbR rfl];(repeat' first|apply a.1|refine iteI (fun h=>?_) fun h=>?_)<;>clear a b A B))
   refine zcI [43,44,45,46,47,48] (fun _:Nat=>[(12,.int .i64 t)]) (fun _ H=>A ++ .arr (rowsD T d1) 2 w true::(C ++ .arr [[.int .u64 (r'.toNat:Int)]] 1 1 true::H)) (fun _=>True) ?_ ?_
   ·by_cases hoL:o≥L
    ·have hoL':(L:Int)≤(o:Int):=by omega
     rw [if_pos hoL] at ht
     have a4:IntKind.wrap .i64 ((o:Int)-(L:Int))=((o-L:Nat):Int):=by rw [zu (by omega) (by omega)];omega
     rw [ht] at a4
     clear ht
     repeat' (first|refine go1 ?_|refine za rfl ?_|(refine go2 fun A B a b=>?_;simp only [beq_iff_eq,beq_eq_false_iff_ne,Int.natCast_inj,Bool.not_eq_false',zbD,zbx,zaE,za9,zaw,zas,za7,zF,zaB,zaD,zE,zax,zbw,zP,zH,za8,zI,zba,zaC,zbv,zbu,zL,zar,zR,zaz,zQ,zay,zS,zaA,za5,zat,zae,zbd,zaG,zbc,zbb,zbe,zby,zaF,zaY,zao,zaX,zaZ,zav,zaW,zaV,zaI,zaK,zaf,zac,zW,z8,zbg,zaJ,boxK,storeK,zaq,zaM,zam,zaN,zbm,zau,zbz,zbf,zX,zaa,zaP,zaQ,zan,zbn,zaO,zbr,zaU,zbp,zbA,zbs,zbo,zbq,zaR,zbC,zaS,zaT,List.all_cons,List.all_nil,Bool.and_true,Bool.and_self,Bool.true_and,z7,zaH,List.set_cons_zero,List.set_cons_succ,List.length_cons,List.length_nil,List.nil_append,List.cons_append,stabL,AV.stab,fieldAddrA,fieldA,List.getElem?_cons_zero,List.getElem?_cons_succ,Nat.zero_add,loadA,rowOf,Nat.le_refl,and_self,true_and,and_true,partA,binA,unA,intBin,eqBin,eqCells,eqCell,Option.bind_some,decide_true,decide_false,decide_eq_true_eq,ite_not,Bool.not_eq_true',decide_eq_false_iff_not,Bool.false_eq_true,Option.map_some,Option.map_none,Bool.not_true,Bool.not_false,buildA,fillA,patch,List.take,List.drop,List.map_cons,List.map_nil,extK,List.getD_cons_zero,List.getD_cons_succ,minmaxA,minmaxGo,zJ,zV,zak,zU,zai,zT,zal,zaj,zah,zag,zaL,zbk,zbi,zbl,zbj,zbh,bne,Bool.false_and,Bool.and_false,ne_eq,not_true_eq_false,not_false_eq_true,List.append_nil,resultsR,resultsL,resultA,za3,zap,za2,za4,za0,za1,zZ,zbK,zad,zO,zD,zbB,reduceIte,Nat.reduceAdd,Nat.reduceEqDiff,Nat.reduceLT,Nat.reduceLeDiff, *,ty3,ty4,ty44,ty47,zbF,zbM,zbR,eq47,zcs,zcr,allocK,zx,fz219,fz220,zw zbF ty3 rfl,zw ty3 zbR rfl];(repeat' first|apply a.1|apply b.1|refine iteI (fun h=>?_) fun h=>?_)<;>clear a b A B))
     refine zM 0 trivial ?_ ⟨_,rfl⟩
     ((try simp only [zg,zi,zd,zf,List.set_cons_zero,List.set_cons_succ]);all_goals (first|rfl|(simp only [zn,zj,zc,List.length_map,List.length_append,List.length_cons,List.length_nil,Nat.zero_add];first|done|rfl)))
    ·have hoL':¬(L:Int)≤(o:Int):=by omega
     rw [if_neg hoL] at ht
     subst ht
     repeat' (first|refine go1 ?_|refine za rfl ?_|(refine go2 fun A B a b=>?_;simp only [beq_iff_eq,beq_eq_false_iff_ne,Int.natCast_inj,Bool.not_eq_false',zbD,zbx,zaE,za9,zaw,zas,za7,zF,zaB,zaD,zE,zax,zbw,zP,zH,za8,zI,zba,zaC,zbv,zbu,zL,zar,zR,zaz,zQ,zay,zS,zaA,za5,zat,zae,zbd,zaG,zbc,zbb,zbe,zby,zaF,zaY,zao,zaX,zaZ,zav,zaW,zaV,zaI,zaK,zaf,zac,zW,z8,zbg,zaJ,boxK,storeK,zaq,zaM,zam,zaN,zbm,zau,zbz,zbf,zX,zaa,zaP,zaQ,zan,zbn,zaO,zbr,zaU,zbp,zbA,zbs,zbo,zbq,zaR,zbC,zaS,zaT,List.all_cons,List.all_nil,Bool.and_true,Bool.and_self,Bool.true_and,z7,zaH,List.set_cons_zero,List.set_cons_succ,List.length_cons,List.length_nil,List.nil_append,List.cons_append,stabL,AV.stab,fieldAddrA,fieldA,List.getElem?_cons_zero,List.getElem?_cons_succ,Nat.zero_add,loadA,rowOf,Nat.le_refl,and_self,true_and,and_true,partA,binA,unA,intBin,eqBin,eqCells,eqCell,Option.bind_some,decide_true,decide_false,decide_eq_true_eq,ite_not,Bool.not_eq_true',decide_eq_false_iff_not,Bool.false_eq_true,Option.map_some,Option.map_none,Bool.not_true,Bool.not_false,buildA,fillA,patch,List.take,List.drop,List.map_cons,List.map_nil,extK,List.getD_cons_zero,List.getD_cons_succ,minmaxA,minmaxGo,zJ,zV,zak,zU,zai,zT,zal,zaj,zah,zag,zaL,zbk,zbi,zbl,zbj,zbh,bne,Bool.false_and,Bool.and_false,ne_eq,not_true_eq_false,not_false_eq_true,List.append_nil,resultsR,resultsL,resultA,za3,zap,za2,za4,za0,za1,zZ,zbK,zad,zO,zD,zbB,reduceIte,Nat.reduceAdd,Nat.reduceEqDiff,Nat.reduceLT,Nat.reduceLeDiff, *,ty3,ty4,ty44,ty47,zbF,zbM,zbR,eq47,zcs,zcr,allocK,zx,fz219,fz220,zw zbF ty3 rfl,zw ty3 zbR rfl];(repeat' first|apply a.1|apply b.1|refine iteI (fun h=>?_) fun h=>?_)<;>clear a b A B))
     refine zM 0 trivial ?_ ⟨_,rfl⟩
     ((try simp only [zg,zi,zd,zf,List.set_cons_zero,List.set_cons_succ]);all_goals (first|rfl|(simp only [zn,zj,zc,List.length_map,List.length_append,List.length_cons,List.length_nil,Nat.zero_add];first|done|rfl)))
   ·intro _ g' H _
    simp only [zo,zq,zd,zf,List.set_cons_zero,List.set_cons_succ]
    repeat' (first|refine go1 ?_|refine za rfl ?_|(refine go2 fun A B a b=>?_;simp only [beq_iff_eq,beq_eq_false_iff_ne,Int.natCast_inj,Bool.not_eq_false',zbD,zbx,zaE,za9,zaw,zas,za7,zF,zaB,zaD,zE,zax,zbw,zP,zH,za8,zI,zba,zaC,zbv,zbu,zL,zar,zR,zaz,zQ,zay,zS,zaA,za5,zat,zae,zbd,zaG,zbc,zbb,zbe,zby,zaF,zaY,zao,zaX,zaZ,zav,zaW,zaV,zaI,zaK,zaf,zac,zW,z8,zbg,zaJ,boxK,storeK,zaq,zaM,zam,zaN,zbm,zau,zbz,zbf,zX,zaa,zaP,zaQ,zan,zbn,zaO,zbr,zaU,zbp,zbA,zbs,zbo,zbq,zaR,zbC,zaS,zaT,List.all_cons,List.all_nil,Bool.and_true,Bool.and_self,Bool.true_and,z7,zaH,List.set_cons_zero,List.set_cons_succ,List.length_cons,List.length_nil,List.nil_append,List.cons_append,stabL,AV.stab,fieldAddrA,fieldA,List.getElem?_cons_zero,List.getElem?_cons_succ,Nat.zero_add,loadA,rowOf,Nat.le_refl,and_self,true_and,and_true,partA,binA,unA,intBin,eqBin,eqCells,eqCell,Option.bind_some,decide_true,decide_false,decide_eq_true_eq,ite_not,Bool.not_eq_true',decide_eq_false_iff_not,Bool.false_eq_true,Option.map_some,Option.map_none,Bool.not_true,Bool.not_false,buildA,fillA,patch,List.take,List.drop,List.map_cons,List.map_nil,extK,List.getD_cons_zero,List.getD_cons_succ,minmaxA,minmaxGo,zJ,zV,zak,zU,zai,zT,zal,zaj,zah,zag,zaL,zbk,zbi,zbl,zbj,zbh,bne,Bool.false_and,Bool.and_false,ne_eq,not_true_eq_false,not_false_eq_true,List.append_nil,resultsR,resultsL,resultA,za3,zap,za2,za4,za0,za1,zZ,zbK,zad,zO,zD,zbB,reduceIte,Nat.reduceAdd,Nat.reduceEqDiff,Nat.reduceLT,Nat.reduceLeDiff, *,ty3,ty4,ty44,ty47,zbF,zbM,zbR,eq47,zcs,zcr,allocK,zx,fz219,fz220,zw zbF ty3 rfl,zw ty3 zbR rfl,zb,zm,idxD,ltT,rowsD_get,rowsD_len,rowsD_put,dropD,takeD,sizeD,(lessE _ _ _ _).rw,zbt,Bool.decide_eq_true,encE];(repeat' first|apply a.1|apply b.1|refine iteI (fun h=>?_) fun h=>?_)<;>clear a b A B))
    refine zy (k,idx+1,r',Go.Sort.swp d1 idx (a+t),n+T.length,1) (Nat.lt_succ_self _) ⟨by simp [Go.Sort.swp,hn],Nat.le_refl _,Nat.le_refl _,by simp only;omega,by simp only;omega,hR⟩ ?_ ⟨_,rfl⟩
    ((try simp only [zg,zi,zd,zf,List.set_cons_zero,List.set_cons_succ]);all_goals (first|rfl|(simp only [zn,zj,zc,List.length_map,List.length_append,List.length_cons,List.length_nil,Nat.zero_add];first|done|rfl)))
 ·have h8':¬(8:Int)≤((b-a:Nat):Int):=by omega
  have e:Go.Sort.breakPatterns d a b=d:=by unfold Go.Sort.breakPatterns;simp only [h8,if_false]
  refine EvR.walk rfl fn142 rfl nt142 rfl ?_
  simp only [List.length_cons,List.length_nil,List.cons_append,List.nil_append,Nat.reduceAdd,Nat.reduceSub,List.replicate]
  repeat' (first|refine go1 ?_|refine za rfl ?_|(refine go2 fun A B a b=>?_;simp only [beq_iff_eq,beq_eq_false_iff_ne,Int.natCast_inj,Bool.not_eq_false',zbD,zbx,zaE,za9,zaw,zas,za7,zF,zaB,zaD,zE,zax,zbw,zP,zH,za8,zI,zba,zaC,zbv,zbu,zL,zar,zR,zaz,zQ,zay,zS,zaA,za5,zat,zae,zbd,zaG,zbc,zbb,zbe,zby,zaF,zaY,zao,zaX,zaZ,zav,zaW,zaV,zaI,zaK,zaf,zac,zW,z8,zbg,zaJ,boxK,storeK,zaq,zaM,zam,zaN,zbm,zau,zbz,zbf,zX,zaa,zaP,zaQ,zan,zbn,zaO,zbr,zaU,zbp,zbA,zbs,zbo,zbq,zaR,zbC,zaS,zaT,List.all_cons,List.all_nil,Bool.and_true,Bool.and_self,Bool.true_and,z7,zaH,List.set_cons_zero,List.set_cons_succ,List.length_cons,List.length_nil,List.nil_append,List.cons_append,stabL,AV.stab,fieldAddrA,fieldA,List.getElem?_cons_zero,List.getElem?_cons_succ,Nat.zero_add,loadA,rowOf,Nat.le_refl,and_self,true_and,and_true,partA,binA,unA,intBin,eqBin,eqCells,eqCell,Option.bind_some,decide_true,decide_false,decide_eq_true_eq,ite_not,Bool.not_eq_true',decide_eq_false_iff_not,Bool.false_eq_true,Option.map_some,Option.map_none,Bool.not_true,Bool.not_false,buildA,fillA,patch,List.take,List.drop,List.map_cons,List.map_nil,extK,List.getD_cons_zero,List.getD_cons_succ,minmaxA,minmaxGo,zJ,zV,zak,zU,zai,zT,zal,zaj,zah,zag,zaL,zbk,zbi,zbl,zbj,zbh,bne,Bool.false_and,Bool.and_false,ne_eq,not_true_eq_false,not_false_eq_true,List.append_nil,resultsR,resultsL,resultA,za3,zap,za2,za4,za0,za1,zZ,zbK,zad,zO,zD,zbB,reduceIte,Nat.reduceAdd,Nat.reduceEqDiff,Nat.reduceLT,Nat.reduceLeDiff, *,ty3,ty4,ty44,ty47,zbF,zbM,zbR,eq47,zcs,zcr,allocK,zx,fz219,fz220,zw zbF ty3 rfl,zw ty3 zbR rfl];(repeat' first|apply a.1|apply b.1|refine iteI (fun h=>?_) fun h=>?_)<;>clear a b A B))
  simp only [resultsR,resultsL,resultA,za3,zap,za2,za4,za0,za1,zZ,beq_iff_eq,beq_eq_false_iff_ne,Int.natCast_inj,Bool.not_eq_false',zbD,zbx,zaE,za9,zaw,zas,za7,zF,zaB,zaD,zE,zax,zbw,zP,zH,za8,zI,zba,zaC,zbv,zbu,zL,zar,zR,zaz,zQ,zay,zS,zaA,za5,zat,zae,zbd,zaG,zbc,zbb,zbe,zby,zaF,zaY,zao,zaX,zaZ,zav,zaW,zaV,zaI,zaK,zaf,zac,zW,z8,zbg,zaJ,boxK,storeK,zaq,zaM,zam,zaN,zbm,zau,zbz,zbf,zX,zaa,zaP,zaQ,zan,zbn,zaO,zbr,zaU,zbp,zbA,zbs,zbo,zbq,zaR,zbC,zaS,zaT,List.all_cons,List.all_nil,Bool.and_true,Bool.and_self,Bool.true_and,z7,zaH,List.set_cons_zero,List.set_cons_succ,List.length_cons,List.length_nil,List.nil_append,List.cons_append,stabL,AV.stab,fieldAddrA,fieldA,List.getElem?_cons_zero,List.getElem?_cons_succ,Nat.zero_add,loadA,rowOf,Nat.le_refl,and_self,true_and,and_true,partA,binA,unA,intBin,eqBin,eqCells,eqCell,Option.bind_some,decide_true,decide_false,decide_eq_true_eq,ite_not,Bool.not_eq_true',decide_eq_false_iff_not,Bool.false_eq_true,Option.map_some,Option.map_none,Bool.not_true,Bool.not_false,buildA,fillA,patch,List.take,List.drop,List.map_cons,List.map_nil,extK,List.getD_cons_zero,List.getD_cons_succ,minmaxA,minmaxGo,zJ,zV,zak,zU,zai,zT,zal,zaj,zah,zag,zaL,zbk,zbi,zbl,zbj,zbh,bne,Bool.false_and,Bool.and_false,ne_eq,not_true_eq_false,not_false_eq_true,List.append_nil,resultsR,resultsL,resultA,za3,zap,za2,za4,za0,za1,zZ,zbK,zad,zO,zD,zbB,reduceIte,Nat.reduceAdd,Nat.reduceEqDiff,Nat.reduceLT,Nat.reduceLeDiff,ty3,ty4,ty44,ty47,zbF,zbM,zbR,eq47,zcs,zcr,allocK,zx,fz219,fz220,zw zbF ty3 rfl,zw ty3 zbR rfl,e]
  exact⟨hn,w,[],hw,by rw [SB,List.append_nil]⟩
end Go.Eng.Fo
