/- Part 8 of the texts behind this claim. -/
import Derived.Test.YtpdacimgcojgnaaGreatDoorZ7
set_option linter.all false

/- Rights: the law Agrees. -/
namespace Go.Eng
open Go.Proofs
attribute [local irreducible] wpC wpO wp1 EvV EvR wpL
attribute [local go_sem] ty3 ty4 ty9 ty23 ty24 ty25 ty26 ty28 ty29 ty31 ty34 ty38 ty40 ty44 ty47 ty53 ty58 ty66 ty68 eq47 br13 br17 br18 br21 br23 br30 fz77 fz78 fz79 fz80 fz81 fz83 reduceIte Nat.reduceAdd Nat.reduceEqDiff Nat.reduceLT Nat.reduceLeDiff beq_iff_eq beq_eq_false_iff_ne Int.natCast_inj Bool.not_eq_false' zbD zbx zaE za9 zaw zas za7 zF zaB zaD zE zax zbw zP zH za8 zI zba zaC zbv zbu zL zar zR zaz zQ zay zS zaA za5 zat zae zbd zaG zbc zbb zbe zby zaF zaY zao zaX zaZ zav zaW zaV zaI zaK zaf zac zW z8 zbg zaJ boxK storeK zaq zaM zam zaN zbm zau zbz zbf zX zaa zaP zaQ zan zbn zaO zbr zaU zbp zbA zbs zbo zbq zaR zbC zaS zaT List.all_cons List.all_nil Bool.and_true Bool.and_self Bool.true_and z7 zaH List.set_cons_zero List.set_cons_succ List.length_cons List.length_nil List.nil_append List.cons_append stabL AV.stab fieldAddrA fieldA List.getElem?_cons_zero List.getElem?_cons_succ Nat.zero_add loadA rowOf Nat.le_refl and_self true_and and_true partA binA unA intBin eqBin eqCells eqCell Option.bind_some decide_true decide_false decide_eq_true_eq ite_not Bool.not_eq_true' decide_eq_false_iff_not Bool.false_eq_true Option.map_some Option.map_none Bool.not_true Bool.not_false buildA fillA patch List.take List.drop List.map_cons List.map_nil extK List.getD_cons_zero List.getD_cons_succ minmaxA minmaxGo zJ zV zak zU zai zT zal zaj zah zag zaL zbk zbi zbl zbj zbh bne Bool.false_and Bool.and_false ne_eq not_true_eq_false not_false_eq_true List.append_nil resultsR resultsL resultA za3 zap za2 za4 za0 za1 zZ zbK zad zO zD zbB
set_option maxHeartbeats 4000000

theorem spF_base {ps:List Psn}{gs:List Grp}{cs:List Con}{rs:List Ru}{r:Rec}{pe day:Int}(h:baseF ps cs r pe day≠0):spF ps gs cs rs r pe day = []:=by
 unfold spF;rw [if_neg h]
end Go.Eng

/- Rights: a consent that is withdrawn (plain). -/
namespace Go.Eng
open Go.Proofs

theorem atF_before {cs:List Con}{c:Con}{p r d:Int}(h:d<c.day):atF (cs++[c]) p r d=atF cs p r d:=by
 rw [atF_snoc]
 have:hitC p r d c=false:=by unfold hitC;rw [decide_eq_false (by omega),Bool.and_false]
 rw [this];rfl
theorem atF_gone {cs:List Con}{s id rc day d:Int}(hrc:rc=0∨rc=id) (h:day≤d):atF (cs++[⟨s,rc,day,0⟩]) s id d=0:=by
 rw [atF_snoc]
 have:hitC s id d ⟨s,rc,day,0⟩=true:=by
  unfold hitC isCn
  simp only [beq_self_eq_true,Bool.true_and,Bool.and_eq_true,Bool.or_eq_true,beq_iff_eq,decide_eq_true_eq]
  exact⟨hrc,h⟩
 rw [this];rfl
theorem baseGo_gone {M:Bool}{cs:List Con}{id d s:Int}(h:atF cs s id d=0):∀ l:List Int,s∈l→baseGo M cs id d l=26∨baseGo M cs id d l=25
 | [],hs=>by cases hs
 | x::l,hs=>by
  rw [baseGo]
  by_cases k1:atF cs x id d=0
  ·rw [if_pos k1];exact .inl rfl
  ·rw [if_neg k1]
   by_cases k2:atF cs x id d=1∧M=false
   ·rw [if_pos k2];exact .inr rfl
   ·rw [if_neg k2]
    rcases List.mem_cons.1 hs with rfl|hs
    ·exact absurd h k1
    ·exact baseGo_gone h l hs
theorem base_before {ps:List Psn}{cs:List Con}{c:Con}{r:Rec}{pe d:Int}(h:d<c.day):baseF ps (cs++[c]) r pe d=baseF ps cs r pe d:=by
 unfold baseF
 generalize r.sp=l
 induction l with
 | nil=>rfl
 | cons s l ih=>rw [baseGo,baseGo,atF_before h,ih]
theorem sp_before {ps:List Psn}{gs:List Grp}{cs:List Con}{rs:List Ru}{c:Con}{r:Rec}{pe d:Int}(h:d<c.day):spF ps gs (cs++[c]) rs r pe d=spF ps gs cs rs r pe d:=by
 unfold spF;rw [base_before h]
theorem base_gone {ps:List Psn}{cs:List Con}{r:Rec}{s rc day pe d:Int}(hs:s∈r.sp) (hrc:rc=0∨rc=r.id) (h:day≤d):baseF ps (cs++[⟨s,rc,day,0⟩]) r pe d=26∨baseF ps (cs++[⟨s,rc,day,0⟩]) r pe d=25 :=
 baseGo_gone (atF_gone hrc h) r.sp hs
theorem few_snoc {ps:List Psn}{gs:List Grp}{cs:List Con}{rs:List Ru}{c:Con}(hf:fewRt ps gs cs rs=true) (hl:cs.length≤60):fewRt ps gs (cs++[c]) rs=true:=by
 unfold fewRt at hf ⊢
 simp only [Bool.and_eq_true,decide_eq_true_eq,List.length_append,List.length_cons,List.length_nil] at hf ⊢
 obtain⟨⟨⟨⟨⟨⟨a,b⟩,c⟩,d⟩,e⟩,f⟩,g⟩:=hf
 exact⟨⟨⟨⟨⟨⟨a,b⟩,by omega⟩,d⟩,e⟩,f⟩,g⟩
theorem RtV.con {pv gv cv rv:AV}{ps:List Psn}{gs:List Grp}{cs:List Con}{rs:List Ru}(h:RtV pv gv cv rv ps gs cs rs) (c:Con) (st:Bool):RtV pv gv (.tsl st 4 ((cs++[c]).map encCn)) rv ps gs (cs++[c]) rs :=
 ⟨h.p,h.g,h.go,h.gt,.rows st,by simp only [consAV];exact consOf_map _,h.r,h.ro⟩
end Go.Eng

/- Rights: what the public may use, everybody may use (plain). -/
namespace Go.Eng
open Go.Proofs

end Go.Eng

/- Rights: the law Public. -/
namespace Go.Eng
open Go.Proofs
attribute [local irreducible] wpC wpO wp1 EvV EvR wpL
attribute [local go_sem] ty3 ty4 ty44 ty47 eq47 br47 fz88 ty9 ty23 ty24 ty25 ty26 ty28 ty29 ty31 ty38 ty40 ty53 ty58 ty66 ty68 br13 br17 br21 br29 fz68 fz69 fz70 reduceIte Nat.reduceAdd Nat.reduceEqDiff Nat.reduceLT Nat.reduceLeDiff beq_iff_eq beq_eq_false_iff_ne Int.natCast_inj Bool.not_eq_false' zbD zbx zaE za9 zaw zas za7 zF zaB zaD zE zax zbw zP zH za8 zI zba zaC zbv zbu zL zar zR zaz zQ zay zS zaA za5 zat zae zbd zaG zbc zbb zbe zby zaF zaY zao zaX zaZ zav zaW zaV zaI zaK zaf zac zW z8 zbg zaJ boxK storeK zaq zaM zam zaN zbm zau zbz zbf zX zaa zaP zaQ zan zbn zaO zbr zaU zbp zbA zbs zbo zbq zaR zbC zaS zaT List.all_cons List.all_nil Bool.and_true Bool.and_self Bool.true_and z7 zaH List.set_cons_zero List.set_cons_succ List.length_cons List.length_nil List.nil_append List.cons_append stabL AV.stab fieldAddrA fieldA List.getElem?_cons_zero List.getElem?_cons_succ Nat.zero_add loadA rowOf Nat.le_refl and_self true_and and_true partA binA unA intBin eqBin eqCells eqCell Option.bind_some decide_true decide_false decide_eq_true_eq ite_not Bool.not_eq_true' decide_eq_false_iff_not Bool.false_eq_true Option.map_some Option.map_none Bool.not_true Bool.not_false buildA fillA patch List.take List.drop List.map_cons List.map_nil extK List.getD_cons_zero List.getD_cons_succ minmaxA minmaxGo zJ zV zak zU zai zT zal zaj zah zag zaL zbk zbi zbl zbj zbh bne Bool.false_and Bool.and_false ne_eq not_true_eq_false not_false_eq_true List.append_nil resultsR resultsL resultA za3 zap za2 za4 za0 za1 zZ zbK zad zO zD zbB
set_option maxHeartbeats 4000000

theorem zcl {sz:Nat}{rows:List (List AV)}{a c:Nat}{b:Bool}{d:List AV}{el:TypeId}:lenK (some ⟨a,b,c,d,.slice el⟩) (.tsl true sz rows)=some (.int .i64 rows.length):=zA (.rows true)
theorem insideE (v w:AV) (a b:List (Int×Int)) (hv:SLs 2 (Fo.spans a) v) (hw:SLs 2 (Fo.spans b) w) (ha:a.length≤500000) (hb:b.length≤500000):EvV CX 29 [v,w] (· = .bool ((((minusR a b).length:Nat):Int) == 0)):=by
 have s1:=hv.snap
 have s2:=hw.snap
 have q:=(Fo.minusRE v w a b hv hw ha hb).rw
 generalize minusR a b=M at *
 refine EvV.walk rfl fn29 rfl nt29 rfl ?_
 simp only [List.length_cons,List.length_nil,List.cons_append,List.nil_append,Nat.reduceAdd,Nat.reduceSub,List.replicate]
 repeat' (first|refine go1 ?_|refine za rfl ?_|(refine go2 fun A B a b=>?_;simp only [go_sem, *,zcl,zp,Nat.zero_le,zb,ze,zm,List.append_assoc,List.length_append,Fo.spans_len,zab,zbI,zc,zC,List.take_length,Bool.true_or];(repeat' first|apply a.1|apply b.1|refine iteI (fun h=>?_) fun h=>?_)<;>clear a b A B))
 simp only [go_sem]

theorem inside_nil {a b:List (Int×Int)}(ha:Norm a) (hb:Norm b) (h:∀ t,Tm a t→Tm b t):minusR a b = []:=by
 obtain⟨h1,h2⟩:=minusR_spec a b
 rw [norm_empty h1]
 intro t ht
 have:=(h2 t).1 ht
 rw [Tr_norm ha,Tr_norm hb] at this
 exact this.2 (h t this.1)

theorem spF_len {ps:List Psn}{gs:List Grp}{cs:List Con}{rs:List Ru}{r:Rec}{pe day:Int}(hr2:chkC ps r=0) (hl:rs.length≤65):(spF ps gs cs rs r pe day).length≤100:=by
 unfold spF
 split
 ·split
  ·simp
  ·rw [minusP_eq,←cuts_eq (zcB.2 (chk_len hr2))]
   have a:=cuts_len (zcB.2 (chk_len hr2)) (cutL ps gs r pe day rs)
   have b:(cutL ps gs r pe day rs).length≤rs.length:=by unfold cutL;rw [List.length_map];exact List.length_filter_le _ _
   simp only [List.length_cons,List.length_nil] at a
   omega
 ·simp

/- Rights: the law Gone. -/
open Go.Proofs
attribute [local go_sem] ty34 ty75 ty77 br42 br45 br48 br49 allocK fz3 fz4 fz5 ty5 br18 br20 br23 List.replicate Nat.one_mul Nat.reduceMul Nat.zero_mul appK bslA fz105 fz106 fz58 fz59 fz60 fz61 fz62 lenK_esl zcF zbV lenK_tsl rowsFill zcL zcA zbI zcK
set_option maxHeartbeats 4000000

theorem maySB {pv gv cv rv:AV}{ps:List Psn}{gs:List Grp}{cs:List Con}{rs:List Ru}(h:RtV pv gv cv rv ps gs cs rs) (hl:ps.length≤1000) (hcl:cs.length≤1000) (r:Rec) (hr:r.ok) (hrl:r.sp.length≤1000) (pe day:Int) (s:Int×Int) (hB:baseF ps cs r pe day≠0) :
  EvV CX 23 [.agg [pv,gv,cv,rv],.agg [.int .i64 r.id,.str r.name,.int .i64 r.len,.int .i64 r.day,r.sv],.agg [.int .i64 s.1,.int .i64 s.2],.agg [.int .i64 pe,.int .i64 day]] (· = .int .i64 (baseF ps cs r pe day)):=by
 have c1:=h.p.cell
 have c2:=h.g.cell
 have c3:=h.c.cell
 have c4:=h.r.cell
 have c5:=hr.sv.cell
 have s1:=h.p.snap
 have s2:=h.g.snap
 have s3:=h.c.snap
 have s4:=h.r.snap
 have s5:=hr.sv.snap
 have q1:=(baseM h hl hcl r hr hrl pe day).rw
 generalize baseF ps cs r pe day=B at *
 have b1:(B == 0)=false:=beq_false_of_ne hB
 clear hB
 refine EvV.walk rfl fn23 rfl nt23 rfl ?_
 simp only [List.length_cons,List.length_nil,List.cons_append,List.nil_append,Nat.reduceAdd,Nat.reduceSub,List.replicate]
 repeat' (first|refine go1 ?_|refine za rfl ?_|(refine go2 fun A B a b=>?_;simp only [go_sem, *];(repeat' first|apply a.1|apply b.1|refine iteI (fun h=>?_) fun h=>?_)<;>clear a b A B))
 simp only [go_sem]

theorem mod_at {l:List Int}(hl:l≠[]) (hs:l.length≤1000){a:Int}(h0:0≤a) (h1:a≤255):∃ A z B,l=A++z::B∧a.tmod (l.length:Int)=(A.length:Int)∧IntKind.wrap .i64 a=a:=by
 have hlt:a.toNat % l.length<l.length:=Nat.mod_lt _ (List.length_pos_iff.mpr hl)
 refine⟨l.take (a.toNat % l.length),l[a.toNat % l.length],l.drop (a.toNat % l.length+1),?_,?_,zu (by omega) (by omega)⟩
 ·rw [←List.drop_eq_getElem_cons hlt,List.take_append_drop]
 ·rw [List.length_take,Nat.min_eq_left (by omega)]
  rw [Int.tmod_eq_emod_of_nonneg h0]
  obtain⟨n,rfl⟩:=Int.eq_ofNat_of_zero_le h0
  rw [Int.toNat_natCast,Int.natCast_emod]
theorem chk_sp0 {ps:List Psn}{r:Rec}(h:chkC ps r=0):r.sp≠[]:=by
 intro e
 unfold chkC at h
 rw [if_pos e] at h
 repeat' split at h
 all_goals omega

theorem lawGone45 {pv gv rv:AV}{ps:List Psn}{gs:List Grp}{cs:List Con}{rs:List Ru}(h:RtV pv gv (.tsl true 4 (cs.map encCn)) rv ps gs cs rs) (r:Rec) (hr:r.ok) (pe day:Int){wh:Int}(hw0:0≤wh) (hw1:wh≤255) (all:Bool) :
  EvV CX 8 [.agg [pv,gv,.tsl true 4 (cs.map encCn),rv,.int .i64 r.id,.str r.name,.int .i64 r.len,.int .i64 r.day,r.sv,.int .i64 pe,.int .i64 day],.int .u8 wh,.bool all] (· = .bool true):=by
 have qa:=awake.rw
 have c1:=h.p.cell
 have c2:=h.g.cell
 have c3:=h.c.cell
 have c4:=h.r.cell
 have c5:=hr.sv.cell
 have s1:=h.p.snap
 have s2:=h.g.snap
 have s3:=h.c.snap
 have s4:=h.r.snap
 have s5:=hr.sv.snap
 have q1:=(rightE45 h r hr pe day).rw
 cases k:rightC ps gs cs rs r with
 | false=>
  rw [k] at q1
  clear k
  refine EvV.walk rfl fn8 rfl nt8 rfl ?_
  simp only [List.length_cons,List.length_nil,List.cons_append,List.nil_append,Nat.reduceAdd,Nat.reduceSub,List.replicate]
  repeat' (first|refine go1 ?_|refine za rfl ?_|(refine go2 fun A B a b=>?_;simp only [go_sem, *,zx,zr ty25 rfl,zh ty25 rfl,zw ty5 ty3 rfl];(repeat' first|apply a.1|apply b.1|refine iteI (fun h=>?_) fun h=>?_)<;>clear a b A B))
  simp only [go_sem,zx,zr ty25 rfl,zh ty25 rfl,zw ty5 ty3 rfl]
 | true=>
 rw [k] at q1
 by_cases k60:60≤cs.length
 ·have k61:(60:Int)≤(cs.length:Int):=by omega
  clear k k60
  refine EvV.walk rfl fn8 rfl nt8 rfl ?_
  simp only [List.length_cons,List.length_nil,List.cons_append,List.nil_append,Nat.reduceAdd,Nat.reduceSub,List.replicate]
  repeat' (first|refine go1 ?_|refine za rfl ?_|(refine go2 fun A B a b=>?_;simp only [go_sem, *,zx,zr ty25 rfl,zh ty25 rfl,zw ty5 ty3 rfl,zcl,List.length_map];(repeat' first|apply a.1|apply b.1|refine iteI (fun h=>?_) fun h=>?_)<;>clear a b A B))
  simp only [go_sem,zx,zr ty25 rfl,zh ty25 rfl,zw ty5 ty3 rfl]
 obtain⟨f,_,g,hc,hr2⟩:=right_out k
 obtain⟨f1,f2,f3,f4,_⟩:=few_out f
 have k61:¬(60:Int)≤(cs.length:Int):=by omega
 have hne:=chk_sp0 hr2
 obtain⟨A,z,B,hA,m1,w1⟩:=mod_at hne (by omega) hw0 hw1
 have z4:¬(r.sp.length:Int)=0:=by have:=List.length_pos_iff.2 hne;omega
 have iz:=zbE hr.sv (X:=CX) ty29 ty3 rfl (n:=A.length) (row:=[.int .i64 z]) (k := .i64) (by rw [hA];exact zb8 A z B)
 have hz:z∈r.sp:=by rw [hA];simp
 have s6:∀ l S,snap S (.tsl true 2 (Fo.spans l))=some (.tsl true 2 (Fo.spans l)):=fun l S=>by simp only [snap]
 -- the day
 obtain⟨dy,hdy⟩:∃ dy:Int,(cs = []∧dy=1)∨∃ x:Con,dy=x.day∧0<cs.length∧cs[cs.length-1]? = some x:=by
  rcases List.eq_nil_or_concat cs with e|⟨pre,x,e⟩
  ·exact⟨1,.inl ⟨e,rfl⟩⟩
  ·exact⟨x.day,.inr ⟨x,rfl,by rw [e];simp,by rw [e];simp⟩⟩
 -- the further consent
 obtain⟨rc,hrc,hrc2⟩:∃ rc:Int,rc=(if all=true then 0 else r.id)∧(rc=0∨rc=r.id):=⟨_,rfl,by cases all<;>simp⟩
 have h':=h.con ⟨z,rc,dy,0⟩ false
 have f':=few_snoc (c:=⟨z,rc,dy,0⟩) f (by omega)
 have hl':(cs++[(⟨z,rc,dy,0⟩:Con)]).length≤1000:=by rw [List.length_append];simp;omega
 have e1:(cs++[(⟨z,rc,dy,0⟩:Con)]).map encCn=cs.map encCn++[[.int .i64 z,.int .i64 rc,.int .i64 dy,.int .i64 0]]:=by simp [encCn]
 rw [e1] at h'
 have q2:=(spansMM h' f' r hr (by omega) pe day).rw
 have q3:=(spansMM h f r hr (by omega) pe day).rw
 have q4:=(baseMM h' (by omega) hl' r hr (by omega) pe day).rw
 have q5:=fun hB=>(maySB h' (by omega) hl' r hr (by omega) pe day (0,1) hB).rw
 have bf:Hold (day<dy→spF ps gs (cs++[⟨z,rc,dy,0⟩]) rs r pe day=spF ps gs cs rs r pe day):=⟨fun hd=>sp_before hd⟩
 have bg:Hold (¬day<dy→(baseF ps (cs++[⟨z,rc,dy,0⟩]) r pe day=26∨baseF ps (cs++[⟨z,rc,dy,0⟩]) r pe day=25)∧spF ps gs (cs++[⟨z,rc,dy,0⟩]) rs r pe day = []):=⟨fun hd=>by
  have e:=base_gone (ps:=ps) (cs:=cs) (pe:=pe) hz hrc2 (by omega:dy≤day)
  exact⟨e,spF_base (by rcases e with e|e<;>rw [e]<;>omega)⟩⟩
 have hn:=spF_len (gs:=gs) (cs:=cs) (pe:=pe) (day:=day) hr2 f4
 generalize spF ps gs cs rs r pe day=L at *
 generalize spF ps gs (cs++[⟨z,rc,dy,0⟩]) rs r pe day=L2 at *
 generalize baseF ps (cs++[⟨z,rc,dy,0⟩]) r pe day=E at *
 clear k k60 f g hc hr2 f1 f2 f3 f4 hne hA hz h' f' hl' e1 hrc2
 rcases hdy with ⟨rfl,rfl⟩|⟨x,rfl,hpos,hx⟩
 ·simp only [List.map_nil,List.nil_append] at *
  cases all with
  | false=>
   simp only [Bool.false_eq_true,if_false] at hrc
   subst hrc
   by_cases kd:day<1
   ·have e:=bf.out kd
    subst e
    have q6:=(Fo.sameR (.tsl true 2 (Fo.spans L2)) (.tsl true 2 (Fo.spans L2)) L2 L2 (.rows true) (.rows true) (by omega)).rw
    simp only [decide_true] at q6
    clear bf bg hn q4 q5
    refine EvV.walk rfl fn8 rfl nt8 rfl ?_
    simp only [List.length_cons,List.length_nil,List.cons_append,List.nil_append,Nat.reduceAdd,Nat.reduceSub,List.replicate]
    repeat' (first|refine go1 ?_|refine za rfl ?_|(refine go2 fun A B a b=>?_;simp only [go_sem, *,zx,zr ty25 rfl,zh ty25 rfl,zw ty5 ty3 rfl,zcl,zA hr.sv,zc,zp,Nat.zero_le,zb,ze,zm,List.append_assoc,List.length_append,List.length_map,Bool.false_or,zab,zC,List.take_length,Bool.true_or];(repeat' first|apply a.1|apply b.1|refine iteI (fun h=>?_) fun h=>?_)<;>clear a b A B))
    simp only [go_sem,zx,zr ty25 rfl,zh ty25 rfl,zw ty5 ty3 rfl]
   ·obtain⟨he,hL⟩:=bg.out kd
    subst hL
    clear bf bg hn
    rcases he with rfl|rfl
    all_goals
     have q7:=q5 (by decide)
     clear q5
     refine EvV.walk rfl fn8 rfl nt8 rfl ?_
     simp only [List.length_cons,List.length_nil,List.cons_append,List.nil_append,Nat.reduceAdd,Nat.reduceSub,List.replicate]
     repeat' (first|refine go1 ?_|refine za rfl ?_|(refine go2 fun A B a b=>?_;simp only [go_sem, *,zx,zr ty25 rfl,zh ty25 rfl,zw ty5 ty3 rfl,zcl,zA hr.sv,zc,zp,Nat.zero_le,zb,ze,zm,List.append_assoc,List.length_append,List.length_map,Bool.false_or,zab,zC,List.take_length,Bool.true_or];(repeat' first|apply a.1|apply b.1|refine iteI (fun h=>?_) fun h=>?_)<;>clear a b A B))
     simp only [go_sem,zx,zr ty25 rfl,zh ty25 rfl,zw ty5 ty3 rfl]
  | true=>
   simp only [if_true] at hrc
   subst hrc
   by_cases kd:day<1
   ·have e:=bf.out kd
    subst e
    have q6:=(Fo.sameR (.tsl true 2 (Fo.spans L2)) (.tsl true 2 (Fo.spans L2)) L2 L2 (.rows true) (.rows true) (by omega)).rw
    simp only [decide_true] at q6
    clear bf bg hn q4 q5
    refine EvV.walk rfl fn8 rfl nt8 rfl ?_
    simp only [List.length_cons,List.length_nil,List.cons_append,List.nil_append,Nat.reduceAdd,Nat.reduceSub,List.replicate]
    repeat' (first|refine go1 ?_|refine za rfl ?_|(refine go2 fun A B a b=>?_;simp only [go_sem, *,zx,zr ty25 rfl,zh ty25 rfl,zw ty5 ty3 rfl,zcl,zA hr.sv,zc,zp,Nat.zero_le,zb,ze,zm,List.append_assoc,List.length_append,List.length_map,Bool.false_or,zab,zC,List.take_length,Bool.true_or];(repeat' first|apply a.1|apply b.1|refine iteI (fun h=>?_) fun h=>?_)<;>clear a b A B))
    simp only [go_sem,zx,zr ty25 rfl,zh ty25 rfl,zw ty5 ty3 rfl]
   ·obtain⟨he,hL⟩:=bg.out kd
    subst hL
    clear bf bg hn
    rcases he with rfl|rfl
    all_goals
     have q7:=q5 (by decide)
     clear q5
     refine EvV.walk rfl fn8 rfl nt8 rfl ?_
     simp only [List.length_cons,List.length_nil,List.cons_append,List.nil_append,Nat.reduceAdd,Nat.reduceSub,List.replicate]
     repeat' (first|refine go1 ?_|refine za rfl ?_|(refine go2 fun A B a b=>?_;simp only [go_sem, *,zx,zr ty25 rfl,zh ty25 rfl,zw ty5 ty3 rfl,zcl,zA hr.sv,zc,zp,Nat.zero_le,zb,ze,zm,List.append_assoc,List.length_append,List.length_map,Bool.false_or,zab,zC,List.take_length,Bool.true_or];(repeat' first|apply a.1|apply b.1|refine iteI (fun h=>?_) fun h=>?_)<;>clear a b A B))
     simp only [go_sem,zx,zr ty25 rfl,zh ty25 rfl,zw ty5 ty3 rfl]
 ·have n1:(0:Int)<(cs.length:Int):=by omega
  have n2:IntKind.wrap .i64 ((cs.length:Int)-1)=((cs.length-1:Nat):Int):=by rw [zu (by omega) (by omega)];omega
  have n3:¬cs.length=0:=by omega
  have n4:cs.length*32≤140737488355328∧cs.length≤140737488355328:=by omega
  have n5:(cs.length+1)*32≤140737488355328:=by omega
  have n6:cs.length+1≤140737488355328:=by omega
  have i1:=zbE h.c (X:=CX) ty25 ty53 rfl (n:=cs.length-1) (row:=encCn x) (k := .i64) (by rw [List.getElem?_map,hx];rfl)
  simp only [encCn] at i1
  have tc:∀ R:List AV,List.take (cs.length+1) (cs.map encCn++[R])=cs.map encCn++[R]:=fun R=>List.take_of_length_le (by simp)
  clear hx hpos
  cases all with
  | false=>
   simp only [Bool.false_eq_true,if_false] at hrc
   subst hrc
   by_cases kd:day<x.day
   ·have e:=bf.out kd
    subst e
    have q6:=(Fo.sameR (.tsl true 2 (Fo.spans L2)) (.tsl true 2 (Fo.spans L2)) L2 L2 (.rows true) (.rows true) (by omega)).rw
    simp only [decide_true] at q6
    clear bf bg hn q4 q5
    refine EvV.walk rfl fn8 rfl nt8 rfl ?_
    simp only [List.length_cons,List.length_nil,List.cons_append,List.nil_append,Nat.reduceAdd,Nat.reduceSub,List.replicate]
    repeat' (first|refine go1 ?_|refine za rfl ?_|(refine go2 fun A B a b=>?_;simp only [go_sem, *,zx,zr ty25 rfl,zh ty25 rfl,zw ty5 ty3 rfl,zcl,zA hr.sv,zc,zp,Nat.zero_le,zb,ze,zm,List.append_assoc,List.length_append,List.length_map,Bool.false_or,zab,zC,List.take_length,Bool.true_or,encCn];(repeat' first|apply a.1|apply b.1|refine iteI (fun h=>?_) fun h=>?_)<;>clear a b A B))
    simp only [go_sem,zx,zr ty25 rfl,zh ty25 rfl,zw ty5 ty3 rfl]
   ·obtain⟨he,hL⟩:=bg.out kd
    subst hL
    clear bf bg hn
    rcases he with rfl|rfl
    all_goals
     have q7:=q5 (by decide)
     clear q5
     refine EvV.walk rfl fn8 rfl nt8 rfl ?_
     simp only [List.length_cons,List.length_nil,List.cons_append,List.nil_append,Nat.reduceAdd,Nat.reduceSub,List.replicate]
     repeat' (first|refine go1 ?_|refine za rfl ?_|(refine go2 fun A B a b=>?_;simp only [go_sem, *,zx,zr ty25 rfl,zh ty25 rfl,zw ty5 ty3 rfl,zcl,zA hr.sv,zc,zp,Nat.zero_le,zb,ze,zm,List.append_assoc,List.length_append,List.length_map,Bool.false_or,zab,zC,List.take_length,Bool.true_or,encCn];(repeat' first|apply a.1|apply b.1|refine iteI (fun h=>?_) fun h=>?_)<;>clear a b A B))
     simp only [go_sem,zx,zr ty25 rfl,zh ty25 rfl,zw ty5 ty3 rfl]
  | true=>
   simp only [if_true] at hrc
   subst hrc
   by_cases kd:day<x.day
   ·have e:=bf.out kd
    subst e
    have q6:=(Fo.sameR (.tsl true 2 (Fo.spans L2)) (.tsl true 2 (Fo.spans L2)) L2 L2 (.rows true) (.rows true) (by omega)).rw
    simp only [decide_true] at q6
    clear bf bg hn q4 q5
    refine EvV.walk rfl fn8 rfl nt8 rfl ?_
    simp only [List.length_cons,List.length_nil,List.cons_append,List.nil_append,Nat.reduceAdd,Nat.reduceSub,List.replicate]
    repeat' (first|refine go1 ?_|refine za rfl ?_|(refine go2 fun A B a b=>?_;simp only [go_sem, *,zx,zr ty25 rfl,zh ty25 rfl,zw ty5 ty3 rfl,zcl,zA hr.sv,zc,zp,Nat.zero_le,zb,ze,zm,List.append_assoc,List.length_append,List.length_map,Bool.false_or,zab,zC,List.take_length,Bool.true_or,encCn];(repeat' first|apply a.1|apply b.1|refine iteI (fun h=>?_) fun h=>?_)<;>clear a b A B))
    simp only [go_sem,zx,zr ty25 rfl,zh ty25 rfl,zw ty5 ty3 rfl]
   ·obtain⟨he,hL⟩:=bg.out kd
    subst hL
    clear bf bg hn
    rcases he with rfl|rfl
    all_goals
     have q7:=q5 (by decide)
     clear q5
     refine EvV.walk rfl fn8 rfl nt8 rfl ?_
     simp only [List.length_cons,List.length_nil,List.cons_append,List.nil_append,Nat.reduceAdd,Nat.reduceSub,List.replicate]
     repeat' (first|refine go1 ?_|refine za rfl ?_|(refine go2 fun A B a b=>?_;simp only [go_sem, *,zx,zr ty25 rfl,zh ty25 rfl,zw ty5 ty3 rfl,zcl,zA hr.sv,zc,zp,Nat.zero_le,zb,ze,zm,List.append_assoc,List.length_append,List.length_map,Bool.false_or,zab,zC,List.take_length,Bool.true_or,encCn];(repeat' first|apply a.1|apply b.1|refine iteI (fun h=>?_) fun h=>?_)<;>clear a b A B))
     simp only [go_sem,zx,zr ty25 rfl,zh ty25 rfl,zw ty5 ty3 rfl]
end Go.Eng

/- Rights: a further rule (plain). -/
namespace Go.Eng
open Go.Proofs

theorem cut_mid {ps:List Psn}{gs:List Grp}{r:Rec}{pe day:Int}(a:List Ru) (x:Ru) (b:List Ru):(a++x::b).filter (cutB ps gs r pe day)=a.filter (cutB ps gs r pe day)++(if cutB ps gs r pe day x=true then [x] else [])++b.filter (cutB ps gs r pe day):=by
 rw [List.filter_append,List.filter_cons]
 by_cases k:cutB ps gs r pe day x=true
 ·rw [if_pos k,if_pos k];simp
 ·rw [if_neg k,if_neg k];simp
theorem cutL_mid {ps:List Psn}{gs:List Grp}{r:Rec}{pe day:Int}(a:List Ru) (x:Ru) (b:List Ru) (s:Int×Int) (h:s∈cutL ps gs r pe day (a++b)):s∈cutL ps gs r pe day (a++x::b):=by
 unfold cutL at h ⊢
 rw [cut_mid]
 rw [List.filter_append] at h
 simp only [List.map_append,List.mem_append] at h ⊢
 rcases h with h|h
 ·exact .inl (.inl h)
 ·exact .inr h
theorem sp_fewer {ps:List Psn}{gs:List Grp}{cs:List Con}{r:Rec}{pe day:Int}(a:List Ru) (x:Ru) (b:List Ru):∀ t,Tm (spF ps gs cs (a++x::b) r pe day) t→Tm (spF ps gs cs (a++b) r pe day) t:=by
 intro t ht
 by_cases k1:baseF ps cs r pe day=0
 rotate_left
 ·rw [spF_base k1] at ht;exact absurd ht zbY
 unfold spF at ht ⊢
 rw [if_pos k1] at ht
 rw [if_pos k1]
 by_cases z:((a++x::b).filter (cutB ps gs r pe day)).any zeroB=true
 ·rw [if_pos z] at ht;exact absurd ht zbY
 rw [if_neg z] at ht
 have z2:¬((a++b).filter (cutB ps gs r pe day)).any zeroB=true:=fun e=>z (by
  obtain⟨y,hy,hz⟩:=List.any_eq_true.1 e
  refine List.any_eq_true.2 ⟨y,?_,hz⟩
  rw [cut_mid]
  rw [List.filter_append] at hy
  simp only [List.mem_append] at hy ⊢
  rcases hy with h|h
  ·exact .inl (.inl h)
  ·exact .inr h)
 rw [if_neg z2]
 rw [(minusP_spec _ _).2] at ht ⊢
 refine⟨ht.1,fun k=>ht.2 ?_⟩
 unfold Tr at k ⊢
 obtain⟨y,hy,h1,h2⟩:=k
 have hy2:=List.mem_filter.1 hy
 exact⟨y,List.mem_filter.2 ⟨cutL_mid a x b y hy2.1,hy2.2⟩,h1,h2⟩
theorem sp_other {ps:List Psn}{gs:List Grp}{cs:List Con}{r:Rec}{pe day:Int}(a:List Ru) (x:Ru) (b:List Ru) (h:x.rc≠r.id):spF ps gs cs (a++x::b) r pe day=spF ps gs cs (a++b) r pe day:=by
 have hx:¬cutB ps gs r pe day x=true:=by unfold cutB;simp [h]
 have e:(a++x::b).filter (cutB ps gs r pe day)=(a++b).filter (cutB ps gs r pe day):=by
  rw [cut_mid,if_neg hx,List.filter_append];simp
 unfold spF cutL
 rw [e]
theorem few_mid {ps:List Psn}{gs:List Grp}{cs:List Con}{a b:List Ru}{x:Ru}(hf:fewRt ps gs cs (a++b)=true) (hl:(a++b).length≤60) (hx:x.gl.length≤25):fewRt ps gs cs (a++x::b)=true:=by
 unfold fewRt at hf ⊢
 simp only [Bool.and_eq_true,decide_eq_true_eq,List.length_append,List.length_cons,List.length_nil,List.all_append,List.all_cons] at hf hl ⊢
 obtain⟨⟨⟨⟨⟨⟨h1,h2⟩,h3⟩,h4⟩,h5⟩,h6⟩,h7,h8⟩:=hf
 exact⟨⟨⟨⟨⟨⟨h1,h2⟩,h3⟩,by omega⟩,h5⟩,h6⟩,h7,hx,h8⟩
theorem RtV.rul {pv gv cv rv:AV}{ps:List Psn}{gs:List Grp}{cs:List Con}{a b:List Ru}(h:RtV pv gv cv rv ps gs cs (a++b)){x:Ru}(hx:x.ok) (st:Bool):RtV pv gv cv (.tsl st 6 ((a++x::b).map encRu)) ps gs cs (a++x::b) :=
 ⟨h.p,h.g,h.go,h.gt,h.c,h.ca,.rows st,fun y hy=>by
  rcases List.mem_append.1 hy with h1|h1
  ·exact h.ro y (List.mem_append.2 (.inl h1))
  ·rcases List.mem_cons.1 h1 with rfl|h1
   ·exact hx
   ·exact h.ro y (List.mem_append.2 (.inr h1))⟩
end Go.Eng

/- Rights: the law Fewer. -/
namespace Go.Eng
open Go.Proofs
attribute [local irreducible] wpC wpO wp1 EvV EvR wpL
attribute [local go_sem] ty3 ty4 ty5 ty9 ty22 ty23 ty24 ty25 ty26 ty28 ty29 ty31 ty34 ty38 ty40 ty44 ty47 ty53 ty56 ty58 ty66 ty68 eq47 br13 br17 br20 br21 br28 br29 List.all_cons List.all_nil List.replicate List.set_cons_zero Nat.one_mul Nat.reduceMul Nat.zero_mul allocK appK bslA fz63 fz64 fz65 fz66 fz67 lenK_esl zcF zbV lenK_tsl rowsFill zcL zcA zbI zcK reduceIte Nat.reduceAdd Nat.reduceEqDiff Nat.reduceLT Nat.reduceLeDiff beq_iff_eq beq_eq_false_iff_ne Int.natCast_inj Bool.not_eq_false' zbD zbx zaE za9 zaw zas za7 zF zaB zaD zE zax zbw zP zH za8 zI zba zaC zbv zbu zL zar zR zaz zQ zay zS zaA za5 zat zae zbd zaG zbc zbb zbe zby zaF zaY zao zaX zaZ zav zaW zaV zaI zaK zaf zac zW z8 zbg zaJ boxK storeK zaq zaM zam zaN zbm zau zbz zbf zX zaa zaP zaQ zan zbn zaO zbr zaU zbp zbA zbs zbo zbq zaR zbC zaS zaT List.all_cons List.all_nil Bool.and_true Bool.and_self Bool.true_and z7 zaH List.set_cons_zero List.set_cons_succ List.length_cons List.length_nil List.nil_append List.cons_append stabL AV.stab fieldAddrA fieldA List.getElem?_cons_zero List.getElem?_cons_succ Nat.zero_add loadA rowOf Nat.le_refl and_self true_and and_true partA binA unA intBin eqBin eqCells eqCell Option.bind_some decide_true decide_false decide_eq_true_eq ite_not Bool.not_eq_true' decide_eq_false_iff_not Bool.false_eq_true Option.map_some Option.map_none Bool.not_true Bool.not_false buildA fillA patch List.take List.drop List.map_cons List.map_nil extK List.getD_cons_zero List.getD_cons_succ minmaxA minmaxGo zJ zV zak zU zai zT zal zaj zah zag zaL zbk zbi zbl zbj zbh bne Bool.false_and Bool.and_false ne_eq not_true_eq_false not_false_eq_true List.append_nil resultsR resultsL resultA za3 zap za2 za4 za0 za1 zZ zbK zad zO zD zbB
set_option maxHeartbeats 4000000

theorem mod_cut {β:Type}{l:List β}(hs:l.length≤1000){a:Int}(h0:0≤a) (h1:a≤255):∃ A B,l=A++B∧a.tmod ((l.length:Int)+1)=(A.length:Int)∧IntKind.wrap .i64 a=a:=by
 have hlt:a.toNat % (l.length+1)<l.length+1:=Nat.mod_lt _ (by omega)
 refine⟨l.take (a.toNat % (l.length+1)),l.drop (a.toNat % (l.length+1)),(List.take_append_drop _ _).symm,?_,zu (by omega) (by omega)⟩
 rw [List.length_take,Nat.min_eq_left (by omega),Int.tmod_eq_emod_of_nonneg h0]
 obtain⟨n,rfl⟩:=Int.eq_ofNat_of_zero_le h0
 rw [Int.toNat_natCast,Int.natCast_emod];rfl

theorem lawFewer45 {pv gv cv:AV}{ps:List Psn}{gs:List Grp}{cs:List Con}{rs:List Ru}(h:RtV pv gv cv (.tsl true 6 (rs.map encRu)) ps gs cs rs) (r:Rec) (hr:r.ok) (pe day:Int) (x:Ru) (hx:x.ok){wh:Int}(hw0:0≤wh) (hw1:wh≤255) :
  EvV CX 9 [.agg [pv,gv,cv,.tsl true 6 (rs.map encRu),.int .i64 r.id,.str r.name,.int .i64 r.len,.int .i64 r.day,r.sv,.int .i64 pe,.int .i64 day],.agg (encRu x),.int .u8 wh] (· = .bool true):=by
 have qa:=awake.rw
 have c1:=h.p.cell
 have c2:=h.g.cell
 have c3:=h.c.cell
 have c4:=h.r.cell
 have c5:=hr.sv.cell
 have c6:=hx.sl.cell
 have s1:=h.p.snap
 have s2:=h.g.snap
 have s3:=h.c.snap
 have s4:=h.r.snap
 have s5:=hr.sv.snap
 have s7:=hx.sl.snap
 have q1:=(rightE45 h r hr pe day).rw
 cases k:rightC ps gs cs rs r with
 | false=>
  rw [k] at q1
  clear k
  refine EvV.walk rfl fn9 rfl nt9 rfl ?_
  simp only [List.length_cons,List.length_nil,List.cons_append,List.nil_append,Nat.reduceAdd,Nat.reduceSub,List.replicate]
  repeat' (first|refine go1 ?_|refine za rfl ?_|(refine go2 fun A B a b=>?_;simp only [go_sem, *,zx,zr ty26 rfl,zh ty26 rfl,zw ty5 ty3 rfl,encRu];(repeat' first|apply a.1|apply b.1|refine iteI (fun h=>?_) fun h=>?_)<;>clear a b A B))
  simp only [go_sem,zx,zr ty26 rfl,zh ty26 rfl,zw ty5 ty3 rfl]
 | true=>
 rw [k] at q1
 by_cases k60:60≤rs.length
 ·have k61:(60:Int)≤(rs.length:Int):=by omega
  clear k k60
  refine EvV.walk rfl fn9 rfl nt9 rfl ?_
  simp only [List.length_cons,List.length_nil,List.cons_append,List.nil_append,Nat.reduceAdd,Nat.reduceSub,List.replicate]
  repeat' (first|refine go1 ?_|refine za rfl ?_|(refine go2 fun A B a b=>?_;simp only [go_sem, *,zx,zr ty26 rfl,zh ty26 rfl,zw ty5 ty3 rfl,zcl,List.length_map,encRu];(repeat' first|apply a.1|apply b.1|refine iteI (fun h=>?_) fun h=>?_)<;>clear a b A B))
  simp only [go_sem,zx,zr ty26 rfl,zh ty26 rfl,zw ty5 ty3 rfl]
 obtain⟨f,_,g,hc,hr2⟩:=right_out k
 obtain⟨f1,f2,f3,f4,_⟩:=few_out f
 have k61:¬(60:Int)≤(rs.length:Int):=by omega
 by_cases k25:25<x.gl.length
 ·have k26:(25:Int)<(x.gl.length:Int):=by omega
  clear k k60 k25 f f1 f2 f3 f4 g hc hr2
  refine EvV.walk rfl fn9 rfl nt9 rfl ?_
  simp only [List.length_cons,List.length_nil,List.cons_append,List.nil_append,Nat.reduceAdd,Nat.reduceSub,List.replicate]
  repeat' (first|refine go1 ?_|refine za rfl ?_|(refine go2 fun A B a b=>?_;simp only [go_sem, *,zx,zr ty26 rfl,zh ty26 rfl,zw ty5 ty3 rfl,zcl,zA hx.sl,zc,List.length_map,encRu];(repeat' first|apply a.1|apply b.1|refine iteI (fun h=>?_) fun h=>?_)<;>clear a b A B))
  simp only [go_sem,zx,zr ty26 rfl,zh ty26 rfl,zw ty5 ty3 rfl]
 have k26:¬(25:Int)<(x.gl.length:Int):=by omega
 have q8:=(ruleR (u := .flat (.slice none 0 0)) (recs:=[]) h (.nil rfl) (fun _ h=>by cases h) (by simp) (by omega) x hx (by omega)).rw
 by_cases k0:ruleF [] gs x=0
 rotate_left
 ·have k0b:(ruleF [] gs x == 0)=false:=beq_false_of_ne k0
  simp only [encRu] at q8
  generalize ruleF [] gs x=E at *
  clear k k60 k25 k0 f f1 f2 f3 f4 g hc hr2
  refine EvV.walk rfl fn9 rfl nt9 rfl ?_
  simp only [List.length_cons,List.length_nil,List.cons_append,List.nil_append,Nat.reduceAdd,Nat.reduceSub,List.replicate]
  repeat' (first|refine go1 ?_|refine za rfl ?_|(refine go2 fun A B a b=>?_;simp only [go_sem, *,zx,zr ty26 rfl,zh ty26 rfl,zw ty5 ty3 rfl,zcl,zA hx.sl,zc,List.length_map,encRu];(repeat' first|apply a.1|apply b.1|refine iteI (fun h=>?_) fun h=>?_)<;>clear a b A B))
  simp only [go_sem,zx,zr ty26 rfl,zh ty26 rfl,zw ty5 ty3 rfl]
 rw [k0] at q8
 simp only [encRu] at q8
 obtain⟨A,B,hA,m1,w1⟩:=mod_cut (l:=rs) (by omega) hw0 hw1
 have w2:IntKind.wrap .i64 ((rs.length:Int)+1)=(rs.length:Int)+1:=zu (by omega) (by omega)
 have z4:¬(rs.length:Int)+1=0:=by omega
 subst hA
 have h':=h.rul (x:=x) hx false
 have f':=few_mid (x:=x) f (by omega) (by omega)
 have e1:(A++x::B).map encRu=A.map encRu++[.int .i64 x.rc,.int .i64 x.sp.1,.int .i64 x.sp.2,.int .i64 x.lv,x.gv,.int .i64 x.un]::B.map encRu:=by simp [encRu]
 rw [e1] at h'
 have q2:=(spansMM h' f' r hr (by omega) pe day).rw
 have q3:=(spansMM h f r hr (by omega) pe day).rw
 have s6:∀ l S,snap S (.tsl true 2 (Fo.spans l))=some (.tsl true 2 (Fo.spans l)):=fun l S=>by simp only [snap]
 have n1:=spF_len (gs:=gs) (cs:=cs) (pe:=pe) (day:=day) hr2 f4
 have n2:(spF ps gs cs (A++x::B) r pe day).length≤100:=spF_len hr2 (few_out f').2.2.2.1
 have e:=inside_nil (spF_norm ps gs cs (A++x::B) r pe day) (spF_norm ps gs cs (A++B) r pe day) (sp_fewer A x B)
 have hfin:((x.rc == r.id)=false∧spF ps gs cs (A++x::B) r pe day=spF ps gs cs (A++B) r pe day)∨(x.rc == r.id)=true:=by
  by_cases kr:x.rc=r.id
  ·exact .inr (by simpa using kr)
  ·exact .inl ⟨beq_false_of_ne kr,sp_other A x B kr⟩
 generalize spF ps gs cs (A++x::B) r pe day=L2 at *
 generalize spF ps gs cs (A++B) r pe day=L at *
 have q4:=(insideE (.tsl true 2 (Fo.spans L2)) (.tsl true 2 (Fo.spans L)) L2 L (.rows true) (.rows true) (by omega) (by omega)).rw
 rw [e] at q4
 have b0:(((([]:List (Int×Int)).length:Nat):Int) == 0)=true:=rfl
 rw [b0] at q4
 have c7:=hx.st
 have hl:A.length+B.length≤65:=by rw [←List.length_append];exact f4
 simp only [List.length_append] at k61 m1 w2 z4
 have i1:=slice_to (X:=CX) (k := .i64) (st:=true) (sz:=6) ty26 ty58 rfl (rows:=(A++B).map encRu) (n:=A.length) (rows':=A.map encRu) (by simp) (by simp)
 have i2:=slice_from (X:=CX) (k := .i64) (st:=true) (sz:=6) ty26 ty58 rfl (rows:=(A++B).map encRu) (n:=A.length) (rows':=B.map encRu) (by simp) (by simp)
 clear k k60 k25 k0 f f1 f2 f3 f4 g hc hr2 h' f' e1 e b0
 have bb:(A.length+1+B.length)*64≤140737488355328∧A.length+1+B.length≤140737488355328:=by omega
 rcases A with _|⟨a,A⟩
 ·rcases B with _|⟨b,B⟩
  ·simp only [List.nil_append,List.map_nil,List.length_nil,Nat.zero_add] at *
   clear bb hl
   rcases hfin with ⟨kr,e⟩|kr
   ·subst e
    have q6:=(Fo.sameR (.tsl true 2 (Fo.spans L2)) (.tsl true 2 (Fo.spans L2)) L2 L2 (.rows true) (.rows true) (by omega)).rw
    simp only [decide_true] at q6
    clear n1 n2
    refine EvV.walk rfl fn9 rfl nt9 rfl ?_
    simp only [List.length_cons,List.length_nil,List.cons_append,List.nil_append,Nat.reduceAdd,Nat.reduceSub,List.replicate]
    repeat' (first|refine go1 ?_|refine za rfl ?_|(refine go2 fun A B a b=>?_;simp only [go_sem, *,zx,zr ty26 rfl,zh ty26 rfl,zw ty5 ty3 rfl,zcl,zA hx.sl,zc,zp,Nat.zero_le,zb,ze,zm,List.append_assoc,List.length_append,List.length_map,Bool.false_or,encRu,zab,zC,List.take_length,Bool.true_or];(repeat' first|apply a.1|apply b.1|refine iteI (fun h=>?_) fun h=>?_)<;>clear a b A B))
    simp only [go_sem,zx,zr ty26 rfl,zh ty26 rfl,zw ty5 ty3 rfl]
   ·clear n1 n2
    refine EvV.walk rfl fn9 rfl nt9 rfl ?_
    simp only [List.length_cons,List.length_nil,List.cons_append,List.nil_append,Nat.reduceAdd,Nat.reduceSub,List.replicate]
    repeat' (first|refine go1 ?_|refine za rfl ?_|(refine go2 fun A B a b=>?_;simp only [go_sem, *,zx,zr ty26 rfl,zh ty26 rfl,zw ty5 ty3 rfl,zcl,zA hx.sl,zc,zp,Nat.zero_le,zb,ze,zm,List.append_assoc,List.length_append,List.length_map,Bool.false_or,encRu,zab,zC,List.take_length,Bool.true_or];(repeat' first|apply a.1|apply b.1|refine iteI (fun h=>?_) fun h=>?_)<;>clear a b A B))
    simp only [go_sem,zx,zr ty26 rfl,zh ty26 rfl,zw ty5 ty3 rfl]
  ·generalize hB:b::B=B' at *
   have n3:¬B'.length=0:=by rw [←hB];simp
   have n4:(1+B'.length)*64≤140737488355328:=by simp at bb;omega
   have n5:1+B'.length≤140737488355328:=by omega
   simp only [List.nil_append,List.map_nil,List.length_nil,Nat.zero_add] at *
   have ta:1+B'.length≤B'.length+1:=by omega
   have tb:∀ R:List AV,List.take (1+B'.length) (R::B'.map encRu)=R::B'.map encRu:=fun R=>List.take_of_length_le (by simp;omega)
   clear bb hl hB
   rcases hfin with ⟨kr,e⟩|kr
   ·subst e
    have q6:=(Fo.sameR (.tsl true 2 (Fo.spans L2)) (.tsl true 2 (Fo.spans L2)) L2 L2 (.rows true) (.rows true) (by omega)).rw
    simp only [decide_true] at q6
    clear n1 n2
    refine EvV.walk rfl fn9 rfl nt9 rfl ?_
    simp only [List.length_cons,List.length_nil,List.cons_append,List.nil_append,Nat.reduceAdd,Nat.reduceSub,List.replicate]
    repeat' (first|refine go1 ?_|refine za rfl ?_|(refine go2 fun A B a b=>?_;simp only [go_sem, *,zx,zr ty26 rfl,zh ty26 rfl,zw ty5 ty3 rfl,zcl,zA hx.sl,zc,zp,Nat.zero_le,zb,ze,zm,List.append_assoc,List.length_append,List.length_map,Bool.false_or,encRu,zab,zC,List.take_length,Bool.true_or];(repeat' first|apply a.1|apply b.1|refine iteI (fun h=>?_) fun h=>?_)<;>clear a b A B))
    simp only [go_sem,zx,zr ty26 rfl,zh ty26 rfl,zw ty5 ty3 rfl]
   ·clear n1 n2
    refine EvV.walk rfl fn9 rfl nt9 rfl ?_
    simp only [List.length_cons,List.length_nil,List.cons_append,List.nil_append,Nat.reduceAdd,Nat.reduceSub,List.replicate]
    repeat' (first|refine go1 ?_|refine za rfl ?_|(refine go2 fun A B a b=>?_;simp only [go_sem, *,zx,zr ty26 rfl,zh ty26 rfl,zw ty5 ty3 rfl,zcl,zA hx.sl,zc,zp,Nat.zero_le,zb,ze,zm,List.append_assoc,List.length_append,List.length_map,Bool.false_or,encRu,zab,zC,List.take_length,Bool.true_or];(repeat' first|apply a.1|apply b.1|refine iteI (fun h=>?_) fun h=>?_)<;>clear a b A B))
    simp only [go_sem,zx,zr ty26 rfl,zh ty26 rfl,zw ty5 ty3 rfl]
 ·generalize hA:a::A=A' at *
  have n3:¬A'.length=0:=by rw [←hA];simp
  have n4:A'.length*64≤140737488355328∧A'.length≤140737488355328:=by omega
  have n5:(A'.length+1)*64≤140737488355328:=by omega
  have n6:A'.length+1≤140737488355328:=by omega
  rcases B with _|⟨b,B⟩
  ·simp only [List.append_nil,List.map_nil,List.length_nil,Nat.add_zero] at *
   have tc:∀ R:List AV,List.take (A'.length+1) (A'.map encRu++[R])=A'.map encRu++[R]:=fun R=>List.take_of_length_le (by simp)
   clear bb hl hA
   rcases hfin with ⟨kr,e⟩|kr
   ·subst e
    have q6:=(Fo.sameR (.tsl true 2 (Fo.spans L2)) (.tsl true 2 (Fo.spans L2)) L2 L2 (.rows true) (.rows true) (by omega)).rw
    simp only [decide_true] at q6
    clear n1 n2
    refine EvV.walk rfl fn9 rfl nt9 rfl ?_
    simp only [List.length_cons,List.length_nil,List.cons_append,List.nil_append,Nat.reduceAdd,Nat.reduceSub,List.replicate]
    repeat' (first|refine go1 ?_|refine za rfl ?_|(refine go2 fun A B a b=>?_;simp only [go_sem, *,zx,zr ty26 rfl,zh ty26 rfl,zw ty5 ty3 rfl,zcl,zA hx.sl,zc,zp,Nat.zero_le,zb,ze,zm,List.append_assoc,List.length_append,List.length_map,Bool.false_or,encRu,zab,zC,List.take_length,Bool.true_or];(repeat' first|apply a.1|apply b.1|refine iteI (fun h=>?_) fun h=>?_)<;>clear a b A B))
    simp only [go_sem,zx,zr ty26 rfl,zh ty26 rfl,zw ty5 ty3 rfl]
   ·clear n1 n2
    refine EvV.walk rfl fn9 rfl nt9 rfl ?_
    simp only [List.length_cons,List.length_nil,List.cons_append,List.nil_append,Nat.reduceAdd,Nat.reduceSub,List.replicate]
    repeat' (first|refine go1 ?_|refine za rfl ?_|(refine go2 fun A B a b=>?_;simp only [go_sem, *,zx,zr ty26 rfl,zh ty26 rfl,zw ty5 ty3 rfl,zcl,zA hx.sl,zc,zp,Nat.zero_le,zb,ze,zm,List.append_assoc,List.length_append,List.length_map,Bool.false_or,encRu,zab,zC,List.take_length,Bool.true_or];(repeat' first|apply a.1|apply b.1|refine iteI (fun h=>?_) fun h=>?_)<;>clear a b A B))
    simp only [go_sem,zx,zr ty26 rfl,zh ty26 rfl,zw ty5 ty3 rfl]
  ·generalize hB:b::B=B' at *
   have n7:¬B'.length=0:=by rw [←hB];simp
   obtain⟨n8,n9⟩:=bb
   have te:A'.length+1+B'.length≤A'.length+(B'.length+1):=by omega
   have td:∀ R:List AV,List.take (A'.length+1+B'.length) (A'.map encRu++R::B'.map encRu)=A'.map encRu++R::B'.map encRu:=fun R=>List.take_of_length_le (by simp;omega)
   clear hl hA hB
   rcases hfin with ⟨kr,e⟩|kr
   ·subst e
    have q6:=(Fo.sameR (.tsl true 2 (Fo.spans L2)) (.tsl true 2 (Fo.spans L2)) L2 L2 (.rows true) (.rows true) (by omega)).rw
    simp only [decide_true] at q6
    clear n1 n2
    refine EvV.walk rfl fn9 rfl nt9 rfl ?_
    simp only [List.length_cons,List.length_nil,List.cons_append,List.nil_append,Nat.reduceAdd,Nat.reduceSub,List.replicate]
    repeat' (first|refine go1 ?_|refine za rfl ?_|(refine go2 fun A B a b=>?_;simp only [go_sem, *,zx,zr ty26 rfl,zh ty26 rfl,zw ty5 ty3 rfl,zcl,zA hx.sl,zc,zp,Nat.zero_le,zb,ze,zm,List.append_assoc,List.length_append,List.length_map,Bool.false_or,encRu,zab,zC,List.take_length,Bool.true_or];(repeat' first|apply a.1|apply b.1|refine iteI (fun h=>?_) fun h=>?_)<;>clear a b A B))
    simp only [go_sem,zx,zr ty26 rfl,zh ty26 rfl,zw ty5 ty3 rfl]
   ·clear n1 n2
    refine EvV.walk rfl fn9 rfl nt9 rfl ?_
    simp only [List.length_cons,List.length_nil,List.cons_append,List.nil_append,Nat.reduceAdd,Nat.reduceSub,List.replicate]
    repeat' (first|refine go1 ?_|refine za rfl ?_|(refine go2 fun A B a b=>?_;simp only [go_sem, *,zx,zr ty26 rfl,zh ty26 rfl,zw ty5 ty3 rfl,zcl,zA hx.sl,zc,zp,Nat.zero_le,zb,ze,zm,List.append_assoc,List.length_append,List.length_map,Bool.false_or,encRu,zab,zC,List.take_length,Bool.true_or];(repeat' first|apply a.1|apply b.1|refine iteI (fun h=>?_) fun h=>?_)<;>clear a b A B))
    simp only [go_sem,zx,zr ty26 rfl,zh ty26 rfl,zw ty5 ty3 rfl]
end Go.Eng
