/- Part 8 of the texts behind this claim. -/
import Derived.Test.YtpdacimgcojgnaaGreatDoorZ7
set_option linter.all false

/- Rights: the law Agrees. -/
namespace Go.Eng
open Go.Proofs
attribute [local irreducible] wpC wpO wp1 EvV EvR wpL
attribute [local go_sem] ty3 ty4 ty9 ty23 ty24 ty25 ty26 ty28 ty29 ty31 ty34 ty38 ty40 ty44 ty47 ty53 ty58 ty66 ty68 eq47 br13 br17 br18 br21 br23 br30 fz77 fz78 fz79 fz80 fz81 fz83 reduceIte Nat.reduceAdd Nat.reduceEqDiff Nat.reduceLT Nat.reduceLeDiff beq_iff_eq beq_eq_false_iff_ne Int.natCast_inj Bool.not_eq_false' zbB zbw zaA za6 zas zao za4 zD zax zaz zC zat zbv zN zG za5 zH za7 zay zbu zbt zL zan zP zav zO zau zQ zaw za2 zap z8 zba zaC za9 za8 zbb zbx zaB zaU zaj zaT zaV zar zaS zaR zaE zaG zaa z7 zV zZ zbd zaF boxK storeK zam zaI zah zaJ zbj zaq zby zbc zW z6 zaL zaM zai zbk zaK zbo zaQ zbm zbz zbp zbl zbn zaN zbA zaO zaP List.all_cons List.all_nil Bool.and_true Bool.and_self Bool.true_and zY zaD List.set_cons_zero List.set_cons_succ List.length_cons List.length_nil List.nil_append List.cons_append stabL AV.stab fieldAddrA fieldA List.getElem?_cons_zero List.getElem?_cons_succ Nat.zero_add loadA rowOf Nat.le_refl and_self true_and and_true partA binA unA intBin eqBin eqCells eqCell Option.bind_some decide_true decide_false decide_eq_true_eq ite_not Bool.not_eq_true' decide_eq_false_iff_not Bool.false_eq_true Option.map_some Option.map_none Bool.not_true Bool.not_false buildA fillA patch List.take List.drop List.map_cons List.map_nil extK List.getD_cons_zero List.getD_cons_succ minmaxA minmaxGo zI zT zaf zS zad zR zag zae zac zab zaH zbh zbf zbi zbg zbe bne Bool.false_and Bool.and_false ne_eq not_true_eq_false not_false_eq_true List.append_nil resultsR resultsL resultA zaZ zak zaY za0 zaW zaX zX
set_option maxHeartbeats 4000000

theorem spF_in {ps:List Psn}{gs:List Grp}{cs:List Con}{rs:List Ru}{r:Rec}{pe day:Int}:∀ x∈spF ps gs cs rs r pe day,rgt x=true∧x.2≤r.len:=by
 intro x hx
 unfold spF at hx
 split at hx
 ·split at hx
  ·cases hx
  ·obtain⟨n,tm⟩:=minusP_spec [(0,r.len)] (cutL ps gs r pe day rs)
   have hr:=n.1 x hx
   obtain⟨h1,h2,h3⟩:=zbE.1 hr
   have h4:=((tm (x.2-1)).1 ⟨x,hx,by omega,by omega⟩).1
   unfold Tr at h4
   obtain⟨y,hy,_,h5⟩:=h4
   have hy2:=(List.mem_filter.1 hy).1
   simp only [List.mem_cons,List.not_mem_nil,or_false] at hy2
   subst hy2
   exact⟨hr,by simp only at h5;omega⟩
 ·cases hx
theorem spF_base {ps:List Psn}{gs:List Grp}{cs:List Con}{rs:List Ru}{r:Rec}{pe day:Int}(h:baseF ps cs r pe day≠0):spF ps gs cs rs r pe day = []:=by
 unfold spF;rw [if_neg h]
theorem cov_self {L:List (Int×Int)}(h:Norm L){x:Int×Int}(hx:x∈L):covP L x=true:=by
 unfold covP
 rw [uni_norm h,Bool.and_eq_true,List.any_eq_true]
 exact⟨h.1 x hx,x,hx,by simp⟩
theorem cov_in {L:List (Int×Int)}(h:Norm L){s:Int×Int}{n:Int}(hL:∀ x∈L,x.2≤n) (hc:covP L s=true):rgt s=true∧s.2≤n:=by
 unfold covP at hc
 rw [uni_norm h,Bool.and_eq_true,List.any_eq_true] at hc
 obtain⟨h1,x,hx,h2⟩:=hc
 simp only [Bool.and_eq_true,decide_eq_true_eq] at h2
 have:=hL x hx
 exact⟨h1,by omega⟩
theorem may_cov {ps:List Psn}{gs:List Grp}{cs:List Con}{rs:List Ru}{r:Rec}{pe day:Int}(s:Int×Int):maySp ps gs cs rs r pe day s=0↔covP (spF ps gs cs rs r pe day) s=true:=by
 have hn:=spF_norm ps gs cs rs r pe day
 have hi:∀ x∈spF ps gs cs rs r pe day,x.2≤r.len:=fun x hx=>(spF_in x hx).2
 unfold maySp
 by_cases k1:baseF ps cs r pe day=0
 ·rw [if_pos k1]
  by_cases k2:rgt s=true
  ·rw [if_pos k2]
   by_cases k3:r.len<s.2
   ·rw [if_pos k3]
    constructor
    ·intro h;cases h
    ·intro h;have:=(cov_in hn hi h).2;omega
   ·rw [if_neg k3]
    by_cases k4:covP (spF ps gs cs rs r pe day) s=true
    ·rw [if_pos k4];simp [k4]
    ·rw [if_neg k4];simp [k4]
  ·rw [if_neg k2]
   constructor
   ·intro h;cases h
   ·intro h;exact absurd (cov_in hn hi h).1 k2
 ·rw [if_neg k1,spF_base k1]
  constructor
  ·intro h;exact absurd h k1
  ·intro h
   obtain⟨h1,h2⟩:=cov_in (L:=[]) (s:=s) (n := -1) zb7 (by intro x hx;cases hx) h
   have:=(zbE.1 h1).1;have:=(zbE.1 h1).2.1;omega

theorem lawAgrees45 {pv gv cv rv:AV}{ps:List Psn}{gs:List Grp}{cs:List Con}{rs:List Ru}(h:RtV pv gv cv rv ps gs cs rs) (r:Rec) (hr:r.ok) (pe day:Int) (s:Int×Int) :
  EvV CX 12 [.agg [pv,gv,cv,rv,.int .i64 r.id,.str r.name,.int .i64 r.len,.int .i64 r.day,r.sv,.int .i64 pe,.int .i64 day],.agg [.int .i64 s.1,.int .i64 s.2]] (· = .bool true):=by
 have qa:=awake.rw
 have c1:=h.p.cell
 have c2:=h.g.cell
 have c3:=h.c.cell
 have c4:=h.r.cell
 have c5:=hr.sv.cell
 have s1:=h.p.snap
 have s2:=h.g.snap
 have s3:=h.c.snap
 have s4:=h.r.snap
 have s5:=hr.sv.snap
 have q1:=(rightE45 h r hr pe day).rw
 cases k:rightC ps gs cs rs r with
 | false=>
  rw [k] at q1
  clear k
  refine EvV.walk rfl fn12 rfl nt12 rfl ?_
  simp only [List.length_cons,List.length_nil,List.cons_append,List.nil_append,Nat.reduceAdd,Nat.reduceSub,List.replicate]
  repeat' (first|refine go1 ?_|refine za rfl ?_|(refine go2 fun A B a b=>?_;simp only [go_sem, *];(repeat' first|apply a.1|apply b.1|refine iteI (fun h=>?_) fun h=>?_)<;>clear a b A B))
  simp only [go_sem]
 | true=>
  obtain⟨f,_,g,hc,hr2⟩:=right_out k
  obtain⟨f1,f2,f3,f4,_⟩:=zcw f
  rw [k] at q1
  clear k
  have q2:=(spansMM h f r hr (by omega) pe day).rw
  have q3:=fun x=>(maySM h f hc r hr (by omega) (chk_len hr2) pe day x).rw
  have q4:=(baseMM h (by omega) (by omega) r hr (by omega) pe day).rw
  have hn:=spF_norm ps gs cs rs r pe day
  have hi:Hold (∀ x∈spF ps gs cs rs r pe day,maySp ps gs cs rs r pe day x=0∧¬r.len<x.2):=⟨fun x hx=>⟨(may_cov x).2 (cov_self hn hx),by have:=(spF_in x hx).2;omega⟩⟩
  have hb:Hold (baseF ps cs r pe day≠0→spF ps gs cs rs r pe day = []):=⟨spF_base⟩
  have hm:=may_cov (ps:=ps) (gs:=gs) (cs:=cs) (rs:=rs) (r:=r) (pe:=pe) (day:=day) s
  have hcard:=Fo.norm_card hn
  have hll:(spF ps gs cs rs r pe day).length≤100:=by
   unfold spF
   split
   ·split
    ·simp
    ·rw [minusP_eq,←cuts_eq (zb2.2 (chk_len hr2))]
     have a:=cuts_len (zb2.2 (chk_len hr2)) (cutL ps gs r pe day rs)
     have b:(cutL ps gs r pe day rs).length≤rs.length:=by unfold cutL;rw [List.length_map];exact List.length_filter_le _ _
     simp only [List.length_cons,List.length_nil] at a
     omega
   ·simp
  have q3s:=q3 s
  obtain⟨mF,hmF⟩:∃ mF,maySp ps gs cs rs r pe day=mF:=⟨_,rfl⟩
  rw [hmF] at hi hm q3s
  simp only [hmF] at q3
  generalize spF ps gs cs rs r pe day=L at *
  generalize baseF ps cs r pe day=B at *
  have q5:=Fo.covRE (.tsl true 2 (Fo.spans L)) L s (.rows true) (by omega)
  rw [←cov_eq] at q5
  simp only [Fo.encE] at q5
  have q5:=q5.rw
  have s6:∀ l S,snap S (.tsl true 2 (Fo.spans l))=some (.tsl true 2 (Fo.spans l)):=fun l S=>by simp only [snap]
  have hv:SLs 2 (Fo.spans L) (.tsl true 2 (Fo.spans L)) := .rows true
  have hq3:Hold (∀ x:Int×Int,_):=⟨q3⟩
  clear f f1 f2 f3 f4 g hc hr2 hn hcard hmF q3
  refine EvV.walk rfl fn12 rfl nt12 rfl ?_
  simp only [List.length_cons,List.length_nil,List.cons_append,List.nil_append,Nat.reduceAdd,Nat.reduceSub,List.replicate]
  repeat' (first|refine go1 ?_|refine za rfl ?_|(refine go2 fun A B a b=>?_;simp only [go_sem, *,zy hv,Fo.spans_len];(repeat' first|apply a.1|apply b.1|refine iteI (fun h=>?_) fun h=>?_)<;>clear a b A B))
  refine zbH [4,6,21,22,23,24,25,26,27,28,29,30,31,32,33,34,35,36,37,38,39,40,41,42,43,44,45,46] 20 L (fun _ _=>True) ?_ ?_ ?_ ?_
  ·trivial
  ·((try simp only [zg,zh,zc,ze,List.set_cons_zero,List.set_cons_succ]);all_goals (first|rfl|(simp only [zk,zj,zd,List.length_map,List.length_append,List.length_cons,List.length_nil,Nat.zero_add];first|done|rfl)))
  ·intro g G _
   have bm:(mF s == 0)=covP L s:=by rw [Bool.eq_iff_iff];simp [hm]
   have hb2:B=0∨(B == 0)=false∧¬(0:Int)<(L.length:Int):=by
    by_cases e:B=0
    ·exact .inl e
    ·refine .inr ⟨beq_false_of_ne e,?_⟩;rw [hb.out e];simp
   clear hm hi hb hq3 hll
   generalize mF s=m at *
   generalize covP L s=C at *
   cases C
   all_goals
    rcases hb2 with rfl|⟨b1,b2⟩
    all_goals
     simp only [zm,zq,zc,ze,List.set_cons_zero,List.set_cons_succ]
     repeat' (first|refine go1 ?_|refine za rfl ?_|(refine go2 fun A B a b=>?_;simp only [go_sem, *,Int.lt_irrefl,zy hv,Fo.spans_len];(repeat' first|apply a.1|apply b.1|refine iteI (fun h=>?_) fun h=>?_)<;>clear a b A B))
     simp only [go_sem]
  ·intro g G pre x post h1 _
   have hpl:pre.length<L.length:=by rw [h1];simp
   have lt1:(pre.length:Int)<(L.length:Int):=by omega
   have w1:=zx (n:=pre.length) (by omega)
   have i1:=zbq hv (X:=CX) ty44 ty47 rfl (n:=pre.length) (row:=[.int .i64 x.1,.int .i64 x.2]) (k := .i64) (by rw [h1];simp [Fo.spans,Fo.encE])
   obtain⟨m0,m1⟩:=hi.out x (by rw [h1];simp)
   have q:=hq3.out x
   rw [m0] at q
   have hh1:Hold (L=pre++x::post):=⟨h1⟩
   clear h1 hpl m0 q5 q3s hm
   simp only [zm,zq,zc,ze,List.set_cons_zero,List.set_cons_succ]
   repeat' (first|refine go1 ?_|refine za rfl ?_|(refine go2 fun A B a b=>?_;simp only [go_sem, *,zy hv,Fo.spans_len];(repeat' first|apply a.1|apply b.1|refine iteI (fun h=>?_) fun h=>?_)<;>clear a b A B))
   refine za3 hh1.out trivial ?_ ?_
   ·((try simp only [zg,zh,zc,ze,List.set_cons_zero,List.set_cons_succ]);all_goals (first|rfl|(simp only [zk,zj,zd,List.length_map,List.length_append,List.length_cons,List.length_nil,Nat.zero_add];first|done|rfl)))
   ·first|exact⟨[],(List.append_nil _).symm⟩|exact⟨_,rfl⟩|(simp only [List.append_assoc,List.cons_append,List.nil_append];exact⟨_,rfl⟩)
end Go.Eng

/- Rights: what the public may use, everybody may use (plain). -/
namespace Go.Eng
open Go.Proofs

theorem errPF_pos:∀ {l pre:List Psn},errPF pre l=0→∀ p∈l,1≤p.id
 | [],_,_,p,hp=>by cases hp
 | x::l,pre,h,p,hp=>by
  rw [errPF] at h
  by_cases k:errP pre x=0
  ·rw [if_pos k] at h
   rcases List.mem_cons.1 hp with rfl|hp
   ·unfold errP at k
    split at k
    ·rename_i e
     simp only [idOK,Bool.and_eq_true,decide_eq_true_eq] at e
     omega
    ·cases k
   ·exact errPF_pos h p hp
  ·rw [if_neg k] at h;exact absurd h k
theorem ppl_pos {ps:List Psn}(h:pplF ps=0):isP ps 0=false:=by
 unfold pplF at h
 split at h
 ·unfold isP pFind
  cases e:ps.find? (fun p=>p.id == 0) with
  | none=>rfl
  | some p=>
   have h1:=errPF_pos h p (List.mem_of_find?_eq_some e)
   have h2:=List.find?_some e
   simp only [beq_iff_eq] at h2
   omega
 ·cases h
theorem errF_ppl {ps:List Psn}:∀ {l pre:List Grp},errF ps pre l=0→∀ g∈l,g.people.all (isP ps)=true
 | [],_,_,g,hg=>by cases hg
 | x::l,pre,h,g,hg=>by
  rw [errF] at h
  by_cases k:errG ps pre x=0
  ·rw [if_pos k] at h
   rcases List.mem_cons.1 hg with rfl|hg
   ·unfold errG at k
    split at k
    ·split at k
     ·split at k
      ·split at k
       ·split at k
        ·assumption
        ·cases k
       ·cases k
      ·cases k
     ·cases k
    ·cases k
   ·exact errF_ppl h g hg
  ·rw [if_neg k] at h;exact absurd h k
theorem mem_public {ps:List Psn}{gs:List Grp}(hp:isP ps 0=false) (h:chkG ps gs=0) (n:Int):(members gs n).contains 0=false:=by
 have hF:errF ps [] gs=0:=by
  unfold chkG at h
  split at h
  ·split at h
   ·assumption
   ·rename_i k;exact absurd h k
  ·cases h
 cases e:(members gs n).contains 0 with
 | false=>rfl
 | true=>
  have e1:(0:Int)∈members gs n:=by simpa using e
  unfold members at e1
  rw [zbS] at e1
  unfold pplOf at e1
  obtain⟨x,_,hx⟩:=List.mem_flatMap.1 e1
  rcases zcd gs x with ⟨_,e2⟩|⟨_,_,e2⟩
  ·rw [e2] at hx;cases hx
  ·have:=List.all_eq_true.1 (errF_ppl hF _ e2) 0 hx
   rw [hp] at this;cases this
theorem may_public {ps:List Psn}{gs:List Grp}(hp:isP ps 0=false) (h:chkG ps gs=0){lv un pe day:Int}{gl:List Int}(h0:mayF ps gs lv gl un 0 day=true):mayF ps gs lv gl un pe day=true:=by
 unfold mayF at h0 ⊢
 by_cases k1:day<un
 ·rw [if_pos k1] at h0;cases h0
 ·rw [if_neg k1] at h0 ⊢
  by_cases k2:lv=2
  ·rw [if_pos k2,List.any_eq_true] at h0
   obtain⟨g,_,hg⟩:=h0
   rw [mem_public hp h g] at hg;cases hg
  ·rw [if_neg k2] at h0 ⊢
   by_cases k3:lv=3
   ·rw [if_pos k3] at h0;cases h0
   ·rw [if_neg k3] at h0 ⊢
    by_cases k4:lv=1
    ·rw [if_pos k4,hp] at h0;cases h0
    ·rw [if_neg k4]
theorem base_public {ps:List Psn}{cs:List Con}{r:Rec}{pe day:Int}(hp:isP ps 0=false) (h:baseF ps cs r 0 day=0):baseF ps cs r pe day=0:=by
 have hm:memB ps 0=false:=by unfold memB;rw [hp];rfl
 unfold baseF at h ⊢
 rw [hm] at h
 generalize r.sp=l at *
 induction l with
 | nil=>rfl
 | cons s l ih=>
  rw [baseGo] at h ⊢
  by_cases k1:atF cs s r.id day=0
  ·rw [if_pos k1] at h;cases h
  ·rw [if_neg k1] at h ⊢
   by_cases k2:atF cs s r.id day=1
   ·rw [if_pos ⟨k2,rfl⟩] at h;cases h
   ·rw [if_neg (fun e=>k2 e.1)] at h ⊢
    exact ih h
theorem sp_public {ps:List Psn}{gs:List Grp}{cs:List Con}{rs:List Ru}{r:Rec}{pe day:Int}(hc:chkRt ps [] gs cs rs=0):∀ t,Tm (spF ps gs cs rs r 0 day) t→Tm (spF ps gs cs rs r pe day) t:=by
 intro t ht
 obtain⟨hpp,_,hg,_,_,_⟩:=chkRt_out hc
 have hp:=ppl_pos hpp
 have hcut:∀ x,cutB ps gs r pe day x=true→cutB ps gs r 0 day x=true:=fun x hx=>by
  unfold cutB at hx ⊢
  rw [Bool.and_eq_true] at hx ⊢
  refine⟨hx.1,?_⟩
  cases e:mayF ps gs x.lv x.gl x.un 0 day with
  | false=>rfl
  | true=>rw [may_public hp hg e] at hx;cases hx.2
 by_cases k1:baseF ps cs r 0 day=0
 rotate_left
 ·rw [spF_base k1] at ht;exact absurd ht zbR
 have k2:=base_public (pe:=pe) hp k1
 unfold spF at ht ⊢
 rw [if_pos k1] at ht
 rw [if_pos k2]
 by_cases z:(rs.filter (cutB ps gs r 0 day)).any zeroB=true
 ·rw [if_pos z] at ht;exact absurd ht zbR
 rw [if_neg z] at ht
 have z2:¬(rs.filter (cutB ps gs r pe day)).any zeroB=true:=fun e=>z (by
  obtain⟨x,hx,hz⟩:=List.any_eq_true.1 e
  have hm:=List.mem_filter.1 hx
  exact List.any_eq_true.2 ⟨x,List.mem_filter.2 ⟨hm.1,hcut x hm.2⟩,hz⟩)
 rw [if_neg z2]
 rw [(minusP_spec _ _).2] at ht ⊢
 refine⟨ht.1,fun k=>ht.2 ?_⟩
 unfold Tr at k ⊢
 obtain⟨y,hy,h1,h2⟩:=k
 have hy2:=List.mem_filter.1 hy
 refine⟨y,List.mem_filter.2 ⟨?_,hy2.2⟩,h1,h2⟩
 unfold cutL at hy2 ⊢
 obtain⟨x,hx,rfl⟩:=List.mem_map.1 hy2.1
 have hm:=List.mem_filter.1 hx
 exact List.mem_map.2 ⟨x,List.mem_filter.2 ⟨hm.1,hcut x hm.2⟩,rfl⟩
end Go.Eng

/- Rights: the law Public. -/
namespace Go.Eng
open Go.Proofs
attribute [local irreducible] wpC wpO wp1 EvV EvR wpL
attribute [local go_sem] ty3 ty4 ty44 ty47 eq47 br47 fz88 ty9 ty23 ty24 ty25 ty26 ty28 ty29 ty31 ty38 ty40 ty53 ty58 ty66 ty68 br13 br17 br21 br29 fz68 fz69 fz70 reduceIte Nat.reduceAdd Nat.reduceEqDiff Nat.reduceLT Nat.reduceLeDiff beq_iff_eq beq_eq_false_iff_ne Int.natCast_inj Bool.not_eq_false' zbB zbw zaA za6 zas zao za4 zD zax zaz zC zat zbv zN zG za5 zH za7 zay zbu zbt zL zan zP zav zO zau zQ zaw za2 zap z8 zba zaC za9 za8 zbb zbx zaB zaU zaj zaT zaV zar zaS zaR zaE zaG zaa z7 zV zZ zbd zaF boxK storeK zam zaI zah zaJ zbj zaq zby zbc zW z6 zaL zaM zai zbk zaK zbo zaQ zbm zbz zbp zbl zbn zaN zbA zaO zaP List.all_cons List.all_nil Bool.and_true Bool.and_self Bool.true_and zY zaD List.set_cons_zero List.set_cons_succ List.length_cons List.length_nil List.nil_append List.cons_append stabL AV.stab fieldAddrA fieldA List.getElem?_cons_zero List.getElem?_cons_succ Nat.zero_add loadA rowOf Nat.le_refl and_self true_and and_true partA binA unA intBin eqBin eqCells eqCell Option.bind_some decide_true decide_false decide_eq_true_eq ite_not Bool.not_eq_true' decide_eq_false_iff_not Bool.false_eq_true Option.map_some Option.map_none Bool.not_true Bool.not_false buildA fillA patch List.take List.drop List.map_cons List.map_nil extK List.getD_cons_zero List.getD_cons_succ minmaxA minmaxGo zI zT zaf zS zad zR zag zae zac zab zaH zbh zbf zbi zbg zbe bne Bool.false_and Bool.and_false ne_eq not_true_eq_false not_false_eq_true List.append_nil resultsR resultsL resultA zaZ zak zaY za0 zaW zaX zX
set_option maxHeartbeats 4000000

theorem lenT45 {sz:Nat}{rows:List (List AV)}{a c:Nat}{b:Bool}{d:List AV}{el:TypeId}:lenK (some ⟨a,b,c,d,.slice el⟩) (.tsl true sz rows)=some (.int .i64 rows.length):=zy (.rows true)
theorem insideE (v w:AV) (a b:List (Int×Int)) (hv:SLs 2 (Fo.spans a) v) (hw:SLs 2 (Fo.spans b) w) (ha:a.length≤500000) (hb:b.length≤500000):EvV CX 29 [v,w] (· = .bool ((((minusR a b).length:Nat):Int) == 0)):=by
 have s1:=hv.snap
 have s2:=hw.snap
 have q:=(Fo.minusRE v w a b hv hw ha hb).rw
 generalize minusR a b=M at *
 refine EvV.walk rfl fn29 rfl nt29 rfl ?_
 simp only [List.length_cons,List.length_nil,List.cons_append,List.nil_append,Nat.reduceAdd,Nat.reduceSub,List.replicate]
 repeat' (first|refine go1 ?_|refine za rfl ?_|(refine go2 fun A B a b=>?_;simp only [go_sem, *,lenT45,zp,Nat.zero_le,zb,zf,zo,List.append_assoc,List.length_append,Fo.spans_len,zK,za1,zd,zA,List.take_length,Bool.true_or];(repeat' first|apply a.1|apply b.1|refine iteI (fun h=>?_) fun h=>?_)<;>clear a b A B))
 simp only [go_sem]

theorem inside_nil {a b:List (Int×Int)}(ha:Norm a) (hb:Norm b) (h:∀ t,Tm a t→Tm b t):minusR a b = []:=by
 obtain⟨h1,h2⟩:=minusR_spec a b
 rw [norm_empty h1]
 intro t ht
 have:=(h2 t).1 ht
 rw [Tr_norm ha,Tr_norm hb] at this
 exact this.2 (h t this.1)

theorem spF_len {ps:List Psn}{gs:List Grp}{cs:List Con}{rs:List Ru}{r:Rec}{pe day:Int}(hr2:chkC ps r=0) (hl:rs.length≤65):(spF ps gs cs rs r pe day).length≤100:=by
 unfold spF
 split
 ·split
  ·simp
  ·rw [minusP_eq,←cuts_eq (zb2.2 (chk_len hr2))]
   have a:=cuts_len (zb2.2 (chk_len hr2)) (cutL ps gs r pe day rs)
   have b:(cutL ps gs r pe day rs).length≤rs.length:=by unfold cutL;rw [List.length_map];exact List.length_filter_le _ _
   simp only [List.length_cons,List.length_nil] at a
   omega
 ·simp

theorem lawPublic45 {pv gv cv rv:AV}{ps:List Psn}{gs:List Grp}{cs:List Con}{rs:List Ru}(h:RtV pv gv cv rv ps gs cs rs) (r:Rec) (hr:r.ok) (pe day:Int) :
  EvV CX 10 [.agg [pv,gv,cv,rv,.int .i64 r.id,.str r.name,.int .i64 r.len,.int .i64 r.day,r.sv,.int .i64 pe,.int .i64 day]] (· = .bool true):=by
 have qa:=awake.rw
 have c1:=h.p.cell
 have c2:=h.g.cell
 have c3:=h.c.cell
 have c4:=h.r.cell
 have c5:=hr.sv.cell
 have s1:=h.p.snap
 have s2:=h.g.snap
 have s3:=h.c.snap
 have s4:=h.r.snap
 have s5:=hr.sv.snap
 have q1:=(rightE45 h r hr pe day).rw
 cases k:rightC ps gs cs rs r with
 | false=>
  rw [k] at q1
  clear k
  refine EvV.walk rfl fn10 rfl nt10 rfl ?_
  simp only [List.length_cons,List.length_nil,List.cons_append,List.nil_append,Nat.reduceAdd,Nat.reduceSub,List.replicate]
  repeat' (first|refine go1 ?_|refine za rfl ?_|(refine go2 fun A B a b=>?_;simp only [go_sem, *];(repeat' first|apply a.1|apply b.1|refine iteI (fun h=>?_) fun h=>?_)<;>clear a b A B))
  simp only [go_sem]
 | true=>
  obtain⟨f,_,g,hc,hr2⟩:=right_out k
  obtain⟨f1,f2,f3,f4,_⟩:=zcw f
  rw [k] at q1
  clear k
  have q2:=(spansMM h f r hr (by omega) 0 day).rw
  have q3:=(spansMM h f r hr (by omega) pe day).rw
  have e:=inside_nil (spF_norm ps gs cs rs r 0 day) (spF_norm ps gs cs rs r pe day) (sp_public hc)
  have l1:=spF_len (gs:=gs) (cs:=cs) (pe:=0) (day:=day) hr2 f4
  have l2:=spF_len (gs:=gs) (cs:=cs) (pe:=pe) (day:=day) hr2 f4
  generalize spF ps gs cs rs r 0 day=A at *
  generalize spF ps gs cs rs r pe day=B at *
  have q4:=(insideE (.tsl true 2 (Fo.spans A)) (.tsl true 2 (Fo.spans B)) A B (.rows true) (.rows true) (by omega) (by omega)).rw
  rw [e] at q4
  have b0:(((([]:List (Int×Int)).length:Nat):Int) == 0)=true:=rfl
  rw [b0] at q4
  have s6:∀ l S,snap S (.tsl true 2 (Fo.spans l))=some (.tsl true 2 (Fo.spans l)):=fun l S=>by simp only [snap]
  clear f f1 f2 f3 f4 g hc hr2 e l1 l2 b0
  refine EvV.walk rfl fn10 rfl nt10 rfl ?_
  simp only [List.length_cons,List.length_nil,List.cons_append,List.nil_append,Nat.reduceAdd,Nat.reduceSub,List.replicate]
  repeat' (first|refine go1 ?_|refine za rfl ?_|(refine go2 fun A B a b=>?_;simp only [go_sem, *];(repeat' first|apply a.1|apply b.1|refine iteI (fun h=>?_) fun h=>?_)<;>clear a b A B))
  simp only [go_sem]

/- Rights: Days, as the program and the reference tell them; the law Days. -/
open Go.Proofs
attribute [local go_sem] ty56 br51 br52 List.replicate Nat.one_mul Nat.reduceMul Nat.zero_mul allocK appK bslA fz6 fz7 fz8 fz9 lenK_esl zcF zbM lenK_tsl nilsK rowsFill rowsOf_esl zcE za1 rowsOf_tsl br53 br54 fz130 fz131 fz133 br25 br26 br27 fz102 fz103 fz104
set_option maxHeartbeats 4000000

def dayC (r:Rec) (c:Con):Bool:=r.sp.contains c.person && ((c.rc == 0) || (c.rc == r.id))
def dayU (r:Rec) (x:Ru):Bool:=(x.rc == r.id) && !(x.un == 0)
def dC (r:Rec) (cs:List Con):List Int:=(cs.filter (dayC r)).map Con.day
def dU (r:Rec) (rs:List Ru):List Int:=(rs.filter (dayU r)).map Ru.un
theorem dC_snoc (r:Rec) (cs:List Con) (c:Con):dC r (cs++[c])=dC r cs++if dayC r c=true then [c.day] else []:=by
 unfold dC
 rw [List.filter_append,List.map_append,List.filter_cons]
 split<;>simp
theorem dU_snoc (r:Rec) (rs:List Ru) (x:Ru):dU r (rs++[x])=dU r rs++if dayU r x=true then [x.un] else []:=by
 unfold dU
 rw [List.filter_append,List.map_append,List.filter_cons]
 split<;>simp
theorem dC_len (r:Rec) (cs:List Con):(dC r cs).length≤cs.length:=by
 unfold dC;rw [List.length_map];exact List.length_filter_le _ _
theorem dU_len (r:Rec) (rs:List Ru):(dU r rs).length≤rs.length:=by
 unfold dU;rw [List.length_map];exact List.length_filter_le _ _

theorem daysM {pv gv cv rv:AV}{ps:List Psn}{gs:List Grp}{cs:List Con}{rs:List Ru}(h:RtV pv gv cv rv ps gs cs rs) (hcl:cs.length≤1000) (hrl:rs.length≤1000) (r:Rec) (hr:r.ok) (hsl:r.sp.length≤1000) :
  ∃ o,OutI (sorted (dC r cs++dU r rs)) o∧EvV CX 26 [.agg [pv,gv,cv,rv],.agg [.int .i64 r.id,.str r.name,.int .i64 r.len,.int .i64 r.day,r.sv]] (· = o):=by
 suffices hs:EvV CX 26 [.agg [pv,gv,cv,rv],.agg [.int .i64 r.id,.str r.name,.int .i64 r.len,.int .i64 r.day,r.sv]] (OutI (sorted (dC r cs++dU r rs))) by
  exact hs.ex
 have c1:=h.p.cell
 have c2:=h.g.cell
 have c3:=h.c.cell
 have c4:=h.r.cell
 have c5:=hr.sv.cell
 have s1:=h.p.snap
 have s2:=h.g.snap
 have s3:=h.c.snap
 have s4:=h.r.snap
 have s5:=hr.sv.snap
 refine EvV.walk rfl fn26 rfl nt26 rfl ?_
 simp only [List.length_cons,List.length_nil,List.cons_append,List.nil_append,Nat.reduceAdd,Nat.reduceSub,List.replicate]
 repeat' (first|refine go1 ?_|refine za rfl ?_|(refine go2 fun A B a b=>?_;simp only [go_sem, *,zu ty29 rfl,zi ty29 rfl,zn ty29 rfl,zy h.c,List.length_map];(repeat' first|apply a.1|apply b.1|refine iteI (fun h=>?_) fun h=>?_)<;>clear a b A B))
 obtain⟨st,hst⟩:∃ st,(pv.stab && (gv.stab && (cv.stab && rv.stab)))=st:=⟨_,rfl⟩
 rw [hst]
 clear hst
 refine zJ [7,14,15,16,17,18,19,20,21,22,23,24,25,26,27,28,29,30,31,32,33,34,35,36,37,38] (fun p:List Con×List Con=>[(5,.sl 3 (dC r p.1).length 0 (dC r p.1).length 1),(13,.int .i64 p.1.length)]) (fun p G=> .arr [[pv,gv,cv,rv]] 4 0 st :: .arr [[.int .i64 r.id,.str r.name,.int .i64 r.len,.int .i64 r.day,r.sv]] 5 0 r.sv.stab :: .arr [] 1 0 true :: .arr (ints (dC r p.1)) 1 0 true::G)
  (fun p=>cs=p.1++p.2) (fun p=>p.2.length) ([],cs) rfl ?_ ⟨[],rfl⟩ ?_
 ·rfl
 rintro⟨pre,post⟩ g G h1
 simp only at h1
 cases post with
 | cons x post=>
  have hpl:pre.length<cs.length:=by rw [h1];simp
  have hdl:=dC_len r pre
  have lt1:(pre.length:Int)<(cs.length:Int):=by omega
  have w1:=zx (n:=pre.length) (by omega)
  have i0:=zbq h.c (X:=CX) ty25 ty53 rfl (n:=pre.length) (row:=encCn x) (k := .i64) (by rw [h1];exact zb1 encCn pre x post)
  have q:=(speaksM r x.person hr (by omega)).rw
  simp only [encRc] at q
  have hh1:Hold (cs=(pre++[x])++post):=⟨by rw [h1];simp⟩
  have hs:=dC_snoc r pre x
  have hd:dayC r x=(r.sp.contains x.person && ((x.rc == 0) || (x.rc == r.id))):=rfl
  obtain⟨b5,b6⟩:=app1 (n:=(dC r pre).length) (by omega)
  clear h1 hpl hdl
  generalize r.sp.contains x.person=B at *
  have ways:(dayC r x=false∧(B=false∨(B=true∧(x.rc == 0)=false∧(x.rc == r.id)=false)))∨(dayC r x=true∧B=true∧((x.rc == 0)=true∨((x.rc == 0)=false∧(x.rc == r.id)=true))):=by
   rw [hd]
   cases B<;>cases (x.rc == 0)<;>cases (x.rc == r.id)<;>simp
  clear hd
  rcases ways with ⟨k,hw⟩|⟨k,rfl,hw⟩
  ·rw [k,if_neg (by simp),List.append_nil] at hs
   have hh2:Hold (dC r (pre++[x])=dC r pre):=⟨hs⟩
   clear hs k
   generalize dC r pre=L at *
   rcases hw with rfl|⟨rfl,b1,b2⟩
   all_goals
    simp only [zm,zq,zc,ze,List.set_cons_zero,List.set_cons_succ]
    repeat' (first|refine go1 ?_|refine za rfl ?_|(refine go2 fun A B a b=>?_;simp only [go_sem, *,zu ty29 rfl,zi ty29 rfl,zn ty29 rfl,encCn,zp,Nat.zero_le,zb,zf,zo,List.append_assoc,List.length_append,zd,zK,zA,List.take_length,Bool.true_or];(repeat' first|apply a.1|apply b.1|refine iteI (fun h=>?_) fun h=>?_)<;>clear a b A B))
    refine zv (pre++[x],post) (Nat.lt_succ_self _) hh1.out ?_ ?_
    ·((try simp only [zg,zh,zc,ze,List.set_cons_zero,List.set_cons_succ]);all_goals (first|rfl|(simp only [zk,zd,List.length_map,hh2.out];done)|(simp only [zk,zj,zd,List.length_map,List.length_append,List.length_cons,List.length_nil,Nat.zero_add,hh2.out];first|done|rfl)))
    ·simp only [hh2.out];exact⟨_,rfl⟩
  ·rw [k,if_pos rfl] at hs
   have hh2:Hold (dC r (pre++[x])=dC r pre++[x.day]):=⟨hs⟩
   clear hs k
   generalize dC r pre=L at *
   have hi:ints L++[[.int .i64 x.day]]=ints (L++[x.day]):=by rw [ints_append];rfl
   rcases hw with b1|⟨b1,b2⟩
   all_goals
    simp only [zm,zq,zc,ze,List.set_cons_zero,List.set_cons_succ]
    repeat' (first|refine go1 ?_|refine za rfl ?_|(refine go2 fun A B a b=>?_;simp only [go_sem, *,zu ty29 rfl,zi ty29 rfl,zn ty29 rfl,encCn,zp,Nat.zero_le,zb,zf,zo,List.append_assoc,List.length_append,zd,zK,zA,List.take_length,Bool.true_or];(repeat' first|apply a.1|apply b.1|refine iteI (fun h=>?_) fun h=>?_)<;>clear a b A B))
    refine zv (pre++[x],post) (Nat.lt_succ_self _) hh1.out ?_ ?_
    ·((try simp only [zg,zh,zc,ze,List.set_cons_zero,List.set_cons_succ]);all_goals (first|rfl|(simp only [zk,zd,List.length_map,hh2.out];done)|(simp only [zk,zj,zd,List.length_map,List.length_append,List.length_cons,List.length_nil,Nat.zero_add,hh2.out];first|done|rfl)))
    ·simp only [hh2.out];exact⟨_,rfl⟩
 | nil=>
  rw [List.append_nil] at h1
  subst h1
  have hdl:=dC_len r cs
  have hhl:Hold ((dC r cs).length≤cs.length):=⟨hdl⟩
  clear hdl
  generalize dC r cs=C at *
  simp only [zm,zq,zc,ze,List.set_cons_zero,List.set_cons_succ]
  repeat' (first|refine go1 ?_|refine za rfl ?_|(refine go2 fun A B a b=>?_;simp only [go_sem, *,zu ty29 rfl,zi ty29 rfl,zn ty29 rfl,Int.lt_irrefl,zy h.r,List.length_map,zp,Nat.zero_le,zb,zf,zo,List.append_assoc,List.length_append,zd,zK,zA,List.take_length,Bool.true_or];(repeat' first|apply a.1|apply b.1|refine iteI (fun h=>?_) fun h=>?_)<;>clear a b A B))
  refine zJ [9,43,44,45,46,47,48,49,50,51,52,53,54,55,56,57,58,59,60,61,62,63] (fun p:List Ru×List Ru=>[(5,.sl 3 (C++dU r p.1).length 0 (C++dU r p.1).length 1),(42,.int .i64 p.1.length)]) (fun p G=> .arr [[pv,gv,cv,rv]] 4 0 st :: .arr [[.int .i64 r.id,.str r.name,.int .i64 r.len,.int .i64 r.day,r.sv]] 5 0 r.sv.stab :: .arr [] 1 0 true :: .arr (ints (C++dU r p.1)) 1 0 true::G)
   (fun p=>rs=p.1++p.2) (fun p=>p.2.length) ([],rs) rfl ?_ ⟨G,?_⟩ ?_
  ·have e0:C++dU r []=C:=List.append_nil C
   ((try simp only [zg,zh,zc,ze,List.set_cons_zero,List.set_cons_succ]);all_goals (first|rfl|(simp only [zk,zd,List.length_map,e0];done)|(simp only [zk,zj,zd,List.length_map,List.length_append,List.length_cons,List.length_nil,Nat.zero_add,e0];first|done|rfl)))
  ·have e0:C++dU r []=C:=List.append_nil C
   simp only [e0]
  rintro⟨pre,post⟩ g2 G2 h1
  simp only at h1
  cases post with
  | cons x post=>
   have hpl:pre.length<rs.length:=by rw [h1];simp
   have hdl:=dU_len r pre
   have lt1:(pre.length:Int)<(rs.length:Int):=by omega
   have w1:=zx (n:=pre.length) (by omega)
   have i0:=zbq h.r (X:=CX) ty26 ty58 rfl (n:=pre.length) (row:=encRu x) (k := .i64) (by rw [h1];exact zb1 encRu pre x post)
   have hx:=h.ro x (by rw [h1];simp)
   have d1:=hx.sl.cell
   have hh1:Hold (rs=(pre++[x])++post):=⟨by rw [h1];simp⟩
   have hs:C++dU r (pre++[x])=(C++dU r pre)++if dayU r x=true then [x.un] else []:=by rw [dU_snoc,List.append_assoc]
   have hd:dayU r x=((x.rc == r.id) && !(x.un == 0)):=rfl
   obtain⟨b5,b6⟩:=app1 (n:=(C++dU r pre).length) (by have:=hhl.out;rw [List.length_append];omega)
   have ways:(dayU r x=false∧((x.rc == r.id)=false∨((x.rc == r.id)=true∧(x.un == 0)=true)))∨(dayU r x=true∧(x.rc == r.id)=true∧(x.un == 0)=false):=by
    rw [hd]
    cases (x.rc == r.id)<;>cases (x.un == 0)<;>simp
   clear h1 hpl hdl hd
   rcases ways with ⟨k,hw⟩|⟨k,b1,b2⟩
   ·rw [k,if_neg (by simp),List.append_nil] at hs
    have hh2:Hold (C++dU r (pre++[x])=C++dU r pre):=⟨hs⟩
    clear hs k
    generalize C++dU r pre=L at *
    rcases hw with b1|⟨b1,b2⟩
    all_goals
     simp only [zm,zq,zc,ze,List.set_cons_zero,List.set_cons_succ]
     repeat' (first|refine go1 ?_|refine za rfl ?_|(refine go2 fun A B a b=>?_;simp only [go_sem, *,zu ty29 rfl,zi ty29 rfl,zn ty29 rfl,encRu,zp,Nat.zero_le,zb,zf,zo,List.append_assoc,List.length_append,zd,zK,zA,List.take_length,Bool.true_or];(repeat' first|apply a.1|apply b.1|refine iteI (fun h=>?_) fun h=>?_)<;>clear a b A B))
     refine zv (pre++[x],post) (Nat.lt_succ_self _) hh1.out ?_ ?_
     ·((try simp only [zg,zh,zc,ze,List.set_cons_zero,List.set_cons_succ]);all_goals (first|rfl|(simp only [zk,zd,List.length_map,hh2.out];done)|(simp only [zk,zj,zd,List.length_map,List.length_append,List.length_cons,List.length_nil,Nat.zero_add,hh2.out];first|done|rfl)))
     ·simp only [hh2.out];exact⟨_,rfl⟩
   ·rw [k,if_pos rfl] at hs
    have hh2:Hold (C++dU r (pre++[x])=(C++dU r pre)++[x.un]):=⟨hs⟩
    clear hs k
    generalize C++dU r pre=L at *
    have hi:ints L++[[.int .i64 x.un]]=ints (L++[x.un]):=by rw [ints_append];rfl
    simp only [zm,zq,zc,ze,List.set_cons_zero,List.set_cons_succ]
    repeat' (first|refine go1 ?_|refine za rfl ?_|(refine go2 fun A B a b=>?_;simp only [go_sem, *,zu ty29 rfl,zi ty29 rfl,zn ty29 rfl,encRu,zp,Nat.zero_le,zb,zf,zo,List.append_assoc,List.length_append,zd,zK,zA,List.take_length,Bool.true_or];(repeat' first|apply a.1|apply b.1|refine iteI (fun h=>?_) fun h=>?_)<;>clear a b A B))
    refine zv (pre++[x],post) (Nat.lt_succ_self _) hh1.out ?_ ?_
    ·((try simp only [zg,zh,zc,ze,List.set_cons_zero,List.set_cons_succ]);all_goals (first|rfl|(simp only [zk,zd,List.length_map,hh2.out];done)|(simp only [zk,zj,zd,List.length_map,List.length_append,List.length_cons,List.length_nil,Nat.zero_add,hh2.out];first|done|rfl)))
    ·simp only [hh2.out];exact⟨_,rfl⟩
  | nil=>
   rw [List.append_nil] at h1
   subst h1
   have hdl:=dU_len r rs
   have hll:(C++dU r rs).length≤2000:=by have:=hhl.out;rw [List.length_append];omega
   clear hdl hhl
   generalize C++dU r rs=L at *
   have tL:(ints L).take L.length=ints L:=by rw [←zd L];exact List.take_length
   obtain⟨o,ho,hq⟩:=sortedE (.tsl false 1 (ints L)) L (.rows false) (by omega)
   have q:=hq.rw
   clear hq hll
   cases ho with
   | own=>
    simp only [zm,zq,zc,ze,List.set_cons_zero,List.set_cons_succ]
    repeat' (first|refine go1 ?_|refine za rfl ?_|(refine go2 fun A B a b=>?_;simp only [go_sem, *,zu ty29 rfl,zi ty29 rfl,zn ty29 rfl,Int.lt_irrefl,zp,Nat.zero_le,zb,zf,zo,List.append_assoc,List.length_append,zd,zK,zA,List.take_length,Bool.true_or];(repeat' first|apply a.1|apply b.1|refine iteI (fun h=>?_) fun h=>?_)<;>clear a b A B))
    simp only [go_sem,zu ty29 rfl,zi ty29 rfl,zn ty29 rfl,zp,Nat.zero_le,zb,zf,zo,List.append_assoc,List.length_append,zd,zK,zA,List.take_length,Bool.true_or]
    exact .own
   | part=>
    simp only [zm,zq,zc,ze,List.set_cons_zero,List.set_cons_succ]
    repeat' (first|refine go1 ?_|refine za rfl ?_|(refine go2 fun A B a b=>?_;simp only [go_sem, *,zu ty29 rfl,zi ty29 rfl,zn ty29 rfl,Int.lt_irrefl,zp,Nat.zero_le,zb,zf,zo,List.append_assoc,List.length_append,zd,zK,zA,List.take_length,Bool.true_or];(repeat' first|apply a.1|apply b.1|refine iteI (fun h=>?_) fun h=>?_)<;>clear a b A B))
    simp only [go_sem,zu ty29 rfl,zi ty29 rfl,zn ty29 rfl,zp,Nat.zero_le,zb,zf,zo,List.append_assoc,List.length_append,zd,zK,zA,List.take_length,Bool.true_or]
    exact .part
   | nil hl=>
    simp only [zm,zq,zc,ze,List.set_cons_zero,List.set_cons_succ]
    repeat' (first|refine go1 ?_|refine za rfl ?_|(refine go2 fun A B a b=>?_;simp only [go_sem, *,zu ty29 rfl,zi ty29 rfl,zn ty29 rfl,Int.lt_irrefl,zal,zp,Nat.zero_le,zb,zf,zo,List.append_assoc,List.length_append,zd,zK,zA,List.take_length,Bool.true_or];(repeat' first|apply a.1|apply b.1|refine iteI (fun h=>?_) fun h=>?_)<;>clear a b A B))
    simp only [go_sem,zu ty29 rfl,zi ty29 rfl,zn ty29 rfl,zal,zbJ,zp,Nat.zero_le,zb,zf,zo,List.append_assoc,List.length_append,zd,zK,zA,List.take_length,Bool.true_or]
    exact .nil hl

theorem puts_lenD (b:List Int):(b.foldl put []).length≤b.length:=by have:=puts_lenM b [];simpa using this

end Go.Eng

/- Rights: Spans on two days between which there are no Days (plain). -/
namespace Go.Eng
open Go.Proofs

def Quiet (D:List Int) (d e:Int):Prop := ∀ t∈D,¬(d<t∧t≤e)

theorem at_quiet {cs:List Con}{r:Rec}{s d e:Int}(hde:d≤e) (hs:s∈r.sp) (hq:Quiet (dC r cs) d e):∀ l:List Con,(∀ c∈l,c∈cs)→∀ out,l.foldl (fun out c=>if hitC s r.id d c=true then c.kind else out) out=l.foldl (fun out c=>if hitC s r.id e c=true then c.kind else out) out
 | [],_,out=>rfl
 | c::l,h,out=>by
  have hc:hitC s r.id d c=hitC s r.id e c:=by
   unfold hitC
   cases k:isCn s r.id c with
   | false=>rfl
   | true=>
    simp only [isCn,Bool.and_eq_true,beq_iff_eq] at k
    have hd:dayC r c=true:=by
     unfold dayC
     rw [Bool.and_eq_true]
     refine⟨?_,k.2⟩
     rw [k.1];simpa using hs
    have:=hq c.day (List.mem_map.2 ⟨c,List.mem_filter.2 ⟨h c (by simp),hd⟩,rfl⟩)
    simp only [Bool.true_and,decide_eq_decide]
    omega
  rw [List.foldl_cons,List.foldl_cons,hc]
  exact at_quiet hde hs hq l (fun c hc=>h c (by simp [hc])) _
theorem base_quiet {ps:List Psn}{cs:List Con}{r:Rec}{pe d e:Int}(hde:d≤e) (hq:Quiet (dC r cs) d e):baseF ps cs r pe d=baseF ps cs r pe e:=by
 have key:∀ l:List Int,(∀ s∈l,s∈r.sp)→baseGo (memB ps pe) cs r.id d l=baseGo (memB ps pe) cs r.id e l:=by
  intro l
  induction l with
  | nil=>intro _;rfl
  | cons s l ih=>
   intro h
   have e1:atF cs s r.id d=atF cs s r.id e:=at_quiet hde (h s (by simp)) hq cs (fun c hc=>hc) 0
   rw [baseGo,baseGo,e1,ih fun x hx=>h x (by simp [hx])]
 exact key r.sp fun s hs=>hs
theorem at_early {cs:List Con}{s id d:Int}(h:∀ c∈cs,d<c.day):atF cs s id d=0:=by
 have key:∀ l:List Con,(∀ c∈l,d<c.day)→∀ out,l.foldl (fun out c=>if hitC s id d c=true then c.kind else out) out=out:=by
  intro l
  induction l with
  | nil=>intro _ _;rfl
  | cons c l ih=>
   intro h out
   have hc:hitC s id d c=false:=by
    have:=h c (by simp)
    unfold hitC;rw [decide_eq_false (by omega),Bool.and_false]
   rw [List.foldl_cons,hc]
   exact ih (fun c hc=>h c (by simp [hc])) out
 exact key cs h 0
theorem errCs_day {ps:List Psn}:∀ {cs:List Con}{d:Int},errCs ps d cs=0→∀ c∈cs,1≤c.day
 | [],_,_,c,hc=>by cases hc
 | x::l,d,h,c,hc=>by
  rw [errCs] at h
  by_cases k:errC ps d x=0
  ·rw [if_pos k] at h
   rcases List.mem_cons.1 hc with rfl|hc
   ·unfold errC at k
    split at k
    ·split at k
     ·split at k
      ·omega
      ·cases k
     ·cases k
    ·cases k
   ·exact errCs_day h c hc
  ·rw [if_neg k] at h;exact absurd h k
theorem cns_day {ps:List Psn}{cs:List Con}(h:cnsF ps cs=0):∀ c∈cs,1≤c.day:=by
 unfold cnsF at h
 split at h
 ·exact errCs_day h
 ·cases h
theorem chk_sp {ps:List Psn}{r:Rec}(h:chkC ps r=0):r.sp≠[]:=by
 unfold chkC at h
 split at h
 ·split at h
  ·split at h
   ·split at h
    ·split at h
     ·cases h
     ·assumption
    ·cases h
   ·cases h
  ·cases h
 ·cases h
theorem base_early {ps:List Psn}{cs:List Con}{r:Rec}{pe d:Int}(hs:r.sp≠[]) (h:∀ c∈cs,1≤c.day) (hd:d<1):baseF ps cs r pe d≠0:=by
 unfold baseF
 cases e:r.sp with
 | nil=>exact absurd e hs
 | cons s l=>
  rw [baseGo,at_early fun c hc=>by have:=h c hc;omega,if_pos rfl]
  omega
theorem may_quiet {ps:List Psn}{gs:List Grp}{lv un pe d e:Int}{gl:List Int}(h:d<un↔e<un):mayF ps gs lv gl un pe d=mayF ps gs lv gl un pe e:=by
 unfold mayF
 by_cases k:d<un
 ·rw [if_pos k,if_pos (h.1 k)]
 ·rw [if_neg k,if_neg (fun x=>k (h.2 x))]
theorem sp_quiet {ps:List Psn}{gs:List Grp}{cs:List Con}{rs:List Ru}{r:Rec}{pe d e:Int}(hde:d≤e) (hs:r.sp≠[]) (hc:∀ c∈cs,1≤c.day) (h1:Quiet (dC r cs) d e) (h2:Quiet (dU r rs) d e):spF ps gs cs rs r pe d=spF ps gs cs rs r pe e:=by
 have hb:=base_quiet (ps:=ps) (pe:=pe) hde h1
 by_cases k:d<1
 ·have k1:=base_early (ps:=ps) (pe:=pe) hs hc k
  rw [spF_base k1,spF_base (by rw [←hb];exact k1)]
 ·have hcut:∀ x∈rs,cutB ps gs r pe d x=cutB ps gs r pe e x:=fun x hx=>by
   unfold cutB
   cases k2:(x.rc == r.id) with
   | false=>rfl
   | true=>
    have:d<x.un↔e<x.un:=by
     by_cases k3:x.un=0
     ·omega
     ·have hd:dayU r x=true:=by unfold dayU;rw [k2];simp [k3]
      have:=h2 x.un (List.mem_map.2 ⟨x,List.mem_filter.2 ⟨hx,hd⟩,rfl⟩)
      omega
    rw [may_quiet this]
  have hf:rs.filter (cutB ps gs r pe d)=rs.filter (cutB ps gs r pe e):=List.filter_congr hcut
  unfold spF cutL
  rw [hb,hf]
end Go.Eng

/- Rights: the law Steady. -/
namespace Go.Eng
open Go.Proofs
attribute [local irreducible] wpC wpO wp1 EvV EvR wpL
attribute [local go_sem] ty3 ty4 ty9 ty23 ty24 ty25 ty26 ty28 ty29 ty31 ty38 ty40 ty44 ty47 ty53 ty58 ty66 ty68 eq47 br13 br17 br20 br21 br26 allocK fz71 fz72 fz73 fz74 fz75 reduceIte Nat.reduceAdd Nat.reduceEqDiff Nat.reduceLT Nat.reduceLeDiff beq_iff_eq beq_eq_false_iff_ne Int.natCast_inj Bool.not_eq_false' zbB zbw zaA za6 zas zao za4 zD zax zaz zC zat zbv zN zG za5 zH za7 zay zbu zbt zL zan zP zav zO zau zQ zaw za2 zap z8 zba zaC za9 za8 zbb zbx zaB zaU zaj zaT zaV zar zaS zaR zaE zaG zaa z7 zV zZ zbd zaF boxK storeK zam zaI zah zaJ zbj zaq zby zbc zW z6 zaL zaM zai zbk zaK zbo zaQ zbm zbz zbp zbl zbn zaN zbA zaO zaP List.all_cons List.all_nil Bool.and_true Bool.and_self Bool.true_and zY zaD List.set_cons_zero List.set_cons_succ List.length_cons List.length_nil List.nil_append List.cons_append stabL AV.stab fieldAddrA fieldA List.getElem?_cons_zero List.getElem?_cons_succ Nat.zero_add loadA rowOf Nat.le_refl and_self true_and and_true partA binA unA intBin eqBin eqCells eqCell Option.bind_some decide_true decide_false decide_eq_true_eq ite_not Bool.not_eq_true' decide_eq_false_iff_not Bool.false_eq_true Option.map_some Option.map_none Bool.not_true Bool.not_false buildA fillA patch List.take List.drop List.map_cons List.map_nil extK List.getD_cons_zero List.getD_cons_succ minmaxA minmaxGo zI zT zaf zS zad zR zag zae zac zab zaH zbh zbf zbi zbg zbe bne Bool.false_and Bool.and_false ne_eq not_true_eq_false not_false_eq_true List.append_nil resultsR resultsL resultA zaZ zak zaY za0 zaW zaX zX
set_option maxHeartbeats 4000000

theorem outFrz {l:List Int}{f:FuncId}{args:List AV}(h:∃ r,OutI l r∧EvV CX f args (· = r)):∃ v r,SLs 1 (ints l) v∧v.stab=true∧freezeA r=v∧(∀ Q:AV→Prop,EvV CX f args Q=Q r):=by
 obtain⟨r,h1,h2⟩:=h
 refine⟨_,r,?_,?_,rfl,h2.rw⟩
 ·cases h1 with
  | own=>simp only [freezeA,frz1];exact .rows true
  | part=>simp only [freezeA,frz1];exact .rows true
  | nil h=>simp only [freezeA,frz1];exact .nil (by rw [h];rfl)
 ·cases h1<;>simp [freezeA,frz1,AV.stab]

theorem quiet_parts {C U:List Int}{d e:Int}(h:Quiet (sorted (C++U)) d e):Quiet C d e∧Quiet U d e :=
 ⟨fun t ht=>h t (by rw [zbS];exact List.mem_append.2 (.inl ht)),fun t ht=>h t (by rw [zbS];exact List.mem_append.2 (.inr ht))⟩

theorem lawSteady45 {pv gv cv rv:AV}{ps:List Psn}{gs:List Grp}{cs:List Con}{rs:List Ru}(h:RtV pv gv cv rv ps gs cs rs) (r:Rec) (hr:r.ok) (pe day lt:Int) :
  EvV CX 11 [.agg [pv,gv,cv,rv,.int .i64 r.id,.str r.name,.int .i64 r.len,.int .i64 r.day,r.sv,.int .i64 pe,.int .i64 day],.int .i64 lt] (· = .bool true):=by
 have qa:=awake.rw
 have c1:=h.p.cell
 have c2:=h.g.cell
 have c3:=h.c.cell
 have c4:=h.r.cell
 have c5:=hr.sv.cell
 have s1:=h.p.snap
 have s2:=h.g.snap
 have s3:=h.c.snap
 have s4:=h.r.snap
 have s5:=hr.sv.snap
 have q1:=(rightE45 h r hr pe day).rw
 cases k:rightC ps gs cs rs r with
 | false=>
  rw [k] at q1
  clear k
  refine EvV.walk rfl fn11 rfl nt11 rfl ?_
  simp only [List.length_cons,List.length_nil,List.cons_append,List.nil_append,Nat.reduceAdd,Nat.reduceSub,List.replicate]
  repeat' (first|refine go1 ?_|refine za rfl ?_|(refine go2 fun A B a b=>?_;simp only [go_sem, *];(repeat' first|apply a.1|apply b.1|refine iteI (fun h=>?_) fun h=>?_)<;>clear a b A B))
  simp only [go_sem]
 | true=>
  by_cases kd:lt<day
  ·rw [k] at q1
   clear k
   refine EvV.walk rfl fn11 rfl nt11 rfl ?_
   simp only [List.length_cons,List.length_nil,List.cons_append,List.nil_append,Nat.reduceAdd,Nat.reduceSub,List.replicate]
   repeat' (first|refine go1 ?_|refine za rfl ?_|(refine go2 fun A B a b=>?_;simp only [go_sem, *];(repeat' first|apply a.1|apply b.1|refine iteI (fun h=>?_) fun h=>?_)<;>clear a b A B))
   simp only [go_sem]
  obtain⟨f,_,g,hc,hr2⟩:=right_out k
  obtain⟨f1,f2,f3,f4,_⟩:=zcw f
  obtain⟨_,_,_,hcn,_,_⟩:=chkRt_out hc
  rw [k] at q1
  clear k
  have q2:=(spansMM h f r hr (by omega) pe day).rw
  have q3:=(spansMM h f r hr (by omega) pe lt).rw
  have hst:Hold (Quiet (dC r cs) day lt→Quiet (dU r rs) day lt→spF ps gs cs rs r pe day=spF ps gs cs rs r pe lt):=⟨sp_quiet (by omega) (chk_sp hr2) (cns_day hcn)⟩
  have hn:=Fo.norm_card (spF_norm ps gs cs rs r pe lt)
  obtain⟨v1,r1,o1,_,f1',q5⟩:=outFrz (daysM h (by omega) (by omega) r hr (by omega))
  have hql:Hold (Quiet (sorted (dC r cs++dU r rs)) day lt→spF ps gs cs rs r pe day=spF ps gs cs rs r pe lt):=⟨fun hq=>hst.out (quiet_parts hq).1 (quiet_parts hq).2⟩
  have hdl:(sorted (dC r cs++dU r rs)).length≤1000:=by
   rw [←sortR_eq]
   have a:=puts_lenD (dC r cs++dU r rs)
   have b:=dC_len r cs
   have c:=dU_len r rs
   rw [List.length_append] at a
   omega
  have n1:=o1.snap
  have hh:Hold (¬lt<day):=⟨kd⟩
  clear f f1 f2 f3 f4 g hc hr2 hcn hst
  generalize spF ps gs cs rs r pe day=L at *
  generalize spF ps gs cs rs r pe lt=L2 at *
  generalize sorted (dC r cs++dU r rs)=D at *
  refine EvV.walk rfl fn11 rfl nt11 rfl ?_
  simp only [List.length_cons,List.length_nil,List.cons_append,List.nil_append,Nat.reduceAdd,Nat.reduceSub,List.replicate]
  repeat' (first|refine go1 ?_|refine za rfl ?_|(refine go2 fun A B a b=>?_;simp only [go_sem, *,f1',zy o1,zd];(repeat' first|apply a.1|apply b.1|refine iteI (fun h=>?_) fun h=>?_)<;>clear a b A B))
  refine zbH [4,6,27,28,29,30,31,32,33,34,35,36,37,38,39,40,41,42,43,44,45,46] 26 D (fun pre _=>Quiet pre day lt) ?_ ?_ ?_ ?_
  ·intro t ht;cases ht
  ·((try simp only [zg,zh,zc,ze,List.set_cons_zero,List.set_cons_succ]);all_goals (first|rfl|(simp only [zk,zj,zd,List.length_map,List.length_append,List.length_cons,List.length_nil,Nat.zero_add];first|done|rfl)))
  ·intro g G hq
   have e:=hql.out hq
   subst e
   have q4:=(Fo.sameR (.tsl true 2 (Fo.spans L)) (.tsl true 2 (Fo.spans L)) L L (.rows true) (.rows true) (by omega)).rw
   have s6:∀ l S,snap S (.tsl true 2 (Fo.spans l))=some (.tsl true 2 (Fo.spans l)):=fun l S=>by simp only [snap]
   simp only [decide_true] at q4
   clear hq hn hdl hql
   simp only [zm,zq,zc,ze,List.set_cons_zero,List.set_cons_succ]
   repeat' (first|refine go1 ?_|refine za rfl ?_|(refine go2 fun A B a b=>?_;simp only [go_sem, *,Int.lt_irrefl,zb,zf,zo,zp,List.append_assoc,List.length_append];(repeat' first|apply a.1|apply b.1|refine iteI (fun h=>?_) fun h=>?_)<;>clear a b A B))
   simp only [go_sem]
  ·intro g G pre x post h1 hq
   have hpl:pre.length<D.length:=by rw [h1];simp
   have lt1:(pre.length:Int)<(D.length:Int):=by omega
   have w1:=zx (n:=pre.length) (by omega)
   have i1:=zbq o1 (X:=CX) ty29 ty3 rfl (by rw [h1];exact zbZ pre x post) (k := .i64)
   have hh1:Hold (D=pre++x::post):=⟨h1⟩
   clear h1 hpl
   by_cases k1:day<x
   ·by_cases k2:x≤lt
    ·clear hq
     simp only [zm,zq,zc,ze,List.set_cons_zero,List.set_cons_succ]
     repeat' (first|refine go1 ?_|refine za rfl ?_|(refine go2 fun A B a b=>?_;simp only [go_sem, *];(repeat' first|apply a.1|apply b.1|refine iteI (fun h=>?_) fun h=>?_)<;>clear a b A B))
     simp only [go_sem]
    ·have hq2:Hold (Quiet (pre++[x]) day lt):=⟨fun t ht=>by
      rcases List.mem_append.1 ht with ht|ht
      ·exact hq t ht
      ·simp at ht;subst ht;omega⟩
     clear hq
     simp only [zm,zq,zc,ze,List.set_cons_zero,List.set_cons_succ]
     repeat' (first|refine go1 ?_|refine za rfl ?_|(refine go2 fun A B a b=>?_;simp only [go_sem, *];(repeat' first|apply a.1|apply b.1|refine iteI (fun h=>?_) fun h=>?_)<;>clear a b A B))
     refine za3 hh1.out hq2.out ?_ ?_
     ·((try simp only [zg,zh,zc,ze,List.set_cons_zero,List.set_cons_succ]);all_goals (first|rfl|(simp only [zk,zj,zd,List.length_map,List.length_append,List.length_cons,List.length_nil,Nat.zero_add];first|done|rfl)))
     ·first|exact⟨[],(List.append_nil _).symm⟩|exact⟨_,rfl⟩|(simp only [List.append_assoc,List.cons_append,List.nil_append];exact⟨_,rfl⟩)
   ·have hq2:Hold (Quiet (pre++[x]) day lt):=⟨fun t ht=>by
     rcases List.mem_append.1 ht with ht|ht
     ·exact hq t ht
     ·simp at ht;subst ht;omega⟩
    clear hq
    simp only [zm,zq,zc,ze,List.set_cons_zero,List.set_cons_succ]
    repeat' (first|refine go1 ?_|refine za rfl ?_|(refine go2 fun A B a b=>?_;simp only [go_sem, *];(repeat' first|apply a.1|apply b.1|refine iteI (fun h=>?_) fun h=>?_)<;>clear a b A B))
    refine za3 hh1.out hq2.out ?_ ?_
    ·((try simp only [zg,zh,zc,ze,List.set_cons_zero,List.set_cons_succ]);all_goals (first|rfl|(simp only [zk,zj,zd,List.length_map,List.length_append,List.length_cons,List.length_nil,Nat.zero_add];first|done|rfl)))
    ·first|exact⟨[],(List.append_nil _).symm⟩|exact⟨_,rfl⟩|(simp only [List.append_assoc,List.cons_append,List.nil_append];exact⟨_,rfl⟩)
end Go.Eng
