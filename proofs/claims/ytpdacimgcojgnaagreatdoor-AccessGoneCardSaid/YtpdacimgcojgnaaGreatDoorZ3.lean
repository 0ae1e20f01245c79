/- Part 3 of the texts behind this claim. -/
import Derived.Test.YtpdacimgcojgnaaGreatDoorZ2
import Derived.Sort.LotD4
set_option linter.all false

/- The library's sort of ints as a run: the choice of a pivot. -/
namespace Go.Eng
open Go.Proofs
attribute [local irreducible] wpC wpO wp1 EvV EvR wpL
attribute [local go_sem] ty3 ty4 ty29 ty179 br156 fz262 br168 fz263 fz264 fz265 br166 fz266 ty159 br165 allocK fz257 fz258 fz259 fz260 reduceIte Nat.reduceAdd Nat.reduceEqDiff Nat.reduceLT Nat.reduceLeDiff beq_iff_eq beq_eq_false_iff_ne Int.natCast_inj Bool.not_eq_false' zbD zbx zaE za9 zaw zas za7 zF zaB zaD zE zax zbw zP zH za8 zI zba zaC zbv zbu zL zar zR zaz zQ zay zS zaA za5 zat zae zbd zaG zbc zbb zbe zby zaF zaY zao zaX zaZ zav zaW zaV zaI zaK zaf zac zW z8 zbg zaJ boxK storeK zaq zaM zam zaN zbm zau zbz zbf zX zaa zaP zaQ zan zbn zaO zbr zaU zbp zbA zbs zbo zbq zaR zbC zaS zaT List.all_cons List.all_nil Bool.and_true Bool.and_self Bool.true_and z7 zaH List.set_cons_zero List.set_cons_succ List.length_cons List.length_nil List.nil_append List.cons_append stabL AV.stab fieldAddrA fieldA List.getElem?_cons_zero List.getElem?_cons_succ Nat.zero_add loadA rowOf Nat.le_refl and_self true_and and_true partA binA unA intBin eqBin eqCells eqCell Option.bind_some decide_true decide_false decide_eq_true_eq ite_not Bool.not_eq_true' decide_eq_false_iff_not Bool.false_eq_true Option.map_some Option.map_none Bool.not_true Bool.not_false buildA fillA patch List.take List.drop List.map_cons List.map_nil extK List.getD_cons_zero List.getD_cons_succ minmaxA minmaxGo zJ zV zak zU zai zT zal zaj zah zag zaL zbk zbi zbl zbj zbh bne Bool.false_and Bool.and_false ne_eq not_true_eq_false not_false_eq_true List.append_nil resultsR resultsL resultA za3 zap za2 za4 za0 za1 zZ zbK zad zO zD zbB
set_option maxRecDepth 20000
set_option maxHeartbeats 4000000

def SC (A C1 C2:Store) (d:Array El) (w s ws:Nat):Store:=A ++ .arr (rowsD d) 1 w true::(C1 ++ .arr [[.int .i64 (s:Int)]] 1 ws true::C2)

theorem ordE (A C1 C2:Store) (d:Array El) (n w a b s ws:Nat) (hn:d.size=n) (hw:w≤n) (ha:a<n) (hb:b<n) (hs:s≤1000) (hws:ws≤1) :
  EvR CX 168 [.sl A.length n 0 n 1,.int .i64 a,.int .i64 b,.ptr (A.length+(C1.length+1)) 1 1 0 0] (SC A C1 C2 d w s ws)
   (fun v S=>v = .tup [.int .i64 ((Go.Sort.order2 ltE d a b s).1:Nat),.int .i64 ((Go.Sort.order2 ltE d a b s).2.1:Nat)]∧∃ ws',ws'≤1∧S=SC A C1 C2 d w (Go.Sort.order2 ltE d a b s).2.2 ws'):=by
 unfold SC
 have w1:=zB (n:=s) (by omega)
 have z:(0:Nat)<1:=by omega
 by_cases h:ltE d[b]! d[a]! = true
 ·have e:Go.Sort.order2 ltE d a b s=(b,a,s+1):=by rw [Go.Sort.order2,if_pos h]
  rw [e]
  refine EvR.walk rfl fn168 rfl nt168 rfl ?_
  simp only [List.length_cons,List.length_nil,List.cons_append,List.nil_append,Nat.reduceAdd,Nat.reduceSub,List.replicate]
  repeat' (first|refine go1 ?_|refine za rfl ?_|(refine go2 fun A B a b=>?_;simp only [go_sem, *,zb,zm,idxD,rowsD_get,rowsD_len,rowsD_put,dropD,takeD,sizeD,(lessE _ _).rw,encE,ze,zp];(repeat' first|apply a.1|apply b.1|refine iteI (fun h=>?_) fun h=>?_)<;>clear a b A B))
  simp only [go_sem]
  exact⟨1,Nat.le_refl _,rfl⟩
 ·have h':ltE d[b]! d[a]! = false:=by simpa using h
  have e:Go.Sort.order2 ltE d a b s=(a,b,s):=by rw [Go.Sort.order2,if_neg h]
  rw [e]
  refine EvR.walk rfl fn168 rfl nt168 rfl ?_
  simp only [List.length_cons,List.length_nil,List.cons_append,List.nil_append,Nat.reduceAdd,Nat.reduceSub,List.replicate]
  repeat' (first|refine go1 ?_|refine za rfl ?_|(refine go2 fun A B a b=>?_;simp only [go_sem, *,zb,zm,idxD,rowsD_get,rowsD_len,rowsD_put,dropD,takeD,sizeD,(lessE _ _).rw,encE,ze,zp,h'];(repeat' first|apply a.1|apply b.1|refine iteI (fun h=>?_) fun h=>?_)<;>clear a b A B))
  simp only [go_sem]
  exact⟨ws,hws,rfl⟩

theorem ord_lt {d:Array El}{a b s n:Nat}(ha:a<n) (hb:b<n):(Go.Sort.order2 ltE d a b s).1<n∧(Go.Sort.order2 ltE d a b s).2.1<n:=by
 rcases Go.Sort.order2_mem ltE d a b s with ⟨h1,h2⟩|⟨h1,h2⟩<;>rw [h1,h2]<;>exact⟨by assumption,by assumption⟩

theorem medE (A C1 C2:Store) (d:Array El) (n w a b c s ws:Nat) (hn:d.size=n) (hw:w≤n) (ha:a<n) (hb:b<n) (hc:c<n) (hs:s≤900) (hws:ws≤1) :
  EvR CX 166 [.sl A.length n 0 n 1,.int .i64 a,.int .i64 b,.int .i64 c,.ptr (A.length+(C1.length+1)) 1 1 0 0] (SC A C1 C2 d w s ws)
   (fun v S=>v = .int .i64 ((Go.Sort.median ltE d a b c s).1:Nat)∧∃ ws',ws'≤1∧S=SC A C1 C2 d w (Go.Sort.median ltE d a b c s).2 ws'):=by
 obtain⟨R,hR⟩:∃ R,Go.Sort.median ltE d a b c s=R:=⟨_,rfl⟩
 rw [hR]
 unfold Go.Sort.median at hR
 simp only [] at hR
 refine EvR.walk rfl fn166 rfl nt166 rfl ?_
 simp only [List.length_cons,List.length_nil,List.cons_append,List.nil_append,Nat.reduceAdd,Nat.reduceSub,List.replicate]
 repeat' (first|refine go1 ?_|refine za rfl ?_|(refine go2 fun A B a b=>?_;simp only [go_sem, *];(repeat' first|apply a.1|apply b.1|refine iteI (fun h=>?_) fun h=>?_)<;>clear a b A B))
 obtain⟨r1,hr1⟩:∃ r1,Go.Sort.order2 ltE d a b s=r1:=⟨_,rfl⟩
 have l1:=ord_lt (d:=d) (s:=s) ha hb
 have c1:=Go.Sort.order2_count ltE d a b s
 refine zG fun K hK=>?_
 simp only [go_sem]
 refine EvR.mono (ordE A C1 C2 d n w a b s ws hn hw ha hb (by omega) hws) ?_
 rw [hr1] at hR l1 c1 ⊢
 rintro _ S ⟨rfl,ws1,hws1,rfl⟩
 refine hK.out _ _ ?_
 clear hK K
 repeat' (first|refine go1 ?_|refine za rfl ?_|(refine go2 fun A B a b=>?_;simp only [go_sem, *];(repeat' first|apply a.1|apply b.1|refine iteI (fun h=>?_) fun h=>?_)<;>clear a b A B))
 obtain⟨r2,hr2⟩:∃ r2,Go.Sort.order2 ltE d r1.2.1 c r1.2.2=r2:=⟨_,rfl⟩
 have l2:=ord_lt (d:=d) (s:=r1.2.2) l1.2 hc
 have c2:=Go.Sort.order2_count ltE d r1.2.1 c r1.2.2
 refine zG fun K hK=>?_
 simp only [go_sem]
 refine EvR.mono (ordE A C1 C2 d n w r1.2.1 c r1.2.2 ws1 hn hw l1.2 hc (by omega) hws1) ?_
 rw [hr2] at hR l2 c2 ⊢
 rintro _ S ⟨rfl,ws2,hws2,rfl⟩
 refine hK.out _ _ ?_
 clear hK K
 repeat' (first|refine go1 ?_|refine za rfl ?_|(refine go2 fun A B a b=>?_;simp only [go_sem, *];(repeat' first|apply a.1|apply b.1|refine iteI (fun h=>?_) fun h=>?_)<;>clear a b A B))
 obtain⟨r3,hr3⟩:∃ r3,Go.Sort.order2 ltE d r1.1 r2.1 r2.2.2=r3:=⟨_,rfl⟩
 have c3:=Go.Sort.order2_count ltE d r1.1 r2.1 r2.2.2
 refine zG fun K hK=>?_
 simp only [go_sem]
 refine EvR.mono (ordE A C1 C2 d n w r1.1 r2.1 r2.2.2 ws2 hn hw l1.1 l2.1 (by omega) hws2) ?_
 rw [hr3] at hR c3 ⊢
 rintro _ S ⟨rfl,ws3,hws3,rfl⟩
 refine hK.out _ _ ?_
 clear hK K
 subst hR
 repeat' (first|refine go1 ?_|refine za rfl ?_|(refine go2 fun A B a b=>?_;simp only [go_sem, *];(repeat' first|apply a.1|apply b.1|refine iteI (fun h=>?_) fun h=>?_)<;>clear a b A B))
 simp only [go_sem]
 exact⟨ws3,hws3,rfl⟩

theorem adjE (A C1 C2:Store) (d:Array El) (n w a s ws:Nat) (hn:d.size=n) (hw:w≤n) (ha0:0<a) (ha:a+1<n) (hsm:n<1152921504606846976) (hs:s≤900) (hws:ws≤1) :
  EvR CX 165 [.sl A.length n 0 n 1,.int .i64 a,.ptr (A.length+(C1.length+1)) 1 1 0 0] (SC A C1 C2 d w s ws)
   (fun v S=>v = .int .i64 ((Go.Sort.medianAdjacent ltE d a s).1:Nat)∧∃ ws',ws'≤1∧S=SC A C1 C2 d w (Go.Sort.medianAdjacent ltE d a s).2 ws'):=by
 have w1:=zB (n:=a) (by omega)
 have w2:IntKind.wrap .i64 ((a:Int)-1)=((a-1:Nat):Int):=by rw [zu (by omega) (by omega)];omega
 refine EvR.walk rfl fn165 rfl nt165 rfl ?_
 simp only [List.length_cons,List.length_nil,List.cons_append,List.nil_append,Nat.reduceAdd,Nat.reduceSub,List.replicate]
 repeat' (first|refine go1 ?_|refine za rfl ?_|(refine go2 fun A B a b=>?_;simp only [go_sem, *];(repeat' first|apply a.1|apply b.1|refine iteI (fun h=>?_) fun h=>?_)<;>clear a b A B))
 refine zG fun K hK=>?_
 simp only [go_sem]
 refine EvR.mono (medE A C1 C2 d n w (a-1) a (a+1) s ws hn hw (by omega) (by omega) ha hs hws) ?_
 rintro _ S ⟨rfl,ws3,hws3,rfl⟩
 refine hK.out _ _ ?_
 clear hK K
 repeat' (first|refine go1 ?_|refine za rfl ?_|(refine go2 fun A B a b=>?_;simp only [go_sem, *];(repeat' first|apply a.1|apply b.1|refine iteI (fun h=>?_) fun h=>?_)<;>clear a b A B))
 simp only [go_sem]
 exact⟨rfl,ws3,hws3,rfl⟩

theorem adj_lt {d:Array El}{a s n:Nat}(ha:a+1<n):(Go.Sort.medianAdjacent ltE d a s).1<n:=by
 rcases Go.Sort.medianAdjacent_mem ltE d a s with h|h|h<;>rw [h]<;>omega

theorem chooseE (A C:Store) (d:Array El) (n w a b:Nat) (hn:d.size=n) (hw:w≤n) (hab:a<b) (hb:b≤n) (hsm:n<1152921504606846976) :
  EvR CX 153 [.sl A.length n 0 n 1,.int .i64 a,.int .i64 b] (A ++ .arr (rowsD d) 1 w true::C)
   (fun v S=>v = .tup [.int .i64 ((Go.Sort.choosePivot ltE d a b).1:Nat),.int .i64 (Go.Sort.hintCode (Go.Sort.choosePivot ltE d a b).2)]∧Left A C n d S):=by
 have q1:IntKind.wrap .i64 ((b:Int)-(a:Int))=((b-a:Nat):Int):=by rw [zu (by omega) (by omega)];omega
 have q2:IntKind.wrap .i64 (((b-a:Nat):Int).tdiv 4)=(((b-a) / 4:Nat):Int):=by rw [Int.tdiv_eq_ediv_of_nonneg (by omega),zu (by omega) (by omega)];omega
 have q3:IntKind.wrap .i64 ((((b-a) / 4:Nat):Int)*1)=(((b-a) / 4*1:Nat):Int):=by rw [zu (by omega) (by omega)];omega
 have q4:IntKind.wrap .i64 ((((b-a) / 4:Nat):Int)*2)=(((b-a) / 4*2:Nat):Int):=by rw [zu (by omega) (by omega)];omega
 have q5:IntKind.wrap .i64 ((((b-a) / 4:Nat):Int)*3)=(((b-a) / 4*3:Nat):Int):=by rw [zu (by omega) (by omega)];omega
 have q6:IntKind.wrap .i64 ((a:Int)+(((b-a) / 4*1:Nat):Int))=((a+(b-a) / 4*1:Nat):Int):=by rw [zu (by omega) (by omega)];omega
 have q7:IntKind.wrap .i64 ((a:Int)+(((b-a) / 4*2:Nat):Int))=((a+(b-a) / 4*2:Nat):Int):=by rw [zu (by omega) (by omega)];omega
 have q8:IntKind.wrap .i64 ((a:Int)+(((b-a) / 4*3:Nat):Int))=((a+(b-a) / 4*3:Nat):Int):=by rw [zu (by omega) (by omega)];omega
 have q9:¬(4:Int)=0:=by omega
 rw [Go.Sort.choosePivot_eq]
 obtain⟨R,hR⟩:∃ R,Go.Sort.rawPivot ltE d a b=R:=⟨_,rfl⟩
 rw [hR]
 unfold Go.Sort.rawPivot at hR
 have fin:∀ (s ws:Nat),R.2=s→ws≤1→Left A C n d (SC A C [] d w s ws):=fun s ws _ h=>⟨hn,w,[.arr [[.int .i64 (s:Int)]] 1 ws true],hw,rfl⟩
 refine EvR.walk rfl fn153 rfl nt153 rfl ?_
 simp only [List.length_cons,List.length_nil,List.cons_append,List.nil_append,Nat.reduceAdd,Nat.reduceSub,List.replicate]
 repeat' (first|refine go1 ?_|refine za rfl ?_|(refine zt fun A B a b=>?_;simp only [go_sem, *,List.length_append,List.append_assoc];(repeat' first|apply a.1|refine iteI (fun h=>?_) fun h=>?_)<;>clear a b A B))
 refine zcI [10,12,31,32,33,34,35,36,37,38,39,40,41,42,43,44,45,46,47,48] (fun _:Nat=>[(11,.int .i64 (R.1:Int))]) (fun ws H=>SC A C H d w R.2 ws) (fun ws=>ws≤1) ?_ ?_
 ·by_cases h8:b-a≥8
  ·have h8':(8:Int)≤((b-a:Nat):Int):=by omega
   rw [if_pos h8] at hR
   by_cases h50:b-a≥50
   ·have h50':(50:Int)≤((b-a:Nat):Int):=by omega
    rw [if_pos h50] at hR
    repeat' (first|refine go1 ?_|refine za rfl ?_|(refine go2 fun A B a b=>?_;simp only [go_sem, *];(repeat' first|apply a.1|apply b.1|refine iteI (fun h=>?_) fun h=>?_)<;>clear a b A B))
    obtain⟨r1,hr1⟩:∃ r1,Go.Sort.medianAdjacent ltE d (a+(b-a) / 4*1) 0=r1:=⟨_,rfl⟩
    have l1:=adj_lt (d:=d) (a:=a+(b-a) / 4*1) (s:=0) (n:=n) (by omega)
    have c1:=Go.Sort.medianAdjacent_count ltE d (a+(b-a) / 4*1) 0
    refine zG fun K hK=>?_
    simp only [go_sem]
    refine EvR.mono (adjE A C [] d n w (a+(b-a) / 4*1) 0 0 hn hw (by omega) (by omega) hsm (by omega) (by omega)) ?_
    rw [hr1] at hR l1 c1 ⊢
    rintro _ S ⟨rfl,ws1,hws1,rfl⟩
    refine hK.out _ _ ?_
    clear hK K
    repeat' (first|refine go1 ?_|refine za rfl ?_|(refine go2 fun A B a b=>?_;simp only [go_sem, *];(repeat' first|apply a.1|apply b.1|refine iteI (fun h=>?_) fun h=>?_)<;>clear a b A B))
    obtain⟨r2,hr2⟩:∃ r2,Go.Sort.medianAdjacent ltE d (a+(b-a) / 4*2) r1.2=r2:=⟨_,rfl⟩
    have l2:=adj_lt (d:=d) (a:=a+(b-a) / 4*2) (s:=r1.2) (n:=n) (by omega)
    have c2:=Go.Sort.medianAdjacent_count ltE d (a+(b-a) / 4*2) r1.2
    refine zG fun K hK=>?_
    simp only [go_sem]
    refine EvR.mono (adjE A C [] d n w (a+(b-a) / 4*2) r1.2 ws1 hn hw (by omega) (by omega) hsm (by omega) hws1) ?_
    rw [hr2] at hR l2 c2 ⊢
    rintro _ S ⟨rfl,ws2,hws2,rfl⟩
    refine hK.out _ _ ?_
    clear hK K
    repeat' (first|refine go1 ?_|refine za rfl ?_|(refine go2 fun A B a b=>?_;simp only [go_sem, *];(repeat' first|apply a.1|apply b.1|refine iteI (fun h=>?_) fun h=>?_)<;>clear a b A B))
    obtain⟨r3,hr3⟩:∃ r3,Go.Sort.medianAdjacent ltE d (a+(b-a) / 4*3) r2.2=r3:=⟨_,rfl⟩
    have l3:=adj_lt (d:=d) (a:=a+(b-a) / 4*3) (s:=r2.2) (n:=n) (by omega)
    have c3:=Go.Sort.medianAdjacent_count ltE d (a+(b-a) / 4*3) r2.2
    refine zG fun K hK=>?_
    simp only [go_sem]
    refine EvR.mono (adjE A C [] d n w (a+(b-a) / 4*3) r2.2 ws2 hn hw (by omega) (by omega) hsm (by omega) hws2) ?_
    rw [hr3] at hR l3 c3 ⊢
    rintro _ S ⟨rfl,ws3,hws3,rfl⟩
    refine hK.out _ _ ?_
    clear hK K
    repeat' (first|refine go1 ?_|refine za rfl ?_|(refine go2 fun A B a b=>?_;simp only [go_sem, *];(repeat' first|apply a.1|apply b.1|refine iteI (fun h=>?_) fun h=>?_)<;>clear a b A B))
    refine zG fun K hK=>?_
    simp only [go_sem]
    refine EvR.mono (medE A C [] d n w r1.1 r2.1 r3.1 r3.2 ws3 hn hw l1 l2 l3 (by omega) hws3) ?_
    rw [hR]
    rintro _ S ⟨rfl,ws4,hws4,rfl⟩
    refine hK.out _ _ ?_
    clear hK K
    repeat' (first|refine go1 ?_|refine za rfl ?_|(refine go2 fun A B a b=>?_;simp only [go_sem, *];(repeat' first|apply a.1|apply b.1|refine iteI (fun h=>?_) fun h=>?_)<;>clear a b A B))
    refine zM ws4 hws4 ?_ ⟨[],rfl⟩
    ((try simp only [zg,zi,zd,zf,List.set_cons_zero,List.set_cons_succ]);all_goals (first|rfl|(simp only [zn,zj,zc,List.length_map,List.length_append,List.length_cons,List.length_nil,Nat.zero_add];first|done|rfl)))
   ·have h50':¬(50:Int)≤((b-a:Nat):Int):=by omega
    rw [if_neg h50] at hR
    repeat' (first|refine go1 ?_|refine za rfl ?_|(refine go2 fun A B a b=>?_;simp only [go_sem, *];(repeat' first|apply a.1|apply b.1|refine iteI (fun h=>?_) fun h=>?_)<;>clear a b A B))
    refine zG fun K hK=>?_
    simp only [go_sem]
    refine EvR.mono (medE A C [] d n w (a+(b-a) / 4*1) (a+(b-a) / 4*2) (a+(b-a) / 4*3) 0 0 hn hw (by omega) (by omega) (by omega) (by omega) (by omega)) ?_
    rw [hR]
    rintro _ S ⟨rfl,ws4,hws4,rfl⟩
    refine hK.out _ _ ?_
    clear hK K
    repeat' (first|refine go1 ?_|refine za rfl ?_|(refine go2 fun A B a b=>?_;simp only [go_sem, *];(repeat' first|apply a.1|apply b.1|refine iteI (fun h=>?_) fun h=>?_)<;>clear a b A B))
    refine zM ws4 hws4 ?_ ⟨[],rfl⟩
    ((try simp only [zg,zi,zd,zf,List.set_cons_zero,List.set_cons_succ]);all_goals (first|rfl|(simp only [zn,zj,zc,List.length_map,List.length_append,List.length_cons,List.length_nil,Nat.zero_add];first|done|rfl)))
  ·have h8':¬(8:Int)≤((b-a:Nat):Int):=by omega
   rw [if_neg h8] at hR
   subst hR
   repeat' (first|refine go1 ?_|refine za rfl ?_|(refine go2 fun A B a b=>?_;simp only [go_sem, *];(repeat' first|apply a.1|apply b.1|refine iteI (fun h=>?_) fun h=>?_)<;>clear a b A B))
   refine zM 0 (Nat.zero_le _) ?_ ⟨[],rfl⟩
   ((try simp only [zg,zi,zd,zf,List.set_cons_zero,List.set_cons_succ]);all_goals (first|rfl|(simp only [zn,zj,zc,List.length_map,List.length_append,List.length_cons,List.length_nil,Nat.zero_add];first|done|rfl)))
 ·intro ws g G hws
  unfold SC
  simp only [zo,zq,zd,zf,List.set_cons_zero,List.set_cons_succ]
  have z:(0:Nat)<1:=by omega
  by_cases h0:R.2=0
  ·have e:Go.Sort.hintCode (Go.Sort.hintOf R.2)=1:=by rw [Go.Sort.hintOf,if_pos h0];rfl
   rw [e]
   have h0':((R.2:Nat):Int)=0:=by omega
   clear h0
   repeat' (first|refine go1 ?_|refine za rfl ?_|(refine go2 fun A B a b=>?_;simp only [go_sem, *,ze,zp,zb,zm];(repeat' first|apply a.1|apply b.1|refine iteI (fun h=>?_) fun h=>?_)<;>clear a b A B))
   simp only [go_sem]
   exact⟨hn,w,_,hw,rfl⟩
  ·by_cases h12:R.2=12
   ·have e:Go.Sort.hintCode (Go.Sort.hintOf R.2)=2:=by rw [Go.Sort.hintOf,if_neg h0,if_pos h12];rfl
    rw [e]
    have h12':((R.2:Nat):Int)=12:=by omega
    clear h0 h12
    repeat' (first|refine go1 ?_|refine za rfl ?_|(refine go2 fun A B a b=>?_;simp only [go_sem, *,ze,zp,zb,zm];(repeat' first|apply a.1|apply b.1|refine iteI (fun h=>?_) fun h=>?_)<;>clear a b A B))
    simp only [go_sem]
    exact⟨hn,w,_,hw,rfl⟩
   ·have e:Go.Sort.hintCode (Go.Sort.hintOf R.2)=0:=by rw [Go.Sort.hintOf,if_neg h0,if_neg h12];rfl
    rw [e]
    have h0':¬((R.2:Nat):Int)=0:=by omega
    have h12':¬((R.2:Nat):Int)=12:=by omega
    clear h0 h12
    repeat' (first|refine go1 ?_|refine za rfl ?_|(refine go2 fun A B a b=>?_;simp only [go_sem, *,ze,zp,zb,zm];(repeat' first|apply a.1|apply b.1|refine iteI (fun h=>?_) fun h=>?_)<;>clear a b A B))
    simp only [go_sem]
    exact⟨hn,w,_,hw,rfl⟩
end Go.Eng
