/- Part 7 of the texts behind this claim. -/
import Derived.Test.YtpdacimgcojgnaaGreatDoorZ6
set_option linter.all false

/- The library's sort of spans by a function as a run: the sort. -/
namespace Go.Eng.Fo
open Go.Proofs
attribute [local irreducible] wpC wpO wp1 EvV EvR wpL
attribute [local go_sem] ty3 ty4 ty44 ty47 ty132 ty159 eq47 br129 br140 br141 br142 br143 br144 br145 br146 br147 fz203 fz204 fz205 fz206 fz208 fz209 fz234 fz235 fz236 fz237 fz238 reduceIte Nat.reduceAdd Nat.reduceEqDiff Nat.reduceLT Nat.reduceLeDiff beq_iff_eq beq_eq_false_iff_ne Int.natCast_inj Bool.not_eq_false' zbD zbx zaE za9 zaw zas za7 zF zaB zaD zE zax zbw zP zH za8 zI zba zaC zbv zbu zL zar zR zaz zQ zay zS zaA za5 zat zae zbd zaG zbc zbb zbe zby zaF zaY zao zaX zaZ zav zaW zaV zaI zaK zaf zac zW z8 zbg zaJ boxK storeK zaq zaM zam zaN zbm zau zbz zbf zX zaa zaP zaQ zan zbn zaO zbr zaU zbp zbA zbs zbo zbq zaR zbC zaS zaT List.all_cons List.all_nil Bool.and_true Bool.and_self Bool.true_and z7 zaH List.set_cons_zero List.set_cons_succ List.length_cons List.length_nil List.nil_append List.cons_append stabL AV.stab fieldAddrA fieldA List.getElem?_cons_zero List.getElem?_cons_succ Nat.zero_add loadA rowOf Nat.le_refl and_self true_and and_true partA binA unA intBin eqBin eqCells eqCell Option.bind_some decide_true decide_false decide_eq_true_eq ite_not Bool.not_eq_true' decide_eq_false_iff_not Bool.false_eq_true Option.map_some Option.map_none Bool.not_true Bool.not_false buildA fillA patch List.take List.drop List.map_cons List.map_nil extK List.getD_cons_zero List.getD_cons_succ minmaxA minmaxGo zJ zV zak zU zai zT zal zaj zah zag zaL zbk zbi zbl zbj zbh bne Bool.false_and Bool.and_false ne_eq not_true_eq_false not_false_eq_true List.append_nil resultsR resultsL resultA za3 zap za2 za4 za0 za1 zZ zbK zad zO zD zbB
set_option maxRecDepth 20000
set_option maxHeartbeats 8000000
variable {T:List (List AV)}

theorem peq_range (a b:Nat):∀ (m i j:Nat) (d:Array El),j+1-i≤m→i≤b→j+1≤b→i≤(Go.Sort.partEqLoop ltE a i j d).1∧(Go.Sort.partEqLoop ltE a i j d).1≤b
 | m,i,j,d,hm,hi,hj=>by
  rw [Go.Sort.partEqLoop]
  have h1:=up_le (fun x=> !ltE d[a]! x) d j i
  have h2:=up_ge (fun x=> !ltE d[a]! x) d j i b hi hj
  generalize Go.Sort.scanUp (fun x=> !ltE d[a]! x) d j i=i2 at h1 h2 ⊢
  have h3:=down_le (fun x=>ltE d[a]! x) d i2 j
  generalize Go.Sort.scanDown (fun x=>ltE d[a]! x) d i2 j=j2 at h3 ⊢
  split
  ·exact⟨h1,h2⟩
  ·split
   ·rename_i k1 k2
    match m,hm with
    | 0,hm=>omega
    | m+1,hm=>
     have:=peq_range a b m (i2+1) (j2-1) (Go.Sort.swp d i2 j2) (by omega) (by omega) (by omega)
     omega
   ·exact⟨h1,h2⟩

theorem wpC_cut2 {X:Ctx}{α:Type}{r c b:Code}{Q:Ex→List AV→Store→Prop}{fr0:List AV}{S0:Store}(ix:List Nat) (F:α→List (Nat×AV)) (SS:α→Store→Store) (P:α→Prop)
  (h1:wpC X r (seqK X c (cutK ix fr0 F SS P Q)) fr0 S0)
  (h2:∀ a (g:Nat→AV) (G:Store),P a→wpC X b Q (garbA ix g (setL fr0 (F a))) (SS a G)):wpC X r (seqK X c (seqK X b Q)) fr0 S0:=by
 have key:∀ fr S,wpC X c (cutK ix fr0 F SS P Q) fr S→wpC X c (seqK X b Q) fr S:=fun fr S h=>by
  refine zb7 (fun e fr S h=>?_) h
  cases e with
  | normal=>
   simp only [cutK] at h
   obtain⟨a,k1,k2,G,rfl⟩:=h
   refine zb1 ?_
   rw [zcm k2]
   exact h2 a _ _ k1
  | exit id=>simp only [cutK] at h;exact zcM h
  | ret=>simp only [cutK] at h;exact seqK_ret h
 refine zb7 (fun e fr S h=>?_) h1
 cases e with
 | normal=>simp only [seqK] at h;exact zb1 (key fr S h)
 | exit id=>simp only [seqK,cutK] at h;exact zcM (zcM h)
 | ret=>simp only [seqK,cutK] at h;exact seqK_ret (seqK_ret h)

theorem pdqE:∀ (m:Nat) (A C:Store) (d:Array El) (n w a b lim:Nat),b-a≤m→d.size=n→w≤n+T.length→a≤b→b≤n→n<4294967296→lim≤100 →
  EvR CX 129 [.sl A.length (n+T.length) 0 n 2,.int .i64 a,.int .i64 b,.int .i64 lim,cmpV] (A ++ .arr (rowsD T d) 2 w true::C) (fun v S=>v = .tup []∧Left T A C n (Go.Sort.pdq ltE d a b lim true true) S):=by
 intro m
 induction m using Nat.strongRecOn with|ind m ih=>?_
 intro A C d n w a b lim hm hn hw hab hb hsm hlim
 obtain⟨R,hR⟩:∃ R,Go.Sort.pdq ltE d a b lim true true=R:=⟨_,rfl⟩
 rw [hR]
 refine EvR.walk rfl fn129 rfl nt129 rfl ?_
 simp only [List.length_cons,List.length_nil,List.cons_append,List.nil_append,Nat.reduceAdd,Nat.reduceSub,List.replicate]
 repeat' (first|refine go1 ?_|refine za rfl ?_|(refine go2 fun A B a b=>?_;simp only [go_sem, *];(repeat' first|apply a.1|apply b.1|refine iteI (fun h=>?_) fun h=>?_)<;>clear a b A B))
 refine zN [12,13,14,15,16,17,18,19,20,21,22,23,24,25,26,27,28,29,30,31,32,33,34,35,36,37,38,39,40,41,42,43,44,45,46,47,48,49,50,51,52,53,54,55,56,57,58,59,60,61,62,63,64,65,66,67,68,69,70,71,72,73,74,75,76,77,78,79,80,81,82,83,84,85,86,87,88,89,90,91,92,93,94,95,96,97,98,99,100,101,102,103,104,105,106,107,108,109,110,111,112,113,114,115,116,117,118,119,120,121,122,123,124,125,126,127,128,129,130,131,132,133,134,135,136,137,138,139,140,141,142,143,144,145,146,147] (fun p:Nat×Nat×Nat×Bool×Bool×Array El×Nat=>[(1,.int .i64 p.1),(2,.int .i64 p.2.1),(3,.int .i64 p.2.2.1),(10,.bool p.2.2.2.1),(11,.bool p.2.2.2.2.1)])
  (fun p G=>A ++ .arr (rowsD T p.2.2.2.2.2.1) 2 p.2.2.2.2.2.2 true::(C++G))
  (fun p=>p.2.2.2.2.2.1.size=n∧p.2.2.2.2.2.2≤n+T.length∧p.1≤p.2.1∧p.2.1≤n∧p.2.1-p.1≤m∧p.2.2.1≤100∧Go.Sort.pdq ltE p.2.2.2.2.2.1 p.1 p.2.1 p.2.2.1 p.2.2.2.1 p.2.2.2.2.1=R) (fun p=>p.2.1-p.1) (a,b,lim,true,true,d,w) ⟨hn,hw,hab,hb,hm,hlim,hR⟩ ?_ ?_ ?_
 ·rfl
 ·exact⟨[],by rw [List.append_nil]⟩
 clear hR hlim hm hb hab hw hn
 rintro⟨a,b,lim,wb,wp,d,w⟩ g G ⟨hn,hw,hab,hb,hm,hlim,hR⟩
 simp only at hn hw hab hb hm hlim hR
 have q1:IntKind.wrap .i64 ((b:Int)-(a:Int))=((b-a:Nat):Int):=by rw [zu (by omega) (by omega)];omega
 rw [Go.Sort.pdq] at hR
 simp only [zo,zq,zd,zf,List.set_cons_zero,List.set_cons_succ]
 by_cases h12:b-a≤12
 ·have h12':((b-a:Nat):Int)≤12:=by omega
  rw [if_pos h12] at hR
  repeat' (first|refine go1 ?_|refine za rfl ?_|(refine go2 fun A B a b=>?_;simp only [go_sem, *];(repeat' first|apply a.1|apply b.1|refine iteI (fun h=>?_) fun h=>?_)<;>clear a b A B))
  refine zG fun K hK=>?_
  simp only [go_sem]
  refine EvR.mono (insE A (C++G) d n w a b hn hw hb hab (by omega)) ?_
  rw [hR]
  rintro _ S ⟨rfl,hL⟩
  obtain⟨w',C',hn2,hw2,rfl⟩:=left_shift hL
  refine hK.out _ _ ?_
  clear hK K
  repeat' (first|refine go1 ?_|refine za rfl ?_|(refine go2 fun A B a b=>?_;simp only [go_sem, *];(repeat' first|apply a.1|apply b.1|refine iteI (fun h=>?_) fun h=>?_)<;>clear a b A B))
  simp only [go_sem]
  exact⟨hn2,w',_,hw2,rfl⟩
 have h12':¬((b-a:Nat):Int)≤12:=by omega
 rw [if_neg h12] at hR
 by_cases hl0:lim=0
 ·subst hl0
  rw [if_pos rfl] at hR
  have z:((0:Nat):Int)=0:=rfl
  repeat' (first|refine go1 ?_|refine za rfl ?_|(refine go2 fun A B a b=>?_;simp only [go_sem, *];(repeat' first|apply a.1|apply b.1|refine iteI (fun h=>?_) fun h=>?_)<;>clear a b A B))
  refine zG fun K hK=>?_
  simp only [go_sem]
  refine EvR.mono (heapE A (C++G) d n w a b hn hw hab hb (by omega)) ?_
  rw [hR]
  rintro _ S ⟨rfl,hL⟩
  obtain⟨w',C',hn2,hw2,rfl⟩:=left_shift hL
  refine hK.out _ _ ?_
  clear hK K
  repeat' (first|refine go1 ?_|refine za rfl ?_|(refine go2 fun A B a b=>?_;simp only [go_sem, *];(repeat' first|apply a.1|apply b.1|refine iteI (fun h=>?_) fun h=>?_)<;>clear a b A B))
  simp only [go_sem]
  exact⟨hn2,w',_,hw2,rfl⟩
 have hl0':¬(lim:Int)=0:=by omega
 rw [if_neg hl0] at hR
 obtain⟨d1,hd1⟩:∃ d1,(if !wb then Go.Sort.breakPatterns d a b else d)=d1:=⟨_,rfl⟩
 obtain⟨lim1,hlim1⟩:∃ l,(if !wb then lim-1 else lim)=l:=⟨_,rfl⟩
 simp only [hd1,hlim1] at hR
 repeat' (first|refine go1 ?_|refine za rfl ?_|(refine zt fun A B a b=>?_;simp only [go_sem, *];(repeat' first|apply a.1|refine iteI (fun h=>?_) fun h=>?_)<;>clear a b A B))
 (refine zY fun A B hA hB=>?_;simp only [go_sem, *];first|(refine hA.out ?_;clear hA hB A B)|(refine hB.out ?_;clear hA hB A B))
 repeat' (first|refine go1 ?_|refine za rfl ?_|(refine zt fun A B a b=>?_;simp only [go_sem, *];(repeat' first|apply a.1|refine iteI (fun h=>?_) fun h=>?_)<;>clear a b A B))
 (refine zY fun A B hA hB=>?_;simp only [go_sem, *];first|(refine hA.out ?_;clear hA hB A B)|(refine hB.out ?_;clear hA hB A B))
 repeat' (first|refine go1 ?_|refine za rfl ?_|(refine zt fun A B a b=>?_;simp only [go_sem, *];(repeat' first|apply a.1|refine iteI (fun h=>?_) fun h=>?_)<;>clear a b A B))
 refine zcI [38,39,40,41,42,43,44,45,46] (fun _:Nat=>[(3,.int .i64 lim1)]) (fun w H=>A ++ .arr (rowsD T d1) 2 w true::(C++H)) (fun w=>d1.size=n∧w≤n+T.length) ?_ ?_
 ·cases wb with
  | true=>
   simp only [Bool.not_true,Bool.false_eq_true,if_false] at hd1 hlim1
   subst hd1 hlim1
   repeat' (first|refine go1 ?_|refine za rfl ?_|(refine go2 fun A B a b=>?_;simp only [go_sem, *];(repeat' first|apply a.1|apply b.1|refine iteI (fun h=>?_) fun h=>?_)<;>clear a b A B))
   refine zM w ⟨hn,hw⟩ ?_ ⟨_,rfl⟩
   ((try simp only [zg,zi,zd,zf,List.set_cons_zero,List.set_cons_succ]);all_goals (first|rfl|(simp only [zn,zj,zc,List.length_map,List.length_append,List.length_cons,List.length_nil,Nat.zero_add];first|done|rfl)))
  | false=>
   simp only [Bool.not_false,if_true] at hd1 hlim1
   have w1:IntKind.wrap .i64 ((lim:Int)-1)=(lim1:Int):=by rw [zu (by omega) (by omega)];omega
   repeat' (first|refine go1 ?_|refine za rfl ?_|(refine go2 fun A B a b=>?_;simp only [go_sem, *];(repeat' first|apply a.1|apply b.1|refine iteI (fun h=>?_) fun h=>?_)<;>clear a b A B))
   refine zG fun K hK=>?_
   simp only [go_sem]
   refine EvR.mono (breakE A (C++G) d n w a b hn hw (by omega) hb hsm) ?_
   rw [hd1]
   rintro _ S ⟨rfl,hL⟩
   obtain⟨w',C',hn2,hw2,rfl⟩:=left_shift hL
   refine hK.out _ _ ?_
   clear hK K
   repeat' (first|refine go1 ?_|refine za rfl ?_|(refine go2 fun A B a b=>?_;simp only [go_sem, *];(repeat' first|apply a.1|apply b.1|refine iteI (fun h=>?_) fun h=>?_)<;>clear a b A B))
   refine zM w' ⟨hn2,hw2⟩ ?_ ⟨_,rfl⟩
   ((try simp only [zg,zi,zd,zf,List.set_cons_zero,List.set_cons_succ]);all_goals (first|rfl|(simp only [zn,zj,zc,List.length_map,List.length_append,List.length_cons,List.length_nil,Nat.zero_add];first|done|rfl)))
 clear hd1 hw hn
 have hlim':lim1≤100:=by rw [←hlim1];split<;>omega
 clear hlim1 hlim hl0' hl0
 rintro w g G ⟨hn,hw⟩
 simp only [zo,zq,zd,zf,List.set_cons_zero,List.set_cons_succ]
 repeat' (first|refine go1 ?_|refine za rfl ?_|(refine zt fun A B a b=>?_;simp only [go_sem, *];(repeat' first|apply a.1|refine iteI (fun h=>?_) fun h=>?_)<;>clear a b A B))
 have hch:=Go.Sort.choosePivot_holds ltE d1 a b (by omega)
 refine zG fun K hK=>?_
 simp only [go_sem]
 refine EvR.mono (chooseE A (C++G) d1 n w a b hn hw (by omega) hb (by omega)) ?_
 obtain⟨cp,hcp⟩:∃ c,Go.Sort.choosePivot ltE d1 a b=c:=⟨_,rfl⟩
 rw [hcp] at hch ⊢
 simp only [hcp] at hR
 rintro _ S ⟨rfl,hL⟩
 obtain⟨w',C',_,hw2,rfl⟩:=left_shift hL
 refine hK.out _ _ ?_
 clear hK K
 repeat' (first|refine go1 ?_|refine za rfl ?_|(refine zt fun A B a b=>?_;simp only [go_sem, *];(repeat' first|apply a.1|refine iteI (fun h=>?_) fun h=>?_)<;>clear a b A B))
 clear hL hw w
 obtain⟨d2,hd2⟩:∃ x,(if cp.2 = .decreasing then Go.Sort.reverseRange d1 a b else d1)=x:=⟨_,rfl⟩
 obtain⟨pv,hpv⟩:∃ x,(if cp.2 = .decreasing then (b-1)-(cp.1-a) else cp.1)=x:=⟨_,rfl⟩
 obtain⟨hint,hhi⟩:∃ x,(if cp.2 = .decreasing then Go.Sort.Hint.increasing else cp.2)=x:=⟨_,rfl⟩
 simp only [hd2,hpv,hhi] at hR
 have hpr:a≤pv∧pv<b:=by rw [←hpv];split<;>omega
 refine zcI [55,56,57,58,59,60,61,62,63,64,65,66,67] (fun _:Nat=>[(13,.int .i64 pv),(14,.int .i64 (Go.Sort.hintCode hint))]) (fun w H=>A ++ .arr (rowsD T d2) 2 w true::(C++H)) (fun w=>d2.size=n∧w≤n+T.length) ?_ ?_
 ·by_cases hdec:cp.2 = .decreasing
  ·rw [if_pos hdec] at hd2 hpv hhi
   have e1:Go.Sort.hintCode cp.2=2:=by rw [hdec];rfl
   have e2:Go.Sort.hintCode hint=1:=by rw [←hhi];rfl
   have w1:IntKind.wrap .i64 ((b:Int)-1)=((b-1:Nat):Int):=by rw [zu (by omega) (by omega)];omega
   have w2:IntKind.wrap .i64 ((cp.1:Int)-(a:Int))=((cp.1-a:Nat):Int):=by rw [zu (by omega) (by omega)];omega
   have w3:IntKind.wrap .i64 (((b-1:Nat):Int)-((cp.1-a:Nat):Int))=(pv:Int):=by rw [zu (by omega) (by omega)];omega
   clear hhi hdec
   repeat' (first|refine go1 ?_|refine za rfl ?_|(refine go2 fun A B a b=>?_;simp only [go_sem, *];(repeat' first|apply a.1|apply b.1|refine iteI (fun h=>?_) fun h=>?_)<;>clear a b A B))
   refine zG fun K hK=>?_
   simp only [go_sem]
   refine EvR.mono (revE A (C++C') d1 n w' a b hn hw2 (by omega) hb (by omega)) ?_
   rw [hd2]
   rintro _ S ⟨rfl,hL⟩
   obtain⟨w'',C'',hn3,hw3,rfl⟩:=left_shift hL
   refine hK.out _ _ ?_
   clear hK K
   repeat' (first|refine go1 ?_|refine za rfl ?_|(refine go2 fun A B a b=>?_;simp only [go_sem, *];(repeat' first|apply a.1|apply b.1|refine iteI (fun h=>?_) fun h=>?_)<;>clear a b A B))
   refine zM w'' ⟨hn3,hw3⟩ ?_ ⟨_,rfl⟩
   ((try simp only [zg,zi,zd,zf,List.set_cons_zero,List.set_cons_succ]);all_goals (first|rfl|(simp only [zn,zc,List.length_map,e1,e2];done)|(simp only [zn,zj,zc,List.length_map,List.length_append,List.length_cons,List.length_nil,Nat.zero_add,e1,e2];first|done|rfl)))
  ·rw [if_neg hdec] at hd2 hpv hhi
   subst hd2 hpv hhi
   have e1:¬Go.Sort.hintCode cp.2=2:=by intro e;cases hh:cp.2<;>rw [hh] at e hdec<;>simp [Go.Sort.hintCode] at e hdec
   clear hdec
   repeat' (first|refine go1 ?_|refine za rfl ?_|(refine go2 fun A B a b=>?_;simp only [go_sem, *];(repeat' first|apply a.1|apply b.1|refine iteI (fun h=>?_) fun h=>?_)<;>clear a b A B))
   refine zM w' ⟨hn,hw2⟩ ?_ ⟨_,rfl⟩
   ((try simp only [zg,zi,zd,zf,List.set_cons_zero,List.set_cons_succ]);all_goals (first|rfl|(simp only [zn,zj,zc,List.length_map,List.length_append,List.length_cons,List.length_nil,Nat.zero_add];first|done|rfl)))
 clear hd2 hpv hhi hch hw2 hn
 rintro w g H ⟨hn,hw⟩
 simp only [zo,zq,zd,zf,List.set_cons_zero,List.set_cons_succ]
 obtain⟨pi,hpi⟩:∃ x,(if (wb && wp && decide (hint=Go.Sort.Hint.increasing))=true then Go.Sort.partialInsertionSort ltE d2 a b else (d2,false))=x:=⟨_,rfl⟩
 simp only [hpi] at hR
 refine zce ?_
 refine zce ?_
 refine wpC_cut2 [68,69,70,71,72,73,74,75,76,77,78,79,80] (fun _:Nat=>[]) (fun w H=>A ++ .arr (rowsD T pi.1) 2 w true::(C++H)) (fun w=>pi.1.size=n∧w≤n+T.length∧pi.2=false) ?_ ?_
 ·by_cases hc:(wb && wp && decide (hint=Go.Sort.Hint.increasing))=true
  ·rw [if_pos hc] at hpi
   simp only [Bool.and_eq_true,decide_eq_true_eq] at hc
   obtain⟨⟨rfl,rfl⟩,rfl⟩:=hc
   have e1:Go.Sort.hintCode Go.Sort.Hint.increasing=1:=rfl
   repeat' (first|refine go1 ?_|refine za rfl ?_|(refine go2 fun A B a b=>?_;simp only [go_sem, *];(repeat' first|apply a.1|apply b.1|refine iteI (fun h=>?_) fun h=>?_)<;>clear a b A B))
   refine zG fun K hK=>?_
   simp only [go_sem]
   refine EvR.mono (partE A (C++H) d2 n w a b hn hw (by omega) hb (by omega)) ?_
   rw [hpi]
   rintro _ S ⟨rfl,hL⟩
   obtain⟨w'',C'',hn3,hw3,rfl⟩:=left_shift hL
   refine hK.out _ _ ?_
   clear hK K
   obtain⟨d3,pb⟩:=pi
   cases pb with
   | true=>
    simp only [if_true] at hR
    subst hR
    repeat' (first|refine go1 ?_|refine za rfl ?_|(refine go2 fun A B a b=>?_;simp only [go_sem, *];(repeat' first|apply a.1|apply b.1|refine iteI (fun h=>?_) fun h=>?_)<;>clear a b A B))
    simp only [go_sem]
    exact⟨hn3,w'',_,hw3,rfl⟩
   | false=>
    repeat' (first|refine go1 ?_|refine za rfl ?_|(refine go2 fun A B a b=>?_;simp only [go_sem, *];(repeat' first|apply a.1|apply b.1|refine iteI (fun h=>?_) fun h=>?_)<;>clear a b A B))
    refine zM w'' ⟨hn3,hw3,rfl⟩ ?_ ⟨_,rfl⟩
    ((try simp only [zg,zi,zd,zf,List.set_cons_zero,List.set_cons_succ]);all_goals (first|rfl|(simp only [zn,zj,zc,List.length_map,List.length_append,List.length_cons,List.length_nil,Nat.zero_add];first|done|rfl)))
  ·rw [if_neg hc] at hpi
   subst hpi
   have e0:wb=true→wp=true→¬Go.Sort.hintCode hint=1:=by
    rintro rfl rfl e
    cases hint<;>simp [Go.Sort.hintCode] at hc e
   clear hc hR
   cases wb<;>cases wp
   all_goals
    try have e1:=e0 rfl rfl
    clear e0
    repeat' (first|refine go1 ?_|refine za rfl ?_|(refine go2 fun A B a b=>?_;simp only [go_sem, *];(repeat' first|apply a.1|apply b.1|refine iteI (fun h=>?_) fun h=>?_)<;>clear a b A B))
    refine zM w ⟨hn,hw,rfl⟩ ?_ ⟨_,rfl⟩
    ((try simp only [zg,zi,zd,zf,List.set_cons_zero,List.set_cons_succ]);all_goals (first|rfl|(simp only [zn,zj,zc,List.length_map,List.length_append,List.length_cons,List.length_nil,Nat.zero_add];first|done|rfl)))
 clear hpi hn hw w
 rintro w g H ⟨hn,hw,hpf⟩
 rw [hpf] at hR
 simp only [Bool.false_eq_true,if_false] at hR
 obtain⟨d3,hd3⟩:∃ x,pi.1=x:=⟨_,rfl⟩
 rw [hd3] at hR hn ⊢
 simp only [zo,zq,zd,zf,List.set_cons_zero,List.set_cons_succ]
 clear hd3 hpf
 have p1:a-1<n:=by omega
 have p2:pv<n:=by omega
 by_cases heq:(decide (a > 0) && !ltE d3[a-1]! d3[pv]!)=true
 ·rw [if_pos heq] at hR
  simp only [Bool.and_eq_true,decide_eq_true_eq,Bool.not_eq_true'] at heq
  obtain⟨ha0,hlt⟩:=heq
  have ha0':(0:Int)<(a:Int):=by omega
  have w1:IntKind.wrap .i64 ((a:Int)-1)=((a-1:Nat):Int):=by rw [zu (by omega) (by omega)];omega
  have hr:=peq_range a b (b-1+1-(a+1)) (a+1) (b-1) (Go.Sort.swp d3 a pv) (Nat.le_refl _) (by omega) (by omega)
  have hpe:Go.Sort.partitionEqual ltE d3 a b pv=Go.Sort.partEqLoop ltE a (a+1) (b-1) (Go.Sort.swp d3 a pv):=rfl
  rw [←hpe] at hr
  clear hpe
  repeat' (first|refine go1 ?_|refine za rfl ?_|(refine go2 fun A B a b=>?_;simp only [go_sem, *,zb,zm,idxD,ltT,rowsD_get,rowsD_len,rowsD_put,dropD,takeD,sizeD,(lessE _ _ _ _).rw,zbt,Bool.decide_eq_true,encE];(repeat' first|apply a.1|apply b.1|refine iteI (fun h=>?_) fun h=>?_)<;>clear a b A B))
  refine zG fun K hK=>?_
  simp only [go_sem]
  refine EvR.mono (partEqE A (C++H) d3 n w a b pv hn hw hpr.1 hpr.2 hb (by omega)) ?_
  obtain⟨⟨mid,d4⟩,hP⟩:∃ x,Go.Sort.partitionEqual ltE d3 a b pv=x:=⟨_,rfl⟩
  rw [hP] at hr ⊢
  simp only [hP] at hR hr
  rw [dif_pos (by omega)] at hR
  rintro _ S ⟨rfl,hL⟩
  obtain⟨w'',C'',hn3,hw3,rfl⟩:=left_shift hL
  refine hK.out _ _ ?_
  clear hK K
  repeat' (first|refine go1 ?_|refine za rfl ?_|(refine go2 fun A B a b=>?_;simp only [go_sem, *];(repeat' first|apply a.1|apply b.1|refine iteI (fun h=>?_) fun h=>?_)<;>clear a b A B))
  refine zy (mid,b,lim1,wb,wp,d4,w'') (by simp only;omega) ⟨hn3,hw3,by simp only;omega,hb,by simp only;omega,hlim',hR⟩ ?_ ⟨_,rfl⟩
  ((try simp only [zg,zi,zd,zf,List.set_cons_zero,List.set_cons_succ]);all_goals (first|rfl|(simp only [zn,zj,zc,List.length_map,List.length_append,List.length_cons,List.length_nil,Nat.zero_add];first|done|rfl)))
 ·rw [if_neg heq] at hR
  have hpr2:=Go.Sort.partition_holds ltE swo_ltE d3 a b pv hpr.1 hpr.2 (by omega)
  have hr:a≤(Go.Sort.partition ltE d3 a b pv).1∧(Go.Sort.partition ltE d3 a b pv).1<b:=⟨hpr2.1,hpr2.2.1⟩
  clear hpr2
  have w1:(0:Int)<(a:Int)→IntKind.wrap .i64 ((a:Int)-1)=((a-1:Nat):Int):=fun _=>by rw [zu (by omega) (by omega)];omega
  have hlt:(0:Int)<(a:Int)→ltE d3[a-1]! d3[pv]! = true:=fun h=>by
   simp only [Bool.and_eq_true,decide_eq_true_eq,Bool.not_eq_true',not_and] at heq
   simpa using heq (by omega)
  clear heq
  refine zce ?_
  refine zce ?_
  refine wpC_cut2 [15,81,82,83,84,85,86,87,88,89,90,91,92,93,94,95,96,97,98,99,100,101,102,103,104] (fun _:Nat=>[]) (fun _ H=>A ++ .arr (rowsD T d3) 2 w true::(C++H)) (fun _=>True) ?_ ?_
  ·by_cases h0:(0:Int)<(a:Int)
   ·have w1:=w1 h0
    have hlt:=hlt h0
    repeat' (first|refine go1 ?_|refine za rfl ?_|(refine go2 fun A B a b=>?_;simp only [go_sem, *,zb,zm,idxD,ltT,rowsD_get,rowsD_len,rowsD_put,dropD,takeD,sizeD,(lessE _ _ _ _).rw,zbt,Bool.decide_eq_true,encE];(repeat' first|apply a.1|apply b.1|refine iteI (fun h=>?_) fun h=>?_)<;>clear a b A B))
    refine zM 0 trivial ?_ ⟨_,rfl⟩
    ((try simp only [zg,zi,zd,zf,List.set_cons_zero,List.set_cons_succ]);all_goals (first|rfl|(simp only [zn,zj,zc,List.length_map,List.length_append,List.length_cons,List.length_nil,Nat.zero_add];first|done|rfl)))
   ·clear w1 hlt
    repeat' (first|refine go1 ?_|refine za rfl ?_|(refine go2 fun A B a b=>?_;simp only [go_sem, *,zb,zm,idxD,ltT,rowsD_get,rowsD_len,rowsD_put,dropD,takeD,sizeD,(lessE _ _ _ _).rw,zbt,Bool.decide_eq_true,encE];(repeat' first|apply a.1|apply b.1|refine iteI (fun h=>?_) fun h=>?_)<;>clear a b A B))
    refine zM 0 trivial ?_ ⟨_,rfl⟩
    ((try simp only [zg,zi,zd,zf,List.set_cons_zero,List.set_cons_succ]);all_goals (first|rfl|(simp only [zn,zj,zc,List.length_map,List.length_append,List.length_cons,List.length_nil,Nat.zero_add];first|done|rfl)))
  clear w1 hlt
  rintro _ g H _
  simp only [zo,zq,zd,zf,List.set_cons_zero,List.set_cons_succ]
  repeat' (first|refine go1 ?_|refine za rfl ?_|(refine zt fun A B a b=>?_;simp only [go_sem, *];(repeat' first|apply a.1|refine iteI (fun h=>?_) fun h=>?_)<;>clear a b A B))
  refine zG fun K hK=>?_
  simp only [go_sem]
  refine EvR.mono (partitE A (C++H) d3 n w a b pv hn hw hpr.1 hpr.2 hb (by omega)) ?_
  obtain⟨⟨mid,ap,d4⟩,hP⟩:∃ x,Go.Sort.partition ltE d3 a b pv=x:=⟨_,rfl⟩
  rw [hP] at hr ⊢
  simp only [hP] at hR hr
  rw [dif_pos hr] at hR
  rintro _ S ⟨rfl,hL⟩
  obtain⟨w'',C'',hn3,hw3,rfl⟩:=left_shift hL
  refine hK.out _ _ ?_
  clear hK K
  have v1:IntKind.wrap .i64 ((mid:Int)-(a:Int))=((mid-a:Nat):Int):=by rw [zu (by omega) (by omega)];omega
  have v2:IntKind.wrap .i64 ((b:Int)-(mid:Int))=((b-mid:Nat):Int):=by rw [zu (by omega) (by omega)];omega
  have v3:IntKind.wrap .i64 (((b-a:Nat):Int).tdiv 8)=(((b-a) / 8:Nat):Int):=by rw [Int.tdiv_eq_ediv_of_nonneg (by omega),zu (by omega) (by omega)];omega
  have v4:¬(8:Int)=0:=by omega
  have v5:=zB (n:=mid) (by omega)
  by_cases hlr:mid-a<b-mid
  ·have hlr':((mid-a:Nat):Int)<((b-mid:Nat):Int):=by omega
   rw [if_pos hlr] at hR
   repeat' (first|refine go1 ?_|refine za rfl ?_|(refine go2 fun A B a b=>?_;simp only [go_sem, *];(repeat' first|apply a.1|apply b.1|refine iteI (fun h=>?_) fun h=>?_)<;>clear a b A B))
   refine zG fun K hK=>?_
   simp only [go_sem]
   refine EvR.mono (ih (mid-a) (by omega) A (C++C'') d4 n w'' a mid lim1 (Nat.le_refl _) hn3 hw3 hr.1 (by omega) hsm hlim') ?_
   rintro _ S ⟨rfl,hL2⟩
   obtain⟨w4,C4,hn4,hw4,rfl⟩:=left_shift hL2
   refine hK.out _ _ ?_
   clear hK K
   repeat' (first|refine go1 ?_|refine za rfl ?_|(refine go2 fun A B a b=>?_;simp only [go_sem, *];(repeat' first|apply a.1|apply b.1|refine iteI (fun h=>?_) fun h=>?_)<;>clear a b A B))
   refine zy (mid+1,b,lim1,decide (mid-a≥(b-a) / 8),ap,_,w4) (by simp only;omega) ⟨hn4,hw4,by simp only;omega,hb,by simp only;omega,hlim',hR⟩ ?_ ⟨_,rfl⟩
   have ed:decide ((((b-a) / 8:Nat):Int)≤((mid-a:Nat):Int))=decide (mid-a≥(b-a) / 8):=by simp only [ge_iff_le,Int.ofNat_le]
   ((try simp only [zg,zi,zd,zf,List.set_cons_zero,List.set_cons_succ]);all_goals (first|rfl|(simp only [zn,zc,List.length_map,ed];done)|(simp only [zn,zj,zc,List.length_map,List.length_append,List.length_cons,List.length_nil,Nat.zero_add,ed];first|done|rfl)))
  ·have hlr':¬((mid-a:Nat):Int)<((b-mid:Nat):Int):=by omega
   rw [if_neg hlr] at hR
   repeat' (first|refine go1 ?_|refine za rfl ?_|(refine go2 fun A B a b=>?_;simp only [go_sem, *];(repeat' first|apply a.1|apply b.1|refine iteI (fun h=>?_) fun h=>?_)<;>clear a b A B))
   refine zG fun K hK=>?_
   simp only [go_sem]
   refine EvR.mono (ih (b-(mid+1)) (by omega) A (C++C'') d4 n w'' (mid+1) b lim1 (Nat.le_refl _) hn3 hw3 (by omega) hb hsm hlim') ?_
   rintro _ S ⟨rfl,hL2⟩
   obtain⟨w4,C4,hn4,hw4,rfl⟩:=left_shift hL2
   refine hK.out _ _ ?_
   clear hK K
   repeat' (first|refine go1 ?_|refine za rfl ?_|(refine go2 fun A B a b=>?_;simp only [go_sem, *];(repeat' first|apply a.1|apply b.1|refine iteI (fun h=>?_) fun h=>?_)<;>clear a b A B))
   refine zy (a,mid,lim1,decide (b-mid≥(b-a) / 8),ap,_,w4) (by simp only;omega) ⟨hn4,hw4,hr.1,by simp only;omega,by simp only;omega,hlim',hR⟩ ?_ ⟨_,rfl⟩
   have ed:decide ((((b-a) / 8:Nat):Int)≤((b-mid:Nat):Int))=decide (b-mid≥(b-a) / 8):=by simp only [ge_iff_le,Int.ofNat_le]
   ((try simp only [zg,zi,zd,zf,List.set_cons_zero,List.set_cons_succ]);all_goals (first|rfl|(simp only [zn,zc,List.length_map,ed];done)|(simp only [zn,zj,zc,List.length_map,List.length_append,List.length_cons,List.length_nil,Nat.zero_add,ed];first|done|rfl)))
end Go.Eng.Fo

/- Time spans and their lists (plain): Both, Minus, Covers, Total. -/
namespace Go.Eng

def cap (a b:Spn):Spn:=(max a.1 b.1,min a.2 b.2)
def bothGo:List Spn→List Spn→List Spn
 | [],_=>[]
 | _::_,[]=>[]
 | a::ar,b::bs=>(if (cap a b).1<(cap a b).2 then [cap a b] else [])++(if a.2<b.2 then bothGo ar (b::bs) else bothGo (a::ar) bs)
 termination_by a b=>a.length+b.length
theorem Tm_lo {x:Spn}{l:List Spn}(h:∀ y∈l,x.2<y.1){t:Int}(ht:Tm l t):x.2<t:=by
 obtain⟨s,hs,h1,_⟩:=ht
 have:=h s hs;omega
theorem mem_Tm {l:List Spn}(h:Norm l){s:Spn}(hs:s∈l):Tm l s.1:=by
 have:=zbU.mp (h.rg s hs)
 exact⟨s,hs,by omega,by omega⟩
theorem bothGo_spec:∀ (n:Nat) (a b:List Spn),a.length+b.length≤n→Norm a→Norm b→Norm (bothGo a b)∧∀ t,Tm (bothGo a b) t↔Tm a t∧Tm b t:=by
 intro n
 induction n with
 | zero=>
  intro a b h _ _
  have:a = []:=List.eq_nil_of_length_eq_zero (by omega)
  subst this
  rw [bothGo]
  exact⟨zci,fun t=>⟨fun k=>absurd k zbY,fun k=>absurd k.1 zbY⟩⟩
 | succ n ih=>
  intro a b h ha hb
  cases a with
  | nil=>rw [bothGo];exact⟨zci,fun t=>⟨fun k=>absurd k zbY,fun k=>absurd k.1 zbY⟩⟩
  | cons x ar=>
   cases b with
   | nil=>rw [bothGo];exact⟨zci,fun t=>⟨fun k=>absurd k zbY,fun k=>absurd k.2 zbY⟩⟩
   | cons y bs=>
    obtain⟨rx,sx,nx⟩:=zcg.mp ha
    obtain⟨ry,sy,ny⟩:=zcg.mp hb
    have ex:=zbU.mp rx
    have ey:=zbU.mp ry
    have hc1:(cap x y).1=max x.1 y.1:=rfl
    have hc2:(cap x y).2=min x.2 y.2:=rfl
    have hcap:∀ t,Tm (if (cap x y).1<(cap x y).2 then [cap x y] else []) t↔(x.1≤t∧t<x.2)∧(y.1≤t∧t<y.2):=by
     intro t
     split
     ·rw [zbG,hc1,hc2]
      constructor
      ·rintro (k|k)
       ·omega
       ·exact absurd k zbY
      ·intro k;left;omega
     ·rename_i hn
      rw [hc1,hc2] at hn
      constructor
      ·intro k;exact absurd k zbY
      ·intro k;omega
    have hnc:Norm (if (cap x y).1<(cap x y).2 then [cap x y] else []):=by
     split
     ·rename_i hn
      rw [hc1,hc2] at hn
      exact zcB.mpr (zbU.mpr ⟨by rw [hc1];omega,by rw [hc1,hc2];omega,by rw [hc2];omega⟩)
     ·exact zci
    rw [bothGo]
    by_cases hlt:x.2<y.2
    ·rw [if_pos hlt]
     obtain⟨i1,i2⟩:=ih ar (y::bs) (by simp at h ⊢;omega) nx hb
     refine⟨zcH.mpr ⟨hnc,i1,fun s hs z hz=>?_⟩,fun t=>?_⟩
     ·have h1:=(i2 z.1).mp (mem_Tm i1 hz)
      have h2:=Tm_lo sx h1.1
      split at hs
      ·have:=List.mem_singleton.mp hs;subst this;rw [hc2];omega
      ·cases hs
     ·rw [Tm_app,hcap,i2,zbG (l:=ar)]
      constructor
      ·rintro (k|k)
       ·exact⟨.inl k.1,zbG.mpr (.inl k.2)⟩
       ·exact⟨.inr k.1,k.2⟩
      ·rintro⟨k|k,k2⟩
       ·rcases zbG.mp k2 with k3|k3
        ·exact .inl ⟨k,k3⟩
        ·have:=Tm_lo sy k3;omega
       ·exact .inr ⟨k,k2⟩
    ·rw [if_neg hlt]
     obtain⟨i1,i2⟩:=ih (x::ar) bs (by simp at h ⊢;omega) ha ny
     refine⟨zcH.mpr ⟨hnc,i1,fun s hs z hz=>?_⟩,fun t=>?_⟩
     ·have h1:=(i2 z.1).mp (mem_Tm i1 hz)
      have h2:=Tm_lo sy h1.2
      split at hs
      ·have:=List.mem_singleton.mp hs;subst this;rw [hc2];omega
      ·cases hs
     ·rw [Tm_app,hcap,i2,zbG (l:=bs)]
      constructor
      ·rintro (k|k)
       ·exact⟨zbG.mpr (.inl k.1),.inl k.2⟩
       ·exact⟨k.1,.inr k.2⟩
      ·rintro⟨k2,k|k⟩
       ·rcases zbG.mp k2 with k3|k3
        ·exact .inl ⟨k3,k⟩
        ·have:=Tm_lo sx k3;omega
       ·exact .inr ⟨k2,k⟩
def bothP (a b:List Spn):List Spn:=bothGo (uniR a) (uniR b)
theorem bothP_spec (a b:List Spn):Norm (bothP a b)∧∀ t,Tm (bothP a b) t↔Tr a t∧Tr b t:=by
 obtain⟨h1,h2⟩:=uniR_spec a
 obtain⟨h3,h4⟩:=uniR_spec b
 obtain⟨h5,h6⟩:=bothGo_spec _ _ _ (Nat.le_refl _) h1 h3
 exact⟨h5,fun t=>by unfold bothP;rw [h6,h2,h4]⟩

def gapsGo (at_:Int):List Spn→List Spn
 | []=>[(at_,86400000)]
 | s::l=>(at_,s.1)::gapsGo s.2 l
def minusP (a b:List Spn):List Spn:=bothP a (gapsGo 0 (uniR b))
theorem gaps_spec:∀ (l:List Spn) (at_:Int),Norm l→0≤at_→(∀ s∈l,at_≤s.1)→∀ t,Tr (gapsGo at_ l) t↔(at_≤t∧t<86400000)∧¬Tm l t
 | [],at_,_,h0,_,t=>by
  unfold Tr gapsGo
  rw [List.filter_cons]
  split
  ·rw [List.filter_nil,zbG]
   constructor
   ·rintro (k|k)
    ·exact⟨k,zbY⟩
    ·exact absurd k zbY
   ·intro k;exact .inl k.1
  ·rename_i hr
   have hr':¬(0≤at_∧at_<86400000∧(86400000:Int)≤86400000):=fun k=>hr (zbU.mpr k)
   rw [List.filter_nil]
   constructor
   ·intro k;exact absurd k zbY
   ·intro k;exfalso;apply hr';omega
 | s::l,at_,hn,h0,hl,t=>by
  obtain⟨rs,ss,nl⟩:=zcg.mp hn
  have es:=zbU.mp rs
  have h1:=hl s (by simp)
  have ih:=gaps_spec l s.2 nl (by omega) (fun z hz=>by have:=ss z hz;omega) t
  unfold Tr at ih ⊢
  unfold gapsGo
  rw [List.filter_cons]
  have hlo:Tm l t→s.2<t:=Tm_lo ss
  split
  ·rw [zbG,ih,zbG]
   simp only
   constructor
   ·rintro (k|k)
    ·refine⟨by omega,?_⟩
     rintro (k2|k2)
     ·omega
     ·have:=hlo k2;omega
    ·refine⟨by omega,?_⟩
     rintro (k2|k2)
     ·omega
     ·exact k.2 k2
   ·rintro⟨k,k2⟩
    by_cases h2:t<s.1
    ·left;omega
    ·right
     refine⟨⟨?_,by omega⟩,fun k3=>k2 (.inr k3)⟩
     apply Classical.byContradiction
     intro h3
     exact k2 (.inl ⟨by omega,by omega⟩)
  ·rename_i hr
   have hr':¬(0≤at_∧at_<s.1∧s.1≤86400000):=fun k=>hr (zbU.mpr k)
   rw [ih,zbG]
   constructor
   ·rintro⟨k,k2⟩
    refine⟨by omega,?_⟩
    rintro (k3|k3)
    ·omega
    ·exact k2 k3
   ·rintro⟨k,k2⟩
    refine⟨⟨?_,by omega⟩,fun k3=>k2 (.inr k3)⟩
    apply Classical.byContradiction
    intro h3
    exact k2 (.inl ⟨by omega,by omega⟩)
theorem Tr_range {l:List Spn}{t:Int}(h:Tr l t):0≤t∧t<86400000:=by
 obtain⟨s,hs,h1,h2⟩:=h
 have:=zbU.mp (by simpa using (List.mem_filter.mp hs).2)
 omega
theorem minusP_spec (a b:List Spn):Norm (minusP a b)∧∀ t,Tm (minusP a b) t↔Tr a t∧¬Tr b t:=by
 obtain⟨h1,h2⟩:=bothP_spec a (gapsGo 0 (uniR b))
 obtain⟨h3,h4⟩:=uniR_spec b
 refine⟨h1,fun t=>?_⟩
 unfold minusP
 rw [h2,gaps_spec _ 0 h3 (by omega) (fun s hs=>by have:=zbU.mp (h3.rg s hs);omega),h4]
 constructor
 ·exact fun k=>⟨k.1,k.2.2⟩
 ·exact fun k=>⟨k.1,Tr_range k.1,k.2⟩

def wo1 (s x:Spn):List Spn:=(if rgt (x.1,min x.2 s.1)=true then [(x.1,min x.2 s.1)] else [])++(if rgt (max x.1 s.2,x.2)=true then [(max x.1 s.2,x.2)] else [])
def wo (l:List Spn) (s:Spn):List Spn:=l.flatMap (wo1 s)
def minusR (a b:List Spn):List Spn:=b.foldl (fun out s=>if rgt s=true then wo out s else out) (uniR a)
theorem wo1_spec {s x:Spn}(hs:rgt s=true) (hx:rgt x=true):Norm (wo1 s x)∧(∀ t,Tm (wo1 s x) t↔(x.1≤t∧t<x.2)∧¬(s.1≤t∧t<s.2)):=by
 have es:=zbU.mp hs
 have ex:=zbU.mp hx
 have h1:∀ t,Tm (if rgt (x.1,min x.2 s.1)=true then [(x.1,min x.2 s.1)] else []) t↔x.1≤t∧t<min x.2 s.1:=by
  intro t
  split
  ·rw [zbG];exact⟨fun k=>k.resolve_right zbY,.inl⟩
  ·rename_i hr
   have hr':¬(0≤x.1∧x.1<min x.2 s.1∧min x.2 s.1≤86400000):=fun k=>hr (zbU.mpr k)
   exact⟨fun k=>absurd k zbY,fun k=>by exfalso;apply hr';omega⟩
 have h2:∀ t,Tm (if rgt (max x.1 s.2,x.2)=true then [(max x.1 s.2,x.2)] else []) t↔max x.1 s.2≤t∧t<x.2:=by
  intro t
  split
  ·rw [zbG];exact⟨fun k=>k.resolve_right zbY,.inl⟩
  ·rename_i hr
   have hr':¬(0≤max x.1 s.2∧max x.1 s.2<x.2∧x.2≤86400000):=fun k=>hr (zbU.mpr k)
   exact⟨fun k=>absurd k zbY,fun k=>by exfalso;apply hr';omega⟩
 refine⟨zcH.mpr ⟨?_,?_,?_⟩,fun t=>?_⟩
 ·split
  ·rename_i hr;exact zcB.mpr hr
  ·exact zci
 ·split
  ·rename_i hr;exact zcB.mpr hr
  ·exact zci
 ·intro u hu z hz
  split at hu
  ·have:=List.mem_singleton.mp hu;subst this
   split at hz
   ·have:=List.mem_singleton.mp hz;subst this
    simp only;omega
   ·cases hz
  ·cases hu
 ·unfold wo1
  rw [Tm_app,h1,h2]
  omega
theorem wo_spec {s:Spn}(hs:rgt s=true):∀ {l:List Spn},Norm l→Norm (wo l s)∧∀ t,Tm (wo l s) t↔Tm l t∧¬(s.1≤t∧t<s.2)
 | [],_=>⟨zci,fun t=>⟨fun k=>absurd k zbY,fun k=>absurd k.1 zbY⟩⟩
 | x::l,h=>by
  obtain⟨rx,sx,nl⟩:=zcg.mp h
  obtain⟨i1,i2⟩:=wo_spec hs nl
  obtain⟨j1,j2⟩:=wo1_spec hs rx
  have e:wo (x::l) s=wo1 s x++wo l s:=rfl
  rw [e]
  refine⟨zcH.mpr ⟨j1,i1,fun u hu z hz=>?_⟩,fun t=>?_⟩
  ·have hz1:=Tm_lo sx ((i2 z.1).mp (mem_Tm i1 hz)).1
   have hu1:=zbU.mp (j1.rg u hu)
   have hu2:=(j2 (u.2-1)).mp ⟨u,hu,by omega,by omega⟩
   omega
  ·rw [Tm_app,i2,j2,zbG]
   constructor
   ·rintro (k|k)
    ·exact⟨.inl k.1,k.2⟩
    ·exact⟨.inr k.1,k.2⟩
   ·rintro⟨k|k,k2⟩
    ·exact .inl ⟨k,k2⟩
    ·exact .inr ⟨k,k2⟩
theorem minusR_go:∀ (b out:List Spn),Norm out→Norm (b.foldl (fun out s=>if rgt s=true then wo out s else out) out)∧∀ t,Tm (b.foldl (fun out s=>if rgt s=true then wo out s else out) out) t↔Tm out t∧¬Tr b t
 | [],out,h=>⟨h,fun t=>⟨fun k=>⟨k,by unfold Tr;simpa using zbY⟩,fun k=>k.1⟩⟩
 | s::b,out,h=>by
  rw [List.foldl_cons]
  unfold Tr
  rw [List.filter_cons]
  by_cases hs:rgt s=true
  ·rw [if_pos hs,if_pos hs]
   obtain⟨j1,j2⟩:=wo_spec hs h
   obtain⟨i1,i2⟩:=minusR_go b _ j1
   refine⟨i1,fun t=>?_⟩
   rw [i2,j2,zbG]
   unfold Tr
   constructor
   ·rintro⟨⟨k1,k2⟩,k3⟩
    exact⟨k1,fun k=>by rcases k with k|k;exact k2 k;exact k3 k⟩
   ·rintro⟨k1,k2⟩
    exact⟨⟨k1,fun k=>k2 (.inl k)⟩,fun k=>k2 (.inr k)⟩
  ·rw [if_neg hs,if_neg hs]
   exact minusR_go b out h
theorem minusR_spec (a b:List Spn):Norm (minusR a b)∧∀ t,Tm (minusR a b) t↔Tr a t∧¬Tr b t:=by
 obtain⟨h3,h4⟩:=uniR_spec a
 obtain⟨h1,h2⟩:=minusR_go b (uniR a) h3
 exact⟨h1,fun t=>by unfold minusR;rw [h2,h4]⟩
theorem minusP_eq (a b:List Spn):minusP a b=minusR a b:=by
 obtain⟨h1,h2⟩:=minusP_spec a b
 obtain⟨h3,h4⟩:=minusR_spec a b
 exact norm_unique h1 h3 fun t=>by rw [h2,h4]

theorem norm_empty {l:List Spn}(h:Norm l):l = []↔∀ t,¬Tm l t:=by
 constructor
 ·rintro rfl t;exact zbY
 ·intro k
  cases l with
  | nil=>rfl
  | cons x l=>exact absurd (mem_Tm h (s:=x) (by simp)) (k x.1)
theorem uni_norm {l:List Spn}(h:Norm l):uniR l=l:=by
 obtain⟨h1,h2⟩:=uniR_spec l
 exact norm_unique h1 h fun t=>by rw [h2,Tr_norm h]
end Go.Eng

/- Lists of spans: Right, the search by a function, slices.DeleteFunc, slices.SortFunc as runs. -/
namespace Go.Eng.Fo
open Go.Proofs
attribute [local irreducible] wpC wpO wp1 EvV EvR wpL
attribute [local go_sem] ty3 ty4 ty47 eq47 br48 fz195 ty44 ty85 fz182 reduceIte Nat.reduceAdd Nat.reduceEqDiff Nat.reduceLT Nat.reduceLeDiff beq_iff_eq beq_eq_false_iff_ne Int.natCast_inj Bool.not_eq_false' zbD zbx zaE za9 zaw zas za7 zF zaB zaD zE zax zbw zP zH za8 zI zba zaC zbv zbu zL zar zR zaz zQ zay zS zaA za5 zat zae zbd zaG zbc zbb zbe zby zaF zaY zao zaX zaZ zav zaW zaV zaI zaK zaf zac zW z8 zbg zaJ boxK storeK zaq zaM zam zaN zbm zau zbz zbf zX zaa zaP zaQ zan zbn zaO zbr zaU zbp zbA zbs zbo zbq zaR zbC zaS zaT List.all_cons List.all_nil Bool.and_true Bool.and_self Bool.true_and z7 zaH List.set_cons_zero List.set_cons_succ List.length_cons List.length_nil List.nil_append List.cons_append stabL AV.stab fieldAddrA fieldA List.getElem?_cons_zero List.getElem?_cons_succ Nat.zero_add loadA rowOf Nat.le_refl and_self true_and and_true partA binA unA intBin eqBin eqCells eqCell Option.bind_some decide_true decide_false decide_eq_true_eq ite_not Bool.not_eq_true' decide_eq_false_iff_not Bool.false_eq_true Option.map_some Option.map_none Bool.not_true Bool.not_false buildA fillA patch List.take List.drop List.map_cons List.map_nil extK List.getD_cons_zero List.getD_cons_succ minmaxA minmaxGo zJ zV zak zU zai zT zal zaj zah zag zaL zbk zbi zbl zbj zbh bne Bool.false_and Bool.and_false ne_eq not_true_eq_false not_false_eq_true List.append_nil resultsR resultsL resultA za3 zap za2 za4 za0 za1 zZ zbK zad zO zD zbB
set_option maxRecDepth 20000
set_option maxHeartbeats 4000000

theorem rightE (x:El):EvV CX 48 [.agg (encE x)] (· = .bool (rgt x)):=by
 obtain⟨a,b⟩:=x
 refine EvV.walk rfl fn48 rfl nt48 rfl ?_
 simp only [List.length_cons,List.length_nil,List.cons_append,List.nil_append,Nat.reduceAdd,Nat.reduceSub,List.replicate]
 repeat' (first|refine go1 ?_|refine za rfl ?_|(refine go2 fun A B a b=>?_;simp only [go_sem, *,encE];(repeat' first|apply a.1|apply b.1|refine iteI (fun h=>?_) fun h=>?_)<;>clear a b A B))
 all_goals simp only [go_sem]
 all_goals simp [rgt, *]

theorem del1E (x:El):EvV CX 114 [.agg (encE x)] (· = .bool (!rgt x)):=by
 have q:=(rightE x).rw
 obtain⟨a,b⟩:=x
 simp only [encE] at q ⊢
 refine EvV.walk rfl fn114 rfl nt114 rfl ?_
 simp only [List.length_cons,List.length_nil,List.cons_append,List.nil_append,Nat.reduceAdd,Nat.reduceSub,List.replicate]
 repeat' (first|refine go1 ?_|refine za rfl ?_|(refine go2 fun A B a b=>?_;simp only [go_sem, *];(repeat' first|apply a.1|apply b.1|refine iteI (fun h=>?_) fun h=>?_)<;>clear a b A B))
 simp only [go_sem]

def posF (p:El→Bool):List El→Nat→Int
 | [],_=> -1
 | x::l,k=>if p x=true then (k:Int) else posF p l (k+1)
theorem posF_spec (p:El→Bool):∀ (l:List El) (k:Nat),(posF p l k = -1∧∀ x∈l,p x=false)∨∃ a x b,l=a++x::b∧p x=true∧(∀ y∈a,p y=false)∧posF p l k=((k+a.length:Nat):Int)
 | [],k=> .inl ⟨rfl,by simp⟩
 | x::l,k=>by
  by_cases h:p x=true
  ·exact .inr ⟨[],x,l,rfl,h,by simp,by simp [posF,h]⟩
  ·have h':p x=false:=by simpa using h
   rw [posF,if_neg h]
   rcases posF_spec p l (k+1) with ⟨h1,h2⟩|⟨a,y,b,h1,h2,h3,h4⟩
   ·exact .inl ⟨h1,fun z hz=>by rcases List.mem_cons.mp hz with e|e;exact e ▸ h';exact h2 z e⟩
   ·refine .inr ⟨x::a,y,b,by simp [h1],h2,fun z hz=>by rcases List.mem_cons.mp hz with e|e;exact e ▸ h';exact h3 z e,?_⟩
    rw [h4,List.length_cons];congr 1;omega

theorem indexFE (v:AV) (l:List El) (clo:FuncId) (caps:List AV) (p:El→Bool) (hb:CX.byRef clo=false) (hs:∀ S,snapL S caps=some caps) (hp:∀ x,EvV CX clo (.agg (encE x)::caps) (· = .bool (p x))) (hv:SLs 2 (l.map encE) v) (hl:l.length<9223372036854775807) :
  EvV CX 111 [v,.fn clo caps] (· = .int .i64 (posF p l 0)):=by
 refine EvV.walk rfl fn111 rfl nt111 rfl ?_
 simp only [List.length_cons,List.length_nil,List.cons_append,List.nil_append,Nat.reduceAdd,Nat.reduceSub,List.replicate]
 repeat' (first|refine go1 ?_|refine za rfl ?_|(refine go2 fun A B a b=>?_;simp only [go_sem, *,zA hv];(repeat' first|apply a.1|apply b.1|refine iteI (fun h=>?_) fun h=>?_)<;>clear a b A B))
 refine zbS [4,5,9,10,11,12,13,14,15,16,17,18] 8 l (fun pre post=>posF p l 0=posF p post pre.length) ?_ ?_ ?_ ?_
 ·rfl
 ·rfl
 ·intro g G h2
  rw [h2];simp only [zo,zq,zd,zf,List.set_cons_zero,List.set_cons_succ]
  repeat' (first|refine go1 ?_|refine za rfl ?_|(refine go2 fun A B a b=>?_;simp only [go_sem, *,zc,List.length_map,Int.lt_irrefl];(repeat' first|apply a.1|apply b.1|refine iteI (fun h=>?_) fun h=>?_)<;>clear a b A B))
  simp only [go_sem]
  rfl
 ·intro g G pre x post h1 h2
  rw [h2];subst h1;simp only [zo,zq,zd,zf,List.set_cons_zero,List.set_cons_succ]
  have i1:=zbE hv (X:=CX) ty44 ty47 rfl (zcf encE pre x post) (k := .i64)
  have w1:=zB (n:=pre.length) (by simp at hl;omega)
  have q:=(hp x).rw
  simp only [encE] at q
  by_cases hx:p x=true
  ·rw [hx] at q
   have hh:Hold (p x=true):=⟨hx⟩
   clear hx hp h2
   repeat' (first|refine go1 ?_|refine za rfl ?_|(refine go2 fun A B a b=>?_;simp only [go_sem, *,zb,ze,zm,zp,zj,zc,List.length_map,zK,encE];(repeat' first|apply a.1|apply b.1|refine iteI (fun h=>?_) fun h=>?_)<;>clear a b A B))
   simp only [go_sem]
   simp [posF,hh.out]
  ·have hx':p x=false:=by simpa using hx
   rw [hx'] at q
   have hh:Hold (¬p x=true):=⟨hx⟩
   clear hx hx' hp h2
   repeat' (first|refine go1 ?_|refine za rfl ?_|(refine go2 fun A B a b=>?_;simp only [go_sem, *,zb,ze,zm,zp,zj,zc,List.length_map,zK,encE];(repeat' first|apply a.1|apply b.1|refine iteI (fun h=>?_) fun h=>?_)<;>clear a b A B))
   refine zbH rfl ?_ ?_ ?_
   ·rw [posF,if_neg hh.out,zn]
   ·((try simp only [zg,zi,zd,zf,List.set_cons_zero,List.set_cons_succ]);all_goals (first|rfl|(simp only [zn,zj,zc,List.length_map,List.length_append,List.length_cons,List.length_nil,Nat.zero_add];first|done|rfl)))
   ·first|exact⟨[],(List.append_nil _).symm⟩|exact⟨_,rfl⟩|(simp only [List.append_assoc,List.cons_append,List.nil_append];exact⟨_,rfl⟩)

/- Lists of spans: slices.DeleteFunc and slices.SortFunc as runs. -/
open Go.Proofs
attribute [local go_sem] br111 allocK fz185 fz186 nilsK
set_option maxRecDepth 20000
set_option maxHeartbeats 4000000

theorem wpK_clear {X:Ctx}{d:Bool}{dst:Option Tmp}{ty:TypeId}{pos:String}{after:Array Edge}{g:Option (Nat×Bool)}{K:List AV→Store→Prop}{fr:List AV}{S:Store}{s:Operand}{t el:TypeId}{i ei:TyI}{b e off len sz wep:Nat}{rows:List (List AV)}{pr:Bool}
  (ht:X.ty t=some i) (hd:i.desc = .slice el) (he:X.ty el=some ei) (hs:evalA fr s = .sl b e off len sz) (hb:S[b]? = some (.arr rows sz wep pr))
  (h1:rows.length=e) (h2:wep≤e) (h3:sz=ei.size) (h4:ei.zero.length=sz) (h5:off+len≤e) (h6:len≠0)
  (hk:K (putA fr dst (.tup [])) (S.set b (.arr (rows.take off++List.replicate len ei.zero++rows.drop (off+len)) sz e pr))) :
  wpK X d ⟨dst,.call ⟨.builtin .clear,⟨[s]⟩,⟨[t]⟩⟩,ty,pos,after,g⟩ dst K fr S:=by
 obtain⟨a,bb,c,z,dd⟩:=i
 simp only at hd;subst hd
 rw [wpK_eop rfl rfl rfl rfl rfl]
 simp only [eopA,ht,hs,he,hb]
 rw [if_pos ⟨h1,h2,h3,trivial,h4,h5⟩,if_neg h6]
 exact hk

theorem get_len2 {A X Y:Store}{x:Blk}:(A++x::X++Y)[A.length]? = some x:=by
 rw [List.append_assoc,List.cons_append,zb];rfl
theorem set_len2 {A X Y:Store}{x y:Blk}:(A++x::X++Y).set A.length y=A++y::X++Y:=by
 rw [List.append_assoc,List.cons_append,zm];simp
theorem idxZ {b e len j:Nat}{k:IntKind}(h:j<len):indexAddrA CX 44 (.sl b e 0 len 2) (.int k j)=some (.ptr b e 2 j 0):=by
 have:(j:Int)<len:=by omega
 simp [indexAddrA,ty44,ty47,this]
theorem slcFrom {b n i:Nat}{k:IntKind}(h0:0<i) (h:i<n):sliceA CX 44 (.sl b n 0 n 2) (some (.int k i)) none none=some (.sl b n i (n-i) 2):=by
 have h1:¬i=0:=by omega
 have h2:¬i=n:=by omega
 have h3:i≤n:=by omega
 simp [sliceA,ty44,ty47,boundA,h1,h2,h3]
theorem slcFrom0 {b n:Nat}{k:IntKind}:sliceA CX 44 (.sl b n 0 n 2) (some (.int k (0:Nat))) none none=some (.sl b n 0 n 2):=by
 simp [sliceA,ty44,ty47,boundA]
theorem slcAt {b n i:Nat}{k:IntKind}(h:i<n):sliceA CX 44 (.sl b n 0 n 2) (some (.int k i)) none none=some (.sl b n i (n-i) 2):=by
 cases i with
 | zero=>exact slcFrom0
 | succ i=>exact slcFrom (by omega) h
theorem slcTo {b n i:Nat}{k:IntKind}(h:i≤n):sliceA CX 44 (.sl b n 0 n 2) none (some (.int k i)) none=some (.sl b n 0 i 2):=by
 simp [sliceA,ty44,ty47,boundA,h]

def spans (l:List El):List (List AV):=l.map encE
theorem spans_len (l:List El):(spans l).length=l.length:=by simp [spans]
theorem zca {l:List El}{j:Nat}{x:El}(h:l[j]? = some x):(spans l)[j]? = some (encE x):=by simp [spans,h]
theorem spans_set {l:List El}{j:Nat}{x:El}:(spans l).set j (encE x)=spans (l.set j x):=by simp [spans,List.map_set]
theorem spans_drop {l:List El}{j:Nat}{x:El}(h:l[j]? = some x):List.drop 2 ((spans l).getD j []) = []:=by
 rw [List.getD_eq_getElem?_getD,zca h];rfl
theorem spans_rowsD (l:List El):spans l=rowsD [] l.toArray:=by simp [spans,rowsD]

def Cut (A C:Store) (n:Nat) (m:List El) (v:AV) (S:Store):Prop := ∃ T w C',v = .sl A.length (m.length+T.length) 0 m.length 2∧n=m.length+T.length∧w≤m.length+T.length∧S=A ++ .arr (rowsD T m.toArray) 2 w true::(C++C')

theorem take_set {l:List El}{i:Nat}{x:El}(h:i<l.length):(l.set i x).take (i+1)=l.take i++[x]:=by
 rw [List.take_add_one,List.take_set_of_le (Nat.le_refl _)];simp [h]

theorem delE (A C:Store) (l:List El) (w:Nat) (hw:w≤l.length) (hl:l.length<1152921504606846976) :
  EvR CX 112 [.sl A.length l.length 0 l.length 2,.fn 114 []] (A ++ .arr (spans l) 2 w true::C) (Cut A C l.length (l.filter rgt)):=by
 have hs:∀ S,snapL S []=some []:=fun S=>zat
 have q:=(indexFE (.tsl false 2 (spans l)) l 114 [] (fun x=> !rgt x) rfl hs del1E (.rows false) (by omega)).rw
 have e1:(spans l).take l.length=spans l:=by rw [←spans_len l];exact List.take_length
 rcases posF_spec (fun x=> !rgt x) l 0 with ⟨p1,p2⟩|⟨a,x0,b0,p1,p2,p3,p4⟩
 ·rw [p1] at q
  refine EvR.walk rfl fn112 rfl nt112 rfl ?_
  simp only [List.length_cons,List.length_nil,List.cons_append,List.nil_append,Nat.reduceAdd,Nat.reduceSub,List.replicate]
  repeat' (first|refine go1 ?_|refine za rfl ?_|(refine go2 fun A B a b=>?_;simp only [go_sem, *,zk ty44 rfl,zab,zbI,zc,zC,List.take_length,Nat.zero_le,Bool.true_or,spans_len,zb,zbV,List.append_assoc];(repeat' first|apply a.1|apply b.1|refine iteI (fun h=>?_) fun h=>?_)<;>clear a b A B))
  simp only [go_sem,zk ty44 rfl]
  have hf:l.filter rgt=l:=by rw [List.filter_eq_self];intro x hx;simpa using p2 x hx
  rw [hf]
  exact⟨[],w,[.arr [] 2 0 true],by simp,by simp,by simpa using hw,by simp [spans_rowsD]⟩
 ·rw [p4,Nat.zero_add] at q
  have z:¬((a.length:Int) = -1):=by omega
  have w1:=zB (n:=a.length) (by rw [p1] at hl;simp at hl;omega)
  have hal:a.length<l.length:=by rw [p1];simp
  have hp:Hold (l=a++x0::b0∧(!rgt x0)=true∧∀ y∈a,(!rgt y)=false):=⟨p1,p2,p3⟩
  clear p1 p2 p3 p4
  refine EvR.walk rfl fn112 rfl nt112 rfl ?_
  simp only [List.length_cons,List.length_nil,List.cons_append,List.nil_append,Nat.reduceAdd,Nat.reduceSub,List.replicate]
  repeat' (first|refine go1 ?_|refine za rfl ?_|(refine go2 fun A B a b=>?_;simp only [go_sem, *,zk ty44 rfl,zab,zbI,zc,zC,List.take_length,Nat.zero_le,Bool.true_or,spans_len,zb,zbV,List.append_assoc];(repeat' first|apply a.1|apply b.1|refine iteI (fun h=>?_) fun h=>?_)<;>clear a b A B))
  refine zN [7,16,17,18,19,20,21,22,23,24,25,26,27,28,29,30,31,32,33,34,35] (fun p:Nat×Nat×List El×Nat=>[(5,.int .i64 p.1),(6,.int .i64 p.2.1)]) (fun p G=>A ++ .arr (spans p.2.2.1) 2 p.2.2.2 true::(C++G))
   (fun p=>p.2.2.1.length=l.length∧p.2.2.2≤l.length∧p.1<p.2.1∧p.2.1≤l.length∧p.2.2.1.take p.1=(l.take p.2.1).filter rgt∧(∀ m,p.2.1≤m→p.2.2.1[m]? = l[m]?)) (fun p=>l.length-p.2.1) (a.length,a.length+1,l,w) ⟨rfl,hw,by simp only;omega,by simp only;omega,?_,fun _ _=>rfl⟩ ?_ ?_ ?_
  ·obtain⟨p1,p2,p3⟩:=hp.out
   have e2:l.take (a.length+1)=a++[x0]:=by rw [p1];simp [List.take_append,List.take_of_length_le]
   have e3:l.take a.length=a:=by rw [p1];simp
   have hx0:¬rgt x0=true:=by simpa using p2
   simp only
   rw [e2,e3,List.filter_append,List.filter_cons,if_neg hx0,List.filter_nil,List.append_nil]
   rw [List.filter_eq_self.2];intro x hx;simpa using p3 x hx
  ·rfl
  ·exact⟨_,rfl⟩
  clear q hp hal w1 z e1 hw
  rintro⟨i,j,d,w'⟩ g G ⟨hd,hw,hij,hj,hE,hr⟩
  simp only at hd hw hij hj hE hr
  simp only [zo,zq,zd,zf,List.set_cons_zero,List.set_cons_succ]
  by_cases hjl:j<l.length
  ·have hjl':(j:Int)<(l.length:Int):=by omega
   obtain⟨x,hx⟩:∃ x,l[j]? = some x:=⟨_,List.getElem?_eq_getElem hjl⟩
   have hdx:d[j]? = some x:=by rw [hr j (Nat.le_refl _),hx]
   have g1:=zca hdx
   have g2:=spans_drop hdx
   have il:i<l.length:=by omega
   have w2:=zB (n:=i) (by omega)
   have w3:=zB (n:=j) (by omega)
   have hdi:i<d.length:=by omega
   obtain⟨y,hy⟩:∃ y,d[i]? = some y:=⟨_,List.getElem?_eq_getElem hdi⟩
   have g3:=spans_drop hy
   have s1:(spans d).set i [.int .i64 x.1,.int .i64 x.2]=spans (d.set i x):=spans_set
   have q:=(del1E x).rw
   have e3:(l.take (j+1)).filter rgt=(l.take j).filter rgt++if rgt x=true then [x] else []:=by
    rw [List.take_add_one,hx,List.filter_append];simp [List.filter_cons]
   have hh:Hold (∀ m,j≤m→d[m]? = l[m]?):=⟨hr⟩
   have hh2:Hold (d.take i=(l.take j).filter rgt):=⟨hE⟩
   simp only [encE] at q g1
   clear hr hE hx hdx hy
   by_cases hrg:rgt x=true
   ·rw [if_pos hrg] at e3
    rw [hrg] at q
    have hh3:Hold ((l.take (j+1)).filter rgt=(l.take j).filter rgt++[x]):=⟨e3⟩
    clear hrg e3
    repeat' (first|refine go1 ?_|refine za rfl ?_|(refine go2 fun A B a b=>?_;simp only [go_sem, *,zk ty44 rfl,get_len2,set_len2,spans_len,zb,zm,idxZ,zbV,takeD];(repeat' first|apply a.1|apply b.1|refine iteI (fun h=>?_) fun h=>?_)<;>clear a b A B))
    refine zy (i+1,j+1,d.set i x,l.length) (by simp only;omega) ⟨by simpa using hd,Nat.le_refl _,by simp only;omega,by simp only;omega,?_,?_⟩ ?_ (by first|exact⟨[],(List.append_nil _).symm⟩|exact⟨_,rfl⟩|(simp only [List.append_assoc,List.cons_append,List.nil_append];exact⟨_,rfl⟩))
    ·simp only
     rw [take_set (by omega),hh3.out,hh2.out]
    ·intro m hm
     simp only at hm ⊢
     rw [List.getElem?_set_ne (by omega)]
     exact hh.out m (by omega)
    ·((try simp only [zg,zi,zd,zf,List.set_cons_zero,List.set_cons_succ]);all_goals (first|rfl|(simp only [zn,zj,zc,List.length_map,List.length_append,List.length_cons,List.length_nil,Nat.zero_add];first|done|rfl)))
   ·have hrg':rgt x=false:=by simpa using hrg
    rw [if_neg hrg] at e3
    rw [hrg'] at q
    have hh3:Hold ((l.take (j+1)).filter rgt=(l.take j).filter rgt++[]):=⟨e3⟩
    clear hrg hrg' e3
    repeat' (first|refine go1 ?_|refine za rfl ?_|(refine go2 fun A B a b=>?_;simp only [go_sem, *,zk ty44 rfl,get_len2,set_len2,spans_len,zb,zm,idxZ,zbV,takeD];(repeat' first|apply a.1|apply b.1|refine iteI (fun h=>?_) fun h=>?_)<;>clear a b A B))
    refine zy (i,j+1,d,w') (by simp only;omega) ⟨hd,hw,by simp only;omega,by simp only;omega,?_,?_⟩ ?_ (by first|exact⟨[],(List.append_nil _).symm⟩|exact⟨_,rfl⟩|(simp only [List.append_assoc,List.cons_append,List.nil_append];exact⟨_,rfl⟩))
    ·simp only
     rw [hh3.out,hh2.out,List.append_nil]
    ·intro m hm
     exact hh.out m (by simp only at hm;omega)
    ·((try simp only [zg,zi,zd,zf,List.set_cons_zero,List.set_cons_succ]);all_goals (first|rfl|(simp only [zn,zj,zc,List.length_map,List.length_append,List.length_cons,List.length_nil,Nat.zero_add];first|done|rfl)))
  ·have hjl':¬(j:Int)<(l.length:Int):=by omega
   have il:i<l.length:=by omega
   have s1:=slcAt (b:=A.length) (n:=l.length) (i:=i) (k := .i64) il
   have s2:=slcTo (b:=A.length) (n:=l.length) (i:=i) (k := .i64) (by omega)
   have hE2:l.filter rgt=d.take i:=by rw [hE,List.take_of_length_le (by omega)]
   clear hE hr
   repeat' (first|refine go1 ?_|refine za rfl ?_|(refine zt fun A B a b=>?_;simp only [go_sem, *,zk ty44 rfl,zbV];(repeat' first|apply a.1|refine iteI (fun h=>?_) fun h=>?_)<;>clear a b A B))
   (refine zY fun A B hA hB=>?_;simp only [go_sem, *,zk ty44 rfl];first|(refine hA.out ?_;clear hA hB A B)|(refine hB.out ?_;clear hA hB A B))
   repeat' (first|refine go1 ?_|refine za rfl ?_|(refine zt fun A B a b=>?_;simp only [go_sem, *,zk ty44 rfl,zbV];(repeat' first|apply a.1|refine iteI (fun h=>?_) fun h=>?_)<;>clear a b A B))
   refine zG fun K hK=>?_
   simp only [zbD]
   refine wpK_clear ty44 rfl ty47 rfl (zb.trans rfl) (by rw [spans_len];exact hd) hw rfl rfl (by omega) (by omega) ?_
   refine hK.out _ _ ?_
   clear hK K
   repeat' (first|refine go1 ?_|refine za rfl ?_|(refine go2 fun A B a b=>?_;simp only [go_sem, *,zk ty44 rfl,zbV,zm];(repeat' first|apply a.1|apply b.1|refine iteI (fun h=>?_) fun h=>?_)<;>clear a b A B))
   simp only [go_sem,zk ty44 rfl]
   have hlen:(l.filter rgt).length=i:=by rw [hE2,List.length_take];omega
   refine⟨List.replicate (l.length-i) [.int .i64 0,.int .i64 0],l.length,G,?_,?_,?_,?_⟩
   ·rw [hlen,List.length_replicate];congr 1;omega
   ·rw [hlen,List.length_replicate];omega
   ·rw [hlen,List.length_replicate];omega
   ·rw [hE2]
    have e4:(spans d).drop (i+(l.length-i)) = []:=List.drop_of_length_le (by rw [spans_len];omega)
    rw [e4]
    simp [rowsD,spans,List.map_take]

/- Lists of spans: slices.SortFunc, slices.Clone, Union. -/
open Go.Proofs
attribute [local go_sem] ty132 zbF br129 br130 fz190
set_option maxRecDepth 20000
set_option maxHeartbeats 4000000
variable {T:List (List AV)}

theorem sortE (A C:Store) (d:Array El) (n w:Nat) (hn:d.size=n) (hw:w≤n+T.length) (hsm:n<4294967296) :
  EvR CX 115 [.sl A.length (n+T.length) 0 n 2,cmpV] (A ++ .arr (rowsD T d) 2 w true::C) (fun v S=>v = .tup []∧Left T A C n (Go.Sort.sort ltE d) S):=by
 have w1:=wrapU64 (n:=n) (by omega)
 have q:=(lenE n hsm).rw
 have hk:=(Go.Sort.bitsLen_le_iff n 32).2 (by omega)
 refine EvR.walk rfl fn115 rfl nt115 rfl ?_
 simp only [List.length_cons,List.length_nil,List.cons_append,List.nil_append,Nat.reduceAdd,Nat.reduceSub,List.replicate]
 repeat' (first|refine go1 ?_|refine za rfl ?_|(refine go2 fun A B a b=>?_;simp only [go_sem, *,zx,zw ty3 zbF rfl,zbV];(repeat' first|apply a.1|apply b.1|refine iteI (fun h=>?_) fun h=>?_)<;>clear a b A B))
 refine zG fun K hK=>?_
 simp only [go_sem,zx,zw ty3 zbF rfl]
 refine EvR.mono (pdqE n A C d n w 0 n (Go.Sort.bitsLen n) (by omega) hn hw (Nat.zero_le _) (Nat.le_refl _) hsm (by omega)) ?_
 have e:Go.Sort.sort ltE d=Go.Sort.pdq ltE d 0 n (Go.Sort.bitsLen n) true true:=by rw [Go.Sort.sort,hn]
 rw [←e]
 rintro _ S ⟨rfl,hL⟩
 refine hK.out _ _ ?_
 clear hK K
 repeat' (first|refine go1 ?_|refine za rfl ?_|(refine go2 fun A B a b=>?_;simp only [go_sem, *,zx,zw ty3 zbF rfl];(repeat' first|apply a.1|apply b.1|refine iteI (fun h=>?_) fun h=>?_)<;>clear a b A B))
 simp only [go_sem,zx,zw ty3 zbF rfl]
 exact hL

def srtS (l:List El):List El:=(Go.Sort.sort ltE l.toArray).toList
theorem srtS_perm (l:List El):(srtS l).Perm l:=by
 obtain⟨⟨h1,_,h3⟩,_⟩:=Go.Sort.sort_sorts ltE swo_ltE l.toArray
 have e1:(Go.Sort.sort ltE l.toArray).extract 0 l.toArray.size=Go.Sort.sort ltE l.toArray:=by rw [←h1,Array.extract_size]
 rw [e1,Array.extract_size] at h3
 exact h3
theorem srtS_len (l:List El):(srtS l).length=l.length:=(srtS_perm l).length_eq
theorem srtS_le (l:List El):(srtS l).Pairwise fun a b=>a.1≤b.1:=by
 obtain⟨⟨h1,_,_⟩,h2⟩:=Go.Sort.sort_sorts ltE swo_ltE l.toArray
 rw [List.pairwise_iff_getElem]
 intro i j hi hj hij
 have hj':j<(Go.Sort.sort ltE l.toArray).size:=hj
 have:=h2 i j (Nat.zero_le _) hij (by rw [←h1];exact hj')
 have k1:(Go.Sort.sort ltE l.toArray)[j]! = (srtS l)[j]:=by simp [srtS,getElem!_pos,hj']
 have k2:(Go.Sort.sort ltE l.toArray)[i]! = (srtS l)[i]:=by
  have hi':i<(Go.Sort.sort ltE l.toArray).size:=hi
  simp [srtS,getElem!_pos,hi']
 rw [k1,k2] at this
 simp only [ltE,decide_eq_false_iff_not] at this
 omega
theorem srtS_uni (l:List El):mrg (srtS (l.filter rgt))=uniR l:=mrg_uni (srtS_perm _) (srtS_le _)

theorem cloneE (v:AV) (l:List El) (hv:SLs 2 (spans l) v) (hl:l.length≤1073741824):EvV CX 113 [v] (· = .osl 2 (spans l)):=by
 refine EvV.prim (r := .sl 1 l.length 0 l.length 2) (S:=[.arr [] 2 0 true,.arr (spans l) 2 0 true]) rfl ?_ ?_
 ·have e:szOf tab 47=2:=rfl
  simp only [primClone,e,hv.rowsOf,spans_len,if_pos hl]
  rfl
 ·simp [exportA,idsOK,ownIds,lentIds,expTop,spans_len]

/- Lists of spans: Union. -/
open Go.Proofs
attribute [local go_sem] br112 br113 br114 br115 br116 List.replicate Nat.one_mul Nat.reduceMul Nat.zero_mul appK bslA fz196 fz197 lenK_esl zcF zbV lenK_tsl rowsFill zcL zcA zbI zcK
set_option maxRecDepth 20000
set_option maxHeartbeats 4000000

inductive Jn (R:List El):List El→List El→Prop
 | nil {po:List El}(h:mrg po=R):Jn R [] po
 | snoc {pre po:List El}{y:El}(h:mrgGo pre y po=R):Jn R (pre++[y]) po
theorem Jn.done {R acc:List El}(h:Jn R acc []):acc=R:=by
 cases h with
 | nil h=>exact h
 | snoc h=>exact h
theorem Jn.ways {R acc po:List El}(h:Jn R acc po):(acc = []∧mrg po=R)∨∃ pre y,acc=pre++[y]∧mrgGo pre y po=R:=by
 cases h with
 | nil h=>exact .inl ⟨rfl,h⟩
 | snoc h=>exact .inr ⟨_,_,rfl,h⟩
theorem spans_app (l m:List El):spans (l++m)=spans l++spans m:=by simp [spans]

theorem unionE (v:AV) (l:List El) (hv:SLs 2 (spans l) v) (hl:l.length≤1000000):EvV CX 83 [v] (· = .osl 2 (spans (uniR l))):=by
 have q:=(cloneE v l hv (by omega)).rw
 have hvs:=hv.snap
 obtain⟨m,hm⟩:∃ m,l.filter rgt=m:=⟨_,rfl⟩
 obtain⟨srt,hsrt⟩:∃ s,srtS m=s:=⟨_,rfl⟩
 have hR:mrg srt=uniR l:=by rw [←hsrt,←hm];exact srtS_uni l
 have hml:m.length≤l.length:=by rw [←hm];exact List.length_filter_le _ _
 have hsl:srt.length=m.length:=by rw [←hsrt];exact srtS_len m
 rw [←hR]
 refine EvV.walk rfl fn83 rfl nt83 rfl ?_
 simp only [List.length_cons,List.length_nil,List.cons_append,List.nil_append,Nat.reduceAdd,Nat.reduceSub,List.replicate]
 repeat' (first|refine go1 ?_|refine za rfl ?_|(refine zt fun A B a b=>?_;simp only [go_sem, *,zr ty44 rfl,zk ty44 rfl,zh ty44 rfl,spans_len];(repeat' first|apply a.1|refine iteI (fun h=>?_) fun h=>?_)<;>clear a b A B))
 refine zG fun K hK=>?_
 simp only [go_sem,zr ty44 rfl,zk ty44 rfl,zh ty44 rfl]
 refine EvR.mono (delE [.arr [] 2 0 true] [] l 0 (Nat.zero_le _) (by omega)) ?_
 rw [hm]
 rintro _ _ ⟨T,w,C',rfl,hn,hw,rfl⟩
 refine hK.out _ _ ?_
 clear hK K
 repeat' (first|refine go1 ?_|refine za rfl ?_|(refine zt fun A B a b=>?_;simp only [go_sem, *,zr ty44 rfl,zk ty44 rfl,zh ty44 rfl];(repeat' first|apply a.1|refine iteI (fun h=>?_) fun h=>?_)<;>clear a b A B))
 refine zG fun K hK=>?_
 simp only [go_sem,zr ty44 rfl,zk ty44 rfl,zh ty44 rfl]
 refine EvR.mono (sortE (T:=T) [.arr [] 2 0 true] C' m.toArray m.length w (by simp) hw (by omega)) ?_
 rintro _ _ ⟨rfl,hL⟩
 obtain⟨w',C'',_,hw',rfl⟩:=left_shift (G:=[]) (by simpa using hL)
 have e1:rowsD T (Go.Sort.sort ltE m.toArray)=spans srt++T:=by rw [←hsrt];rfl
 rw [e1]
 refine hK.out _ _ ?_
 clear hK K
 clear hL hn hw e1 q hvs
 obtain⟨S0,hS0⟩:∃ S0,[Blk.arr [] 2 0 true]++Blk.arr (spans srt++T) 2 w' true::(C'++C'')=S0:=⟨_,rfl⟩
 have hb0:S0[1]? = some (.arr (spans srt++T) 2 w' true):=by rw [←hS0];rfl
 rw [hS0]
 clear hS0
 repeat' (first|refine go1 ?_|refine za rfl ?_|(refine zt fun A B a b=>?_;simp only [go_sem, *,zr ty44 rfl,zk ty44 rfl,zh ty44 rfl];(repeat' first|apply a.1|refine iteI (fun h=>?_) fun h=>?_)<;>clear a b A B))
 have hlt0:1<S0.length:=(List.getElem?_eq_some_iff.1 hb0).1
 refine zN [5,6,15,16,17,18,19,20,21,22,23,24,25,26,27,28,29,30,31,32,33,34,35,36,37,38,39,40,41,42,43,44,45,46,47,48,49,50,51] (fun p:List El×List El×List El×Nat×Nat×Store=>[(3,.sl p.2.2.2.1 p.2.2.1.length 0 p.2.2.1.length 2),(14,.int .i64 p.1.length)]) (fun p _=>p.2.2.2.2.2)
  (fun p=>srt=p.1++p.2.1∧p.2.2.2.2.2[1]? = some (.arr (spans srt++T) 2 w' true)∧p.2.2.2.2.2[p.2.2.2.1]? = some (.arr (spans p.2.2.1) 2 p.2.2.2.2.1 true)∧p.2.2.2.2.1≤p.2.2.1.length∧1<p.2.2.2.1∧Jn (mrg srt) p.2.2.1 p.2.1∧p.2.2.1.length≤p.1.length)
  (fun p=>p.2.1.length) ([],srt,[],S0.length,0,S0++[.arr [] 2 0 true]) ⟨rfl,?_,?_,Nat.le_refl _,hlt0,.nil rfl,Nat.le_refl _⟩ ?_ ⟨[],rfl⟩ ?_
 ·simp only;rw [List.getElem?_append_left hlt0];exact hb0
 ·simp only;rw [List.getElem?_append_right (Nat.le_refl _),Nat.sub_self];rfl
 ·rfl
 clear hb0 hlt0
 rintro⟨pr,po,acc,bo,w,S⟩ g G ⟨h1,h2,h3,h4,h5,h6,h7⟩
 simp only at h1 h2 h3 h4 h5 h6 h7
 have hbl:bo<S.length:=(List.getElem?_eq_some_iff.1 h3).1
 have h1l:1<S.length:=(List.getElem?_eq_some_iff.1 h2).1
 have a2:∀ X,(S++X)[1]? = some (.arr (spans srt++T) 2 w' true):=fun X=>by rw [List.getElem?_append_left h1l,h2]
 have a3:∀ X,(S++X)[bo]? = some (.arr (spans acc) 2 w true):=fun X=>by rw [List.getElem?_append_left hbl,h3]
 have a4:∀ X y,(S++X).set bo y=S.set bo y++X:=fun X y=>by rw [List.set_append_left _ _ hbl]
 simp only [zo,zq,zd,zf,List.set_cons_zero,List.set_cons_succ]
 cases po with
 | nil=>
  have hj:=h6.done
  rw [List.append_nil] at h1
  have e:(pr.length:Int)=(m.length:Int):=by rw [←hsl,h1]
  have hh:Hold (acc=mrg srt):=⟨hj⟩
  clear h1 h6 hj
  repeat' (first|refine go1 ?_|refine za rfl ?_|(refine go2 fun A B a b=>?_;simp only [go_sem, *,zr ty44 rfl,zk ty44 rfl,zh ty44 rfl,Int.lt_irrefl];(repeat' first|apply a.1|apply b.1|refine iteI (fun h=>?_) fun h=>?_)<;>clear a b A B))
  simp only [go_sem,zr ty44 rfl,zk ty44 rfl,zh ty44 rfl,spans_len,h3,h4]
  rw [hh.out];rfl
 | cons x po=>
  have hx:srt[pr.length]? = some x:=by rw [h1];simp
  have hpl:pr.length<m.length:=by rw [←hsl,h1];simp
  have hpl2:pr.length<m.length+T.length:=by omega
  have lt1:(pr.length:Int)<(m.length:Int):=by omega
  have g1:(spans srt++T)[pr.length]? = some [.int .i64 x.1,.int .i64 x.2]:=by
   rw [List.getElem?_append_left (by rw [spans_len];omega),zca hx];rfl
  have w1:=zB (n:=pr.length) (by omega)
  have hh1:Hold (srt=(pr++[x])++po):=⟨by rw [h1];simp⟩
  have hx1:=idxZ (b:=1) (e:=m.length+T.length) (len:=m.length) (j:=pr.length) (k := .i64) hpl
  clear h1 hx
  have b1:∀ b X,(S.set bo b++X)[1]? = some (.arr (spans srt++T) 2 w' true):=fun b X=>by
   rw [List.getElem?_append_left (by simpa using h1l),List.getElem?_set_ne (by omega),h2]
  have b2:∀ b X,(S.set bo b++X)[bo]? = some b:=fun b X=>by
   rw [List.getElem?_append_left (by simpa using hbl),List.getElem?_set_self hbl]
  have k6:=h6.ways
  clear h6
  rcases k6 with ⟨rfl,h6⟩|⟨pre,y,hacc,h6⟩
  ·have hJ:Jn (mrg srt) ([]++[x]) po := .snoc h6
   have hh2:Hold (Jn (mrg srt) ([]++[x]) po):=⟨hJ⟩
   have h4':w≤0:=h4
   clear h6 hJ
   repeat' (first|refine go1 ?_|refine za rfl ?_|(refine go2 fun A B a b=>?_;simp only [go_sem, *,zr ty44 rfl,zk ty44 rfl,zh ty44 rfl,zb,ze,zm,List.append_assoc,List.length_append,spans_len];(repeat' first|apply a.1|apply b.1|refine iteI (fun h=>?_) fun h=>?_)<;>clear a b A B))
   refine zy (pr++[x],po,[]++[x],bo,w,_) (Nat.lt_succ_self _) ⟨hh1.out,b1 _ _,b2 _ _,by simp only [List.nil_append,List.length_cons,List.length_nil];omega,h5,hh2.out,by simp⟩ ?_ ⟨[],rfl⟩
   ·((try simp only [zg,zi,zd,zf,List.set_cons_zero,List.set_cons_succ]);all_goals (first|rfl|(simp only [zn,zj,zc,List.length_map,List.length_append,List.length_cons,List.length_nil,Nat.zero_add];first|done|rfl)))
  ·have nz:0<acc.length:=by rw [hacc];simp
   have hal:acc.length=pre.length+1:=by rw [hacc];simp
   have nz':(0:Int)<(acc.length:Int):=by omega
   have w2:IntKind.wrap .i64 ((acc.length:Int)-1)=(pre.length:Int):=by rw [zu (by omega) (by omega)];omega
   have lt2:pre.length<acc.length:=by omega
   have i2:=idxZ (b:=bo) (e:=acc.length) (len:=acc.length) (j:=pre.length) (k := .i64) lt2
   have gy:acc[pre.length]? = some y:=by rw [hacc];simp
   have g2:(spans acc)[pre.length]? = some [.int .i64 y.1,.int .i64 y.2]:=zca gy
   have g3:(spans acc).getD pre.length [] = [.int .i64 y.1,.int .i64 y.2]:=by rw [List.getD_eq_getElem?_getD,g2];rfl
   have hb:acc.length≤1000000:=by omega
   by_cases hc:x.1≤y.2
   ·rw [mrgGo,if_pos hc] at h6
    have hJ:Jn (mrg srt) (pre++[(y.1,max y.2 x.2)]) po := .snoc h6
    have hs:(spans acc).set pre.length [.int .i64 y.1,.int .i64 (max y.2 x.2)]=spans (pre++[(y.1,max y.2 x.2)]):=by
     have:[AV.int .i64 y.1,.int .i64 (max y.2 x.2)]=encE (y.1,max y.2 x.2):=rfl
     rw [this,spans_set,hacc];simp
    have hh2:Hold (Jn (mrg srt) (pre++[(y.1,max y.2 x.2)]) po):=⟨hJ⟩
    have hmx:(if x.2 > y.2 then x.2 else y.2)=max y.2 x.2:=by split<;>omega
    have hh3:Hold (acc.length=pre.length+1):=⟨hal⟩
    clear h6 hJ hal hacc gy
    repeat' (first|refine go1 ?_|refine za rfl ?_|(refine go2 fun A B a b=>?_;simp only [go_sem, *,zr ty44 rfl,zk ty44 rfl,zh ty44 rfl,zb,ze,zm,List.append_assoc,List.length_append,spans_len];(repeat' first|apply a.1|apply b.1|refine iteI (fun h=>?_) fun h=>?_)<;>clear a b A B))
    refine zy (pr++[x],po,pre++[(y.1,max y.2 x.2)],bo,acc.length,_) (Nat.lt_succ_self _) ⟨hh1.out,b1 _ _,b2 _ _,?_,h5,hh2.out,?_⟩ ?_ ⟨[],rfl⟩
    ·simp only [List.length_append,List.length_cons,List.length_nil,hh3.out];omega
    ·have:=hh3.out;simp only [List.length_append,List.length_cons,List.length_nil];omega
    ·((try simp only [zg,zi,zd,zf,List.set_cons_zero,List.set_cons_succ]);all_goals (first|rfl|(simp only [zn,zc,List.length_map,hh3.out];done)|(simp only [zn,zj,zc,List.length_map,List.length_append,List.length_cons,List.length_nil,Nat.zero_add,hh3.out];first|done|rfl)))
   ·rw [mrgGo,if_neg hc] at h6
    have hJ:Jn (mrg srt) (acc++[x]) po := .snoc (by rw [hacc];exact h6)
    have hh2:Hold (Jn (mrg srt) (acc++[x]) po):=⟨hJ⟩
    have c1:(acc.length+1)*16≤140737488355328:=by omega
    have c2:acc.length+1≤140737488355328:=by omega
    have hs:spans acc++[[.int .i64 x.1,.int .i64 x.2]]=spans (acc++[x]):=by rw [spans_app];rfl
    clear h6 hJ hal hacc gy
    repeat' (first|refine go1 ?_|refine za rfl ?_|(refine go2 fun A B a b=>?_;simp only [go_sem, *,zr ty44 rfl,zk ty44 rfl,zh ty44 rfl,zb,ze,zm,List.append_assoc,List.length_append,spans_len];(repeat' first|apply a.1|apply b.1|refine iteI (fun h=>?_) fun h=>?_)<;>clear a b A B))
    refine zy (pr++[x],po,acc++[x],bo,w,_) (Nat.lt_succ_self _) ⟨hh1.out,b1 _ _,b2 _ _,?_,h5,hh2.out,?_⟩ ?_ ⟨[],rfl⟩
    ·simp only [List.length_append,List.length_cons,List.length_nil];omega
    ·simp only [List.length_append,List.length_cons,List.length_nil];omega
    ·((try simp only [zg,zi,zd,zf,List.set_cons_zero,List.set_cons_succ]);all_goals (first|rfl|(simp only [zn,zj,zc,List.length_map,List.length_append,List.length_cons,List.length_nil,Nat.zero_add];first|done|rfl)))

/- Lists of spans: Both. -/
open Go.Proofs
attribute [local go_sem] br83 fz198 fz199
set_option maxRecDepth 20000
set_option maxHeartbeats 4000000

theorem at_app {S:Store}{b:Nat}{x:Blk}(h:S[b]? = some x):∀ X,(S++X)[b]? = some x:=fun X=>by
 rw [List.getElem?_append_left (List.getElem?_eq_some_iff.1 h).1];exact h
theorem set_app {S:Store}{b:Nat}{x:Blk}(h:S[b]? = some x):∀ X y,(S++X).set b y=S.set b y++X:=fun X y=>by
 rw [List.set_append_left _ _ (List.getElem?_eq_some_iff.1 h).1]
theorem at_set {S:Store}{b:Nat}{x:Blk}(h:S[b]? = some x):∀ y X,(S.set b y++X)[b]? = some y:=fun y X=>by
 have hl:=(List.getElem?_eq_some_iff.1 h).1
 rw [List.getElem?_append_left (by simpa using hl),List.getElem?_set_self hl]
theorem zcp {S:Store}{b c:Nat}{x:Blk}(h:S[c]? = some x) (hne:b≠c):∀ y X,(S.set b y++X)[c]? = some x:=fun y X=>by
 have hl:=(List.getElem?_eq_some_iff.1 h).1
 rw [List.getElem?_append_left (by simpa using hl),List.getElem?_set_ne hne,h]
theorem max_if (a b:Int):(if b > a then b else a)=max a b:=by split<;>omega
theorem min_if (a b:Int):(if b<a then b else a)=min a b:=by split<;>omega
theorem span_ok {n:Nat}(h:n≤8000000):(n+1)*16≤140737488355328∧n+1≤140737488355328:=by omega
theorem zct (l:List El) (x:El):spans l++[[.int .i64 x.1,.int .i64 x.2]]=spans (l++[x]):=by rw [spans_app];rfl

theorem bothE (v w:AV) (a b:List El) (hv:SLs 2 (spans a) v) (hw:SLs 2 (spans b) w) (ha:a.length≤1000000) (hb:b.length≤1000000) (hal:(uniR a).length≤1000000) (hbl:(uniR b).length≤1000000):EvV CX 108 [v,w] (· = .osl 2 (spans (bothP a b))):=by
 have q1:=(unionE v a hv ha).rw
 have q2:=(unionE w b hw hb).rw
 have s1:=hv.snap
 have s2:=hw.snap
 unfold bothP
 obtain⟨sa,hsa⟩:∃ s,uniR a=s:=⟨_,rfl⟩
 obtain⟨sb,hsb⟩:∃ s,uniR b=s:=⟨_,rfl⟩
 rw [hsa] at q1 hal ⊢
 rw [hsb] at q2 hbl ⊢
 refine EvV.walk rfl fn108 rfl nt108 rfl ?_
 simp only [List.length_cons,List.length_nil,List.cons_append,List.nil_append,Nat.reduceAdd,Nat.reduceSub,List.replicate]
 repeat' (first|refine go1 ?_|refine za rfl ?_|(refine zt fun A B a b=>?_;simp only [go_sem, *,zr ty44 rfl,zk ty44 rfl,zh ty44 rfl,spans_len];(repeat' first|apply a.1|refine iteI (fun h=>?_) fun h=>?_)<;>clear a b A B))
 clear q1 q2 s1 s2 hsa hsb hv hw
 refine zN [8,13,14,15,16,17,18,19,20,21,22,23,24,25,26,27,28,29,30,31,32,33,34,35,36,37,38,39,40,41,42,43,44,45,46,47,48,49,50,51,52,53,54,55,56,57,58,59,60,61,62,63,64,65,66,67,68,69] (fun p:List El×List El×List El×List El×List El×Nat×Nat×Store=>[(5,.sl p.2.2.2.2.2.1 p.2.2.2.2.1.length 0 p.2.2.2.2.1.length 2),(6,.int .i64 p.1.length),(7,.int .i64 p.2.2.1.length)]) (fun p _=>p.2.2.2.2.2.2.2)
  (fun p=>sa=p.1++p.2.1∧sb=p.2.2.1++p.2.2.2.1∧p.2.2.2.2.2.2.2[1]? = some (.arr (spans sa) 2 0 true)∧p.2.2.2.2.2.2.2[2]? = some (.arr (spans sb) 2 0 true)∧p.2.2.2.2.2.2.2[p.2.2.2.2.2.1]? = some (.arr (spans p.2.2.2.2.1) 2 p.2.2.2.2.2.2.1 true)∧p.2.2.2.2.2.2.1≤p.2.2.2.2.1.length∧2<p.2.2.2.2.2.1∧p.2.2.2.2.1++bothGo p.2.1 p.2.2.2.1=bothGo sa sb∧p.2.2.2.2.1.length≤p.1.length+p.2.2.1.length)
  (fun p=>p.2.1.length+p.2.2.2.1.length) ([],sa,[],sb,[],3,0,_) ⟨rfl,rfl,rfl,rfl,rfl,Nat.le_refl _,Nat.lt_succ_self 2,rfl,Nat.le_refl _⟩ ?_ ⟨[],rfl⟩ ?_
 ·rfl
 rintro⟨pa,qa,pb,qb,acc,bo,w0,S⟩ g G ⟨h1,h2,h3,h4,h5,h6,h7,h8,h9⟩
 simp only at h1 h2 h3 h4 h5 h6 h7 h8 h9
 simp only [zo,zq,zd,zf,List.set_cons_zero,List.set_cons_succ]
 cases qa with
 | nil=>
  have e:(sa.length:Int)=(pa.length:Int):=by rw [h1,List.append_nil]
  have hh:Hold (acc=bothGo sa sb):=⟨by rw [←h8,bothGo,List.append_nil]⟩
  clear h1 h2 h8
  repeat' (first|refine go1 ?_|refine za rfl ?_|(refine go2 fun A B a b=>?_;simp only [go_sem, *,zr ty44 rfl,zk ty44 rfl,zh ty44 rfl,Int.lt_irrefl];(repeat' first|apply a.1|apply b.1|refine iteI (fun h=>?_) fun h=>?_)<;>clear a b A B))
  simp only [go_sem,zr ty44 rfl,zk ty44 rfl,zh ty44 rfl,spans_len,h5,h6]
  rw [hh.out];rfl
 | cons x qa=>
 have lta:(pa.length:Int)<(sa.length:Int):=by rw [h1];simp;omega
 cases qb with
 | nil=>
  have e:(sb.length:Int)=(pb.length:Int):=by rw [h2,List.append_nil]
  have hh:Hold (acc=bothGo sa sb):=⟨by rw [←h8,bothGo,List.append_nil]⟩
  clear h1 h2 h8
  repeat' (first|refine go1 ?_|refine za rfl ?_|(refine go2 fun A B a b=>?_;simp only [go_sem, *,zr ty44 rfl,zk ty44 rfl,zh ty44 rfl,Int.lt_irrefl];(repeat' first|apply a.1|apply b.1|refine iteI (fun h=>?_) fun h=>?_)<;>clear a b A B))
  simp only [go_sem,zr ty44 rfl,zk ty44 rfl,zh ty44 rfl,spans_len,h5,h6]
  rw [hh.out];rfl
 | cons y qb=>
 have ltb:(pb.length:Int)<(sb.length:Int):=by rw [h2];simp;omega
 have i1:=idxZ (b:=1) (e:=sa.length) (len:=sa.length) (j:=pa.length) (k := .i64) (by omega)
 have i2:=idxZ (b:=2) (e:=sb.length) (len:=sb.length) (j:=pb.length) (k := .i64) (by omega)
 have g1:(spans sa)[pa.length]? = some [.int .i64 x.1,.int .i64 x.2]:=zca (by rw [h1];simp)
 have g2:(spans sb)[pb.length]? = some [.int .i64 y.1,.int .i64 y.2]:=zca (by rw [h2];simp)
 have lta':pa.length<sa.length:=by omega
 have ltb':pb.length<sb.length:=by omega
 have w1:=zB (n:=pa.length) (by omega)
 have w2:=zB (n:=pb.length) (by omega)
 have a3:=at_app h3
 have a4:=at_app h4
 have a5:=at_app h5
 have a6:=set_app h5
 have b3:=zcp h3 (b:=bo) (by omega)
 have b4:=zcp h4 (b:=bo) (by omega)
 have b5:=at_set h5
 have so:=span_ok (n:=acc.length) (by omega)
 have hh1:Hold (sa=(pa++[x])++qa):=⟨by rw [h1];simp⟩
 have hh2:Hold (sb=(pb++[y])++qb):=⟨by rw [h2];simp⟩
 have hh3:Hold (sa=pa++x::qa):=⟨h1⟩
 have hh4:Hold (sb=pb++y::qb):=⟨h2⟩
 have h8':acc++((if (cap x y).1<(cap x y).2 then [cap x y] else [])++(if x.2<y.2 then bothGo qa (y::qb) else bothGo (x::qa) qb))=bothGo sa sb:=by
  rw [←h8];conv=>rhs;rw [bothGo]
 clear h1 h2 h8
 by_cases hc:max x.1 y.1<min x.2 y.2
 ·have hs:=zct acc (cap x y)
  simp only [cap] at hs
  rw [if_pos (show (cap x y).1<(cap x y).2 from hc)] at h8'
  by_cases ht:x.2<y.2
  ·rw [if_pos ht] at h8'
   have hh:Hold (acc++[cap x y]++bothGo qa (y::qb)=bothGo sa sb):=⟨by rw [←h8',List.append_assoc]⟩
   clear h8'
   repeat' (first|refine go1 ?_|refine za rfl ?_|(refine go2 fun A B a b=>?_;simp only [go_sem, *,zr ty44 rfl,zk ty44 rfl,zh ty44 rfl,max_if,min_if,Nat.zero_le,zb,ze,zm,List.append_assoc,List.length_append,spans_len];(repeat' first|apply a.1|apply b.1|refine iteI (fun h=>?_) fun h=>?_)<;>clear a b A B))
   refine zy (pa++[x],qa,pb,y::qb,acc++[cap x y],bo,w0,_) (by simp only [List.length_cons];omega) ⟨hh1.out,hh4.out,b3 _ _,b4 _ _,b5 _ _,?_,h7,hh.out,?_⟩ ?_ ⟨[],rfl⟩
   ·simp only [List.length_append,List.length_cons,List.length_nil];omega
   ·simp only [List.length_append,List.length_cons,List.length_nil];omega
   ·((try simp only [zg,zi,zd,zf,List.set_cons_zero,List.set_cons_succ]);all_goals (first|rfl|(simp only [zn,zj,zc,List.length_map,List.length_append,List.length_cons,List.length_nil,Nat.zero_add];first|done|rfl)))
  ·rw [if_neg ht] at h8'
   have hh:Hold (acc++[cap x y]++bothGo (x::qa) qb=bothGo sa sb):=⟨by rw [←h8',List.append_assoc]⟩
   clear h8'
   repeat' (first|refine go1 ?_|refine za rfl ?_|(refine go2 fun A B a b=>?_;simp only [go_sem, *,zr ty44 rfl,zk ty44 rfl,zh ty44 rfl,max_if,min_if,Nat.zero_le,zb,ze,zm,List.append_assoc,List.length_append,spans_len];(repeat' first|apply a.1|apply b.1|refine iteI (fun h=>?_) fun h=>?_)<;>clear a b A B))
   refine zy (pa,x::qa,pb++[y],qb,acc++[cap x y],bo,w0,_) (by simp only [List.length_cons];omega) ⟨hh3.out,hh2.out,b3 _ _,b4 _ _,b5 _ _,?_,h7,hh.out,?_⟩ ?_ ⟨[],rfl⟩
   ·simp only [List.length_append,List.length_cons,List.length_nil];omega
   ·simp only [List.length_append,List.length_cons,List.length_nil];omega
   ·((try simp only [zg,zi,zd,zf,List.set_cons_zero,List.set_cons_succ]);all_goals (first|rfl|(simp only [zn,zj,zc,List.length_map,List.length_append,List.length_cons,List.length_nil,Nat.zero_add];first|done|rfl)))
 ·rw [if_neg (show ¬(cap x y).1<(cap x y).2 from hc)] at h8'
  by_cases ht:x.2<y.2
  ·rw [if_pos ht] at h8'
   have hh:Hold (acc++bothGo qa (y::qb)=bothGo sa sb):=⟨by rw [←h8',List.nil_append]⟩
   clear h8'
   repeat' (first|refine go1 ?_|refine za rfl ?_|(refine go2 fun A B a b=>?_;simp only [go_sem, *,zr ty44 rfl,zk ty44 rfl,zh ty44 rfl,max_if,min_if,Nat.zero_le,zb,ze,zm,List.append_assoc,List.length_append,spans_len];(repeat' first|apply a.1|apply b.1|refine iteI (fun h=>?_) fun h=>?_)<;>clear a b A B))
   refine zy (pa++[x],qa,pb,y::qb,acc,bo,w0,_) (by simp only [List.length_cons];omega) ⟨hh1.out,hh4.out,a3 _,a4 _,a5 _,?_,h7,hh.out,?_⟩ ?_ ⟨[],rfl⟩
   ·simp only [List.length_append,List.length_cons,List.length_nil];omega
   ·simp only [List.length_append,List.length_cons,List.length_nil];omega
   ·((try simp only [zg,zi,zd,zf,List.set_cons_zero,List.set_cons_succ]);all_goals (first|rfl|(simp only [zn,zj,zc,List.length_map,List.length_append,List.length_cons,List.length_nil,Nat.zero_add];first|done|rfl)))
  ·rw [if_neg ht] at h8'
   have hh:Hold (acc++bothGo (x::qa) qb=bothGo sa sb):=⟨by rw [←h8',List.nil_append]⟩
   clear h8'
   repeat' (first|refine go1 ?_|refine za rfl ?_|(refine go2 fun A B a b=>?_;simp only [go_sem, *,zr ty44 rfl,zk ty44 rfl,zh ty44 rfl,max_if,min_if,Nat.zero_le,zb,ze,zm,List.append_assoc,List.length_append,spans_len];(repeat' first|apply a.1|apply b.1|refine iteI (fun h=>?_) fun h=>?_)<;>clear a b A B))
   refine zy (pa,x::qa,pb++[y],qb,acc,bo,w0,_) (by simp only [List.length_cons];omega) ⟨hh3.out,hh2.out,a3 _,a4 _,a5 _,?_,h7,hh.out,?_⟩ ?_ ⟨[],rfl⟩
   ·simp only [List.length_append,List.length_cons,List.length_nil];omega
   ·simp only [List.length_append,List.length_cons,List.length_nil];omega
   ·((try simp only [zg,zi,zd,zf,List.set_cons_zero,List.set_cons_succ]);all_goals (first|rfl|(simp only [zn,zj,zc,List.length_map,List.length_append,List.length_cons,List.length_nil,Nat.zero_add];first|done|rfl)))

/- Lists of spans: Minus, Covers, Total. -/
open Go.Proofs
attribute [local go_sem] br108 fz191 fz192 fz193 fz184 br82 br84 fz194
set_option maxRecDepth 20000
set_option maxHeartbeats 4000000

theorem at_new {S X:Store}{b:Nat}{y:Blk}:(S.set b y++X)[S.length]? = X[0]? := by
 have:=zb (G:=S.set b y) (l:=X);rwa [List.length_set] at this
theorem at_newK {S X:Store}{b k:Nat}{y:Blk}:(S.set b y++X)[S.length+k]? = X[k]? := by
 have:=ze (G:=S.set b y) (l:=X) (k:=k);rwa [List.length_set] at this
theorem insGo_len:∀ (l b a:List El) (s:El),(insGo b a s l).length≤b.length+a.length+1+l.length
 | [],b,a,s=>by simp [insGo];omega
 | x::l,b,a,s=>by
  unfold insGo
  split
  ·have:=insGo_len l (b++[x]) a s;simp only [List.length_append,List.length_cons,List.length_nil] at this ⊢;omega
  ·split
   ·have:=insGo_len l b (a++[x]) s;simp only [List.length_append,List.length_cons,List.length_nil] at this ⊢;omega
   ·have:=insGo_len l b a (min s.1 x.1,max s.2 x.2);simp only [List.length_cons] at this ⊢;omega
theorem insS_len (l:List El) (s:El):(insS l s).length≤l.length+1:=by have:=insGo_len l [] [] s;simp only [List.length_nil] at this;unfold insS;omega
theorem uniGo_len:∀ (l out:List El),(l.foldl (fun out x=>if rgt x=true then insS out x else out) out).length≤out.length+l.length
 | [],out=>by simp
 | x::l,out=>by
  rw [List.foldl_cons,List.length_cons]
  have h1:=uniGo_len l (if rgt x=true then insS out x else out)
  have h2:(if rgt x=true then insS out x else out).length≤out.length+1:=by split;exact insS_len _ _;omega
  omega
theorem uniR_len (l:List El):(uniR l).length≤l.length:=by have:=uniGo_len l [];rw [List.length_nil,Nat.zero_add] at this;exact this
theorem gaps_len:∀ (l:List El) (a:Int),(gapsGo a l).length=l.length+1
 | [],_=>rfl
 | _::l,_=>by rw [gapsGo,List.length_cons,gaps_len l,List.length_cons]

theorem minusE (v w:AV) (a b:List El) (hv:SLs 2 (spans a) v) (hw:SLs 2 (spans b) w) (ha:a.length≤900000) (hb:b.length≤900000):EvV CX 78 [v,w] (· = .osl 2 (spans (minusP a b))):=by
 have q1:=(unionE w b hw (by omega)).rw
 have s1:=hv.snap
 have s2:=hw.snap
 have hbl:=uniR_len b
 have hal:=uniR_len a
 unfold minusP
 obtain⟨sb,hsb⟩:∃ s,uniR b=s:=⟨_,rfl⟩
 rw [hsb] at q1 hbl ⊢
 have q2:=(bothE v (.tsl false 2 (spans (gapsGo 0 sb))) a (gapsGo 0 sb) hv (.rows false) (by omega) (by rw [gaps_len];omega) (by omega) (by have:=uniR_len (gapsGo 0 sb);rw [gaps_len] at this;omega)).rw
 have hgl:=gaps_len sb 0
 obtain⟨gl,hgp⟩:∃ g,gapsGo 0 sb=g:=⟨_,rfl⟩
 rw [hgp] at q2 hgl ⊢
 refine EvV.walk rfl fn78 rfl nt78 rfl ?_
 simp only [List.length_cons,List.length_nil,List.cons_append,List.nil_append,Nat.reduceAdd,Nat.reduceSub,List.replicate]
 repeat' (first|refine go1 ?_|refine za rfl ?_|(refine zt fun A B a b=>?_;simp only [go_sem, *,zr ty44 rfl,zk ty44 rfl,zh ty44 rfl,spans_len];(repeat' first|apply a.1|refine iteI (fun h=>?_) fun h=>?_)<;>clear a b A B))
 refine zN [8,13,14,15,16,17,18,19,20,21,22,23,24,25] (fun p:List El×List El×List El×Int×Nat×Nat×Store=>[(5,.sl p.2.2.2.2.1 p.2.2.1.length 0 p.2.2.1.length 2),(6,.int .i64 p.2.2.2.1),(12,.int .i64 p.1.length)]) (fun p _=>p.2.2.2.2.2.2)
  (fun p=>sb=p.1++p.2.1∧p.2.2.2.2.2.2[2]? = some (.arr (spans sb) 2 0 true)∧p.2.2.2.2.2.2[p.2.2.2.2.1]? = some (.arr (spans p.2.2.1) 2 p.2.2.2.2.2.1 true)∧p.2.2.2.2.2.1≤p.2.2.1.length∧p.2.2.2.2.1≠2∧p.2.2.1++gapsGo p.2.2.2.1 p.2.1=gl∧p.2.2.1.length=p.1.length)
  (fun p=>p.2.1.length) ([],sb,[],0,1,0,_) ⟨rfl,rfl,rfl,Nat.le_refl _,by simp,hgp,rfl⟩ ?_ ⟨[],rfl⟩ ?_
 ·rfl
 clear q1 hgp
 rintro⟨pre,po,acc,at_,bo,w0,S⟩ g G ⟨h1,h2,h3,h4,h5,h6,h7⟩
 simp only at h1 h2 h3 h4 h5 h6 h7
 have a5:=at_app h3
 have a6:=set_app h3
 have b5:=at_set h3
 simp only [zo,zq,zd,zf,List.set_cons_zero,List.set_cons_succ]
 cases po with
 | nil=>
  have e:(sb.length:Int)=(pre.length:Int):=by rw [h1,List.append_nil]
  have e0:sb.length=pre.length:=by rw [h1,List.append_nil]
  have so:=span_ok (n:=acc.length) (by omega)
  have hs:spans acc++[[.int .i64 at_,.int .i64 86400000]]=spans gl:=by
   have:=zct acc (at_,86400000)
   rw [←h6];exact this
  have hgl2:acc.length+1=gl.length:=by omega
  have hgl3:(spans gl).take gl.length=spans gl:=by rw [←spans_len gl];exact List.take_length
  have h4':w0≤gl.length:=by omega
  have so2:gl.length*16≤140737488355328∧gl.length≤140737488355328:=by omega
  clear h1 h6 hgl h7
  repeat' (first|refine go1 ?_|refine za rfl ?_|(refine go2 fun A B a b=>?_;simp only [go_sem, *,zr ty44 rfl,zk ty44 rfl,zh ty44 rfl,Int.lt_irrefl,Nat.zero_le,zb,ze,zm,List.append_assoc,List.length_append,spans_len,zab,zc,zC,List.take_length,Bool.true_or];(repeat' first|apply a.1|apply b.1|refine iteI (fun h=>?_) fun h=>?_)<;>clear a b A B))
  simp only [go_sem,zr ty44 rfl,zk ty44 rfl,zh ty44 rfl,spans_len,ze,Nat.zero_le]
  simp
 | cons x po=>
  have lta:(pre.length:Int)<(sb.length:Int):=by rw [h1];simp;omega
  have lta':pre.length<sb.length:=by omega
  have i1:=idxZ (b:=2) (e:=sb.length) (len:=sb.length) (j:=pre.length) (k := .i64) (by omega)
  have g1:(spans sb)[pre.length]? = some [.int .i64 x.1,.int .i64 x.2]:=zca (by rw [h1];simp)
  have w1:=zB (n:=pre.length) (by omega)
  have a3:=at_app h2
  have b3:=zcp h2 h5
  have so:=span_ok (n:=acc.length) (by omega)
  have hs:spans acc++[[.int .i64 at_,.int .i64 x.1]]=spans (acc++[(at_,x.1)]):=zct acc (at_,x.1)
  have hh1:Hold (sb=(pre++[x])++po):=⟨by rw [h1];simp⟩
  have hh2:Hold (acc++[(at_,x.1)]++gapsGo x.2 po=gl):=⟨by rw [←h6,gapsGo,List.append_assoc];rfl⟩
  have hh3:Hold (acc.length=pre.length):=⟨h7⟩
  clear h1 h6 h7
  repeat' (first|refine go1 ?_|refine za rfl ?_|(refine go2 fun A B a b=>?_;simp only [go_sem, *,zr ty44 rfl,zk ty44 rfl,zh ty44 rfl,at_new,at_newK,Nat.zero_le,zb,ze,zm,List.append_assoc,List.length_append,spans_len];(repeat' first|apply a.1|apply b.1|refine iteI (fun h=>?_) fun h=>?_)<;>clear a b A B))
  refine zy (pre++[x],po,acc++[(at_,x.1)],x.2,bo,w0,_) (by simp only [List.length_cons];omega) ⟨hh1.out,b3 _ _,b5 _ _,?_,h5,hh2.out,?_⟩ ?_ ⟨[],rfl⟩
  ·simp only [List.length_append,List.length_cons,List.length_nil];omega
  ·simp only [List.length_append,hh3.out,List.length_cons,List.length_nil]
  ·((try simp only [zg,zi,zd,zf,List.set_cons_zero,List.set_cons_succ]);all_goals (first|rfl|(simp only [zn,zj,zc,List.length_map,List.length_append,List.length_cons,List.length_nil,Nat.zero_add];first|done|rfl)))

/- The reference's lists of spans: Right, insert, Union. -/
open Go.Proofs
attribute [local go_sem] fz154 fz155 fz157 fz158 fz161 br50 br110 fz163 fz164 fz165
set_option maxRecDepth 20000
set_option maxHeartbeats 4000000

theorem rightR (x:El):EvV CX 50 [.agg (encE x)] (· = .bool (rgt x)):=by
 obtain⟨a,b⟩:=x
 refine EvV.walk rfl fn50 rfl nt50 rfl ?_
 simp only [List.length_cons,List.length_nil,List.cons_append,List.nil_append,Nat.reduceAdd,Nat.reduceSub,List.replicate]
 repeat' (first|refine go1 ?_|refine za rfl ?_|(refine go2 fun A B a b=>?_;simp only [go_sem, *,encE];(repeat' first|apply a.1|apply b.1|refine iteI (fun h=>?_) fun h=>?_)<;>clear a b A B))
 all_goals simp only [go_sem]
 all_goals simp [rgt, *]

theorem span_ok2 {n m:Nat}(h:n+m≤8000000):(n+m)*16≤140737488355328∧n+m≤140737488355328:=by omega

theorem insertR (v:AV) (l:List El) (s:El) (hv:SLs 2 (spans l) v) (hl:l.length≤2000000):EvV CX 110 [v,.agg (encE s)] (· = .osl 2 (spans (insS l s))):=by
 unfold insS
 obtain⟨R,hR⟩:∃ R,insGo [] [] s l=R:=⟨_,rfl⟩
 rw [hR]
 obtain⟨s1,s2⟩:=s
 simp only [encE]
 refine EvV.walk rfl fn110 rfl nt110 rfl ?_
 simp only [List.length_cons,List.length_nil,List.cons_append,List.nil_append,Nat.reduceAdd,Nat.reduceSub,List.replicate]
 repeat' (first|refine go1 ?_|refine za rfl ?_|(refine zt fun A B a b=>?_;simp only [go_sem, *,zr ty44 rfl,zk ty44 rfl,zh ty44 rfl];(repeat' first|apply a.1|refine iteI (fun h=>?_) fun h=>?_)<;>clear a b A B))
 refine zN [10,11,12,13,14,15,16,17,18,19,20,21,22,23,24,25,26,27,28,29,30,31,32,33,34,35,36,37,38,39,40,41,42,43,44,45,46,47,48,49,50,51,52,53,54,55,56,57,58,59,60,61,62] (fun p:List El×List El×List El×List El×El×Nat×Nat×Nat×Store=>[(5,.sl 2 p.2.2.1.length 0 p.2.2.1.length 2),(6,.sl 3 p.2.2.2.1.length 0 p.2.2.2.1.length 2),(7,.int .i64 p.1.length)]) (fun p _=>p.2.2.2.2.2.2.2.2)
  (fun p=>l=p.1++p.2.1∧p.2.2.2.2.2.2.2.2[0]? = some (.arr [[.int .i64 p.2.2.2.2.1.1,.int .i64 p.2.2.2.2.1.2]] 2 p.2.2.2.2.2.1 true)∧p.2.2.2.2.2.2.2.2[2]? = some (.arr (spans p.2.2.1) 2 p.2.2.2.2.2.2.1 true)∧p.2.2.2.2.2.2.2.2[3]? = some (.arr (spans p.2.2.2.1) 2 p.2.2.2.2.2.2.2.1 true) ∧
   p.2.2.2.2.2.1≤1∧p.2.2.2.2.2.2.1≤p.2.2.1.length∧p.2.2.2.2.2.2.2.1≤p.2.2.2.1.length∧insGo p.2.2.1 p.2.2.2.1 p.2.2.2.2.1 p.2.1=R∧p.2.2.1.length+p.2.2.2.1.length≤p.1.length)
  (fun p=>p.2.1.length) ([],l,[],[],(s1,s2),0,0,0,_) ⟨rfl,rfl,rfl,rfl,by simp,by simp,by simp,hR,by simp⟩ ?_ ⟨[],rfl⟩ ?_
 ·rfl
 clear hR
 rintro⟨pre,po,bf,af,⟨s1,s2⟩,w0,w1,w2,S⟩ g G ⟨h1,h2,h3,h4,h5,h6,h7,h8,h9⟩
 simp only at h1 h2 h3 h4 h5 h6 h7 h8 h9
 have a2:=at_app h2
 have a3:=at_app h3
 have a4:=at_app h4
 have c2:=set_app h2
 have c3:=set_app h3
 have c4:=set_app h4
 have so1:=span_ok (n:=bf.length) (by (have:pre.length≤l.length:=by rw [h1];simp);omega)
 have so2:=span_ok (n:=af.length) (by (have:pre.length≤l.length:=by rw [h1];simp);omega)
 simp only [zo,zq,zd,zf,List.set_cons_zero,List.set_cons_succ]
 cases po with
 | nil=>
  have e:(l.length:Int)=(pre.length:Int):=by rw [h1,List.append_nil]
  have e0:l.length=pre.length:=by rw [h1,List.append_nil]
  have hh:Hold (bf++(s1,s2)::af=R):=⟨h8⟩
  have hs:=zct bf (s1,s2)
  simp only at hs
  clear h1 h8
  have d3:=at_set h3
  have d4:=zcp h4 (b:=2) (by decide)
  have d5:∀ x y X,(S.set 2 x++X).set 2 y=S.set 2 y++X:=fun x y X=>by
   rw [List.set_append_left _ _ (by simpa using (List.getElem?_eq_some_iff.1 h3).1),List.set_set]
  have so3:=span_ok2 (n:=bf.length+1) (m:=af.length) (by omega)
  have ta:(spans af).take af.length=spans af:=by rw [←spans_len af];exact List.take_length
  have ws1:w1≤bf.length+1:=by omega
  have hs2:spans (bf++[(s1,s2)])++spans af=spans (bf++(s1,s2)::af):=by rw [←spans_app];simp
  have hs3:af = []→bf++[(s1,s2)]=bf++(s1,s2)::af:=fun e=>by rw [e]
  have hl5:(bf++(s1,s2)::af).length=bf.length+1+af.length:=by simp;omega
  by_cases haf:af.length=0
  ·have haf':af = []:=List.eq_nil_of_length_eq_zero haf
   subst haf'
   clear hs3 hs2 hl5 ta so2 so3 haf
   have sn:spans [] = []:=rfl
   have h7':w2≤0:=h7
   repeat' (first|refine go1 ?_|refine za rfl ?_|(refine go2 fun A B a b=>?_;simp only [go_sem, *,zr ty44 rfl,zk ty44 rfl,zh ty44 rfl,zA hv,Int.lt_irrefl,Nat.zero_le,Nat.add_zero,zb,ze,zm,List.append_assoc,List.length_append,spans_len,zab,zc,zC,List.take_length,Bool.true_or];(repeat' first|apply a.1|apply b.1|refine iteI (fun h=>?_) fun h=>?_)<;>clear a b A B))
   simp only [go_sem,zr ty44 rfl,zk ty44 rfl,zh ty44 rfl,d3,spans_len,List.length_append]
   rw [←hh.out];simp;omega
  ·clear hs3
   repeat' (first|refine go1 ?_|refine za rfl ?_|(refine go2 fun A B a b=>?_;simp only [go_sem, *,zr ty44 rfl,zk ty44 rfl,zh ty44 rfl,zA hv,Int.lt_irrefl,Nat.zero_le,zb,ze,zm,List.append_assoc,List.length_append,spans_len,zab,zc,zC,List.take_length,Bool.true_or];(repeat' first|apply a.1|apply b.1|refine iteI (fun h=>?_) fun h=>?_)<;>clear a b A B))
   simp only [go_sem,zr ty44 rfl,zk ty44 rfl,zh ty44 rfl,d3,spans_len,hl5]
   rw [←hh.out];simp;omega
 | cons x po=>
 have lta:(pre.length:Int)<(l.length:Int):=by rw [h1];simp;omega
 have lta':pre.length<l.length:=by omega
 have i1:=zbE hv (X:=CX) ty44 ty47 rfl (n:=pre.length) (row:=[.int .i64 x.1,.int .i64 x.2]) (zca (by rw [h1];simp)) (k := .i64)
 have n1:=zB (n:=pre.length) (by omega)
 have hh1:Hold (l=(pre++[x])++po):=⟨by rw [h1];simp⟩
 have hh9:Hold (bf.length+af.length≤pre.length):=⟨h9⟩
 rw [insGo] at h8
 clear h1 h9
 by_cases hc:x.2<s1
 ·rw [if_pos hc] at h8
  have hh2:Hold (insGo (bf++[x]) af (s1,s2) po=R):=⟨h8⟩
  have hs:=zct bf x
  have b2:=zcp h2 (b:=2) (by decide)
  have b3:=at_set h3
  have b4:=zcp h4 (b:=2) (by decide)
  clear h8
  repeat' (first|refine go1 ?_|refine za rfl ?_|(refine go2 fun A B a b=>?_;simp only [go_sem, *,zr ty44 rfl,zk ty44 rfl,zh ty44 rfl,zA hv,Nat.zero_le,zb,ze,zm,List.append_assoc,List.length_append,spans_len];(repeat' first|apply a.1|apply b.1|refine iteI (fun h=>?_) fun h=>?_)<;>clear a b A B))
  refine zy (pre++[x],po,bf++[x],af,(s1,s2),w0,w1,w2,_) (by simp only [List.length_cons];omega) ⟨hh1.out,b2 _ _,b3 _ _,b4 _ _,h5,?_,h7,hh2.out,?_⟩ ?_ ⟨[],rfl⟩
  ·simp only [List.length_append,List.length_cons,List.length_nil];omega
  ·have:=hh9.out;simp only [List.length_append,List.length_cons,List.length_nil];omega
  ·((try simp only [zg,zi,zd,zf,List.set_cons_zero,List.set_cons_succ]);all_goals (first|rfl|(simp only [zn,zj,zc,List.length_map,List.length_append,List.length_cons,List.length_nil,Nat.zero_add];first|done|rfl)))
 rw [if_neg hc] at h8
 by_cases hd:s2<x.1
 ·rw [if_pos hd] at h8
  have hh2:Hold (insGo bf (af++[x]) (s1,s2) po=R):=⟨h8⟩
  have hs:=zct af x
  have b2:=zcp h2 (b:=3) (by decide)
  have b3:=zcp h3 (b:=3) (by decide)
  have b4:=at_set h4
  clear h8
  repeat' (first|refine go1 ?_|refine za rfl ?_|(refine go2 fun A B a b=>?_;simp only [go_sem, *,zr ty44 rfl,zk ty44 rfl,zh ty44 rfl,zA hv,Nat.zero_le,zb,ze,zm,List.append_assoc,List.length_append,spans_len];(repeat' first|apply a.1|apply b.1|refine iteI (fun h=>?_) fun h=>?_)<;>clear a b A B))
  refine zy (pre++[x],po,bf,af++[x],(s1,s2),w0,w1,w2,_) (by simp only [List.length_cons];omega) ⟨hh1.out,b2 _ _,b3 _ _,b4 _ _,h5,h6,?_,hh2.out,?_⟩ ?_ ⟨[],rfl⟩
  ·simp only [List.length_append,List.length_cons,List.length_nil];omega
  ·have:=hh9.out;simp only [List.length_append,List.length_cons,List.length_nil];omega
  ·((try simp only [zg,zi,zd,zf,List.set_cons_zero,List.set_cons_succ]);all_goals (first|rfl|(simp only [zn,zj,zc,List.length_map,List.length_append,List.length_cons,List.length_nil,Nat.zero_add];first|done|rfl)))
 ·rw [if_neg hd] at h8
  have hh2:Hold (insGo bf af (min s1 x.1,max s2 x.2) po=R):=⟨h8⟩
  have b2:∀ y,(S.set 0 y)[0]? = some y:=fun y=>by have:=at_set h2 y [];rwa [List.append_nil] at this
  have b3:∀ y,(S.set 0 y)[2]? = some (.arr (spans bf) 2 w1 true):=fun y=>by have:=zcp h3 (b:=0) (by decide) y [];rwa [List.append_nil] at this
  have b4:∀ y,(S.set 0 y)[3]? = some (.arr (spans af) 2 w2 true):=fun y=>by have:=zcp h4 (b:=0) (by decide) y [];rwa [List.append_nil] at this
  clear h8
  repeat' (first|refine go1 ?_|refine za rfl ?_|(refine go2 fun A B a b=>?_;simp only [go_sem, *,zr ty44 rfl,zk ty44 rfl,zh ty44 rfl,zA hv,max_if,min_if,Nat.zero_le,zb,ze,zm,List.append_assoc,List.length_append,spans_len];(repeat' first|apply a.1|apply b.1|refine iteI (fun h=>?_) fun h=>?_)<;>clear a b A B))
  refine zy (pre++[x],po,bf,af,(min s1 x.1,max s2 x.2),1,w1,w2,_) (by simp only [List.length_cons];omega) ⟨hh1.out,b2 _,b3 _,b4 _,Nat.le_refl _,h6,h7,hh2.out,?_⟩ ?_ ⟨[],rfl⟩
  ·have:=hh9.out;simp only [List.length_append,List.length_cons,List.length_nil];omega
  ·((try simp only [zg,zi,zd,zf,List.set_cons_zero,List.set_cons_succ]);all_goals (first|rfl|(simp only [zn,zj,zc,List.length_map,List.length_append,List.length_cons,List.length_nil,Nat.zero_add];first|done|rfl)))

theorem unionR (v:AV) (l:List El) (hv:SLs 2 (spans l) v) (hl:l.length≤1000000):EvV CX 80 [v] (· = .osl 2 (spans (uniR l))):=by
 unfold uniR
 obtain⟨R,hR⟩:∃ R,l.foldl (fun out x=>if rgt x=true then insS out x else out) []=R:=⟨_,rfl⟩
 rw [hR]
 refine EvV.walk rfl fn80 rfl nt80 rfl ?_
 simp only [List.length_cons,List.length_nil,List.cons_append,List.nil_append,Nat.reduceAdd,Nat.reduceSub,List.replicate]
 repeat' (first|refine go1 ?_|refine za rfl ?_|(refine zt fun A B a b=>?_;simp only [go_sem, *,zk ty44 rfl,zh ty44 rfl];(repeat' first|apply a.1|refine iteI (fun h=>?_) fun h=>?_)<;>clear a b A B))
 refine zN [6,7,8,9,10,11,12,13,14,15,16,17,18,19,20,21,22] (fun p:List El×List El×List El×Nat×Store=>[(3,.sl p.2.2.2.1 p.2.2.1.length 0 p.2.2.1.length 2),(4,.int .i64 p.1.length)]) (fun p _=>p.2.2.2.2)
  (fun p=>l=p.1++p.2.1∧p.2.2.2.2[p.2.2.2.1]? = some (.arr (spans p.2.2.1) 2 0 true)∧p.2.1.foldl (fun out x=>if rgt x=true then insS out x else out) p.2.2.1=R∧p.2.2.1.length≤p.1.length)
  (fun p=>p.2.1.length) ([],l,[],1,_) ⟨rfl,rfl,hR,by simp⟩ ?_ ⟨[],rfl⟩ ?_
 ·rfl
 clear hR
 rintro⟨pre,po,out,b,S⟩ g G ⟨h1,h2,h3,h4⟩
 simp only at h1 h2 h3 h4
 simp only [zo,zq,zd,zf,List.set_cons_zero,List.set_cons_succ]
 cases po with
 | nil=>
  have e:(l.length:Int)=(pre.length:Int):=by rw [h1,List.append_nil]
  have hh:Hold (out=R):=⟨h3⟩
  clear h1 h3
  repeat' (first|refine go1 ?_|refine za rfl ?_|(refine go2 fun A B a b=>?_;simp only [go_sem, *,zk ty44 rfl,zh ty44 rfl,zA hv,Int.lt_irrefl,spans_len];(repeat' first|apply a.1|apply b.1|refine iteI (fun h=>?_) fun h=>?_)<;>clear a b A B))
  simp only [go_sem,zk ty44 rfl,zh ty44 rfl,h2,spans_len,Nat.zero_le]
  rw [hh.out];rfl
 | cons x po=>
  have lta:(pre.length:Int)<(l.length:Int):=by rw [h1];simp;omega
  have i1:=zbE hv (X:=CX) ty44 ty47 rfl (n:=pre.length) (row:=[.int .i64 x.1,.int .i64 x.2]) (zca (by rw [h1];simp)) (k := .i64)
  have n1:=zB (n:=pre.length) (by omega)
  have hh1:Hold (l=(pre++[x])++po):=⟨by rw [h1];simp⟩
  have a2:=at_app h2
  have q1:=(rightR x).rw
  have q2:=(insertR (.tsl false 2 (spans out)) out x (.rows false) (by omega)).rw
  have il:=insS_len out x
  have tko:(spans out).take out.length=spans out:=by rw [←spans_len out];exact List.take_length
  rw [List.foldl_cons] at h3
  simp only [encE] at q1 q2
  clear h1
  by_cases hr:rgt x=true
  ·rw [if_pos hr] at h3
   rw [hr] at q1
   have hh2:Hold (po.foldl (fun out x=>if rgt x=true then insS out x else out) (insS out x)=R):=⟨h3⟩
   clear h3 hr
   repeat' (first|refine go1 ?_|refine za rfl ?_|(refine go2 fun A B a b=>?_;simp only [go_sem, *,zk ty44 rfl,zh ty44 rfl,zA hv,Nat.zero_le,zb,ze,zm,List.append_assoc,List.length_append,spans_len,zab,zc,zC,List.take_length,Bool.true_or];(repeat' first|apply a.1|apply b.1|refine iteI (fun h=>?_) fun h=>?_)<;>clear a b A B))
   refine zy (pre++[x],po,insS out x,S.length,_) (by simp only [List.length_cons];omega) ⟨hh1.out,by simp only;rw [zb];rfl,hh2.out,?_⟩ ?_ ⟨[],rfl⟩
   ·(try simp only [zn]);omega
   ·((try simp only [zg,zi,zd,zf,List.set_cons_zero,List.set_cons_succ]);all_goals (first|rfl|(simp only [zn,zj,zc,List.length_map,List.length_append,List.length_cons,List.length_nil,Nat.zero_add];first|done|rfl)))
  ·have hr':rgt x=false:=by simpa using hr
   rw [if_neg hr] at h3
   rw [hr'] at q1
   have hh2:Hold (po.foldl (fun out x=>if rgt x=true then insS out x else out) out=R):=⟨h3⟩
   clear h3 hr hr'
   repeat' (first|refine go1 ?_|refine za rfl ?_|(refine go2 fun A B a b=>?_;simp only [go_sem, *,zk ty44 rfl,zh ty44 rfl,zA hv,Nat.zero_le,zb,ze,zm,List.append_assoc,List.length_append,spans_len,zab,zc,zC,List.take_length,Bool.true_or];(repeat' first|apply a.1|apply b.1|refine iteI (fun h=>?_) fun h=>?_)<;>clear a b A B))
   refine zy (pre++[x],po,out,b,_) (by simp only [List.length_cons];omega) ⟨hh1.out,h2,hh2.out,?_⟩ ?_ ⟨[],rfl⟩
   ·(try simp only [zn]);omega
   ·((try simp only [zg,zi,zd,zf,List.set_cons_zero,List.set_cons_succ]);all_goals (first|rfl|(simp only [zn,zj,zc,List.length_map,List.length_append,List.length_cons,List.length_nil,Nat.zero_add];first|done|rfl)))

/- The reference's lists of spans: Both, without, Minus, Covers, Total, Same. -/
open Go.Proofs
attribute [local go_sem] fz124 fz125 fz126 fz127 fz176
set_option maxRecDepth 20000
set_option maxHeartbeats 4000000

theorem sameR (v w:AV) (l m:List El) (hv:SLs 2 (spans l) v) (hw:SLs 2 (spans m) w) (hl:l.length<9223372036854775807):EvV CX 20 [v,w] (· = .bool (decide (l=m))):=by
 by_cases hlen:l.length=m.length
 ·have hlen':((l.length:Int) == (m.length:Int))=true:=by simp [hlen]
  have hh0:Hold (l.length=m.length):=⟨hlen⟩
  clear hlen
  refine EvV.walk rfl fn20 rfl nt20 rfl ?_
  simp only [List.length_cons,List.length_nil,List.cons_append,List.nil_append,Nat.reduceAdd,Nat.reduceSub,List.replicate]
  repeat' (first|refine go1 ?_|refine za rfl ?_|(refine zt fun A B a b=>?_;simp only [go_sem, *,zA hv,zA hw,spans_len];(repeat' first|apply a.1|refine iteI (fun h=>?_) fun h=>?_)<;>clear a b A B))
  (refine zY fun A B hA hB=>?_;simp only [go_sem, *];first|(refine hA.out ?_;clear hA hB A B)|(refine hB.out ?_;clear hA hB A B))
  repeat' (first|refine go1 ?_|refine za rfl ?_|(refine zt fun A B a b=>?_;simp only [go_sem, *];(repeat' first|apply a.1|refine iteI (fun h=>?_) fun h=>?_)<;>clear a b A B))
  refine zN [4,11,12,13,14,15,16,17,18,19,20,21,22,23,24,25] (fun p:List El×List El×List El=>[(5,.int .i64 p.1.length)]) (fun p G=>G)
   (fun p=>l=p.1++p.2.1∧m=p.1++p.2.2) (fun p=>p.2.1.length) ([],l,m) ⟨rfl,rfl⟩ ?_ ⟨_,rfl⟩ ?_
  ·rfl
  rintro⟨pre,po,pm⟩ g G ⟨h1,h2⟩
  simp only at h1 h2
  have hpl:po.length=pm.length:=by have:=hh0.out;rw [h1,h2] at this;simpa using this
  simp only [zo,zq,zd,zf,List.set_cons_zero,List.set_cons_succ]
  cases po with
  | nil=>
   have e:(l.length:Int)=(pre.length:Int):=by rw [h1,List.append_nil]
   have hh:Hold (l=m):=⟨by rw [h1,h2,List.eq_nil_of_length_eq_zero hpl.symm]⟩
   clear h1 h2 hlen'
   repeat' (first|refine go1 ?_|refine za rfl ?_|(refine go2 fun A B a b=>?_;simp only [go_sem, *,zA hv,Int.lt_irrefl,spans_len];(repeat' first|apply a.1|apply b.1|refine iteI (fun h=>?_) fun h=>?_)<;>clear a b A B))
   simp only [go_sem]
   simp [hh.out]
  | cons x po=>
   cases pm with
   | nil=>simp at hpl
   | cons y pm=>
    have lta:(pre.length:Int)<(l.length:Int):=by rw [h1];simp;omega
    have i1:=zbE hv (X:=CX) ty44 ty47 rfl (n:=pre.length) (row:=[.int .i64 x.1,.int .i64 x.2]) (zca (by rw [h1];simp)) (k := .i64)
    have i2:=zbE hw (X:=CX) ty44 ty47 rfl (n:=pre.length) (row:=[.int .i64 y.1,.int .i64 y.2]) (zca (by rw [h2];simp)) (k := .i64)
    have n1:=zB (n:=pre.length) (by omega)
    by_cases hxy:x=y
    ·subst hxy
     have hh1:Hold (l=(pre++[x])++po∧m=(pre++[x])++pm):=⟨by rw [h1];simp,by rw [h2];simp⟩
     clear h1 h2 hlen' hpl
     repeat' (first|refine go1 ?_|refine za rfl ?_|(refine go2 fun A B a b=>?_;simp only [go_sem, *,zA hv,spans_len,beq_self_eq_true];(repeat' first|apply a.1|apply b.1|refine iteI (fun h=>?_) fun h=>?_)<;>clear a b A B))
     refine zy (pre++[x],po,pm) (by simp only [List.length_cons];omega) hh1.out ?_ ⟨_,rfl⟩
     ((try simp only [zg,zi,zd,zf,List.set_cons_zero,List.set_cons_succ]);all_goals (first|rfl|(simp only [zn,zj,zc,List.length_map,List.length_append,List.length_cons,List.length_nil,Nat.zero_add];first|done|rfl)))
    ·have hh1:Hold (¬l=m):=⟨by rw [h1,h2];simp [hxy]⟩
     have hb:((x.1 == y.1) && (x.2 == y.2))=false:=by
      cases hq:((x.1 == y.1) && (x.2 == y.2)) with
      | false=>rfl
      | true=>simp at hq;exact absurd (Prod.ext hq.1 hq.2) hxy
     clear h1 h2 hlen' hpl hxy
     repeat' (first|refine go1 ?_|refine za rfl ?_|(refine go2 fun A B a b=>?_;simp only [go_sem, *,zA hv,spans_len];(repeat' first|apply a.1|apply b.1|refine iteI (fun h=>?_) fun h=>?_)<;>clear a b A B))
     simp only [go_sem]
     simp [hh1.out]
 ·have hlen':((l.length:Int) == (m.length:Int))=false:=by simp;omega
  have hne:¬l=m:=fun e=>hlen (by rw [e])
  have hh0:Hold (¬l=m):=⟨hne⟩
  clear hlen hne
  refine EvV.walk rfl fn20 rfl nt20 rfl ?_
  simp only [List.length_cons,List.length_nil,List.cons_append,List.nil_append,Nat.reduceAdd,Nat.reduceSub,List.replicate]
  repeat' (first|refine go1 ?_|refine za rfl ?_|(refine go2 fun A B a b=>?_;simp only [go_sem, *,zA hv,zA hw,spans_len];(repeat' first|apply a.1|apply b.1|refine iteI (fun h=>?_) fun h=>?_)<;>clear a b A B))
  simp only [go_sem]
  simp [hh0.out]

theorem wo1_len (s x:El):(wo1 s x).length≤2:=by
 unfold wo1;split<;>split<;>simp
theorem withoutR (v:AV) (l:List El) (s:El) (hv:SLs 2 (spans l) v) (hl:l.length≤2000000):EvV CX 81 [v,.agg (encE s)] (· = .osl 2 (spans (wo l s))):=by
 obtain⟨R,hR⟩:∃ R,wo l s=R:=⟨_,rfl⟩
 rw [hR]
 obtain⟨s1,s2⟩:=s
 simp only [encE]
 refine EvV.walk rfl fn81 rfl nt81 rfl ?_
 simp only [List.length_cons,List.length_nil,List.cons_append,List.nil_append,Nat.reduceAdd,Nat.reduceSub,List.replicate]
 repeat' (first|refine go1 ?_|refine za rfl ?_|(refine zt fun A B a b=>?_;simp only [go_sem, *,zr ty44 rfl,zk ty44 rfl,zh ty44 rfl];(repeat' first|apply a.1|refine iteI (fun h=>?_) fun h=>?_)<;>clear a b A B))
 refine zN [7,8,10,11,12,13,14,15,16,17,18,19,20,21,22,23,24,25,26,27,28,29,30,31,32,33,34,35,36,37,38,39,40,41,42,43,44,45,46,47,48,49,50,51,52,53,54,55] (fun p:List El×List El×List El×Nat×Store=>[(5,.sl 2 p.2.2.1.length 0 p.2.2.1.length 2),(6,.int .i64 p.1.length)]) (fun p _=>p.2.2.2.2)
  (fun p=>l=p.1++p.2.1∧p.2.2.2.2[0]? = some (.arr [[.int .i64 s1,.int .i64 s2]] 2 0 true)∧p.2.2.2.2[2]? = some (.arr (spans p.2.2.1) 2 p.2.2.2.1 true)∧p.2.2.2.1≤p.2.2.1.length∧p.2.2.1++wo p.2.1 (s1,s2)=R∧p.2.2.1.length≤2*p.1.length)
  (fun p=>p.2.1.length) ([],l,[],0,_) ⟨rfl,rfl,rfl,by simp,hR,by simp⟩ ?_ ⟨[],rfl⟩ ?_
 ·rfl
 clear hR
 rintro⟨pre,po,out,w0,S⟩ g G ⟨h1,h2,h3,h4,h5,h6⟩
 simp only at h1 h2 h3 h4 h5 h6
 simp only [zo,zq,zd,zf,List.set_cons_zero,List.set_cons_succ]
 cases po with
 | nil=>
  have e:(l.length:Int)=(pre.length:Int):=by rw [h1,List.append_nil]
  have hh:Hold (out=R):=⟨by rw [←h5];simp [wo]⟩
  clear h1 h5
  repeat' (first|refine go1 ?_|refine za rfl ?_|(refine go2 fun A B a b=>?_;simp only [go_sem, *,zr ty44 rfl,zk ty44 rfl,zh ty44 rfl,zA hv,Int.lt_irrefl,spans_len];(repeat' first|apply a.1|apply b.1|refine iteI (fun h=>?_) fun h=>?_)<;>clear a b A B))
  simp only [go_sem,zr ty44 rfl,zk ty44 rfl,zh ty44 rfl,h3,spans_len]
  have h4':w0≤R.length:=by rw [←hh.out];exact h4
  rw [hh.out]
  first|rfl|(simp;done)|(simp;omega)|(simp [*];done)
 | cons x po=>
  have lta:(pre.length:Int)<(l.length:Int):=by rw [h1];simp;omega
  have i1:=zbE hv (X:=CX) ty44 ty47 rfl (n:=pre.length) (row:=[.int .i64 x.1,.int .i64 x.2]) (zca (by rw [h1];simp)) (k := .i64)
  have n1:=zB (n:=pre.length) (by omega)
  have hh1:Hold (l=(pre++[x])++po):=⟨by rw [h1];simp⟩
  have hh2:Hold (out.length≤2*pre.length):=⟨h6⟩
  have a2:=at_app h2
  have a3:=at_app h3
  have c3:=set_app h3
  have b2:=zcp h2 (b:=2) (by decide)
  have b3:=at_set h3
  have d5:∀ x y X,(S.set 2 x++X).set 2 y=S.set 2 y++X:=fun x y X=>by
   rw [List.set_append_left _ _ (by simpa using (List.getElem?_eq_some_iff.1 h3).1),List.set_set]
  have so:=span_ok (n:=out.length) (by omega)
  have so2:=span_ok2 (n:=out.length+1) (m:=1) (by omega)
  have q1:=(rightR (x.1,min x.2 s1)).rw
  have q2:=(rightR (max x.1 s2,x.2)).rw
  have e5:wo (x::po) (s1,s2)=wo1 (s1,s2) x++wo po (s1,s2):=rfl
  rw [e5,wo1] at h5
  simp only [encE] at q1 q2
  have hs1:=zct out (x.1,min x.2 s1)
  have hs2:=zct out (max x.1 s2,x.2)
  have hs3:=zct (out++[(x.1,min x.2 s1)]) (max x.1 s2,x.2)
  have ws:w0≤out.length+1:=by omega
  clear h1 h6 e5
  by_cases r1:rgt (x.1,min x.2 s1)=true<;>by_cases r2:rgt (max x.1 s2,x.2)=true
  ·rw [if_pos r1,if_pos r2] at h5
   rw [r1] at q1
   rw [r2] at q2
   have hh3:Hold (out++[(x.1,min x.2 s1),(max x.1 s2,x.2)]++wo po (s1,s2)=R):=⟨by rw [←h5];simp only [List.append_assoc,List.nil_append,List.cons_append]⟩
   clear h5 r1 r2
   repeat' (first|refine go1 ?_|refine za rfl ?_|(refine go2 fun A B a b=>?_;simp only [go_sem, *,zr ty44 rfl,zk ty44 rfl,zh ty44 rfl,zA hv,max_if,min_if,zp,Nat.zero_le,at_new,at_newK,zb,ze,zm,List.append_assoc,List.length_append,spans_len,zab,zc,zC,List.take_length,Bool.true_or];(repeat' first|apply a.1|apply b.1|refine iteI (fun h=>?_) fun h=>?_)<;>clear a b A B))
   refine zy (pre++[x],po,out++[(x.1,min x.2 s1),(max x.1 s2,x.2)],w0,_) (by simp only [List.length_cons];omega) ⟨hh1.out,b2 _ _,b3 _ _,?_,hh3.out,?_⟩ ?_ ⟨[],rfl⟩
   ·simp only [List.length_append,List.length_cons,List.length_nil];omega
   ·have:=hh2.out;simp only [List.length_append,List.length_cons,List.length_nil];omega
   ·((try simp only [zg,zi,zd,zf,List.set_cons_zero,List.set_cons_succ]);all_goals (first|rfl|(simp only [zn,zj,zc,List.length_map,List.length_append,List.length_cons,List.length_nil,Nat.zero_add];first|done|rfl)))
  ·rw [if_pos r1,if_neg r2] at h5
   rw [r1] at q1
   have r2':rgt (max x.1 s2,x.2)=false:=by simpa using r2
   rw [r2'] at q2
   clear r2'
   have hh3:Hold (out++[(x.1,min x.2 s1)]++wo po (s1,s2)=R):=⟨by rw [←h5];simp only [List.append_assoc,List.nil_append,List.cons_append]⟩
   clear h5 r1 r2
   repeat' (first|refine go1 ?_|refine za rfl ?_|(refine go2 fun A B a b=>?_;simp only [go_sem, *,zr ty44 rfl,zk ty44 rfl,zh ty44 rfl,zA hv,max_if,min_if,zp,Nat.zero_le,at_new,at_newK,zb,ze,zm,List.append_assoc,List.length_append,spans_len,zab,zc,zC,List.take_length,Bool.true_or];(repeat' first|apply a.1|apply b.1|refine iteI (fun h=>?_) fun h=>?_)<;>clear a b A B))
   refine zy (pre++[x],po,out++[(x.1,min x.2 s1)],w0,_) (by simp only [List.length_cons];omega) ⟨hh1.out,b2 _ _,b3 _ _,?_,hh3.out,?_⟩ ?_ ⟨[],rfl⟩
   ·simp only [List.length_append,List.length_cons,List.length_nil];omega
   ·have:=hh2.out;simp only [List.length_append,List.length_cons,List.length_nil];omega
   ·((try simp only [zg,zi,zd,zf,List.set_cons_zero,List.set_cons_succ]);all_goals (first|rfl|(simp only [zn,zj,zc,List.length_map,List.length_append,List.length_cons,List.length_nil,Nat.zero_add];first|done|rfl)))
  ·rw [if_neg r1,if_pos r2] at h5
   have r1':rgt (x.1,min x.2 s1)=false:=by simpa using r1
   rw [r1'] at q1
   clear r1'
   rw [r2] at q2
   have hh3:Hold (out++[(max x.1 s2,x.2)]++wo po (s1,s2)=R):=⟨by rw [←h5];simp only [List.append_assoc,List.nil_append,List.cons_append]⟩
   clear h5 r1 r2
   repeat' (first|refine go1 ?_|refine za rfl ?_|(refine go2 fun A B a b=>?_;simp only [go_sem, *,zr ty44 rfl,zk ty44 rfl,zh ty44 rfl,zA hv,max_if,min_if,zp,Nat.zero_le,at_new,at_newK,zb,ze,zm,List.append_assoc,List.length_append,spans_len,zab,zc,zC,List.take_length,Bool.true_or];(repeat' first|apply a.1|apply b.1|refine iteI (fun h=>?_) fun h=>?_)<;>clear a b A B))
   refine zy (pre++[x],po,out++[(max x.1 s2,x.2)],w0,_) (by simp only [List.length_cons];omega) ⟨hh1.out,b2 _ _,b3 _ _,?_,hh3.out,?_⟩ ?_ ⟨[],rfl⟩
   ·simp only [List.length_append,List.length_cons,List.length_nil];omega
   ·have:=hh2.out;simp only [List.length_append,List.length_cons,List.length_nil];omega
   ·((try simp only [zg,zi,zd,zf,List.set_cons_zero,List.set_cons_succ]);all_goals (first|rfl|(simp only [zn,zj,zc,List.length_map,List.length_append,List.length_cons,List.length_nil,Nat.zero_add];first|done|rfl)))
  ·rw [if_neg r1,if_neg r2] at h5
   have r1':rgt (x.1,min x.2 s1)=false:=by simpa using r1
   rw [r1'] at q1
   clear r1'
   have r2':rgt (max x.1 s2,x.2)=false:=by simpa using r2
   rw [r2'] at q2
   clear r2'
   have hh3:Hold (out++wo po (s1,s2)=R):=⟨by rw [←h5];simp only [List.append_assoc,List.nil_append,List.cons_append]⟩
   clear h5 r1 r2
   repeat' (first|refine go1 ?_|refine za rfl ?_|(refine go2 fun A B a b=>?_;simp only [go_sem, *,zr ty44 rfl,zk ty44 rfl,zh ty44 rfl,zA hv,max_if,min_if,zp,Nat.zero_le,at_new,at_newK,zb,ze,zm,List.append_assoc,List.length_append,spans_len,zab,zc,zC,List.take_length,Bool.true_or];(repeat' first|apply a.1|apply b.1|refine iteI (fun h=>?_) fun h=>?_)<;>clear a b A B))
   refine zy (pre++[x],po,out,w0,_) (by simp only [List.length_cons];omega) ⟨hh1.out,a2 _,a3 _,h4,hh3.out,?_⟩ ?_ ⟨[],rfl⟩
   ·have:=hh2.out;simp only [List.length_append,List.length_cons,List.length_nil];omega
   ·((try simp only [zg,zi,zd,zf,List.set_cons_zero,List.set_cons_succ]);all_goals (first|rfl|(simp only [zn,zj,zc,List.length_map,List.length_append,List.length_cons,List.length_nil,Nat.zero_add];first|done|rfl)))

/- The reference's lists of spans: Both, Minus, Covers, Total. -/
open Go.Proofs
attribute [local go_sem] br80 br81 fz129 fz130 fz131 br47 fz134
set_option maxRecDepth 20000
set_option maxHeartbeats 4000000

theorem wo_one (s:El) (hs:s.1<s.2):∀ {l:List El},Norm l→(wo l s).length≤l.length+1
 | [],_=>by simp [wo]
 | x::l,h=>by
  obtain⟨rx,sx,nl⟩:=zcg.mp h
  have e:wo (x::l) s=wo1 s x++wo l s:=rfl
  rw [e,List.length_append,List.length_cons]
  by_cases hx:s.2<x.2
  ·-- the rest lies behind s
   have hl:∀ y∈l,wo1 s y = [y]:=fun y hy=>by
    have h1:=sx y hy
    have ry:=zbU.mp (nl.rg y hy)
    have a1:¬rgt (y.1,min y.2 s.1)=true:=fun k=>by have:=zbU.mp k;simp only at this;omega
    have a2:max y.1 s.2=y.1:=by omega
    unfold wo1
    rw [if_neg a1,a2,if_pos (nl.rg y hy)];rfl
   have:wo l s=l:=by
    unfold wo
    clear h e sx nl
    induction l with
    | nil=>rfl
    | cons y l ih=>rw [List.flatMap_cons,hl y (by simp),ih fun z hz=>hl z (by simp [hz])];rfl
   rw [this]
   have:=wo1_len s x;omega
  ·have h1:(wo1 s x).length≤1:=by
    have a2:¬rgt (max x.1 s.2,x.2)=true:=fun k=>by have:=zbU.mp k;simp only at this;omega
    unfold wo1
    rw [if_neg a2];split<;>simp
   have:=wo_one s hs nl
   omega

theorem minusRE (v w:AV) (a b:List El) (hv:SLs 2 (spans a) v) (hw:SLs 2 (spans b) w) (ha:a.length≤500000) (hb:b.length≤500000):EvV CX 47 [v,w] (· = .osl 2 (spans (minusR a b))):=by
 have q0:=(unionR v a hv (by omega)).rw
 have s1:=hv.snap
 have hul:=uniR_len a
 have hun:=(uniR_spec a).1
 unfold minusR
 obtain⟨R,hR⟩:∃ R,b.foldl (fun out s=>if rgt s=true then wo out s else out) (uniR a)=R:=⟨_,rfl⟩
 rw [hR]
 obtain⟨u,hu⟩:∃ u,uniR a=u:=⟨_,rfl⟩
 rw [hu] at q0 hul hun hR
 have hun':Hold (Norm u):=⟨hun⟩
 clear hun
 refine EvV.walk rfl fn47 rfl nt47 rfl ?_
 simp only [List.length_cons,List.length_nil,List.cons_append,List.nil_append,Nat.reduceAdd,Nat.reduceSub,List.replicate]
 repeat' (first|refine go1 ?_|refine za rfl ?_|(refine zt fun A B a b=>?_;simp only [go_sem, *,zk ty44 rfl,spans_len];(repeat' first|apply a.1|refine iteI (fun h=>?_) fun h=>?_)<;>clear a b A B))
 refine zN [9,10,11,12,13,14,15,16,17,18,19,20,21,22,23,24,25] (fun p:List El×List El×List El×Nat×Store=>[(5,.sl p.2.2.2.1 p.2.2.1.length 0 p.2.2.1.length 2),(6,.int .i64 p.1.length)]) (fun p _=>p.2.2.2.2)
  (fun p=>b=p.1++p.2.1∧p.2.2.2.2[p.2.2.2.1]? = some (.arr (spans p.2.2.1) 2 0 true)∧p.2.1.foldl (fun out s=>if rgt s=true then wo out s else out) p.2.2.1=R∧p.2.2.1.length≤p.1.length+u.length∧Norm p.2.2.1)
  (fun p=>p.2.1.length) ([],b,u,1,_) ⟨rfl,rfl,hR,by simp,hun'.out⟩ ?_ ⟨[],rfl⟩ ?_
 ·rfl
 clear hR q0
 rintro⟨pre,po,out,bo,S⟩ g G ⟨h1,h2,h3,h4,h5⟩
 simp only at h1 h2 h3 h4 h5
 simp only [zo,zq,zd,zf,List.set_cons_zero,List.set_cons_succ]
 cases po with
 | nil=>
  have e:(b.length:Int)=(pre.length:Int):=by rw [h1,List.append_nil]
  have hh:Hold (out=R):=⟨h3⟩
  clear h1 h3
  repeat' (first|refine go1 ?_|refine za rfl ?_|(refine go2 fun A B a b=>?_;simp only [go_sem, *,zk ty44 rfl,zA hw,Int.lt_irrefl,spans_len];(repeat' first|apply a.1|apply b.1|refine iteI (fun h=>?_) fun h=>?_)<;>clear a b A B))
  simp only [go_sem,zk ty44 rfl,h2,spans_len,Nat.zero_le]
  rw [hh.out];rfl
 | cons x po=>
  have lta:(pre.length:Int)<(b.length:Int):=by rw [h1];simp;omega
  have i1:=zbE hw (X:=CX) ty44 ty47 rfl (n:=pre.length) (row:=[.int .i64 x.1,.int .i64 x.2]) (zca (by rw [h1];simp)) (k := .i64)
  have n1:=zB (n:=pre.length) (by omega)
  have hh1:Hold (b=(pre++[x])++po):=⟨by rw [h1];simp⟩
  have a2:=at_app h2
  have q1:=(rightR x).rw
  have q2:=(withoutR (.tsl false 2 (spans out)) out x (.rows false) (by omega)).rw
  have tko:(spans out).take out.length=spans out:=by rw [←spans_len out];exact List.take_length
  rw [List.foldl_cons] at h3
  simp only [encE] at q1 q2
  have hh5:Hold (Norm out):=⟨h5⟩
  clear h1 h5
  by_cases hr:rgt x=true
  ·rw [if_pos hr] at h3
   rw [hr] at q1
   have hh2:Hold (po.foldl (fun out s=>if rgt s=true then wo out s else out) (wo out x)=R):=⟨h3⟩
   have hh6:Hold (Norm (wo out x)∧(wo out x).length≤out.length+1):=⟨(wo_spec hr hh5.out).1,wo_one x (zbU.mp hr).2.1 hh5.out⟩
   clear h3 hr
   repeat' (first|refine go1 ?_|refine za rfl ?_|(refine go2 fun A B a b=>?_;simp only [go_sem, *,zk ty44 rfl,zA hw,zp,Nat.zero_le,at_new,at_newK,zb,ze,zm,List.append_assoc,List.length_append,spans_len,zab,zbI,zc,zC,List.take_length,Bool.true_or];(repeat' first|apply a.1|apply b.1|refine iteI (fun h=>?_) fun h=>?_)<;>clear a b A B))
   refine zy (pre++[x],po,wo out x,S.length,_) (by simp only [List.length_cons];omega) ⟨hh1.out,by simp only;rw [zb];rfl,hh2.out,?_,hh6.out.1⟩ ?_ ⟨[],rfl⟩
   ·have:=hh6.out.2
    simp only [zn];omega
   ·((try simp only [zg,zi,zd,zf,List.set_cons_zero,List.set_cons_succ]);all_goals (first|rfl|(simp only [zn,zj,zc,List.length_map,List.length_append,List.length_cons,List.length_nil,Nat.zero_add];first|done|rfl)))
  ·have hr':rgt x=false:=by simpa using hr
   rw [if_neg hr] at h3
   rw [hr'] at q1
   have hh2:Hold (po.foldl (fun out s=>if rgt s=true then wo out s else out) out=R):=⟨h3⟩
   clear h3 hr hr'
   repeat' (first|refine go1 ?_|refine za rfl ?_|(refine go2 fun A B a b=>?_;simp only [go_sem, *,zk ty44 rfl,zA hw,zp,Nat.zero_le,at_new,at_newK,zb,ze,zm,List.append_assoc,List.length_append,spans_len,zab,zbI,zc,zC,List.take_length,Bool.true_or];(repeat' first|apply a.1|apply b.1|refine iteI (fun h=>?_) fun h=>?_)<;>clear a b A B))
   refine zy (pre++[x],po,out,bo,_) (by simp only [List.length_cons];omega) ⟨hh1.out,h2,hh2.out,?_,hh5.out⟩ ?_ ⟨[],rfl⟩
   ·simp only [zn];omega
   ·((try simp only [zg,zi,zd,zf,List.set_cons_zero,List.set_cons_succ]);all_goals (first|rfl|(simp only [zn,zj,zc,List.length_map,List.length_append,List.length_cons,List.length_nil,Nat.zero_add];first|done|rfl)))

end Go.Eng.Fo

/- Rights: Spans of the program. -/
namespace Go.Eng
open Go.Proofs
attribute [local irreducible] wpC wpO wp1 EvV EvR wpL
attribute [local go_sem] ty3 ty4 ty23 ty24 ty25 ty26 ty28 ty29 ty38 ty53 ty56 ty58 ty66 ty68 ty75 br107 fz11 ty9 ty31 ty34 ty44 ty47 ty77 eq47 br42 br77 br78 List.all_cons List.all_nil List.replicate List.set_cons_zero Nat.one_mul Nat.reduceMul Nat.zero_mul allocK appK bslA fz14 fz15 fz16 fz17 fz18 lenK_esl zcF zbV lenK_tsl nilsK rowsFill zcL zcA zbI zcK reduceIte Nat.reduceAdd Nat.reduceEqDiff Nat.reduceLT Nat.reduceLeDiff beq_iff_eq beq_eq_false_iff_ne Int.natCast_inj Bool.not_eq_false' zbD zbx zaE za9 zaw zas za7 zF zaB zaD zE zax zbw zP zH za8 zI zba zaC zbv zbu zL zar zR zaz zQ zay zS zaA za5 zat zae zbd zaG zbc zbb zbe zby zaF zaY zao zaX zaZ zav zaW zaV zaI zaK zaf zac zW z8 zbg zaJ boxK storeK zaq zaM zam zaN zbm zau zbz zbf zX zaa zaP zaQ zan zbn zaO zbr zaU zbp zbA zbs zbo zbq zaR zbC zaS zaT List.all_cons List.all_nil Bool.and_true Bool.and_self Bool.true_and z7 zaH List.set_cons_zero List.set_cons_succ List.length_cons List.length_nil List.nil_append List.cons_append stabL AV.stab fieldAddrA fieldA List.getElem?_cons_zero List.getElem?_cons_succ Nat.zero_add loadA rowOf Nat.le_refl and_self true_and and_true partA binA unA intBin eqBin eqCells eqCell Option.bind_some decide_true decide_false decide_eq_true_eq ite_not Bool.not_eq_true' decide_eq_false_iff_not Bool.false_eq_true Option.map_some Option.map_none Bool.not_true Bool.not_false buildA fillA patch List.take List.drop List.map_cons List.map_nil extK List.getD_cons_zero List.getD_cons_succ minmaxA minmaxGo zJ zV zak zU zai zT zal zaj zah zag zaL zbk zbi zbl zbj zbh bne Bool.false_and Bool.and_false ne_eq not_true_eq_false not_false_eq_true List.append_nil resultsR resultsL resultA za3 zap za2 za4 za0 za1 zZ zbK zad zO zD zbB
set_option maxHeartbeats 4000000

theorem mayM {pv gv cv rv:AV}{ps:List Psn}{gs:List Grp}{cs:List Con}{rs:List Ru}(h:RtV pv gv cv rv ps gs cs rs) (hf:fewRt ps gs cs rs=true) (x:Ru) (hx:x.ok) (hxl:x.gl.length≤1000) (pe day:Int) :
  EvV CX 77 [.agg [pv,gv,cv,rv],.agg [.int .i64 x.lv,x.gv,.int .i64 x.un],.agg [.int .i64 pe,.int .i64 day]] (· = .bool (mayF ps gs x.lv x.gl x.un pe day)):=by
 have c1:=h.p.cell
 have c2:=h.g.cell
 have c3:=h.c.cell
 have c4:=h.r.cell
 have c5:=hx.sl.cell
 have s1:=h.p.snap
 have s2:=h.g.snap
 have s5:=hx.sl.snap
 have f1:=(few_out hf).1
 have q:=(mayE (h.gsok hf) h.p (by omega) hx.sl hxl x.lv x.un pe day).rw
 generalize mayF ps gs x.lv x.gl x.un pe day=M at *
 clear hf f1
 refine EvV.walk rfl fn77 rfl nt77 rfl ?_
 simp only [List.length_cons,List.length_nil,List.cons_append,List.nil_append,Nat.reduceAdd,Nat.reduceSub,List.replicate]
 repeat' (first|refine go1 ?_|refine za rfl ?_|(refine go2 fun A B a b=>?_;simp only [go_sem, *];(repeat' first|apply a.1|apply b.1|refine iteI (fun h=>?_) fun h=>?_)<;>clear a b A B))
 simp only [go_sem]

noncomputable def cutB (ps:List Psn) (gs:List Grp) (r:Rec) (pe day:Int) (x:Ru):Bool:=(x.rc == r.id) && !(mayF ps gs x.lv x.gl x.un pe day)
def zeroB (x:Ru):Bool:=(x.sp.1 == 0) && (x.sp.2 == 0)
noncomputable def cutL (ps:List Psn) (gs:List Grp) (r:Rec) (pe day:Int) (rs:List Ru):List (Int×Int):=(rs.filter (cutB ps gs r pe day)).map Ru.sp
noncomputable def spF (ps:List Psn) (gs:List Grp) (cs:List Con) (rs:List Ru) (r:Rec) (pe day:Int):List (Int×Int) :=
 if baseF ps cs r pe day=0 then if (rs.filter (cutB ps gs r pe day)).any zeroB=true then [] else minusP [(0,r.len)] (cutL ps gs r pe day rs) else []
theorem spansM {pv gv cv rv:AV}{ps:List Psn}{gs:List Grp}{cs:List Con}{rs:List Ru}(h:RtV pv gv cv rv ps gs cs rs) (hf:fewRt ps gs cs rs=true) (r:Rec) (hr:r.ok) (hrl:r.sp.length≤1000) (pe day:Int) :
  EvV CX 45 [.agg [pv,gv,cv,rv,.int .i64 r.id,.str r.name,.int .i64 r.len,.int .i64 r.day,r.sv,.int .i64 pe,.int .i64 day]] (· = .osl 2 (Fo.spans (spF ps gs cs rs r pe day))):=by
 have c1:=h.p.cell
 have c2:=h.g.cell
 have c3:=h.c.cell
 have c4:=h.r.cell
 have c5:=hr.sv.cell
 have s1:=h.p.snap
 have s2:=h.g.snap
 have s3:=h.c.snap
 have s4:=h.r.snap
 have s5:=hr.sv.snap
 obtain⟨f1,f2,f3,f4,f5,f6,f7⟩:=few_out hf
 have q1:=(baseM h (by omega) (by omega) r hr hrl pe day).rw
 have hE:spF ps gs cs rs r pe day=if baseF ps cs r pe day=0 then if (rs.filter (cutB ps gs r pe day)).any zeroB=true then [] else minusP [(0,r.len)] (cutL ps gs r pe day rs) else []:=rfl
 obtain⟨R,hR⟩:∃ R,spF ps gs cs rs r pe day=R:=⟨_,rfl⟩
 rw [hR] at hE ⊢
 clear hR
 generalize baseF ps cs r pe day=B at *
 have hhf:Hold (fewRt ps gs cs rs=true):=⟨hf⟩
 have hh7:Hold (∀ x∈rs,x.gl.length≤25):=⟨f7⟩
 clear hf f1 f2 f3 f5 f6 f7
 by_cases k1:B=0
 rotate_left
 ·rw [if_neg k1] at hE
  have b1:(B == 0)=false:=beq_false_of_ne k1
  rw [hE]
  clear hE k1
  refine EvV.walk rfl fn45 rfl nt45 rfl ?_
  simp only [List.length_cons,List.length_nil,List.cons_append,List.nil_append,Nat.reduceAdd,Nat.reduceSub,List.replicate]
  repeat' (first|refine go1 ?_|refine za rfl ?_|(refine go2 fun A B a b=>?_;simp only [go_sem, *,zr ty44 rfl,zk ty44 rfl,zh ty44 rfl];(repeat' first|apply a.1|apply b.1|refine iteI (fun h=>?_) fun h=>?_)<;>clear a b A B))
  simp only [go_sem,zr ty44 rfl,zk ty44 rfl,zh ty44 rfl]
  rfl
 subst k1
 rw [if_pos rfl] at hE
 have hhE:Hold (R=if (rs.filter (cutB ps gs r pe day)).any zeroB=true then [] else minusP [(0,r.len)] (cutL ps gs r pe day rs)):=⟨hE⟩
 clear hE
 refine EvV.walk rfl fn45 rfl nt45 rfl ?_
 simp only [List.length_cons,List.length_nil,List.cons_append,List.nil_append,Nat.reduceAdd,Nat.reduceSub,List.replicate]
 repeat' (first|refine go1 ?_|refine za rfl ?_|(refine go2 fun A B a b=>?_;simp only [go_sem, *,zr ty44 rfl,zk ty44 rfl,zh ty44 rfl,zA h.r,List.length_map];(repeat' first|apply a.1|apply b.1|refine iteI (fun h=>?_) fun h=>?_)<;>clear a b A B))
 obtain⟨st,hst⟩:∃ st,(pv.stab && (gv.stab && (cv.stab && (rv.stab && r.sv.stab))))=st:=⟨_,rfl⟩
 rw [hst]
 clear hst
 refine zN [2,6,21,22,23,24,25,26,27,28,29,30,31,32,33,34,35,36,37,38,39,40,41,42,43,44,45,46,47,48] (fun p:List Ru×List Ru=>[(4,.sl 3 (cutL ps gs r pe day p.1).length 0 (cutL ps gs r pe day p.1).length 2),(20,.int .i64 p.1.length)])
  (fun p G=> .arr [[pv,gv,cv,rv,.int .i64 r.id,.str r.name,.int .i64 r.len,.int .i64 r.day,r.sv,.int .i64 pe,.int .i64 day]] 11 0 st :: .arr [] 2 0 true :: .arr [[.int .i64 0,.int .i64 r.len]] 2 0 true :: .arr (Fo.spans (cutL ps gs r pe day p.1)) 2 0 true::G)
  (fun p=>rs=p.1++p.2∧(p.1.filter (cutB ps gs r pe day)).any zeroB=false) (fun p=>p.2.length) ([],rs) ⟨rfl,rfl⟩ ?_ ⟨[],rfl⟩ ?_
 ·rfl
 rintro⟨pre,post⟩ g G ⟨h1,h2⟩
 simp only at h1 h2
 have hlc:(cutL ps gs r pe day pre).length≤pre.length:=by unfold cutL;rw [List.length_map];exact List.length_filter_le _ _
 cases post with
 | nil=>
  rw [List.append_nil] at h1
  subst h1
  have e:R=minusP [(0,r.len)] (cutL ps gs r pe day rs):=by rw [hhE.out,h2];rfl
  rw [e]
  clear e hhE h2
  generalize cutL ps gs r pe day rs=L at *
  have q:=(Fo.minusE (.tsl false 2 (Fo.spans [(0,r.len)])) (.tsl false 2 (Fo.spans L)) [(0,r.len)] L (.rows false) (.rows false) (by simp) (by omega)).rw
  have hone:Fo.spans [(0,r.len)] = [[.int .i64 0,.int .i64 r.len]]:=rfl
  rw [hone] at q
  have tL:(Fo.spans L).take L.length=Fo.spans L:=by rw [←Fo.spans_len L];exact List.take_length
  clear hlc
  simp only [zo,zq,zd,zf,List.set_cons_zero,List.set_cons_succ]
  repeat' (first|refine go1 ?_|refine za rfl ?_|(refine go2 fun A B a b=>?_;simp only [go_sem, *,zr ty44 rfl,zk ty44 rfl,zh ty44 rfl,Int.lt_irrefl,zp,Nat.zero_le,zb,ze,zm,List.append_assoc,List.length_append,Fo.spans_len,zab,zc,zC,List.take_length,Bool.true_or];(repeat' first|apply a.1|apply b.1|refine iteI (fun h=>?_) fun h=>?_)<;>clear a b A B))
  simp only [go_sem,zr ty44 rfl,zk ty44 rfl,zh ty44 rfl,zp,Nat.zero_le,zb,ze,zm,List.append_assoc,List.length_append,Fo.spans_len,zab,zc,zC,List.take_length,Bool.true_or]
 | cons x post=>
  have hpl:pre.length<rs.length:=by rw [h1];simp
  have lt1:(pre.length:Int)<(rs.length:Int):=by omega
  have w1:=zB (n:=pre.length) (by omega)
  have i0:=zbE h.r (X:=CX) ty26 ty58 rfl (n:=pre.length) (row:=encRu x) (k := .i64) (by rw [h1];exact zcf encRu pre x post)
  have hxm:x∈rs:=by rw [h1];simp
  have hx:=h.ro x hxm
  have d1:=hx.sl.cell
  have t1:=hx.sl.snap
  have qm:=(mayM h hhf.out x hx (by have:=hh7.out x hxm;omega) pe day).rw
  have hh1:Hold (rs=(pre++[x])++post):=⟨by rw [h1];simp⟩
  have hcb:cutB ps gs r pe day x=((x.rc == r.id) && !(mayF ps gs x.lv x.gl x.un pe day)):=rfl
  have hzb:zeroB x=((x.sp.1 == 0) && (x.sp.2 == 0)):=rfl
  have hfl:(pre++[x]).filter (cutB ps gs r pe day)=pre.filter (cutB ps gs r pe day)++if cutB ps gs r pe day x=true then [x] else []:=by
   rw [List.filter_append,List.filter_cons];split<;>simp
  have hyz:Hold (cutB ps gs r pe day x=true→zeroB x=true→R = []):=⟨fun e1 e2=>by
   rw [hhE.out,if_pos (List.any_eq_true.2 ⟨x,List.mem_filter.2 ⟨hxm,e1⟩,e2⟩)]⟩
  obtain⟨b5,b6⟩:((cutL ps gs r pe day pre).length+1)*16≤140737488355328∧(cutL ps gs r pe day pre).length+1≤140737488355328:=by omega
  clear h1 hpl hxm hlc hhE
  generalize mayF ps gs x.lv x.gl x.un pe day=M at *
  have ways:(cutB ps gs r pe day x=false∧((x.rc == r.id)=false∨(x.rc == r.id)=true∧M=true))∨(cutB ps gs r pe day x=true∧(x.rc == r.id)=true∧M=false ∧
    (zeroB x=true∧(x.sp.1 == 0)=true∧(x.sp.2 == 0)=true∨zeroB x=false∧((x.sp.1 == 0)=true∧(x.sp.2 == 0)=false∨(x.sp.1 == 0)=false))):=by
   rw [hcb,hzb]
   cases (x.rc == r.id)<;>cases M<;>cases (x.sp.1 == 0)<;>cases (x.sp.2 == 0)<;>simp
  clear hcb hzb
  rcases ways with ⟨k,hw⟩|⟨k,b1,rfl,hw⟩
  ·rw [k,if_neg (by simp),List.append_nil] at hfl
   have hh2:Hold (cutL ps gs r pe day (pre++[x])=cutL ps gs r pe day pre):=⟨by unfold cutL;rw [hfl]⟩
   have hhz:Hold (((pre++[x]).filter (cutB ps gs r pe day)).any zeroB=false):=⟨by rw [hfl];exact h2⟩
   clear hfl k hyz h2
   generalize cutL ps gs r pe day pre=L at *
   rcases hw with b1|⟨b1,rfl⟩
   all_goals
    simp only [zo,zq,zd,zf,List.set_cons_zero,List.set_cons_succ]
    repeat' (first|refine go1 ?_|refine za rfl ?_|(refine go2 fun A B a b=>?_;simp only [go_sem, *,zr ty44 rfl,zk ty44 rfl,zh ty44 rfl,encRu,zp,Nat.zero_le,zb,ze,zm,List.append_assoc,List.length_append,Fo.spans_len,zab,zc,zC,List.take_length,Bool.true_or];(repeat' first|apply a.1|apply b.1|refine iteI (fun h=>?_) fun h=>?_)<;>clear a b A B))
    refine zy (pre++[x],post) (Nat.lt_succ_self _) ⟨hh1.out,hhz.out⟩ ?_ ?_
    ·((try simp only [zg,zi,zd,zf,List.set_cons_zero,List.set_cons_succ]);all_goals (first|rfl|(simp only [zn,zc,List.length_map,hh2.out];done)|(simp only [zn,zj,zc,List.length_map,List.length_append,List.length_cons,List.length_nil,Nat.zero_add,hh2.out];first|done|rfl)))
    ·simp only [hh2.out];exact⟨_,rfl⟩
  ·rcases hw with ⟨z,b2,b3⟩|⟨z,hw⟩
   ·have e:R = []:=hyz.out k z
    rw [e]
    clear e hfl k hyz h2 z
    generalize cutL ps gs r pe day pre=L at *
    simp only [zo,zq,zd,zf,List.set_cons_zero,List.set_cons_succ]
    repeat' (first|refine go1 ?_|refine za rfl ?_|(refine go2 fun A B a b=>?_;simp only [go_sem, *,zr ty44 rfl,zk ty44 rfl,zh ty44 rfl,encRu,zp,Nat.zero_le,zb,ze,zm,List.append_assoc,List.length_append,Fo.spans_len,zab,zc,zC,List.take_length,Bool.true_or];(repeat' first|apply a.1|apply b.1|refine iteI (fun h=>?_) fun h=>?_)<;>clear a b A B))
    simp only [go_sem,zr ty44 rfl,zk ty44 rfl,zh ty44 rfl,zp,Nat.zero_le,zb,ze,zm,List.append_assoc,List.length_append,Fo.spans_len,zab,zc,zC,List.take_length,Bool.true_or]
    rfl
   ·rw [k,if_pos rfl] at hfl
    have hh2:Hold (cutL ps gs r pe day (pre++[x])=cutL ps gs r pe day pre++[x.sp]):=⟨by unfold cutL;rw [hfl,List.map_append];rfl⟩
    have hhz:Hold (((pre++[x]).filter (cutB ps gs r pe day)).any zeroB=false):=⟨by rw [hfl,List.any_append,h2];simp [z]⟩
    clear hfl k hyz h2 z
    generalize cutL ps gs r pe day pre=L at *
    have hi:Fo.spans L++[[.int .i64 x.sp.1,.int .i64 x.sp.2]]=Fo.spans (L++[x.sp]):=by simp [Fo.spans,Fo.encE]
    rcases hw with ⟨b2,b3⟩|b2
    all_goals
     simp only [zo,zq,zd,zf,List.set_cons_zero,List.set_cons_succ]
     repeat' (first|refine go1 ?_|refine za rfl ?_|(refine go2 fun A B a b=>?_;simp only [go_sem, *,zr ty44 rfl,zk ty44 rfl,zh ty44 rfl,encRu,zp,Nat.zero_le,zb,ze,zm,List.append_assoc,List.length_append,Fo.spans_len,zab,zc,zC,List.take_length,Bool.true_or];(repeat' first|apply a.1|apply b.1|refine iteI (fun h=>?_) fun h=>?_)<;>clear a b A B))
     refine zy (pre++[x],post) (Nat.lt_succ_self _) ⟨hh1.out,hhz.out⟩ ?_ ?_
     ·((try simp only [zg,zi,zd,zf,List.set_cons_zero,List.set_cons_succ]);all_goals (first|rfl|(simp only [zn,zc,List.length_map,hh2.out];done)|(simp only [zn,zj,zc,List.length_map,List.length_append,List.length_cons,List.length_nil,Nat.zero_add,hh2.out];first|done|rfl)))
     ·simp only [hh2.out];exact⟨_,rfl⟩

/- Rights: Spans of the reference; what both tell. -/
open Go.Proofs
attribute [local go_sem] br45 fz2 br19 br46 br47 fz167 fz168 fz171 fz173
set_option maxHeartbeats 4000000

def cuts (a L:List (Int×Int)):List (Int×Int):=L.foldl (fun o s=>minusR o [s]) a
theorem minusR_one {o:List (Int×Int)}(h:Norm o) (s:Int×Int):minusR o [s]=if rgt s=true then wo o s else o:=by
 unfold minusR;rw [uni_norm h];rfl
theorem cuts_eq {a:List (Int×Int)}(h:Norm a):∀ L:List (Int×Int),cuts a L=minusR a L:=by
 have key:∀ (L a:List (Int×Int)),Norm a→cuts a L=L.foldl (fun out s=>if rgt s=true then wo out s else out) a:=by
  intro L
  induction L with
  | nil=>intro a _;rfl
  | cons s L ih=>
   intro a h
   have e:cuts a (s::L)=cuts (minusR a [s]) L:=rfl
   rw [e,ih _ (minusR_spec a [s]).1,List.foldl_cons,minusR_one h]
 intro L
 rw [key L a h];unfold minusR;rw [uni_norm h]
theorem cuts_len {a:List (Int×Int)}(h:Norm a):∀ L:List (Int×Int),(cuts a L).length≤a.length+L.length:=by
 have key:∀ (L a:List (Int×Int)),Norm a→(cuts a L).length≤a.length+L.length:=by
  intro L
  induction L with
  | nil=>intro a _;exact Nat.le_refl _
  | cons s L ih=>
   intro a h
   have e:cuts a (s::L)=cuts (minusR a [s]) L:=rfl
   have h1:=ih _ (minusR_spec a [s]).1
   have h2:(minusR a [s]).length≤a.length+1:=by
    rw [minusR_one h]
    split
    ·rename_i hs
     exact Fo.wo_one s (zbU.1 hs).2.1 h
    ·omega
   rw [e,List.length_cons];omega
 exact fun L=>key L a h

theorem chk_len {ps:List Psn}{r:Rec}(h:chkC ps r=0):rgt (0,r.len)=true:=by
 unfold chkC at h
 split at h
 ·split at h
  ·split at h
   ·rename_i ht
    simp only [timeOK,Bool.and_eq_true,decide_eq_true_eq] at ht
    exact zbU.2 ⟨Int.le_refl _,by simp only;omega,by simp only;omega⟩
   ·cases h
  ·cases h
 ·cases h
theorem spansMM {pv gv cv rv:AV}{ps:List Psn}{gs:List Grp}{cs:List Con}{rs:List Ru}(h:RtV pv gv cv rv ps gs cs rs) (hf:fewRt ps gs cs rs=true) (r:Rec) (hr:r.ok) (hrl:r.sp.length≤1000) (pe day:Int) :
  EvV CX 21 [.agg [pv,gv,cv,rv],.agg [.int .i64 r.id,.str r.name,.int .i64 r.len,.int .i64 r.day,r.sv],.agg [.int .i64 pe,.int .i64 day]] (· = .osl 2 (Fo.spans (spF ps gs cs rs r pe day))):=by
 have c1:=h.p.cell
 have c2:=h.g.cell
 have c3:=h.c.cell
 have c4:=h.r.cell
 have c5:=hr.sv.cell
 have s1:=h.p.snap
 have s2:=h.g.snap
 have s3:=h.c.snap
 have s4:=h.r.snap
 have s5:=hr.sv.snap
 have q:=(spansM h hf r hr hrl pe day).rw
 generalize spF ps gs cs rs r pe day=L at *
 refine EvV.walk rfl fn21 rfl nt21 rfl ?_
 simp only [List.length_cons,List.length_nil,List.cons_append,List.nil_append,Nat.reduceAdd,Nat.reduceSub,List.replicate]
 repeat' (first|refine go1 ?_|refine za rfl ?_|(refine go2 fun A B a b=>?_;simp only [go_sem, *,zk ty44 rfl];(repeat' first|apply a.1|apply b.1|refine iteI (fun h=>?_) fun h=>?_)<;>clear a b A B))
 simp only [go_sem,zk ty44 rfl,zp,Nat.zero_le,zb,ze,zm,List.append_assoc,List.length_append,Fo.spans_len,zab,zbI,zc,zC,List.take_length,Bool.true_or]

/- Rights: the law Spans. -/
open Go.Proofs
attribute [local go_sem] ty40 br13 br17 br20 br21 br22 fz96 fz97 fz98
set_option maxHeartbeats 4000000

theorem spF_norm (ps:List Psn) (gs:List Grp) (cs:List Con) (rs:List Ru) (r:Rec) (pe day:Int):Norm (spF ps gs cs rs r pe day):=by
 unfold spF
 split
 ·split
  ·exact zci
  ·exact (minusP_spec _ _).1
 ·exact zci

/- Rights: Check of the program; the law Checks. -/
open Go.Proofs
attribute [local go_sem] br66 fz30 ty22 br48 br67 fz19 fz20 br32 br33 br34 br35 br36 fz0 fz21 fz22 fz23 fz24 br14 br15 br16 fz89 fz90 fz91 fz92
set_option maxHeartbeats 4000000

/- Rights: May, as the program and the reference tell it; the law May. -/
open Go.Proofs
attribute [local go_sem] br49 fz3 fz4 fz5 br30 br50 fz124 fz126 fz176 br23 br24 fz100 fz101 fz99
set_option maxHeartbeats 4000000

end Go.Eng
