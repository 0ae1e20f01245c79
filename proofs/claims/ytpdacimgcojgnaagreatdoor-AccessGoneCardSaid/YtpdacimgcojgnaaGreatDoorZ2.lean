/- Part 2 of the texts behind this claim. -/
import Derived.Test.YtpdacimgcojgnaaGreatDoorZ1
import Derived.Test.YtpdacimgcojgnaaGreatDoorCtxS
import Derived.Test.YtpdacimgcojgnaaGreatDoorEngV
import Derived.Sort.AssemblyPlain
set_option linter.all false

/- The library's sort of ints as a run: what the walks use; insertion sort, heap sort. -/
namespace Go.Eng
open Go.Proofs
attribute [local irreducible] wpC wpO wp1 EvV EvR wpL
attribute [local go_sem] ty3 ty4 br131 fz27 ty29 br156 fz245 fz261 fz267 reduceIte Nat.reduceAdd Nat.reduceEqDiff Nat.reduceLT Nat.reduceLeDiff beq_iff_eq beq_eq_false_iff_ne Int.natCast_inj Bool.not_eq_false' zbD zbx zaE za9 zaw zas za7 zF zaB zaD zE zax zbw zP zH za8 zI zba zaC zbv zbu zL zar zR zaz zQ zay zS zaA za5 zat zae zbd zaG zbc zbb zbe zby zaF zaY zao zaX zaZ zav zaW zaV zaI zaK zaf zac zW z8 zbg zaJ boxK storeK zaq zaM zam zaN zbm zau zbz zbf zX zaa zaP zaQ zan zbn zaO zbr zaU zbp zbA zbs zbo zbq zaR zbC zaS zaT List.all_cons List.all_nil Bool.and_true Bool.and_self Bool.true_and z7 zaH List.set_cons_zero List.set_cons_succ List.length_cons List.length_nil List.nil_append List.cons_append stabL AV.stab fieldAddrA fieldA List.getElem?_cons_zero List.getElem?_cons_succ Nat.zero_add loadA rowOf Nat.le_refl and_self true_and and_true partA binA unA intBin eqBin eqCells eqCell Option.bind_some decide_true decide_false decide_eq_true_eq ite_not Bool.not_eq_true' decide_eq_false_iff_not Bool.false_eq_true Option.map_some Option.map_none Bool.not_true Bool.not_false buildA fillA patch List.take List.drop List.map_cons List.map_nil extK List.getD_cons_zero List.getD_cons_succ minmaxA minmaxGo zJ zV zak zU zai zT zal zaj zah zag zaL zbk zbi zbl zbj zbh bne Bool.false_and Bool.and_false ne_eq not_true_eq_false not_false_eq_true List.append_nil resultsR resultsL resultA za3 zap za2 za4 za0 za1 zZ zbK zad zO zD zbB

abbrev El:=Int
def encE (x:El):List AV:=[.int .i64 x]
def rowsD (d:Array El):List (List AV):=d.toList.map encE
abbrev ltE:El→El→Bool:=Go.Sort.ltInt

theorem rowsD_len (d:Array El):(rowsD d).length=d.size:=by simp [rowsD]
theorem rowsD_get {d:Array El}{i:Nat}(h:i<d.size):(rowsD d)[i]? = some (encE d[i]!):=by
 simp [rowsD,h]
theorem rowsD_set {d:Array El}{i:Nat}{x:El}:(rowsD d).set i (encE x)=rowsD (d.setIfInBounds i x):=by
 simp [rowsD,List.map_set]

theorem rowsD_put {d:Array El}{i:Nat}{x:El}:(rowsD d).set i [.int .i64 x]=rowsD (d.setIfInBounds i x):=rowsD_set
theorem dropD {d:Array El}{i:Nat}(h:i<d.size):List.drop 1 ((rowsD d).getD i []) = []:=by
 rw [List.getD_eq_getElem?_getD,rowsD_get h];rfl
theorem takeD {l:List AV}:List.take 0 l = []:=rfl
theorem sizeD {d:Array El}{i:Nat}{x:El}:(d.setIfInBounds i x).size=d.size:=by simp
theorem idxD {b n i:Nat}{k:IntKind}(h:i<n):indexAddrA CX 29 (.sl b n 0 n 1) (.int k i)=some (.ptr b n 1 i 0):=by
 have:(i:Int)<n:=by omega
 simp [indexAddrA,ty29,ty3,this]

theorem nan (a:Int):EvV CX 131 [.int .i64 a] (· = .bool false):=by
 refine EvV.walk rfl fn131 rfl nt131 rfl ?_
 simp only [List.length_cons,List.length_nil,List.cons_append,List.nil_append,Nat.reduceAdd,Nat.reduceSub,List.replicate]
 repeat' (first|refine go1 ?_|refine za rfl ?_|(refine go2 fun A B a b=>?_;simp only [go_sem, *];(repeat' first|apply a.1|apply b.1|refine iteI (fun h=>?_) fun h=>?_)<;>clear a b A B))
 all_goals simp only [go_sem]
 all_goals simp [*]

theorem lessE (x y:Int):EvV CX 156 [.int .i64 x,.int .i64 y] (· = .bool (ltE x y)):=by
 refine EvV.walk rfl fn156 rfl nt156 rfl ?_
 simp only [List.length_cons,List.length_nil,List.cons_append,List.nil_append,Nat.reduceAdd,Nat.reduceSub,List.replicate]
 repeat' (first|refine go1 ?_|refine za rfl ?_|(refine go2 fun A B a b=>?_;simp only [go_sem, *,(nan _).rw];(repeat' first|apply a.1|apply b.1|refine iteI (fun h=>?_) fun h=>?_)<;>clear a b A B))
 all_goals simp only [go_sem]
 all_goals simp [ltE,Go.Sort.ltInt, *]

def SB (A C:Store) (d:Array El) (w:Nat):Store:=A ++ .arr (rowsD d) 1 w true::C

def Left (A C:Store) (n:Nat) (d:Array El) (S:Store):Prop:=d.size=n∧∃ w C',w≤n∧S=SB A (C++C') d w

theorem insE (A C:Store) (d:Array El) (n w a b:Nat) (hn:d.size=n) (hw:w≤n) (hb:b≤n) (hab:a≤b) (hsm:n<4611686018427387904):EvR CX 150 [.sl A.length n 0 n 1,.int .i64 a,.int .i64 b] (A ++ .arr (rowsD d) 1 w true::C) (fun v S=>v = .tup []∧Left A C n (Go.Sort.insertionSort ltE d a b) S):=by
 have w1:=zB (n:=a) (by omega)
 refine EvR.walk rfl fn150 rfl nt150 rfl ?_
 simp only [List.length_cons,List.length_nil,List.cons_append,List.nil_append,Nat.reduceAdd,Nat.reduceSub,List.replicate]
 repeat' (first|refine go1 ?_|refine za rfl ?_|(refine go2 fun A B a b=>?_;simp only [go_sem, *];(repeat' first|apply a.1|apply b.1|refine iteI (fun h=>?_) fun h=>?_)<;>clear a b A B))
 refine zN [7,10,11,12,13,14,15,16,17,18,19,20,21,22,23,24,25,26,27,28,29,30,31,32,33,34,35,36,37,38,39,40,41,42,43,44,45,46,47,48] (fun p:Nat×Array El×Nat=>[(6,.int .i64 p.1)]) (fun p G=>A ++ .arr (rowsD p.2.1) 1 p.2.2 true::(C++G))
  (fun p=>p.2.1.size=n∧p.2.2≤n∧a<p.1∧Go.Sort.insOuter ltE a b p.1 p.2.1=Go.Sort.insertionSort ltE d a b) (fun p=>b-p.1) (a+1,d,w) ⟨hn,hw,Nat.lt_succ_self _,rfl⟩ ?_ ?_ ?_
 ·rfl
 ·exact⟨[],by rw [List.append_nil]⟩
 clear hn hw w
 rintro⟨i,d1,w⟩ g G ⟨hn,hw,hai,hE⟩
 simp only at hn hw hai hE
 simp only [zo,zq,zd,zf,List.set_cons_zero,List.set_cons_succ]
 repeat' (first|refine go1 ?_|refine za rfl ?_|(refine go2 fun A B a b=>?_;simp only [go_sem, *];(repeat' first|apply a.1|apply b.1|refine iteI (fun h=>?_) fun h=>?_)<;>clear a b A B))
 ·have hib:i<b:=by omega
  have w2:=zB (n:=i) (by omega)
  refine zN [16,17,18,19,20,21,22,23,24,25,26,27,28,29,30,31,32,33,34,35,36,37,38,39,40,41,42,43,44,45,46,47,48] (fun p:Nat×Array El×Nat=>[(7,.int .i64 p.1)]) (fun p G=>A ++ .arr (rowsD p.2.1) 1 p.2.2 true::(C++G))
   (fun p=>p.2.1.size=n∧p.2.2≤n∧p.1≤i∧Go.Sort.insInner ltE a p.1 p.2.1=Go.Sort.insInner ltE a i d1) (fun p=>p.1) (i,d1,w) ⟨hn,hw,Nat.le_refl _,rfl⟩ ?_ ?_ ?_
  ·rfl
  ·exact⟨G,rfl⟩
  rintro⟨j,d2,w'⟩ g' G' ⟨hn2,hw2,hji,hE2⟩
  simp only at hn2 hw2 hji hE2
  simp only [zo,zq,zd,zf,List.set_cons_zero,List.set_cons_succ]
  cases j with
  | zero=>
   have h0:¬(a:Int)<((0:Nat):Int):=by omega
   repeat' (first|refine go1 ?_|refine za rfl ?_|(refine go2 fun A B a b=>?_;simp only [go_sem, *];(repeat' first|apply a.1|apply b.1|refine iteI (fun h=>?_) fun h=>?_)<;>clear a b A B))
   refine zy (i+1,d2,w') (by simp only;omega) ⟨hn2,hw2,by omega,?_⟩ ?_ ⟨_,rfl⟩
   ·rw [←hE];conv=>rhs;rw [Go.Sort.insOuter,if_pos hib,←hE2]
    simp only [Go.Sort.insInner]
   ·((try simp only [zg,zi,zd,zf,List.set_cons_zero,List.set_cons_succ]);all_goals (first|rfl|(simp only [zn,zj,zc,List.length_map,List.length_append,List.length_cons,List.length_nil,Nat.zero_add];first|done|rfl)))
  | succ j=>
   have hj1:j<n:=by omega
   have hj2:j+1<n:=by omega
   have w3:IntKind.wrap .i64 (((j+1:Nat):Int)-1)=(j:Int):=by rw [zu (by omega) (by omega)];omega
   repeat' (first|refine go1 ?_|refine za rfl ?_|(refine go2 fun A B a b=>?_;simp only [go_sem, *,zb,zm,idxD,rowsD_get,rowsD_len,rowsD_put,dropD,takeD,sizeD,(lessE _ _).rw,encE];(repeat' first|apply a.1|apply b.1|refine iteI (fun h=>?_) fun h=>?_)<;>clear a b A B))
   ·have ha:a<j+1:=by omega
    refine zy (j,Go.Sort.swp d2 (j+1) j,n) (Nat.lt_succ_self _) ⟨by simp [Go.Sort.swp,hn2],Nat.le_refl _,by omega,?_⟩ ?_ ⟨_,rfl⟩
    ·rw [←hE2];conv=>rhs;rw [Go.Sort.insInner]
     rw [if_pos]
     rw [Bool.and_eq_true];exact⟨by simpa using ha,h⟩
    ·((try simp only [zg,zi,zd,zf,List.set_cons_zero,List.set_cons_succ]);all_goals (first|rfl|(simp only [zn,zj,zc,List.length_map,List.length_append,List.length_cons,List.length_nil,Nat.zero_add];first|done|rfl)))
   all_goals
    refine zy (i+1,d2,w') (by simp only;omega) ⟨hn2,hw2,by omega,?_⟩ ?_ ⟨_,rfl⟩
    ·rw [←hE];conv=>rhs;rw [Go.Sort.insOuter,if_pos hib,←hE2,Go.Sort.insInner]
     rw [if_neg]
     rw [Bool.and_eq_true,decide_eq_true_eq]
     rintro⟨k1,k2⟩
     first|contradiction|omega
    ·((try simp only [zg,zi,zd,zf,List.set_cons_zero,List.set_cons_succ]);all_goals (first|rfl|(simp only [zn,zj,zc,List.length_map,List.length_append,List.length_cons,List.length_nil,Nat.zero_add];first|done|rfl)))
 ·have e:Go.Sort.insertionSort ltE d a b=d1:=by rw [←hE,Go.Sort.insOuter,if_neg (by omega)]
  simp only [go_sem,e]
  exact⟨hn,w,G,hw,rfl⟩

theorem siftE (A C:Store) (d:Array El) (n w hi first root:Nat) (hn:d.size=n) (hw:w≤n) (hb:first+hi≤n) (hr:root≤n) (hsm:n<1152921504606846976):EvR CX 164 [.sl A.length n 0 n 1,.int .i64 root,.int .i64 hi,.int .i64 first] (A ++ .arr (rowsD d) 1 w true::C) (fun v S=>v = .tup []∧Left A C n (Go.Sort.siftDown ltE hi first root d) S):=by
 refine EvR.walk rfl fn164 rfl nt164 rfl ?_
 simp only [List.length_cons,List.length_nil,List.cons_append,List.nil_append,Nat.reduceAdd,Nat.reduceSub,List.replicate]
 repeat' (first|refine go1 ?_|refine za rfl ?_|(refine go2 fun A B a b=>?_;simp only [go_sem, *];(repeat' first|apply a.1|apply b.1|refine iteI (fun h=>?_) fun h=>?_)<;>clear a b A B))
 refine zN [9,11,12,13,14,15,16,17,18,19,20,21,22,23,24,25,26,27,28,29,30,31,32,33,34,35,36,37,38,39,40,41,42,43,44,45,46,47,48,49,50,51,52,53,54,55,56,57,58,59,60,61,62,63,64,65,66,67,68,69,70,71,72,73,74,75] (fun p:Nat×Array El×Nat=>[(8,.int .i64 p.1)]) (fun p G=>A ++ .arr (rowsD p.2.1) 1 p.2.2 true::(C++G))
  (fun p=>p.2.1.size=n∧p.2.2≤n∧p.1≤n∧Go.Sort.siftDown ltE hi first p.1 p.2.1=Go.Sort.siftDown ltE hi first root d) (fun p=>hi-p.1) (root,d,w) ⟨hn,hw,hr,rfl⟩ ?_ ?_ ?_
 ·rfl
 ·exact⟨[],by rw [List.append_nil]⟩
 clear hn hw w hr
 rintro⟨r,d1,w⟩ g G ⟨hn,hw,hr,hE⟩
 simp only at hn hw hr hE
 rw [←hE]
 simp only [zo,zq,zd,zf,List.set_cons_zero,List.set_cons_succ]
 have m1:IntKind.wrap .i64 (2*(r:Int))=((2*r:Nat):Int):=by rw [zu (by omega) (by omega)];omega
 have m2:=zB (n:=2*r) (by omega)
 have m3:=zB (n:=2*r+1) (by omega)
 have m4:IntKind.wrap .i64 ((first:Int)+((2*r+1:Nat):Int))=((first+(2*r+1):Nat):Int):=by rw [zu (by omega) (by omega)];omega
 have m5:IntKind.wrap .i64 ((first:Int)+((2*r+1+1:Nat):Int))=((first+(2*r+1+1):Nat):Int):=by rw [zu (by omega) (by omega)];omega
 have m6:IntKind.wrap .i64 ((first:Int)+(r:Int))=((first+r:Nat):Int):=by rw [zu (by omega) (by omega)];omega
 have m7:=zB (n:=first+(2*r+1)) (by omega)
 by_cases h1:hi≤2*r+1
 ·have h1':(hi:Int)≤((2*r+1:Nat):Int):=by omega
  repeat' (first|refine go1 ?_|refine za rfl ?_|(refine go2 fun A B a b=>?_;simp only [go_sem, *];(repeat' first|apply a.1|apply b.1|refine iteI (fun h=>?_) fun h=>?_)<;>clear a b A B))
  have e:Go.Sort.siftDown ltE hi first r d1=d1:=by rw [Go.Sort.siftDown,dif_pos h1]
  simp only [go_sem,e]
  exact⟨hn,w,G,hw,rfl⟩
 ·have h1':¬(hi:Int)≤((2*r+1:Nat):Int):=by omega
  have i0:first+r<n:=by omega
  have i1:first+(2*r+1)<n:=by omega
  by_cases h2:2*r+1+1<hi
  ·have h2':((2*r+1+1:Nat):Int)<(hi:Int):=by omega
   have i2:first+(2*r+1)+1<n:=by omega
   have i3:first+(2*r+1+1)<n:=by omega
   repeat' (first|refine go1 ?_|refine za rfl ?_|(refine go2 fun A B a b=>?_;simp only [go_sem, *,zb,zm,idxD,rowsD_get,rowsD_len,rowsD_put,dropD,takeD,sizeD,(lessE _ _).rw,encE];(repeat' first|apply a.1|apply b.1|refine iteI (fun h=>?_) fun h=>?_)<;>clear a b A B))
   ·rename_i k1
    have e:Go.Sort.siftDown ltE hi first r d1=d1:=by
     rw [Go.Sort.siftDown,dif_neg (by omega),if_pos (by rw [k1];simp;omega),if_pos (by rw [show 2*r+2=2*r+1+1 from rfl,h];rfl)]
    simp only [go_sem,e]
    exact⟨hn,w,G,hw,rfl⟩
   ·rename_i k1
    refine zy (2*r+1+1,Go.Sort.swp d1 (first+r) (first+(2*r+1+1)),n) (by simp only;omega) ⟨by simp [Go.Sort.swp,hn],Nat.le_refl _,by simp only;omega,?_⟩ ?_ ⟨_,rfl⟩
    ·conv=>rhs;rw [Go.Sort.siftDown,dif_neg (show ¬2*r+1≥hi by omega),if_pos (show (decide (2*r+1+1<hi) && ltE d1[first+(2*r+1)]! d1[first+(2*r+1)+1]!)=true by rw [k1];simp;omega),if_neg (show ¬(!ltE d1[first+r]! d1[first+(2*r+2)]!)=true by rw [show 2*r+2=2*r+1+1 from rfl];simpa using h),dif_pos h2]
    ·((try simp only [zg,zi,zd,zf,List.set_cons_zero,List.set_cons_succ]);all_goals (first|rfl|(simp only [zn,zj,zc,List.length_map,List.length_append,List.length_cons,List.length_nil,Nat.zero_add];first|done|rfl)))
   ·rename_i k1
    have e:Go.Sort.siftDown ltE hi first r d1=d1:=by
     rw [Go.Sort.siftDown,dif_neg (by omega),if_neg (by simp only [Bool.and_eq_true];rintro⟨_,k⟩;exact k1 k),if_pos (by rw [h];rfl)]
    simp only [go_sem,e]
    exact⟨hn,w,G,hw,rfl⟩
   ·rename_i k1
    refine zy (2*r+1,Go.Sort.swp d1 (first+r) (first+(2*r+1)),n) (by simp only;omega) ⟨by simp [Go.Sort.swp,hn],Nat.le_refl _,by simp only;omega,?_⟩ ?_ ⟨_,rfl⟩
    ·conv=>rhs;rw [Go.Sort.siftDown,dif_neg (show ¬2*r+1≥hi by omega),if_neg (show ¬(decide (2*r+1+1<hi) && ltE d1[first+(2*r+1)]! d1[first+(2*r+1)+1]!)=true by simp only [Bool.and_eq_true];rintro⟨_,k⟩;exact k1 k),if_neg (show ¬(!ltE d1[first+r]! d1[first+(2*r+1)]!)=true by simpa using h)]
    ·((try simp only [zg,zi,zd,zf,List.set_cons_zero,List.set_cons_succ]);all_goals (first|rfl|(simp only [zn,zj,zc,List.length_map,List.length_append,List.length_cons,List.length_nil,Nat.zero_add];first|done|rfl)))
  ·have h2':¬((2*r+1+1:Nat):Int)<(hi:Int):=by omega
   have h3:¬(decide (2*r+1+1<hi) && ltE d1[first+(2*r+1)]! d1[first+(2*r+1)+1]!)=true:=by simp only [Bool.and_eq_true,decide_eq_true_eq];rintro⟨k,_⟩;exact h2 k
   repeat' (first|refine go1 ?_|refine za rfl ?_|(refine go2 fun A B a b=>?_;simp only [go_sem, *,zb,zm,idxD,rowsD_get,rowsD_len,rowsD_put,dropD,takeD,sizeD,(lessE _ _).rw,encE];(repeat' first|apply a.1|apply b.1|refine iteI (fun h=>?_) fun h=>?_)<;>clear a b A B))
   ·have e:Go.Sort.siftDown ltE hi first r d1=d1:=by
     rw [Go.Sort.siftDown,dif_neg (by omega),if_neg h3,if_pos (by rw [h];rfl)]
    simp only [go_sem,e]
    exact⟨hn,w,G,hw,rfl⟩
   ·refine zy (2*r+1,Go.Sort.swp d1 (first+r) (first+(2*r+1)),n) (by simp only;omega) ⟨by simp [Go.Sort.swp,hn],Nat.le_refl _,by simp only;omega,?_⟩ ?_ ⟨_,rfl⟩
    ·conv=>rhs;rw [Go.Sort.siftDown,dif_neg (show ¬2*r+1≥hi by omega),if_neg h3,if_neg (show ¬(!ltE d1[first+r]! d1[first+(2*r+1)]!)=true by simpa using h)]
    ·((try simp only [zg,zi,zd,zf,List.set_cons_zero,List.set_cons_succ]);all_goals (first|rfl|(simp only [zn,zj,zc,List.length_map,List.length_append,List.length_cons,List.length_nil,Nat.zero_add];first|done|rfl)))

theorem EvR.left {X:Ctx}{f:FuncId}{args:List AV}{S:Store}{R R':AV→Store→Prop}(h:EvR X f args S R) (hR:∀ r S,R r S→R' r S):EvR X f args S R':=EvR.mono h hR

/- The library's sort of ints as a run: heap sort, reversing, the short insertion sort. -/
open Go.Proofs
attribute [local go_sem] br164 fz268 fz269

theorem left_shift {A C G:Store}{n:Nat}{d:Array El}{S:Store}(h:Left A (C++G) n d S):∃ w C',d.size=n∧w≤n∧S=A ++ .arr (rowsD d) 1 w true::(C++C'):=by
 obtain⟨h1,w,C',h2,h3⟩:=h
 exact⟨w,G++C',h1,h2,by rw [h3,SB,List.append_assoc]⟩

theorem heapE (A C:Store) (d:Array El) (n w a b:Nat) (hn:d.size=n) (hw:w≤n) (hab:a≤b) (hb:b≤n) (hsm:n<1152921504606846976):EvR CX 151 [.sl A.length n 0 n 1,.int .i64 a,.int .i64 b] (A ++ .arr (rowsD d) 1 w true::C) (fun v S=>v = .tup []∧Left A C n (Go.Sort.heapSort ltE d a b) S):=by
 have q1:IntKind.wrap .i64 ((b:Int)-(a:Int))=((b-a:Nat):Int):=by rw [zu (by omega) (by omega)];omega
 have q2:IntKind.wrap .i64 (((b-a:Nat):Int)-1)=((b-a:Nat):Int)-1:=zu (by omega) (by omega)
 have q3:IntKind.wrap .i64 ((((b-a:Nat):Int)-1).tdiv 2)=(((b-a-1) / 2+1:Nat):Int)-1:=by
  rcases Nat.eq_zero_or_pos (b-a) with h|h
  ·rw [h];rfl
  ·have e:((b-a:Nat):Int)-1=((b-a-1:Nat):Int):=by omega
   rw [e,Int.tdiv_eq_ediv_of_nonneg (by omega),zu (by omega) (by omega)];omega
 have q4:¬(2:Int)=0:=by omega
 refine EvR.walk rfl fn151 rfl nt151 rfl ?_
 simp only [List.length_cons,List.length_nil,List.cons_append,List.nil_append,Nat.reduceAdd,Nat.reduceSub,List.replicate]
 repeat' (first|refine go1 ?_|refine za rfl ?_|(refine go2 fun A B a b=>?_;simp only [go_sem, *];(repeat' first|apply a.1|apply b.1|refine iteI (fun h=>?_) fun h=>?_)<;>clear a b A B))
 refine zN [18,19,20,21,22,23,24,25,26] (fun p:Nat×Array El×Nat=>[(9,.int .i64 ((p.1:Int)-1))]) (fun p G=>A ++ .arr (rowsD p.2.1) 1 p.2.2 true::(C++G))
  (fun p=>p.2.1.size=n∧p.2.2≤n∧p.1≤n+1∧Go.Sort.heapBuild ltE (b-a) a p.1 p.2.1=Go.Sort.heapBuild ltE (b-a) a ((b-a-1) / 2+1) d) (fun p=>p.1) ((b-a-1) / 2+1,d,w) ⟨hn,hw,by simp only;omega,rfl⟩ ?_ ?_ ?_
 ·rfl
 ·exact⟨[],by rw [List.append_nil]⟩
 clear hw w
 rintro⟨k,d1,w⟩ g G ⟨hn1,hw,hk,hE⟩
 simp only at hn1 hw hk hE
 simp only [zo,zq,zd,zf,List.set_cons_zero,List.set_cons_succ]
 cases k with
 | succ k=>
  have e1:(((k+1:Nat):Int)-1)=(k:Int):=by omega
  have e2:(0:Int)≤(k:Int):=by omega
  have e3:IntKind.wrap .i64 ((k:Int)-1)=(k:Int)-1:=zu (by omega) (by omega)
  rw [e1]
  repeat' (first|refine go1 ?_|refine za rfl ?_|(refine go2 fun A B a b=>?_;simp only [go_sem, *];(repeat' first|apply a.1|apply b.1|refine iteI (fun h=>?_) fun h=>?_)<;>clear a b A B))
  refine zG fun K hK=>?_
  simp only [go_sem]
  refine EvR.mono (siftE A (C++G) d1 n w (b-a) a k hn1 hw (by omega) (by omega) hsm) ?_
  rintro _ S ⟨rfl,hL⟩
  obtain⟨w',C',hn2,hw2,rfl⟩:=left_shift hL
  refine hK.out _ _ ?_
  clear hK K
  repeat' (first|refine go1 ?_|refine za rfl ?_|(refine go2 fun A B a b=>?_;simp only [go_sem, *];(repeat' first|apply a.1|apply b.1|refine iteI (fun h=>?_) fun h=>?_)<;>clear a b A B))
  refine zy (k,Go.Sort.siftDown ltE (b-a) a k d1,w') (Nat.lt_succ_self _) ⟨hn2,hw2,by omega,?_⟩ ?_ ⟨_,rfl⟩
  ·rw [←hE];rfl
  ·((try simp only [zg,zi,zd,zf,List.set_cons_zero,List.set_cons_succ]);all_goals (first|rfl|(simp only [zn,zj,zc,List.length_map,List.length_append,List.length_cons,List.length_nil,Nat.zero_add];first|done|rfl)))
 | zero=>
  have e1:(((0:Nat):Int)-1) = -1:=rfl
  rw [e1]
  have hE:=hE.symm
  simp only [Go.Sort.heapBuild] at hE
  clear hk e1
  repeat' (first|refine go1 ?_|refine za rfl ?_|(refine go2 fun A B a b=>?_;simp only [go_sem, *];(repeat' first|apply a.1|apply b.1|refine iteI (fun h=>?_) fun h=>?_)<;>clear a b A B))
  refine zN [29,30,31,32,33,34,35,36,37,38,39,40,41,42,43,44,45,46,47,48,49,50,51,52,53,54,55] (fun p:Nat×Array El×Nat=>[(10,.int .i64 ((p.1:Int)-1))]) (fun p G=>A ++ .arr (rowsD p.2.1) 1 p.2.2 true::(C++G))
   (fun p=>p.2.1.size=n∧p.2.2≤n∧p.1≤b-a∧Go.Sort.heapPop ltE a p.1 p.2.1=Go.Sort.heapSort ltE d a b) (fun p=>p.1) (b-a,d1,w) ⟨hn1,hw,Nat.le_refl _,by rw [←hE];rfl⟩ ?_ ?_ ?_
  ·rfl
  ·exact⟨_,rfl⟩
  clear hw hn1 hE
  rintro⟨k,d1,w⟩ g G ⟨hn1,hw,hk,hE⟩
  simp only at hn1 hw hk hE
  simp only [zo,zq,zd,zf,List.set_cons_zero,List.set_cons_succ]
  cases k with
  | zero=>
   have e1:(((0:Nat):Int)-1) = -1:=rfl
   rw [e1]
   have hE:=hE.symm
   simp only [Go.Sort.heapPop] at hE
   repeat' (first|refine go1 ?_|refine za rfl ?_|(refine go2 fun A B a b=>?_;simp only [go_sem, *];(repeat' first|apply a.1|apply b.1|refine iteI (fun h=>?_) fun h=>?_)<;>clear a b A B))
   simp only [go_sem,hE]
   exact⟨hn1,w,G,hw,rfl⟩
  | succ k=>
   have e1:(((k+1:Nat):Int)-1)=(k:Int):=by omega
   have e2:(0:Int)≤(k:Int):=by omega
   have e3:IntKind.wrap .i64 ((k:Int)-1)=(k:Int)-1:=zu (by omega) (by omega)
   have e4:IntKind.wrap .i64 ((a:Int)+(k:Int))=((a+k:Nat):Int):=by rw [zu (by omega) (by omega)];omega
   have i1:a+k<n:=by omega
   have i2:a<n:=by omega
   rw [e1]
   repeat' (first|refine go1 ?_|refine za rfl ?_|(refine go2 fun A B a b=>?_;simp only [go_sem, *,zb,zm,idxD,rowsD_get,rowsD_len,rowsD_put,dropD,takeD,sizeD,(lessE _ _).rw,encE];(repeat' first|apply a.1|apply b.1|refine iteI (fun h=>?_) fun h=>?_)<;>clear a b A B))
   refine zG fun K hK=>?_
   simp only [go_sem]
   refine EvR.mono (siftE A (C++G) (Go.Sort.swp d1 a (a+k)) n n k a 0 (by simp [Go.Sort.swp,hn1]) (Nat.le_refl _) (by omega) (by omega) hsm) ?_
   rintro _ S ⟨rfl,hL⟩
   obtain⟨w',C',hn2,hw2,rfl⟩:=left_shift hL
   refine hK.out _ _ ?_
   clear hK K
   repeat' (first|refine go1 ?_|refine za rfl ?_|(refine go2 fun A B a b=>?_;simp only [go_sem, *];(repeat' first|apply a.1|apply b.1|refine iteI (fun h=>?_) fun h=>?_)<;>clear a b A B))
   refine zy (k,Go.Sort.siftDown ltE k a 0 (Go.Sort.swp d1 a (a+k)),w') (Nat.lt_succ_self _) ⟨hn2,hw2,by omega,?_⟩ ?_ ⟨_,rfl⟩
   ·rw [←hE];rfl
   ·((try simp only [zg,zi,zd,zf,List.set_cons_zero,List.set_cons_succ]);all_goals (first|rfl|(simp only [zn,zj,zc,List.length_map,List.length_append,List.length_cons,List.length_nil,Nat.zero_add];first|done|rfl)))

theorem revE (A C:Store) (d:Array El) (n w a b:Nat) (hn:d.size=n) (hw:w≤n) (hab:a<b) (hb:b≤n) (hsm:n<1152921504606846976):EvR CX 154 [.sl A.length n 0 n 1,.int .i64 a,.int .i64 b] (A ++ .arr (rowsD d) 1 w true::C) (fun v S=>v = .tup []∧Left A C n (Go.Sort.reverseRange d a b) S):=by
 have q1:IntKind.wrap .i64 ((b:Int)-1)=((b-1:Nat):Int):=by rw [zu (by omega) (by omega)];omega
 refine EvR.walk rfl fn154 rfl nt154 rfl ?_
 simp only [List.length_cons,List.length_nil,List.cons_append,List.nil_append,Nat.reduceAdd,Nat.reduceSub,List.replicate]
 repeat' (first|refine go1 ?_|refine za rfl ?_|(refine go2 fun A B a b=>?_;simp only [go_sem, *];(repeat' first|apply a.1|apply b.1|refine iteI (fun h=>?_) fun h=>?_)<;>clear a b A B))
 refine zN [11,12,13,14,15,16,17,18,19,20,21,22,23,24,25,26,27,28,29,30,31] (fun p:Nat×Nat×Array El×Nat=>[(6,.int .i64 p.1),(7,.int .i64 p.2.1)]) (fun p G=>A ++ .arr (rowsD p.2.2.1) 1 p.2.2.2 true::(C++G))
  (fun p=>p.2.2.1.size=n∧p.2.2.2≤n∧p.1≤n∧p.2.1<n∧Go.Sort.reverseLoop p.1 p.2.1 p.2.2.1=Go.Sort.reverseRange d a b) (fun p=>p.2.1-p.1) (a,b-1,d,w) ⟨hn,hw,by simp only;omega,by simp only;omega,rfl⟩ ?_ ?_ ?_
 ·rfl
 ·exact⟨[],by rw [List.append_nil]⟩
 clear hw w hn
 rintro⟨i,j,d1,w⟩ g G ⟨hn,hw,hi,hj,hE⟩
 simp only at hn hw hi hj hE
 simp only [zo,zq,zd,zf,List.set_cons_zero,List.set_cons_succ]
 by_cases h:i<j
 ·have h1:(i:Int)<(j:Int):=by omega
  have i1:i<n:=by omega
  have w1:=zB (n:=i) (by omega)
  have w2:IntKind.wrap .i64 ((j:Int)-1)=((j-1:Nat):Int):=by rw [zu (by omega) (by omega)];omega
  repeat' (first|refine go1 ?_|refine za rfl ?_|(refine go2 fun A B a b=>?_;simp only [go_sem, *,zb,zm,idxD,rowsD_get,rowsD_len,rowsD_put,dropD,takeD,sizeD,(lessE _ _).rw,encE];(repeat' first|apply a.1|apply b.1|refine iteI (fun h=>?_) fun h=>?_)<;>clear a b A B))
  refine zy (i+1,j-1,Go.Sort.swp d1 i j,n) (by simp only;omega) ⟨by simp [Go.Sort.swp,hn],Nat.le_refl _,by simp only;omega,by simp only;omega,?_⟩ ?_ ⟨_,rfl⟩
  ·rw [←hE];conv=>rhs;rw [Go.Sort.reverseLoop,if_pos h]
  ·((try simp only [zg,zi,zd,zf,List.set_cons_zero,List.set_cons_succ]);all_goals (first|rfl|(simp only [zn,zj,zc,List.length_map,List.length_append,List.length_cons,List.length_nil,Nat.zero_add];first|done|rfl)))
 ·have h1:¬(i:Int)<(j:Int):=by omega
  have e:Go.Sort.reverseRange d a b=d1:=by rw [←hE,Go.Sort.reverseLoop,if_neg h]
  clear hE
  repeat' (first|refine go1 ?_|refine za rfl ?_|(refine go2 fun A B a b=>?_;simp only [go_sem, *];(repeat' first|apply a.1|apply b.1|refine iteI (fun h=>?_) fun h=>?_)<;>clear a b A B))
  simp only [go_sem,e]
  exact⟨hn,w,G,hw,rfl⟩

/- The library's sort of ints as a run: the short insertion sort. -/
open Go.Proofs
attribute [local go_sem] fz252 fz253 fz254
set_option maxRecDepth 20000
set_option maxHeartbeats 4000000

theorem partE (A C:Store) (d:Array El) (n w a b:Nat) (hn:d.size=n) (hw:w≤n) (hab:a<b) (hb:b≤n) (hsm:n<1152921504606846976):EvR CX 155 [.sl A.length n 0 n 1,.int .i64 a,.int .i64 b] (A ++ .arr (rowsD d) 1 w true::C) (fun v S=>v = .bool (Go.Sort.partialInsertionSort ltE d a b).2∧Left A C n (Go.Sort.partialInsertionSort ltE d a b).1 S):=by
 have w1:=zB (n:=a) (by omega)
 have q1:IntKind.wrap .i64 ((b:Int)-(a:Int))=((b-a:Nat):Int):=by rw [zu (by omega) (by omega)];omega
 refine EvR.walk rfl fn155 rfl nt155 rfl ?_
 simp only [List.length_cons,List.length_nil,List.cons_append,List.nil_append,Nat.reduceAdd,Nat.reduceSub,List.replicate]
 repeat' (first|refine go1 ?_|refine za rfl ?_|(refine go2 fun A B a b=>?_;simp only [go_sem, *];(repeat' first|apply a.1|apply b.1|refine iteI (fun h=>?_) fun h=>?_)<;>clear a b A B))
 refine zN [6,9,10,13,14,15,16,17,18,19,20,21,22,23,24,25,26,27,28,29,30,31,32,33,34,35,36,37,38,39,40,41,42,43,44,45,46,47,48,49,50,51,52,53,54,55,56,57,58,59,60,61,62,63,64,65,66,67,68,69,70,71,72,73,74,75,76,77,78,79,80,81,82,83,84,85,86,87,88,89,90,91,92,93,94,95,96,97,98,99,100,101,102,103,104,105,106,107,108,109,110,111,112,113,114,115,116,117,118,119,120,121,122,123,124,125,126,127,128,129,130,131,132] (fun p:Nat×Nat×Array El×Nat=>[(7,.int .i64 p.2.1),(8,.int .i64 p.1)]) (fun p G=>A ++ .arr (rowsD p.2.2.1) 1 p.2.2.2 true::(C++G))
  (fun p=>p.2.2.1.size=n∧p.2.2.2≤n∧a<p.2.1∧p.2.1≤b∧p.1≤5∧Go.Sort.partialIns ltE a b (5-p.1) p.2.1 p.2.2.1=Go.Sort.partialInsertionSort ltE d a b) (fun p=>5-p.1) (0,a+1,d,w) ⟨hn,hw,by simp only;omega,by simp only;omega,by simp only;omega,rfl⟩ ?_ ?_ ?_
 ·rfl
 ·exact⟨[],by rw [List.append_nil]⟩
 clear hw w hn
 rintro⟨s,i0,d1,w⟩ g G ⟨hn,hw,hi0,hi0b,hs,hE⟩
 simp only at hn hw hi0 hi0b hs hE
 simp only [zo,zq,zd,zf,List.set_cons_zero,List.set_cons_succ]
 by_cases h5:s=5
 ·subst h5
  have hE:=hE.symm
  simp only [Nat.sub_self,Go.Sort.partialIns] at hE
  have h1:¬((5:Nat):Int)<5:=by omega
  repeat' (first|refine go1 ?_|refine za rfl ?_|(refine go2 fun A B a b=>?_;simp only [go_sem, *];(repeat' first|apply a.1|apply b.1|refine iteI (fun h=>?_) fun h=>?_)<;>clear a b A B))
  simp only [go_sem,hE]
  exact⟨hn,w,G,hw,rfl⟩
 have h1:(s:Int)<5:=by omega
 obtain⟨s',hs'⟩:∃ s',5-s=s'+1:=⟨4-s,by omega⟩
 rw [hs',Go.Sort.partialIns] at hE
 repeat' (first|refine go1 ?_|refine za rfl ?_|(refine go2 fun A B a b=>?_;simp only [go_sem, *];(repeat' first|apply a.1|apply b.1|refine iteI (fun h=>?_) fun h=>?_)<;>clear a b A B))
 refine zN [17,18,19,20,21,22,23,24,25,26,27,28,29,30,31,32,33,34] (fun p:Nat=>[(7,.int .i64 p)]) (fun p G'=>A ++ .arr (rowsD d1) 1 w true::(C++(G++G')))
  (fun p=>a<p∧p≤b∧Go.Sort.scanSorted ltE d1 b p=Go.Sort.scanSorted ltE d1 b i0) (fun p=>b-p) i0 ⟨hi0,hi0b,rfl⟩ ?_ ?_ ?_
 ·rfl
 ·exact⟨[],by rw [List.append_nil]⟩
 rintro i g' G' ⟨hi,hib,hSc⟩
 simp only [zo,zq,zd,zf,List.set_cons_zero,List.set_cons_succ]
 have w2:=zB (n:=i) (by omega)
 have w3:IntKind.wrap .i64 ((i:Int)-1)=((i-1:Nat):Int):=by rw [zu (by omega) (by omega)];omega
 have j1:i-1<n:=by omega
 by_cases hlt:i<b
 ·have hlt':(i:Int)<(b:Int):=by omega
  have j2:i<n:=by omega
  by_cases hl:ltE d1[i]! d1[i-1]! = true
  ·-- out of order: the scan ends here
   have e:Go.Sort.scanSorted ltE d1 b i0=i:=by rw [←hSc,Go.Sort.scanSorted,if_neg (by simp only [Bool.and_eq_true];rintro⟨_,k⟩;rw [hl] at k;cases k)]
   have hib':¬i=b:=by omega
   have hib2:¬(i:Int)=(b:Int):=by omega
   simp only [e,if_neg hib'] at hE
   by_cases h50:b-a<50
   ·have h50':((b-a:Nat):Int)<50:=by omega
    rw [if_pos h50] at hE
    have hE:=hE.symm
    repeat' (first|refine go1 ?_|refine za rfl ?_|(refine go2 fun A B a b=>?_;simp only [go_sem, *,zb,zm,idxD,rowsD_get,rowsD_len,rowsD_put,dropD,takeD,sizeD,(lessE _ _).rw,encE];(repeat' first|apply a.1|apply b.1|refine iteI (fun h=>?_) fun h=>?_)<;>clear a b A B))
    simp only [go_sem,hE]
    exact⟨hn,w,_,hw,rfl⟩
   ·have h50':¬((b-a:Nat):Int)<50:=by omega
    rw [if_neg h50] at hE
    obtain⟨dS,hdS⟩:∃ dS,Go.Sort.swp d1 i (i-1)=dS:=⟨_,rfl⟩
    have hnS:dS.size=n:=by rw [←hdS];simp [Go.Sort.swp,hn]
    have hdS':(d1.setIfInBounds i d1[i-1]!).setIfInBounds (i-1) d1[i]! = dS:=hdS
    rw [hdS] at hE
    have q2:IntKind.wrap .i64 ((i:Int)-(a:Int))=((i-a:Nat):Int):=by rw [zu (by omega) (by omega)];omega
    have q3:IntKind.wrap .i64 ((b:Int)-(i:Int))=((b-i:Nat):Int):=by rw [zu (by omega) (by omega)];omega
    repeat' (first|refine go1 ?_|refine za rfl ?_|(refine zt fun A B a b=>?_;simp only [go_sem, *,zb,zm,idxD,rowsD_get,rowsD_len,rowsD_put,dropD,takeD,sizeD,(lessE _ _).rw,encE];(repeat' first|apply a.1|refine iteI (fun h=>?_) fun h=>?_)<;>clear a b A B))
    (refine zY fun A B hA hB=>?_;simp only [go_sem, *];first|(refine hA.out ?_;clear hA hB A B)|(refine hB.out ?_;clear hA hB A B))
    repeat' (first|refine go1 ?_|refine za rfl ?_|(refine zt fun A B a b=>?_;simp only [go_sem, *,zb,zm,idxD,rowsD_get,rowsD_len,rowsD_put,dropD,takeD,sizeD,(lessE _ _).rw,encE];(repeat' first|apply a.1|refine iteI (fun h=>?_) fun h=>?_)<;>clear a b A B))
    (refine zY fun A B hA hB=>?_;simp only [go_sem, *];first|(refine hA.out ?_;clear hA hB A B)|(refine hB.out ?_;clear hA hB A B))
    repeat' (first|refine go1 ?_|refine za rfl ?_|(refine zt fun A B a b=>?_;simp only [go_sem, *,zb,zm,idxD,rowsD_get,rowsD_len,rowsD_put,dropD,takeD,sizeD,(lessE _ _).rw,encE];(repeat' first|apply a.1|refine iteI (fun h=>?_) fun h=>?_)<;>clear a b A B))
    (refine zY fun A B hA hB=>?_;simp only [go_sem, *];first|(refine hA.out ?_;clear hA hB A B)|(refine hB.out ?_;clear hA hB A B))
    repeat' (first|refine go1 ?_|refine za rfl ?_|(refine zt fun A B a b=>?_;simp only [go_sem, *,zb,zm,idxD,rowsD_get,rowsD_len,rowsD_put,dropD,takeD,sizeD,(lessE _ _).rw,encE];(repeat' first|apply a.1|refine iteI (fun h=>?_) fun h=>?_)<;>clear a b A B))
    refine zcI [9,58,59,60,61,62,63,64,65,66,67,68,69,70,71,72,73,74,75,76,77,78,79,80,81,82,83,84,85,86,87,88,89,90,91,92,93,94] (fun _:Array El×Nat=>[]) (fun p H=>A ++ .arr (rowsD p.1) 1 p.2 true::(C++H))
     (fun p=>p.1.size=n∧p.2≤n∧(if i-a≥2 then Go.Sort.shiftDown ltE (i-1) dS else dS)=p.1) ?_ ?_
    ·by_cases h2:i-a≥2
     ·have h2':(2:Int)≤((i-a:Nat):Int):=by omega
      repeat' (first|refine go1 ?_|refine za rfl ?_|(refine go2 fun A B a b=>?_;simp only [go_sem, *];(repeat' first|apply a.1|apply b.1|refine iteI (fun h=>?_) fun h=>?_)<;>clear a b A B))
      refine zN [64,65,66,67,68,69,70,71,72,73,74,75,76,77,78,79,80,81,82,83,84,85,86,87,88,89,90,91,92,93,94] (fun p:Nat×Array El×Nat=>[(9,.int .i64 p.1)]) (fun p H=>A ++ .arr (rowsD p.2.1) 1 p.2.2 true::(C++H))
       (fun p=>p.2.1.size=n∧p.2.2≤n∧p.1<n∧Go.Sort.shiftDown ltE p.1 p.2.1=Go.Sort.shiftDown ltE (i-1) dS) (fun p=>p.1) (i-1,dS,n) ⟨hnS,Nat.le_refl _,j1,rfl⟩ ?_ ?_ ?_
      ·rfl
      ·exact⟨_,rfl⟩
      rintro⟨j,d3,w3'⟩ g3 G3 ⟨hn3,hw3,hj3,hE3⟩
      simp only at hn3 hw3 hj3 hE3
      simp only [zo,zq,zd,zf,List.set_cons_zero,List.set_cons_succ]
      cases j with
      | zero=>
       have z:¬(1:Int)≤((0:Nat):Int):=by omega
       repeat' (first|refine go1 ?_|refine za rfl ?_|(refine go2 fun A B a b=>?_;simp only [go_sem, *];(repeat' first|apply a.1|apply b.1|refine iteI (fun h=>?_) fun h=>?_)<;>clear a b A B))
       refine zM (d3,w3') ⟨hn3,hw3,by rw [if_pos h2,←hE3];rfl⟩ ?_ ⟨_,rfl⟩
       ((try simp only [zg,zi,zd,zf,List.set_cons_zero,List.set_cons_succ]);all_goals (first|rfl|(simp only [zn,zj,zc,List.length_map,List.length_append,List.length_cons,List.length_nil,Nat.zero_add];first|done|rfl)))
      | succ j=>
       have z:(1:Int)≤((j+1:Nat):Int):=by omega
       have z2:IntKind.wrap .i64 (((j+1:Nat):Int)-1)=(j:Int):=by rw [zu (by omega) (by omega)];omega
       have z3:j<n:=by omega
       by_cases hl3:ltE d3[j+1]! d3[j]! = true
       ·repeat' (first|refine go1 ?_|refine za rfl ?_|(refine go2 fun A B a b=>?_;simp only [go_sem, *,zb,zm,idxD,rowsD_get,rowsD_len,rowsD_put,dropD,takeD,sizeD,(lessE _ _).rw,encE];(repeat' first|apply a.1|apply b.1|refine iteI (fun h=>?_) fun h=>?_)<;>clear a b A B))
        refine zy (j,Go.Sort.swp d3 (j+1) j,n) (Nat.lt_succ_self _) ⟨by simp [Go.Sort.swp,hn3],Nat.le_refl _,z3,?_⟩ ?_ ⟨_,rfl⟩
        ·rw [←hE3];conv=>rhs;rw [Go.Sort.shiftDown,if_neg (by rw [hl3];simp)]
        ·((try simp only [zg,zi,zd,zf,List.set_cons_zero,List.set_cons_succ]);all_goals (first|rfl|(simp only [zn,zj,zc,List.length_map,List.length_append,List.length_cons,List.length_nil,Nat.zero_add];first|done|rfl)))
       ·have hl3':ltE d3[j+1]! d3[j]! = false:=by simpa using hl3
        repeat' (first|refine go1 ?_|refine za rfl ?_|(refine go2 fun A B a b=>?_;simp only [go_sem, *,zb,zm,idxD,rowsD_get,rowsD_len,rowsD_put,dropD,takeD,sizeD,(lessE _ _).rw,encE,hl3'];(repeat' first|apply a.1|apply b.1|refine iteI (fun h=>?_) fun h=>?_)<;>clear a b A B))
        refine zM (d3,w3') ⟨hn3,hw3,by rw [if_pos h2,←hE3,Go.Sort.shiftDown,if_pos (by rw [hl3'];rfl)]⟩ ?_ ⟨_,rfl⟩
        ((try simp only [zg,zi,zd,zf,List.set_cons_zero,List.set_cons_succ]);all_goals (first|rfl|(simp only [zn,zj,zc,List.length_map,List.length_append,List.length_cons,List.length_nil,Nat.zero_add];first|done|rfl)))
     ·have h2':¬(2:Int)≤((i-a:Nat):Int):=by omega
      repeat' (first|refine go1 ?_|refine za rfl ?_|(refine go2 fun A B a b=>?_;simp only [go_sem, *];(repeat' first|apply a.1|apply b.1|refine iteI (fun h=>?_) fun h=>?_)<;>clear a b A B))
      refine zM (dS,n) ⟨hnS,Nat.le_refl _,by rw [if_neg h2]⟩ ?_ ⟨_,rfl⟩
      ((try simp only [zg,zi,zd,zf,List.set_cons_zero,List.set_cons_succ]);all_goals (first|rfl|(simp only [zn,zj,zc,List.length_map,List.length_append,List.length_cons,List.length_nil,Nat.zero_add];first|done|rfl)))
    ·rintro⟨d3,w3'⟩ g3 G3 ⟨hn3,hw3,hE3⟩
     simp only at hn3 hw3 hE3
     rw [hE3] at hE
     clear hE3 hdS' hdS hnS
     simp only [zo,zq,zd,zf,List.set_cons_zero,List.set_cons_succ]
     repeat' (first|refine go1 ?_|refine za rfl ?_|(refine zt fun A B a b=>?_;simp only [go_sem, *];(repeat' first|apply a.1|refine iteI (fun h=>?_) fun h=>?_)<;>clear a b A B))
     refine wpC_cutQ [10,95,96,97,98,99,100,101,102,103,104,105,106,107,108,109,110,111,112,113,114,115,116,117,118,119,120,121,122,123,124,125,126,127,128,129,130,131,132] (fun _:Array El×Nat=>[]) (fun p H=>A ++ .arr (rowsD p.1) 1 p.2 true::(C++H))
      (fun p=>p.1.size=n∧p.2≤n∧(if b-i≥2 then Go.Sort.shiftUp ltE b (i+1) d3 else d3)=p.1) ?_ ?_
     ·by_cases h2:b-i≥2
      ·have h2':(2:Int)≤((b-i:Nat):Int):=by omega
       repeat' (first|refine go1 ?_|refine za rfl ?_|(refine go2 fun A B a b=>?_;simp only [go_sem, *];(repeat' first|apply a.1|apply b.1|refine iteI (fun h=>?_) fun h=>?_)<;>clear a b A B))
       refine zN [101,102,103,104,105,106,107,108,109,110,111,112,113,114,115,116,117,118,119,120,121,122,123,124,125,126,127,128,129,130,131,132] (fun p:Nat×Array El×Nat=>[(10,.int .i64 p.1)]) (fun p H=>A ++ .arr (rowsD p.2.1) 1 p.2.2 true::(C++H))
        (fun p=>p.2.1.size=n∧p.2.2≤n∧1≤p.1∧p.1≤n∧Go.Sort.shiftUp ltE b p.1 p.2.1=Go.Sort.shiftUp ltE b (i+1) d3) (fun p=>b-p.1) (i+1,d3,w3') ⟨hn3,hw3,by simp only;omega,by simp only;omega,rfl⟩ ?_ ?_ ?_
       ·rfl
       ·exact⟨_,rfl⟩
       clear hn3 hw3
       rintro⟨j,d4,w4⟩ g4 G4 ⟨hn4,hw4,hj4,hj5,hE4⟩
       simp only at hn4 hw4 hj4 hj5 hE4
       simp only [zo,zq,zd,zf,List.set_cons_zero,List.set_cons_succ]
       by_cases hjb:j<b
       ·have z:(j:Int)<(b:Int):=by omega
        have z2:IntKind.wrap .i64 ((j:Int)-1)=((j-1:Nat):Int):=by rw [zu (by omega) (by omega)];omega
        have z3:j<n:=by omega
        have z4:j-1<n:=by omega
        have z5:=zB (n:=j) (by omega)
        by_cases hl3:ltE d4[j]! d4[j-1]! = true
        ·repeat' (first|refine go1 ?_|refine za rfl ?_|(refine go2 fun A B a b=>?_;simp only [go_sem, *,zb,zm,idxD,rowsD_get,rowsD_len,rowsD_put,dropD,takeD,sizeD,(lessE _ _).rw,encE];(repeat' first|apply a.1|apply b.1|refine iteI (fun h=>?_) fun h=>?_)<;>clear a b A B))
         refine zy (j+1,Go.Sort.swp d4 j (j-1),n) (by simp only;omega) ⟨by simp [Go.Sort.swp,hn4],Nat.le_refl _,by simp only;omega,by simp only;omega,?_⟩ ?_ ⟨_,rfl⟩
         ·rw [←hE4];conv=>rhs;rw [Go.Sort.shiftUp,if_pos hjb,if_neg (by rw [hl3];simp)]
         ·((try simp only [zg,zi,zd,zf,List.set_cons_zero,List.set_cons_succ]);all_goals (first|rfl|(simp only [zn,zj,zc,List.length_map,List.length_append,List.length_cons,List.length_nil,Nat.zero_add];first|done|rfl)))
        ·have hl3':ltE d4[j]! d4[j-1]! = false:=by simpa using hl3
         repeat' (first|refine go1 ?_|refine za rfl ?_|(refine go2 fun A B a b=>?_;simp only [go_sem, *,zb,zm,idxD,rowsD_get,rowsD_len,rowsD_put,dropD,takeD,sizeD,(lessE _ _).rw,encE,hl3'];(repeat' first|apply a.1|apply b.1|refine iteI (fun h=>?_) fun h=>?_)<;>clear a b A B))
         refine zM (d4,w4) ⟨hn4,hw4,by rw [if_pos h2,←hE4,Go.Sort.shiftUp,if_pos hjb,if_pos (by rw [hl3'];rfl)]⟩ ?_ ⟨_,rfl⟩
         ((try simp only [zg,zi,zd,zf,List.set_cons_zero,List.set_cons_succ]);all_goals (first|rfl|(simp only [zn,zj,zc,List.length_map,List.length_append,List.length_cons,List.length_nil,Nat.zero_add];first|done|rfl)))
       ·have z:¬(j:Int)<(b:Int):=by omega
        repeat' (first|refine go1 ?_|refine za rfl ?_|(refine go2 fun A B a b=>?_;simp only [go_sem, *];(repeat' first|apply a.1|apply b.1|refine iteI (fun h=>?_) fun h=>?_)<;>clear a b A B))
        refine zM (d4,w4) ⟨hn4,hw4,by rw [if_pos h2,←hE4,Go.Sort.shiftUp,if_neg hjb]⟩ ?_ ⟨_,rfl⟩
        ((try simp only [zg,zi,zd,zf,List.set_cons_zero,List.set_cons_succ]);all_goals (first|rfl|(simp only [zn,zj,zc,List.length_map,List.length_append,List.length_cons,List.length_nil,Nat.zero_add];first|done|rfl)))
      ·have h2':¬(2:Int)≤((b-i:Nat):Int):=by omega
       repeat' (first|refine go1 ?_|refine za rfl ?_|(refine go2 fun A B a b=>?_;simp only [go_sem, *];(repeat' first|apply a.1|apply b.1|refine iteI (fun h=>?_) fun h=>?_)<;>clear a b A B))
       refine zM (d3,w3') ⟨hn3,hw3,by rw [if_neg h2]⟩ ?_ ⟨_,rfl⟩
       ((try simp only [zg,zi,zd,zf,List.set_cons_zero,List.set_cons_succ]);all_goals (first|rfl|(simp only [zn,zj,zc,List.length_map,List.length_append,List.length_cons,List.length_nil,Nat.zero_add];first|done|rfl)))
     ·clear hn3 hw3
      rintro⟨d4,w4⟩ g4 G4 ⟨hn4,hw4,hE4⟩
      simp only at hn4 hw4 hE4
      rw [hE4] at hE
      clear hE4
      have z:=zB (n:=s) (by omega)
      simp only [zo,zq,zd,zf,List.set_cons_zero,List.set_cons_succ]
      repeat' (first|refine go1 ?_|refine za rfl ?_|(refine go2 fun A B a b=>?_;simp only [go_sem, *];(repeat' first|apply a.1|apply b.1|refine iteI (fun h=>?_) fun h=>?_)<;>clear a b A B))
      refine zy (s+1,i,d4,w4) (by simp only;omega) ⟨hn4,hw4,hi,hib,by simp only;omega,?_⟩ ?_ ⟨_,rfl⟩
      ·rw [←hE,show 5-(s+1)=s' by omega]
      ·((try simp only [zg,zi,zd,zf,List.set_cons_zero,List.set_cons_succ]);all_goals (first|rfl|(simp only [zn,zj,zc,List.length_map,List.length_append,List.length_cons,List.length_nil,Nat.zero_add];first|done|rfl)))
  ·have hl':ltE d1[i]! d1[i-1]! = false:=by simpa using hl
   repeat' (first|refine go1 ?_|refine za rfl ?_|(refine go2 fun A B a b=>?_;simp only [go_sem, *,zb,zm,idxD,rowsD_get,rowsD_len,rowsD_put,dropD,takeD,sizeD,(lessE _ _).rw,encE,hl'];(repeat' first|apply a.1|apply b.1|refine iteI (fun h=>?_) fun h=>?_)<;>clear a b A B))
   refine zy (i+1) (by first|omega|(simp only;omega)) ⟨by omega,by omega,?_⟩ ?_ ⟨_,rfl⟩
   ·rw [←hSc];conv=>rhs;rw [Go.Sort.scanSorted,if_pos (by simp [hlt,hl'])]
   ·((try simp only [zg,zi,zd,zf,List.set_cons_zero,List.set_cons_succ]);all_goals (first|rfl|(simp only [zn,zj,zc,List.length_map,List.length_append,List.length_cons,List.length_nil,Nat.zero_add];first|done|rfl)))
 ·have hlt':¬(i:Int)<(b:Int):=by omega
  have hib:i=b:=by omega
  subst hib
  have e:Go.Sort.scanSorted ltE d1 i i0=i:=by rw [←hSc,Go.Sort.scanSorted,if_neg (by simp)]
  have hE:Go.Sort.partialInsertionSort ltE d a i=(d1,true):=by rw [←hE];simp [e]
  repeat' (first|refine go1 ?_|refine za rfl ?_|(refine go2 fun A B a b=>?_;simp only [go_sem, *];(repeat' first|apply a.1|apply b.1|refine iteI (fun h=>?_) fun h=>?_)<;>clear a b A B))
  simp only [go_sem,hE]
  exact⟨hn,w,_,hw,rfl⟩

/- The library's sort of ints as a run: the two partitions. -/
open Go.Proofs
attribute [local go_sem] fz246 fz247 fz248 fz249 fz250 fz251
set_option maxRecDepth 20000
set_option maxHeartbeats 8000000

theorem up_le (p:El→Bool) (d:Array El) (j i:Nat):i≤Go.Sort.scanUp p d j i:=by
 fun_induction Go.Sort.scanUp p d j i with
 | case1 i h1 ih=>omega
 | case2 i h1=>omega
theorem up_ge (p:El→Bool) (d:Array El) (j i m:Nat) (h:i≤m) (h':j+1≤m):Go.Sort.scanUp p d j i≤m:=by
 fun_induction Go.Sort.scanUp p d j i with
 | case1 i h1 ih=>simp at h1;exact ih (by omega)
 | case2 i h1=>exact h
theorem down_le (p:El→Bool) (d:Array El) (i:Nat):∀ j,Go.Sort.scanDown p d i j≤j
 | 0=>Nat.le_refl _
 | j+1=>by
  rw [Go.Sort.scanDown]
  split
  ·exact Nat.le_succ_of_le (down_le p d i j)
  ·exact Nat.le_refl _
theorem down_ge (p:El→Bool) (d:Array El) (i:Nat):∀ j,i-1≤j→i-1≤Go.Sort.scanDown p d i j
 | 0,h=>by rw [Go.Sort.scanDown];exact h
 | j+1,h=>by
  rw [Go.Sort.scanDown]
  split
  ·rename_i hc;simp at hc;exact down_ge p d i j (by omega)
  ·exact h

theorem partitE (A C:Store) (d:Array El) (n w a b pv:Nat) (hn:d.size=n) (hw:w≤n) (hap:a≤pv) (hpb:pv<b) (hb:b≤n) (hsm:n<1152921504606846976):EvR CX 158 [.sl A.length n 0 n 1,.int .i64 a,.int .i64 b,.int .i64 pv] (A ++ .arr (rowsD d) 1 w true::C) (fun v S=>v = .tup [.int .i64 ((Go.Sort.partition ltE d a b pv).1:Nat),.bool (Go.Sort.partition ltE d a b pv).2.1]∧Left A C n (Go.Sort.partition ltE d a b pv).2.2 S):=by
 have w1:=zB (n:=a) (by omega)
 have q1:IntKind.wrap .i64 ((b:Int)-1)=((b-1:Nat):Int):=by rw [zu (by omega) (by omega)];omega
 have j1:a<n:=by omega
 have j2:pv<n:=by omega
 obtain⟨dS,hdS⟩:∃ dS,Go.Sort.swp d a pv=dS:=⟨_,rfl⟩
 have hdS':(d.setIfInBounds a d[pv]!).setIfInBounds pv d[a]! = dS:=hdS
 have hnS:dS.size=n:=by rw [←hdS];simp [Go.Sort.swp,hn]
 obtain⟨R,hR⟩:∃ R,Go.Sort.partition ltE d a b pv=R:=⟨_,rfl⟩
 rw [hR]
 unfold Go.Sort.partition at hR
 simp only [hdS] at hR
 refine EvR.walk rfl fn158 rfl nt158 rfl ?_
 simp only [List.length_cons,List.length_nil,List.cons_append,List.nil_append,Nat.reduceAdd,Nat.reduceSub,List.replicate]
 repeat' (first|refine go1 ?_|refine za rfl ?_|(refine go2 fun A B a b=>?_;simp only [go_sem, *,zb,zm,idxD,rowsD_get,rowsD_len,rowsD_put,dropD,takeD,sizeD,(lessE _ _).rw,encE];(repeat' first|apply a.1|apply b.1|refine iteI (fun h=>?_) fun h=>?_)<;>clear a b A B))
 clear hdS hdS' hn
 refine zcn [30,31,32,33,34,35,36,37,38,39,40,41,42,43,44,45] (fun p:Nat=>[(10,.int .i64 p)]) (fun _ H=>A ++ .arr (rowsD dS) 1 n true::(C++H)) (fun p=>Go.Sort.scanUp (fun x=>ltE x dS[a]!) dS (b-1) (a+1)=p) ?_ ?_
 ·refine zN [30,31,32,33,34,35,36,37,38,39,40,41,42,43,44,45] (fun p:Nat=>[(10,.int .i64 p)]) (fun _ H=>A ++ .arr (rowsD dS) 1 n true::(C++H)) (fun p=>p≤n∧Go.Sort.scanUp (fun x=>ltE x dS[a]!) dS (b-1) p=Go.Sort.scanUp (fun x=>ltE x dS[a]!) dS (b-1) (a+1)) (fun p=>n-p) (a+1) ⟨by omega,rfl⟩ ?_ ?_ ?_
  ·rfl
  ·first|exact⟨_,rfl⟩|exact⟨[],by rw [List.append_nil]⟩
  rintro i g G ⟨hi,hS⟩
  simp only [zo,zq,zd,zf,List.set_cons_zero,List.set_cons_succ]
  have w2:=zB (n:=i) (by omega)
  by_cases h1:i≤b-1
  ·have h1':(i:Int)≤((b-1:Nat):Int):=by omega
   have j3:i<n:=by omega
   by_cases h2:ltE dS[i]! dS[a]! = true
   ·repeat' (first|refine go1 ?_|refine za rfl ?_|(refine go2 fun A B a b=>?_;simp only [go_sem, *,zb,zm,idxD,rowsD_get,rowsD_len,rowsD_put,dropD,takeD,sizeD,(lessE _ _).rw,encE];(repeat' first|apply a.1|apply b.1|refine iteI (fun h=>?_) fun h=>?_)<;>clear a b A B))
    refine zy (i+1) (by first|omega|(simp only;omega)) ⟨by omega,?_⟩ ?_ ⟨_,rfl⟩
    ·rw [←hS];conv=>rhs;rw [Go.Sort.scanUp,if_pos (by simp only [Bool.and_eq_true,decide_eq_true_eq];exact⟨h1,by rw [h2]<;>rfl⟩)]
    ·((try simp only [zg,zi,zd,zf,List.set_cons_zero,List.set_cons_succ]);all_goals (first|rfl|(simp only [zn,zj,zc,List.length_map,List.length_append,List.length_cons,List.length_nil,Nat.zero_add];first|done|rfl)))
   ·have h2':ltE dS[i]! dS[a]! = false:=by simpa using h2
    repeat' (first|refine go1 ?_|refine za rfl ?_|(refine go2 fun A B a b=>?_;simp only [go_sem, *,zb,zm,idxD,rowsD_get,rowsD_len,rowsD_put,dropD,takeD,sizeD,(lessE _ _).rw,encE,h2'];(repeat' first|apply a.1|apply b.1|refine iteI (fun h=>?_) fun h=>?_)<;>clear a b A B))
    refine zM i (by rw [←hS,Go.Sort.scanUp,if_neg (by simp only [Bool.and_eq_true];rintro⟨_,k⟩;rw [h2'] at k;cases k)]) ?_ ⟨_,rfl⟩
    ((try simp only [zg,zi,zd,zf,List.set_cons_zero,List.set_cons_succ]);all_goals (first|rfl|(simp only [zn,zj,zc,List.length_map,List.length_append,List.length_cons,List.length_nil,Nat.zero_add];first|done|rfl)))
  ·have h1':¬(i:Int)≤((b-1:Nat):Int):=by omega
   repeat' (first|refine go1 ?_|refine za rfl ?_|(refine go2 fun A B a b=>?_;simp only [go_sem, *,zb,zm,idxD,rowsD_get,rowsD_len,rowsD_put,dropD,takeD,sizeD,(lessE _ _).rw,encE];(repeat' first|apply a.1|apply b.1|refine iteI (fun h=>?_) fun h=>?_)<;>clear a b A B))
   refine zM i (by rw [←hS,Go.Sort.scanUp,if_neg (by simp only [Bool.and_eq_true,decide_eq_true_eq];rintro⟨k,_⟩;exact h1 k)]) ?_ ⟨_,rfl⟩
   ((try simp only [zg,zi,zd,zf,List.set_cons_zero,List.set_cons_succ]);all_goals (first|rfl|(simp only [zn,zj,zc,List.length_map,List.length_append,List.length_cons,List.length_nil,Nat.zero_add];first|done|rfl)))
 intro i g G hi
 have hi1:=up_le (fun x=>ltE x dS[a]!) dS (b-1) (a+1)
 have hi2:=up_ge (fun x=>ltE x dS[a]!) dS (b-1) (a+1) b (by omega) (by omega)
 rw [hi] at hR hi1 hi2
 clear hi
 simp only [zo,zq,zd,zf,List.set_cons_zero,List.set_cons_succ]
 repeat' (first|refine go1 ?_|refine za rfl ?_|(refine zt fun A B a b=>?_;simp only [go_sem, *];(repeat' first|apply a.1|refine iteI (fun h=>?_) fun h=>?_)<;>clear a b A B))
 refine zcn [46,47,48,49,50,51,52,53,54,55,56,57,58,59,60,61,62] (fun p:Nat=>[(11,.int .i64 p)]) (fun _ H=>A ++ .arr (rowsD dS) 1 n true::(C++H)) (fun p=>Go.Sort.scanDown (fun x=> !ltE x dS[a]!) dS (i) (b-1)=p) ?_ ?_
 ·refine zN [46,47,48,49,50,51,52,53,54,55,56,57,58,59,60,61,62] (fun p:Nat=>[(11,.int .i64 p)]) (fun _ H=>A ++ .arr (rowsD dS) 1 n true::(C++H)) (fun p=>p<n∧Go.Sort.scanDown (fun x=> !ltE x dS[a]!) dS (i) p=Go.Sort.scanDown (fun x=> !ltE x dS[a]!) dS (i) (b-1)) (fun p=>p) (b-1) ⟨by omega,rfl⟩ ?_ ?_ ?_
  ·rfl
  ·exact⟨_,rfl⟩
  rintro j g G ⟨hj,hS⟩
  simp only [zo,zq,zd,zf,List.set_cons_zero,List.set_cons_succ]
  cases j with
  | zero=>
   have h1':¬(i:Int)≤((0:Nat):Int):=by omega
   repeat' (first|refine go1 ?_|refine za rfl ?_|(refine go2 fun A B a b=>?_;simp only [go_sem, *,zb,zm,idxD,rowsD_get,rowsD_len,rowsD_put,dropD,takeD,sizeD,(lessE _ _).rw,encE];(repeat' first|apply a.1|apply b.1|refine iteI (fun h=>?_) fun h=>?_)<;>clear a b A B))
   refine zM 0 (by rw [←hS,Go.Sort.scanDown]) ?_ ⟨_,rfl⟩
   ((try simp only [zg,zi,zd,zf,List.set_cons_zero,List.set_cons_succ]);all_goals (first|rfl|(simp only [zn,zj,zc,List.length_map,List.length_append,List.length_cons,List.length_nil,Nat.zero_add];first|done|rfl)))
  | succ j=>
   have w2:IntKind.wrap .i64 (((j+1:Nat):Int)-1)=(j:Int):=by rw [zu (by omega) (by omega)];omega
   by_cases h1:i≤j+1
   ·have h1':(i:Int)≤((j+1:Nat):Int):=by omega
    by_cases h2:ltE dS[j+1]! dS[a]! = false
    ·repeat' (first|refine go1 ?_|refine za rfl ?_|(refine go2 fun A B a b=>?_;simp only [go_sem, *,zb,zm,idxD,rowsD_get,rowsD_len,rowsD_put,dropD,takeD,sizeD,(lessE _ _).rw,encE];(repeat' first|apply a.1|apply b.1|refine iteI (fun h=>?_) fun h=>?_)<;>clear a b A B))
     refine zy j (by first|omega|(simp only;omega)) ⟨by omega,?_⟩ ?_ ⟨_,rfl⟩
     ·rw [←hS];conv=>rhs;rw [Go.Sort.scanDown,if_pos (by simp only [Bool.and_eq_true,decide_eq_true_eq];exact⟨h1,by rw [h2]<;>rfl⟩)]
     ·((try simp only [zg,zi,zd,zf,List.set_cons_zero,List.set_cons_succ]);all_goals (first|rfl|(simp only [zn,zj,zc,List.length_map,List.length_append,List.length_cons,List.length_nil,Nat.zero_add];first|done|rfl)))
    ·have h2':ltE dS[j+1]! dS[a]! = true:=by simpa using h2
     repeat' (first|refine go1 ?_|refine za rfl ?_|(refine go2 fun A B a b=>?_;simp only [go_sem, *,zb,zm,idxD,rowsD_get,rowsD_len,rowsD_put,dropD,takeD,sizeD,(lessE _ _).rw,encE,h2'];(repeat' first|apply a.1|apply b.1|refine iteI (fun h=>?_) fun h=>?_)<;>clear a b A B))
     refine zM (j+1) (by rw [←hS,Go.Sort.scanDown,if_neg (by simp only [Bool.and_eq_true];rintro⟨_,k⟩;rw [h2'] at k;cases k)]) ?_ ⟨_,rfl⟩
     ((try simp only [zg,zi,zd,zf,List.set_cons_zero,List.set_cons_succ]);all_goals (first|rfl|(simp only [zn,zj,zc,List.length_map,List.length_append,List.length_cons,List.length_nil,Nat.zero_add];first|done|rfl)))
   ·have h1':¬(i:Int)≤((j+1:Nat):Int):=by omega
    repeat' (first|refine go1 ?_|refine za rfl ?_|(refine go2 fun A B a b=>?_;simp only [go_sem, *,zb,zm,idxD,rowsD_get,rowsD_len,rowsD_put,dropD,takeD,sizeD,(lessE _ _).rw,encE];(repeat' first|apply a.1|apply b.1|refine iteI (fun h=>?_) fun h=>?_)<;>clear a b A B))
    refine zM (j+1) (by rw [←hS,Go.Sort.scanDown,if_neg (by simp only [Bool.and_eq_true,decide_eq_true_eq];rintro⟨k,_⟩;exact h1 k)]) ?_ ⟨_,rfl⟩
    ((try simp only [zg,zi,zd,zf,List.set_cons_zero,List.set_cons_succ]);all_goals (first|rfl|(simp only [zn,zj,zc,List.length_map,List.length_append,List.length_cons,List.length_nil,Nat.zero_add];first|done|rfl)))
 intro j g G hj
 have hj1:=down_le (fun x=> !ltE x dS[a]!) dS i (b-1)
 have hj2:=down_ge (fun x=> !ltE x dS[a]!) dS i (b-1) (by omega)
 rw [hj] at hR hj1 hj2
 clear hj
 simp only [zo,zq,zd,zf,List.set_cons_zero,List.set_cons_succ]
 have j3:j<n:=by omega
 by_cases hij:i > j
 ·have hij':(j:Int)<(i:Int):=by omega
  rw [if_pos hij] at hR
  subst hR
  repeat' (first|refine go1 ?_|refine za rfl ?_|(refine go2 fun A B a b=>?_;simp only [go_sem, *,zb,zm,idxD,rowsD_get,rowsD_len,rowsD_put,dropD,takeD,sizeD,(lessE _ _).rw,encE];(repeat' first|apply a.1|apply b.1|refine iteI (fun h=>?_) fun h=>?_)<;>clear a b A B))
  simp only [go_sem]
  exact⟨by simp [Go.Sort.swp,hnS],n,G,Nat.le_refl _,rfl⟩
 have hij':¬(j:Int)<(i:Int):=by omega
 have i3:i<n:=by omega
 rw [if_neg hij] at hR
 have w2:=zB (n:=i) (by omega)
 have w3:IntKind.wrap .i64 ((j:Int)-1)=((j-1:Nat):Int):=by rw [zu (by omega) (by omega)];omega
 obtain⟨dT,hdT⟩:∃ dT,Go.Sort.swp dS i j=dT:=⟨_,rfl⟩
 have hdT':(dS.setIfInBounds i dS[j]!).setIfInBounds j dS[i]! = dT:=hdT
 have hnT:dT.size=n:=by rw [←hdT];simp [Go.Sort.swp,hnS]
 rw [hdT] at hR
 obtain⟨L,hL⟩:∃ L,Go.Sort.partLoop ltE a (i+1) (j-1) dT=L:=⟨_,rfl⟩
 simp only [hL] at hR
 repeat' (first|refine go1 ?_|refine za rfl ?_|(refine go2 fun A B a b=>?_;simp only [go_sem, *,zb,zm,idxD,rowsD_get,rowsD_len,rowsD_put,dropD,takeD,sizeD,(lessE _ _).rw,encE];(repeat' first|apply a.1|apply b.1|refine iteI (fun h=>?_) fun h=>?_)<;>clear a b A B))
 refine zN [99,100,101,102,103,104,105,106,107,108,109,110,111,112,113,114,115,116,117,118,119,120,121,122,123,124,125,126,127,128,129,130,131,132,133,134,135,136,137,138,139,140,141,142,143,144,145,146,147,148,149,150,151,152] (fun p:Nat×Nat×Array El×Nat=>[(10,.int .i64 p.1),(11,.int .i64 p.2.1)]) (fun p H=>A ++ .arr (rowsD p.2.2.1) 1 p.2.2.2 true::(C++H))
  (fun p=>p.2.2.1.size=n∧p.2.2.2≤n∧a<p.1∧p.1≤n∧p.2.1<n∧Go.Sort.partLoop ltE a p.1 p.2.1 p.2.2.1=L) (fun p=>p.2.1+1-p.1) (i+1,j-1,dT,n) ⟨hnT,Nat.le_refl _,by simp only;omega,by simp only;omega,by simp only;omega,hL⟩ ?_ ?_ ?_
 ·rfl
 ·exact⟨_,rfl⟩
 clear hL hdT hdT' hnT hnS w2 w3 hij' i3 hij j3 hj1 hj2 hi1 hi2
 rintro⟨i0,j0,dL,wL⟩ g G ⟨hnL,hwL,hi0,hi0n,hj0,hL⟩
 simp only at hnL hwL hi0 hi0n hj0 hL
 rw [Go.Sort.partLoop] at hL
 simp only [zo,zq,zd,zf,List.set_cons_zero,List.set_cons_succ]
 repeat' (first|refine go1 ?_|refine za rfl ?_|(refine zt fun A B a b=>?_;simp only [go_sem, *];(repeat' first|apply a.1|refine iteI (fun h=>?_) fun h=>?_)<;>clear a b A B))
 refine zcn [99,100,101,102,103,104,105,106,107,108,109,110,111,112,113,114] (fun p:Nat=>[(10,.int .i64 p)]) (fun _ H=>A ++ .arr (rowsD dL) 1 wL true::(C++H)) (fun p=>Go.Sort.scanUp (fun x=>ltE x dL[a]!) dL (j0) (i0)=p) ?_ ?_
 ·refine zN [99,100,101,102,103,104,105,106,107,108,109,110,111,112,113,114] (fun p:Nat=>[(10,.int .i64 p)]) (fun _ H=>A ++ .arr (rowsD dL) 1 wL true::(C++H)) (fun p=>p≤n∧Go.Sort.scanUp (fun x=>ltE x dL[a]!) dL (j0) p=Go.Sort.scanUp (fun x=>ltE x dL[a]!) dL (j0) (i0)) (fun p=>n-p) (i0) ⟨by omega,rfl⟩ ?_ ?_ ?_
  ·rfl
  ·first|exact⟨_,rfl⟩|exact⟨[],by rw [List.append_nil]⟩
  rintro i g G ⟨hi,hS⟩
  simp only [zo,zq,zd,zf,List.set_cons_zero,List.set_cons_succ]
  have w2:=zB (n:=i) (by omega)
  by_cases h1:i≤j0
  ·have h1':(i:Int)≤((j0:Nat):Int):=by omega
   have j3:i<n:=by omega
   by_cases h2:ltE dL[i]! dL[a]! = true
   ·repeat' (first|refine go1 ?_|refine za rfl ?_|(refine go2 fun A B a b=>?_;simp only [go_sem, *,zb,zm,idxD,rowsD_get,rowsD_len,rowsD_put,dropD,takeD,sizeD,(lessE _ _).rw,encE];(repeat' first|apply a.1|apply b.1|refine iteI (fun h=>?_) fun h=>?_)<;>clear a b A B))
    refine zy (i+1) (by first|omega|(simp only;omega)) ⟨by omega,?_⟩ ?_ ⟨_,rfl⟩
    ·rw [←hS];conv=>rhs;rw [Go.Sort.scanUp,if_pos (by simp only [Bool.and_eq_true,decide_eq_true_eq];exact⟨h1,by rw [h2]<;>rfl⟩)]
    ·((try simp only [zg,zi,zd,zf,List.set_cons_zero,List.set_cons_succ]);all_goals (first|rfl|(simp only [zn,zj,zc,List.length_map,List.length_append,List.length_cons,List.length_nil,Nat.zero_add];first|done|rfl)))
   ·have h2':ltE dL[i]! dL[a]! = false:=by simpa using h2
    repeat' (first|refine go1 ?_|refine za rfl ?_|(refine go2 fun A B a b=>?_;simp only [go_sem, *,zb,zm,idxD,rowsD_get,rowsD_len,rowsD_put,dropD,takeD,sizeD,(lessE _ _).rw,encE,h2'];(repeat' first|apply a.1|apply b.1|refine iteI (fun h=>?_) fun h=>?_)<;>clear a b A B))
    refine zM i (by rw [←hS,Go.Sort.scanUp,if_neg (by simp only [Bool.and_eq_true];rintro⟨_,k⟩;rw [h2'] at k;cases k)]) ?_ ⟨_,rfl⟩
    ((try simp only [zg,zi,zd,zf,List.set_cons_zero,List.set_cons_succ]);all_goals (first|rfl|(simp only [zn,zj,zc,List.length_map,List.length_append,List.length_cons,List.length_nil,Nat.zero_add];first|done|rfl)))
  ·have h1':¬(i:Int)≤((j0:Nat):Int):=by omega
   repeat' (first|refine go1 ?_|refine za rfl ?_|(refine go2 fun A B a b=>?_;simp only [go_sem, *,zb,zm,idxD,rowsD_get,rowsD_len,rowsD_put,dropD,takeD,sizeD,(lessE _ _).rw,encE];(repeat' first|apply a.1|apply b.1|refine iteI (fun h=>?_) fun h=>?_)<;>clear a b A B))
   refine zM i (by rw [←hS,Go.Sort.scanUp,if_neg (by simp only [Bool.and_eq_true,decide_eq_true_eq];rintro⟨k,_⟩;exact h1 k)]) ?_ ⟨_,rfl⟩
   ((try simp only [zg,zi,zd,zf,List.set_cons_zero,List.set_cons_succ]);all_goals (first|rfl|(simp only [zn,zj,zc,List.length_map,List.length_append,List.length_cons,List.length_nil,Nat.zero_add];first|done|rfl)))
 intro i g G hi
 have hi1:=up_le (fun x=>ltE x dL[a]!) dL j0 i0
 have hi2:=up_ge (fun x=>ltE x dL[a]!) dL j0 i0 n (by omega) (by omega)
 rw [hi] at hL hi1 hi2
 clear hi
 simp only [zo,zq,zd,zf,List.set_cons_zero,List.set_cons_succ]
 repeat' (first|refine go1 ?_|refine za rfl ?_|(refine zt fun A B a b=>?_;simp only [go_sem, *];(repeat' first|apply a.1|refine iteI (fun h=>?_) fun h=>?_)<;>clear a b A B))
 refine zcn [115,116,117,118,119,120,121,122,123,124,125,126,127,128,129,130,131] (fun p:Nat=>[(11,.int .i64 p)]) (fun _ H=>A ++ .arr (rowsD dL) 1 wL true::(C++H)) (fun p=>Go.Sort.scanDown (fun x=> !ltE x dL[a]!) dL (i) (j0)=p) ?_ ?_
 ·refine zN [115,116,117,118,119,120,121,122,123,124,125,126,127,128,129,130,131] (fun p:Nat=>[(11,.int .i64 p)]) (fun _ H=>A ++ .arr (rowsD dL) 1 wL true::(C++H)) (fun p=>p<n∧Go.Sort.scanDown (fun x=> !ltE x dL[a]!) dL (i) p=Go.Sort.scanDown (fun x=> !ltE x dL[a]!) dL (i) (j0)) (fun p=>p) (j0) ⟨by omega,rfl⟩ ?_ ?_ ?_
  ·rfl
  ·exact⟨_,rfl⟩
  rintro j g G ⟨hj,hS⟩
  simp only [zo,zq,zd,zf,List.set_cons_zero,List.set_cons_succ]
  cases j with
  | zero=>
   have h1':¬(i:Int)≤((0:Nat):Int):=by omega
   repeat' (first|refine go1 ?_|refine za rfl ?_|(refine go2 fun A B a b=>?_;simp only [go_sem, *,zb,zm,idxD,rowsD_get,rowsD_len,rowsD_put,dropD,takeD,sizeD,(lessE _ _).rw,encE];(repeat' first|apply a.1|apply b.1|refine iteI (fun h=>?_) fun h=>?_)<;>clear a b A B))
   refine zM 0 (by rw [←hS,Go.Sort.scanDown]) ?_ ⟨_,rfl⟩
   ((try simp only [zg,zi,zd,zf,List.set_cons_zero,List.set_cons_succ]);all_goals (first|rfl|(simp only [zn,zj,zc,List.length_map,List.length_append,List.length_cons,List.length_nil,Nat.zero_add];first|done|rfl)))
  | succ j=>
   have w2:IntKind.wrap .i64 (((j+1:Nat):Int)-1)=(j:Int):=by rw [zu (by omega) (by omega)];omega
   by_cases h1:i≤j+1
   ·have h1':(i:Int)≤((j+1:Nat):Int):=by omega
    by_cases h2:ltE dL[j+1]! dL[a]! = false
    ·repeat' (first|refine go1 ?_|refine za rfl ?_|(refine go2 fun A B a b=>?_;simp only [go_sem, *,zb,zm,idxD,rowsD_get,rowsD_len,rowsD_put,dropD,takeD,sizeD,(lessE _ _).rw,encE];(repeat' first|apply a.1|apply b.1|refine iteI (fun h=>?_) fun h=>?_)<;>clear a b A B))
     refine zy j (by first|omega|(simp only;omega)) ⟨by omega,?_⟩ ?_ ⟨_,rfl⟩
     ·rw [←hS];conv=>rhs;rw [Go.Sort.scanDown,if_pos (by simp only [Bool.and_eq_true,decide_eq_true_eq];exact⟨h1,by rw [h2]<;>rfl⟩)]
     ·((try simp only [zg,zi,zd,zf,List.set_cons_zero,List.set_cons_succ]);all_goals (first|rfl|(simp only [zn,zj,zc,List.length_map,List.length_append,List.length_cons,List.length_nil,Nat.zero_add];first|done|rfl)))
    ·have h2':ltE dL[j+1]! dL[a]! = true:=by simpa using h2
     repeat' (first|refine go1 ?_|refine za rfl ?_|(refine go2 fun A B a b=>?_;simp only [go_sem, *,zb,zm,idxD,rowsD_get,rowsD_len,rowsD_put,dropD,takeD,sizeD,(lessE _ _).rw,encE,h2'];(repeat' first|apply a.1|apply b.1|refine iteI (fun h=>?_) fun h=>?_)<;>clear a b A B))
     refine zM (j+1) (by rw [←hS,Go.Sort.scanDown,if_neg (by simp only [Bool.and_eq_true];rintro⟨_,k⟩;rw [h2'] at k;cases k)]) ?_ ⟨_,rfl⟩
     ((try simp only [zg,zi,zd,zf,List.set_cons_zero,List.set_cons_succ]);all_goals (first|rfl|(simp only [zn,zj,zc,List.length_map,List.length_append,List.length_cons,List.length_nil,Nat.zero_add];first|done|rfl)))
   ·have h1':¬(i:Int)≤((j+1:Nat):Int):=by omega
    repeat' (first|refine go1 ?_|refine za rfl ?_|(refine go2 fun A B a b=>?_;simp only [go_sem, *,zb,zm,idxD,rowsD_get,rowsD_len,rowsD_put,dropD,takeD,sizeD,(lessE _ _).rw,encE];(repeat' first|apply a.1|apply b.1|refine iteI (fun h=>?_) fun h=>?_)<;>clear a b A B))
    refine zM (j+1) (by rw [←hS,Go.Sort.scanDown,if_neg (by simp only [Bool.and_eq_true,decide_eq_true_eq];rintro⟨k,_⟩;exact h1 k)]) ?_ ⟨_,rfl⟩
    ((try simp only [zg,zi,zd,zf,List.set_cons_zero,List.set_cons_succ]);all_goals (first|rfl|(simp only [zn,zj,zc,List.length_map,List.length_append,List.length_cons,List.length_nil,Nat.zero_add];first|done|rfl)))
 intro j g G hj
 have hj1:=down_le (fun x=> !ltE x dL[a]!) dL i j0
 simp only [hj] at hL
 rw [hj] at hj1
 clear hj
 simp only [zo,zq,zd,zf,List.set_cons_zero,List.set_cons_succ]
 have j3:j<n:=by omega
 by_cases hij:i > j
 ·have hij':(j:Int)<(i:Int):=by omega
  rw [if_pos hij] at hL
  subst hL hR
  repeat' (first|refine go1 ?_|refine za rfl ?_|(refine go2 fun A B a b=>?_;simp only [go_sem, *,zb,zm,idxD,rowsD_get,rowsD_len,rowsD_put,dropD,takeD,sizeD,(lessE _ _).rw,encE];(repeat' first|apply a.1|apply b.1|refine iteI (fun h=>?_) fun h=>?_)<;>clear a b A B))
  simp only [go_sem]
  exact⟨by simp [Go.Sort.swp,hnL],n,_,Nat.le_refl _,rfl⟩
 ·have hij':¬(j:Int)<(i:Int):=by omega
  have i3:i<n:=by omega
  rw [if_neg hij,dif_pos (by omega)] at hL
  have w2:=zB (n:=i) (by omega)
  have w3:IntKind.wrap .i64 ((j:Int)-1)=((j-1:Nat):Int):=by rw [zu (by omega) (by omega)];omega
  repeat' (first|refine go1 ?_|refine za rfl ?_|(refine go2 fun A B a b=>?_;simp only [go_sem, *,zb,zm,idxD,rowsD_get,rowsD_len,rowsD_put,dropD,takeD,sizeD,(lessE _ _).rw,encE];(repeat' first|apply a.1|apply b.1|refine iteI (fun h=>?_) fun h=>?_)<;>clear a b A B))
  refine zy (i+1,j-1,Go.Sort.swp dL i j,n) (by simp only;omega) ⟨by simp [Go.Sort.swp,hnL],Nat.le_refl _,by simp only;omega,by simp only;omega,by simp only;omega,hL⟩ ?_ ⟨_,rfl⟩
  ((try simp only [zg,zi,zd,zf,List.set_cons_zero,List.set_cons_succ]);all_goals (first|rfl|(simp only [zn,zj,zc,List.length_map,List.length_append,List.length_cons,List.length_nil,Nat.zero_add];first|done|rfl)))

theorem partEqE (A C:Store) (d:Array El) (n w a b pv:Nat) (hn:d.size=n) (hw:w≤n) (hap:a≤pv) (hpb:pv<b) (hb:b≤n) (hsm:n<1152921504606846976):EvR CX 157 [.sl A.length n 0 n 1,.int .i64 a,.int .i64 b,.int .i64 pv] (A ++ .arr (rowsD d) 1 w true::C) (fun v S=>v = .int .i64 ((Go.Sort.partitionEqual ltE d a b pv).1:Nat)∧Left A C n (Go.Sort.partitionEqual ltE d a b pv).2 S):=by
 have w1:=zB (n:=a) (by omega)
 have q1:IntKind.wrap .i64 ((b:Int)-1)=((b-1:Nat):Int):=by rw [zu (by omega) (by omega)];omega
 have j1:a<n:=by omega
 have j2:pv<n:=by omega
 obtain⟨dS,hdS⟩:∃ dS,Go.Sort.swp d a pv=dS:=⟨_,rfl⟩
 have hdS':(d.setIfInBounds a d[pv]!).setIfInBounds pv d[a]! = dS:=hdS
 have hnS:dS.size=n:=by rw [←hdS];simp [Go.Sort.swp,hn]
 obtain⟨L,hL⟩:∃ L,Go.Sort.partitionEqual ltE d a b pv=L:=⟨_,rfl⟩
 rw [hL]
 unfold Go.Sort.partitionEqual at hL
 rw [hdS] at hL
 refine EvR.walk rfl fn157 rfl nt157 rfl ?_
 simp only [List.length_cons,List.length_nil,List.cons_append,List.nil_append,Nat.reduceAdd,Nat.reduceSub,List.replicate]
 repeat' (first|refine go1 ?_|refine za rfl ?_|(refine go2 fun A B a b=>?_;simp only [go_sem, *,zb,zm,idxD,rowsD_get,rowsD_len,rowsD_put,dropD,takeD,sizeD,(lessE _ _).rw,encE];(repeat' first|apply a.1|apply b.1|refine iteI (fun h=>?_) fun h=>?_)<;>clear a b A B))
 clear hdS hdS' hn
 refine zN [29,30,31,32,33,34,35,36,37,38,39,40,41,42,43,44,45,46,47,48,49,50,51,52,53,54,55,56,57,58,59,60,61,62,63,64,65,66,67,68,69,70,71,72,73,74,75,76,77,78,79,80,81,82] (fun p:Nat×Nat×Array El×Nat=>[(9,.int .i64 p.1),(10,.int .i64 p.2.1)]) (fun p H=>A ++ .arr (rowsD p.2.2.1) 1 p.2.2.2 true::(C++H))
  (fun p=>p.2.2.1.size=n∧p.2.2.2≤n∧a<p.1∧p.1≤n∧p.2.1<n∧Go.Sort.partEqLoop ltE a p.1 p.2.1 p.2.2.1=L) (fun p=>p.2.1+1-p.1) (a+1,b-1,dS,n) ⟨hnS,Nat.le_refl _,by simp only;omega,by simp only;omega,by simp only;omega,hL⟩ ?_ ?_ ?_
 ·rfl
 ·exact⟨[],by rw [List.append_nil]⟩
 clear hL hnS
 rintro⟨i0,j0,dL,wL⟩ g G ⟨hnL,hwL,hi0,hi0n,hj0,hL⟩
 simp only at hnL hwL hi0 hi0n hj0 hL
 rw [Go.Sort.partEqLoop] at hL
 simp only [zo,zq,zd,zf,List.set_cons_zero,List.set_cons_succ]
 repeat' (first|refine go1 ?_|refine za rfl ?_|(refine zt fun A B a b=>?_;simp only [go_sem, *];(repeat' first|apply a.1|refine iteI (fun h=>?_) fun h=>?_)<;>clear a b A B))
 refine zcn [29,30,31,32,33,34,35,36,37,38,39,40,41,42,43,44,45] (fun p:Nat=>[(9,.int .i64 p)]) (fun _ H=>A ++ .arr (rowsD dL) 1 wL true::(C++H)) (fun p=>Go.Sort.scanUp (fun x=> !ltE dL[a]! x) dL (j0) (i0)=p) ?_ ?_
 ·refine zN [29,30,31,32,33,34,35,36,37,38,39,40,41,42,43,44,45] (fun p:Nat=>[(9,.int .i64 p)]) (fun _ H=>A ++ .arr (rowsD dL) 1 wL true::(C++H)) (fun p=>p≤n∧Go.Sort.scanUp (fun x=> !ltE dL[a]! x) dL (j0) p=Go.Sort.scanUp (fun x=> !ltE dL[a]! x) dL (j0) (i0)) (fun p=>n-p) (i0) ⟨by omega,rfl⟩ ?_ ?_ ?_
  ·rfl
  ·first|exact⟨_,rfl⟩|exact⟨[],by rw [List.append_nil]⟩
  rintro i g G ⟨hi,hS⟩
  simp only [zo,zq,zd,zf,List.set_cons_zero,List.set_cons_succ]
  have w2:=zB (n:=i) (by omega)
  by_cases h1:i≤j0
  ·have h1':(i:Int)≤((j0:Nat):Int):=by omega
   have j3:i<n:=by omega
   by_cases h2:ltE dL[a]! dL[i]! = false
   ·repeat' (first|refine go1 ?_|refine za rfl ?_|(refine go2 fun A B a b=>?_;simp only [go_sem, *,zb,zm,idxD,rowsD_get,rowsD_len,rowsD_put,dropD,takeD,sizeD,(lessE _ _).rw,encE];(repeat' first|apply a.1|apply b.1|refine iteI (fun h=>?_) fun h=>?_)<;>clear a b A B))
    refine zy (i+1) (by first|omega|(simp only;omega)) ⟨by omega,?_⟩ ?_ ⟨_,rfl⟩
    ·rw [←hS];conv=>rhs;rw [Go.Sort.scanUp,if_pos (by simp only [Bool.and_eq_true,decide_eq_true_eq];exact⟨h1,by rw [h2]<;>rfl⟩)]
    ·((try simp only [zg,zi,zd,zf,List.set_cons_zero,List.set_cons_succ]);all_goals (first|rfl|(simp only [zn,zj,zc,List.length_map,List.length_append,List.length_cons,List.length_nil,Nat.zero_add];first|done|rfl)))
   ·have h2':ltE dL[a]! dL[i]! = true:=by simpa using h2
    repeat' (first|refine go1 ?_|refine za rfl ?_|(refine go2 fun A B a b=>?_;simp only [go_sem, *,zb,zm,idxD,rowsD_get,rowsD_len,rowsD_put,dropD,takeD,sizeD,(lessE _ _).rw,encE,h2'];(repeat' first|apply a.1|apply b.1|refine iteI (fun h=>?_) fun h=>?_)<;>clear a b A B))
    refine zM i (by rw [←hS,Go.Sort.scanUp,if_neg (by simp only [Bool.and_eq_true];rintro⟨_,k⟩;rw [h2'] at k;cases k)]) ?_ ⟨_,rfl⟩
    ((try simp only [zg,zi,zd,zf,List.set_cons_zero,List.set_cons_succ]);all_goals (first|rfl|(simp only [zn,zj,zc,List.length_map,List.length_append,List.length_cons,List.length_nil,Nat.zero_add];first|done|rfl)))
  ·have h1':¬(i:Int)≤((j0:Nat):Int):=by omega
   repeat' (first|refine go1 ?_|refine za rfl ?_|(refine go2 fun A B a b=>?_;simp only [go_sem, *,zb,zm,idxD,rowsD_get,rowsD_len,rowsD_put,dropD,takeD,sizeD,(lessE _ _).rw,encE];(repeat' first|apply a.1|apply b.1|refine iteI (fun h=>?_) fun h=>?_)<;>clear a b A B))
   refine zM i (by rw [←hS,Go.Sort.scanUp,if_neg (by simp only [Bool.and_eq_true,decide_eq_true_eq];rintro⟨k,_⟩;exact h1 k)]) ?_ ⟨_,rfl⟩
   ((try simp only [zg,zi,zd,zf,List.set_cons_zero,List.set_cons_succ]);all_goals (first|rfl|(simp only [zn,zj,zc,List.length_map,List.length_append,List.length_cons,List.length_nil,Nat.zero_add];first|done|rfl)))
 intro i g G hi
 have hi1:=up_le (fun x=> !ltE dL[a]! x) dL j0 i0
 have hi2:=up_ge (fun x=> !ltE dL[a]! x) dL j0 i0 n (by omega) (by omega)
 rw [hi] at hL hi1 hi2
 clear hi
 simp only [zo,zq,zd,zf,List.set_cons_zero,List.set_cons_succ]
 repeat' (first|refine go1 ?_|refine za rfl ?_|(refine zt fun A B a b=>?_;simp only [go_sem, *];(repeat' first|apply a.1|refine iteI (fun h=>?_) fun h=>?_)<;>clear a b A B))
 refine zcn [46,47,48,49,50,51,52,53,54,55,56,57,58,59,60,61] (fun p:Nat=>[(10,.int .i64 p)]) (fun _ H=>A ++ .arr (rowsD dL) 1 wL true::(C++H)) (fun p=>Go.Sort.scanDown (fun x=>ltE dL[a]! x) dL (i) (j0)=p) ?_ ?_
 ·refine zN [46,47,48,49,50,51,52,53,54,55,56,57,58,59,60,61] (fun p:Nat=>[(10,.int .i64 p)]) (fun _ H=>A ++ .arr (rowsD dL) 1 wL true::(C++H)) (fun p=>p<n∧Go.Sort.scanDown (fun x=>ltE dL[a]! x) dL (i) p=Go.Sort.scanDown (fun x=>ltE dL[a]! x) dL (i) (j0)) (fun p=>p) (j0) ⟨by omega,rfl⟩ ?_ ?_ ?_
  ·rfl
  ·exact⟨_,rfl⟩
  rintro j g G ⟨hj,hS⟩
  simp only [zo,zq,zd,zf,List.set_cons_zero,List.set_cons_succ]
  cases j with
  | zero=>
   have h1':¬(i:Int)≤((0:Nat):Int):=by omega
   repeat' (first|refine go1 ?_|refine za rfl ?_|(refine go2 fun A B a b=>?_;simp only [go_sem, *,zb,zm,idxD,rowsD_get,rowsD_len,rowsD_put,dropD,takeD,sizeD,(lessE _ _).rw,encE];(repeat' first|apply a.1|apply b.1|refine iteI (fun h=>?_) fun h=>?_)<;>clear a b A B))
   refine zM 0 (by rw [←hS,Go.Sort.scanDown]) ?_ ⟨_,rfl⟩
   ((try simp only [zg,zi,zd,zf,List.set_cons_zero,List.set_cons_succ]);all_goals (first|rfl|(simp only [zn,zj,zc,List.length_map,List.length_append,List.length_cons,List.length_nil,Nat.zero_add];first|done|rfl)))
  | succ j=>
   have w2:IntKind.wrap .i64 (((j+1:Nat):Int)-1)=(j:Int):=by rw [zu (by omega) (by omega)];omega
   by_cases h1:i≤j+1
   ·have h1':(i:Int)≤((j+1:Nat):Int):=by omega
    by_cases h2:ltE dL[a]! dL[j+1]! = true
    ·repeat' (first|refine go1 ?_|refine za rfl ?_|(refine go2 fun A B a b=>?_;simp only [go_sem, *,zb,zm,idxD,rowsD_get,rowsD_len,rowsD_put,dropD,takeD,sizeD,(lessE _ _).rw,encE];(repeat' first|apply a.1|apply b.1|refine iteI (fun h=>?_) fun h=>?_)<;>clear a b A B))
     refine zy j (by first|omega|(simp only;omega)) ⟨by omega,?_⟩ ?_ ⟨_,rfl⟩
     ·rw [←hS];conv=>rhs;rw [Go.Sort.scanDown,if_pos (by simp only [Bool.and_eq_true,decide_eq_true_eq];exact⟨h1,by rw [h2]<;>rfl⟩)]
     ·((try simp only [zg,zi,zd,zf,List.set_cons_zero,List.set_cons_succ]);all_goals (first|rfl|(simp only [zn,zj,zc,List.length_map,List.length_append,List.length_cons,List.length_nil,Nat.zero_add];first|done|rfl)))
    ·have h2':ltE dL[a]! dL[j+1]! = false:=by simpa using h2
     repeat' (first|refine go1 ?_|refine za rfl ?_|(refine go2 fun A B a b=>?_;simp only [go_sem, *,zb,zm,idxD,rowsD_get,rowsD_len,rowsD_put,dropD,takeD,sizeD,(lessE _ _).rw,encE,h2'];(repeat' first|apply a.1|apply b.1|refine iteI (fun h=>?_) fun h=>?_)<;>clear a b A B))
     refine zM (j+1) (by rw [←hS,Go.Sort.scanDown,if_neg (by simp only [Bool.and_eq_true];rintro⟨_,k⟩;rw [h2'] at k;cases k)]) ?_ ⟨_,rfl⟩
     ((try simp only [zg,zi,zd,zf,List.set_cons_zero,List.set_cons_succ]);all_goals (first|rfl|(simp only [zn,zj,zc,List.length_map,List.length_append,List.length_cons,List.length_nil,Nat.zero_add];first|done|rfl)))
   ·have h1':¬(i:Int)≤((j+1:Nat):Int):=by omega
    repeat' (first|refine go1 ?_|refine za rfl ?_|(refine go2 fun A B a b=>?_;simp only [go_sem, *,zb,zm,idxD,rowsD_get,rowsD_len,rowsD_put,dropD,takeD,sizeD,(lessE _ _).rw,encE];(repeat' first|apply a.1|apply b.1|refine iteI (fun h=>?_) fun h=>?_)<;>clear a b A B))
    refine zM (j+1) (by rw [←hS,Go.Sort.scanDown,if_neg (by simp only [Bool.and_eq_true,decide_eq_true_eq];rintro⟨k,_⟩;exact h1 k)]) ?_ ⟨_,rfl⟩
    ((try simp only [zg,zi,zd,zf,List.set_cons_zero,List.set_cons_succ]);all_goals (first|rfl|(simp only [zn,zj,zc,List.length_map,List.length_append,List.length_cons,List.length_nil,Nat.zero_add];first|done|rfl)))
 intro j g G hj
 have hj1:=down_le (fun x=>ltE dL[a]! x) dL i j0
 simp only [hj] at hL
 rw [hj] at hj1
 clear hj
 simp only [zo,zq,zd,zf,List.set_cons_zero,List.set_cons_succ]
 have j3:j<n:=by omega
 by_cases hij:i > j
 ·have hij':(j:Int)<(i:Int):=by omega
  rw [if_pos hij] at hL
  subst hL
  repeat' (first|refine go1 ?_|refine za rfl ?_|(refine go2 fun A B a b=>?_;simp only [go_sem, *,zb,zm,idxD,rowsD_get,rowsD_len,rowsD_put,dropD,takeD,sizeD,(lessE _ _).rw,encE];(repeat' first|apply a.1|apply b.1|refine iteI (fun h=>?_) fun h=>?_)<;>clear a b A B))
  simp only [go_sem]
  exact⟨hnL,wL,_,hwL,rfl⟩
 ·have hij':¬(j:Int)<(i:Int):=by omega
  have i3:i<n:=by omega
  rw [if_neg hij,dif_pos (by omega)] at hL
  have w2:=zB (n:=i) (by omega)
  have w3:IntKind.wrap .i64 ((j:Int)-1)=((j-1:Nat):Int):=by rw [zu (by omega) (by omega)];omega
  repeat' (first|refine go1 ?_|refine za rfl ?_|(refine go2 fun A B a b=>?_;simp only [go_sem, *,zb,zm,idxD,rowsD_get,rowsD_len,rowsD_put,dropD,takeD,sizeD,(lessE _ _).rw,encE];(repeat' first|apply a.1|apply b.1|refine iteI (fun h=>?_) fun h=>?_)<;>clear a b A B))
  refine zy (i+1,j-1,Go.Sort.swp dL i j,n) (by simp only;omega) ⟨by simp [Go.Sort.swp,hnL],Nat.le_refl _,by simp only;omega,by simp only;omega,by simp only;omega,hL⟩ ?_ ⟨_,rfl⟩
  ((try simp only [zg,zi,zd,zf,List.set_cons_zero,List.set_cons_succ]);all_goals (first|rfl|(simp only [zn,zj,zc,List.length_map,List.length_append,List.length_cons,List.length_nil,Nat.zero_add];first|done|rfl)))
end Go.Eng
