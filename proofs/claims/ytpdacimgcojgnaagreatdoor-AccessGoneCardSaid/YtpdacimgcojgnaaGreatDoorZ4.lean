/- Part 4 of the texts behind this claim. -/
import Derived.Test.YtpdacimgcojgnaaGreatDoorZ3
import Derived.Sort.LotD5
import Derived.Test.YtpdacimgcojgnaaGreatDoorCtxS
import Derived.Test.YtpdacimgcojgnaaGreatDoorEngV
set_option linter.all false

/- The library's sort of ints as a run: bits, the stirring of a row that sorts badly. -/
namespace Go.Eng
open Go.Proofs
attribute [local irreducible] wpC wpO wp1 EvV EvR wpL
attribute [local go_sem] ty3 ty4 ty5 ty9 zbM zbF ty167 br148 br149 fz25 fz26 br130 fz189 reduceIte Nat.reduceAdd Nat.reduceEqDiff Nat.reduceLT Nat.reduceLeDiff beq_iff_eq beq_eq_false_iff_ne Int.natCast_inj Bool.not_eq_false' zbD zbx zaE za9 zaw zas za7 zF zaB zaD zE zax zbw zP zH za8 zI zba zaC zbv zbu zL zar zR zaz zQ zay zS zaA za5 zat zae zbd zaG zbc zbb zbe zby zaF zaY zao zaX zaZ zav zaW zaV zaI zaK zaf zac zW z8 zbg zaJ boxK storeK zaq zaM zam zaN zbm zau zbz zbf zX zaa zaP zaQ zan zbn zaO zbr zaU zbp zbA zbs zbo zbq zaR zbC zaS zaT List.all_cons List.all_nil Bool.and_true Bool.and_self Bool.true_and z7 zaH List.set_cons_zero List.set_cons_succ List.length_cons List.length_nil List.nil_append List.cons_append stabL AV.stab fieldAddrA fieldA List.getElem?_cons_zero List.getElem?_cons_succ Nat.zero_add loadA rowOf Nat.le_refl and_self true_and and_true partA binA unA intBin eqBin eqCells eqCell Option.bind_some decide_true decide_false decide_eq_true_eq ite_not Bool.not_eq_true' decide_eq_false_iff_not Bool.false_eq_true Option.map_some Option.map_none Bool.not_true Bool.not_false buildA fillA patch List.take List.drop List.map_cons List.map_nil extK List.getD_cons_zero List.getD_cons_succ minmaxA minmaxGo zJ zV zak zU zai zT zal zaj zah zag zaL zbk zbi zbl zbj zbh bne Bool.false_and Bool.and_false ne_eq not_true_eq_false not_false_eq_true List.append_nil resultsR resultsL resultA za3 zap za2 za4 za0 za1 zZ zbK zad zO zD zbB
set_option maxRecDepth 20000
set_option maxHeartbeats 4000000

theorem fdiv16 (n:Nat):Int.fdiv (n:Int) 65536=((n / 65536:Nat):Int):=by rw [Int.fdiv_eq_ediv_of_nonneg _ (by omega)];rfl
theorem fdiv8 (n:Nat):Int.fdiv (n:Int) 256=((n / 256:Nat):Int):=by rw [Int.fdiv_eq_ediv_of_nonneg _ (by omega)];rfl
theorem fdiv7 (n:Nat):Int.fdiv (n:Int) 128=((n / 128:Nat):Int):=by rw [Int.fdiv_eq_ediv_of_nonneg _ (by omega)];rfl

theorem len_shift {n k:Nat}(h:2 ^ k≤n):Go.Sort.bitsLen n=k+Go.Sort.bitsLen (n / 2 ^ k):=by
 have h0:0<n:=Nat.lt_of_lt_of_le (Nat.two_pow_pos k) h
 have h1:0<n / 2 ^ k:=Nat.div_pos h (Nat.two_pow_pos k)
 apply Nat.le_antisymm
 ·rw [Go.Sort.bitsLen_le_iff,Nat.pow_add]
  have:=Go.Sort.lt_two_pow_bitsLen (n / 2 ^ k)
  rw [Nat.div_lt_iff_lt_mul (Nat.two_pow_pos k)] at this
  rw [Nat.mul_comm];exact this
 ·obtain⟨m,hm⟩:∃ m,Go.Sort.bitsLen (n / 2 ^ k)=m+1:=by
   cases hb:Go.Sort.bitsLen (n / 2 ^ k) with
   | zero=>have:=Go.Sort.lt_two_pow_bitsLen (n / 2 ^ k);rw [hb] at this;omega
   | succ m=>exact⟨m,rfl⟩
  rw [hm]
  apply Nat.lt_of_not_le
  intro hc
  rw [Go.Sort.bitsLen_le_iff] at hc
  have:Go.Sort.bitsLen (n / 2 ^ k)≤m:=by
   rw [Go.Sort.bitsLen_le_iff,Nat.div_lt_iff_lt_mul (Nat.two_pow_pos k),←Nat.pow_add,Nat.add_comm m k];exact hc
  omega

theorem tab_step {s:ByteArray}{m:Nat}{b:UInt8}{dst:Option Tmp}{K:List AV→Store→Prop}{fr:List AV}{S:Store}{a c:Nat}{bb:Bool}{z:List AV}(hty:CX.ty 9=some ⟨a,bb,c,z,.str⟩) (h:s[m]? = some b) (hk:K (putA fr dst (.int .u8 b.toNat)) S) :
  someK (indexA CX 9 (.str s) (.int .u8 (m:Int))) dst K fr S:=by
 have e:indexA CX 9 (.str s) (.int .u8 (m:Int))=some (.int .u8 b.toNat):=by simp [indexA,hty,h]
 rw [e,zW];exact hk

theorem shr16 (n:Nat):shiftBin .shr .u64 (n:Int) 16=some (.int .u64 ((n / 65536:Nat):Int)):=by rw [←fdiv16];rfl
theorem shr8 (n:Nat):shiftBin .shr .u64 (n:Int) 8=some (.int .u64 ((n / 256:Nat):Int)):=by rw [←fdiv8];rfl
theorem shr7 (n:Nat):shiftBin .shr .u64 (n:Int) 7=some (.int .u64 ((n / 128:Nat):Int)):=by rw [←fdiv7];rfl
theorem wrapU8 {n:Nat}(h:n<256):IntKind.wrap .u8 (n:Int)=(n:Int):=by
 simp [IntKind.wrap,IntKind.min,IntKind.max,IntKind.signed,IntKind.bits]
 omega
theorem wrapU64 {n:Nat}(h:n<18446744073709551616):IntKind.wrap .u64 (n:Int)=(n:Int):=by
 simp [IntKind.wrap,IntKind.min,IntKind.max,IntKind.signed,IntKind.bits]
 omega
theorem len_byte {n:Nat}(h:n<256):Go.Sort.bitsLen n≤8:=(Go.Sort.bitsLen_le_iff n 8).2 (by omega)

theorem len64 (n:Nat) (hn:n<4294967296):EvV CX 149 [.int .u64 n] (· = .int .i64 (Go.Sort.bitsLen n:Nat)):=by
 have h32:¬(4294967296:Int)≤(n:Int):=by omega
 have tail:∀ (m k:Nat),m<256→k≤24→Go.Sort.bitsLen n=k+Go.Sort.bitsLen m→IntKind.wrap .u8 (m:Int)=(m:Int)∧(UInt8.ofNat (Go.Sort.bitsLen m)).toNat=Go.Sort.bitsLen m∧IntKind.wrap .i64 ((Go.Sort.bitsLen m:Nat):Int)=((Go.Sort.bitsLen m:Nat):Int)∧IntKind.wrap .i64 ((k:Int)+((Go.Sort.bitsLen m:Nat):Int))=((Go.Sort.bitsLen n:Nat):Int):=fun m k hm hk e=>by
  have:=len_byte hm
  refine⟨wrapU8 hm,?_,zu (by omega) (by omega),?_⟩
  ·simp;omega
  ·rw [zu (by omega) (by omega),e];omega
 by_cases h16:65536≤n
 ·have h16':(65536:Int)≤(n:Int):=by omega
  by_cases h8:256≤n / 65536
  ·have h8':(256:Int)≤((n / 65536:Nat):Int):=by omega
   obtain⟨t1,t2,t3,t4⟩:=tail (n / 65536 / 256) 24 (by omega) (by omega) (by rw [len_shift (k:=16) h16,show 2 ^ 16=65536 from rfl,len_shift (k:=8) h8,show 2 ^ 8=256 from rfl];omega)
   have t4:IntKind.wrap .i64 (24+((Go.Sort.bitsLen (n / 65536 / 256):Nat):Int))=((Go.Sort.bitsLen n:Nat):Int):=t4
   have k1:IntKind.wrap .i64 (0+16)=16:=rfl
   have k2:IntKind.wrap .i64 (16+8)=24:=rfl
   refine EvV.walk rfl fn149 rfl nt149 rfl ?_
   simp only [List.length_cons,List.length_nil,List.cons_append,List.nil_append,Nat.reduceAdd,Nat.reduceSub,List.replicate]
   repeat' (first|refine go1 ?_|refine za rfl ?_|(refine go2 fun A B a b=>?_;simp only [go_sem, *,zx,zw zbM ty5 rfl,zw ty5 ty3 rfl,shr16,shr8];(repeat' first|apply a.1|apply b.1|refine iteI (fun h=>?_) fun h=>?_)<;>clear a b A B))
   refine zG fun K hK=>?_
   simp only [go_sem,zbN,zx,zw zbM ty5 rfl,zw ty5 ty3 rfl]
   refine tab_step (b:=UInt8.ofNat (Go.Sort.bitsLen (n / 65536 / 256))) ty9 ?_ ?_
   ·have hm:n / 65536 / 256<256:=by omega
    revert hm
    generalize n / 65536 / 256=m
    revert m
    decide +kernel
   ·refine hK.out _ _ ?_
    clear hK K
    rw [t2]
    repeat' (first|refine go1 ?_|refine za rfl ?_|(refine go2 fun A B a b=>?_;simp only [go_sem, *,zx,zw zbM ty5 rfl,zw ty5 ty3 rfl];(repeat' first|apply a.1|apply b.1|refine iteI (fun h=>?_) fun h=>?_)<;>clear a b A B))
    simp only [go_sem,zx,zw zbM ty5 rfl,zw ty5 ty3 rfl,t4]
  ·have h8':¬(256:Int)≤((n / 65536:Nat):Int):=by omega
   obtain⟨t1,t2,t3,t4⟩:=tail (n / 65536) 16 (by omega) (by omega) (by rw [len_shift (k:=16) h16])
   have t4:IntKind.wrap .i64 (16+((Go.Sort.bitsLen (n / 65536):Nat):Int))=((Go.Sort.bitsLen n:Nat):Int):=t4
   have k1:IntKind.wrap .i64 (0+16)=16:=rfl
   refine EvV.walk rfl fn149 rfl nt149 rfl ?_
   simp only [List.length_cons,List.length_nil,List.cons_append,List.nil_append,Nat.reduceAdd,Nat.reduceSub,List.replicate]
   repeat' (first|refine go1 ?_|refine za rfl ?_|(refine go2 fun A B a b=>?_;simp only [go_sem, *,zx,zw zbM ty5 rfl,zw ty5 ty3 rfl,shr16,shr8];(repeat' first|apply a.1|apply b.1|refine iteI (fun h=>?_) fun h=>?_)<;>clear a b A B))
   refine zG fun K hK=>?_
   simp only [go_sem,zbN,zx,zw zbM ty5 rfl,zw ty5 ty3 rfl]
   refine tab_step (b:=UInt8.ofNat (Go.Sort.bitsLen (n / 65536))) ty9 ?_ ?_
   ·have hm:n / 65536<256:=by omega
    revert hm
    generalize n / 65536=m
    revert m
    decide +kernel
   ·refine hK.out _ _ ?_
    clear hK K
    rw [t2]
    repeat' (first|refine go1 ?_|refine za rfl ?_|(refine go2 fun A B a b=>?_;simp only [go_sem, *,zx,zw zbM ty5 rfl,zw ty5 ty3 rfl];(repeat' first|apply a.1|apply b.1|refine iteI (fun h=>?_) fun h=>?_)<;>clear a b A B))
    simp only [go_sem,zx,zw zbM ty5 rfl,zw ty5 ty3 rfl,t4]
 ·have h16':¬(65536:Int)≤(n:Int):=by omega
  by_cases h8:256≤n
  ·have h8':(256:Int)≤(n:Int):=by omega
   obtain⟨t1,t2,t3,t4⟩:=tail (n / 256) 8 (by omega) (by omega) (by rw [len_shift (k:=8) h8])
   have t4:IntKind.wrap .i64 (8+((Go.Sort.bitsLen (n / 256):Nat):Int))=((Go.Sort.bitsLen n:Nat):Int):=t4
   have k1:IntKind.wrap .i64 (0+8)=8:=rfl
   refine EvV.walk rfl fn149 rfl nt149 rfl ?_
   simp only [List.length_cons,List.length_nil,List.cons_append,List.nil_append,Nat.reduceAdd,Nat.reduceSub,List.replicate]
   repeat' (first|refine go1 ?_|refine za rfl ?_|(refine go2 fun A B a b=>?_;simp only [go_sem, *,zx,zw zbM ty5 rfl,zw ty5 ty3 rfl,shr16,shr8];(repeat' first|apply a.1|apply b.1|refine iteI (fun h=>?_) fun h=>?_)<;>clear a b A B))
   refine zG fun K hK=>?_
   simp only [go_sem,zbN,zx,zw zbM ty5 rfl,zw ty5 ty3 rfl]
   refine tab_step (b:=UInt8.ofNat (Go.Sort.bitsLen (n / 256))) ty9 ?_ ?_
   ·have hm:n / 256<256:=by omega
    revert hm
    generalize n / 256=m
    revert m
    decide +kernel
   ·refine hK.out _ _ ?_
    clear hK K
    rw [t2]
    repeat' (first|refine go1 ?_|refine za rfl ?_|(refine go2 fun A B a b=>?_;simp only [go_sem, *,zx,zw zbM ty5 rfl,zw ty5 ty3 rfl];(repeat' first|apply a.1|apply b.1|refine iteI (fun h=>?_) fun h=>?_)<;>clear a b A B))
    simp only [go_sem,zx,zw zbM ty5 rfl,zw ty5 ty3 rfl,t4]
  ·have h8':¬(256:Int)≤(n:Int):=by omega
   obtain⟨t1,t2,t3,t4⟩:=tail n 0 (by omega) (by omega) (by omega)
   have t4:IntKind.wrap .i64 (0+((Go.Sort.bitsLen n:Nat):Int))=((Go.Sort.bitsLen n:Nat):Int):=t4
   clear t4
   have t4:IntKind.wrap .i64 (0+((Go.Sort.bitsLen n:Nat):Int))=((Go.Sort.bitsLen n:Nat):Int):=by rw [Int.zero_add];exact t3
   refine EvV.walk rfl fn149 rfl nt149 rfl ?_
   simp only [List.length_cons,List.length_nil,List.cons_append,List.nil_append,Nat.reduceAdd,Nat.reduceSub,List.replicate]
   repeat' (first|refine go1 ?_|refine za rfl ?_|(refine go2 fun A B a b=>?_;simp only [go_sem, *,zx,zw zbM ty5 rfl,zw ty5 ty3 rfl,shr16,shr8];(repeat' first|apply a.1|apply b.1|refine iteI (fun h=>?_) fun h=>?_)<;>clear a b A B))
   refine zG fun K hK=>?_
   simp only [go_sem,zbN,zx,zw zbM ty5 rfl,zw ty5 ty3 rfl]
   refine tab_step (b:=UInt8.ofNat (Go.Sort.bitsLen (n))) ty9 ?_ ?_
   ·have hm:n<256:=by omega
    revert hm
    generalize n=m
    revert m
    decide +kernel
   ·refine hK.out _ _ ?_
    clear hK K
    rw [t2]
    repeat' (first|refine go1 ?_|refine za rfl ?_|(refine go2 fun A B a b=>?_;simp only [go_sem, *,zx,zw zbM ty5 rfl,zw ty5 ty3 rfl];(repeat' first|apply a.1|apply b.1|refine iteI (fun h=>?_) fun h=>?_)<;>clear a b A B))
    simp only [go_sem,zx,zw zbM ty5 rfl,zw ty5 ty3 rfl,t4]

theorem lenE (n:Nat) (hn:n<4294967296):EvV CX 130 [.int .u64 n] (· = .int .i64 (Go.Sort.bitsLen n:Nat)):=by
 have q:=(len64 n hn).rw
 refine EvV.walk rfl fn130 rfl nt130 rfl ?_
 simp only [List.length_cons,List.length_nil,List.cons_append,List.nil_append,Nat.reduceAdd,Nat.reduceSub,List.replicate]
 repeat' (first|refine go1 ?_|refine za rfl ?_|(refine go2 fun A B a b=>?_;simp only [go_sem, *,zx,zw zbF ty167 rfl];(repeat' first|apply a.1|apply b.1|refine iteI (fun h=>?_) fun h=>?_)<;>clear a b A B))
 simp only [go_sem,zx,zw zbF ty167 rfl]

theorem shl1 {k:Nat}(h:k≤40):shiftBin .shl .u64 1 (k:Int)=some (.int .u64 ((1 <<< k:Nat):Int)):=by
 have e:IntKind.wrap .u64 ((1 <<< k:Nat):Int)=((1 <<< k:Nat):Int):=wrapU64 (by
  rw [Nat.one_shiftLeft];exact Nat.lt_of_le_of_lt (Nat.pow_le_pow_right (by omega) h) (by decide))
 have h1:¬((k:Int)<0):=by omega
 have h2:min (k:Nat) 64=k:=Nat.min_eq_left (by omega)
 simp only [shiftBin,h1,if_false,Int.toNat_natCast,IntKind.bits,h2,Int.one_mul]
 rw [←e]
 congr 3
 rw [Nat.one_shiftLeft];simp

theorem nextE (n:Nat) (hn:n<4294967296):EvV CX 160 [.int .i64 n] (· = .int .u64 ((1 <<< Go.Sort.bitsLen n:Nat):Int)):=by
 have q:=(lenE n hn).rw
 have w1:=wrapU64 (n:=n) (by omega)
 have hk:=(Go.Sort.bitsLen_le_iff n 32).2 (by omega)
 have w2:=shl1 (k:=Go.Sort.bitsLen n) (by omega)
 refine EvV.walk rfl fn160 rfl nt160 rfl ?_
 simp only [List.length_cons,List.length_nil,List.cons_append,List.nil_append,Nat.reduceAdd,Nat.reduceSub,List.replicate]
 repeat' (first|refine go1 ?_|refine za rfl ?_|(refine go2 fun A B a b=>?_;simp only [go_sem, *,zx,zw ty3 zbF rfl];(repeat' first|apply a.1|apply b.1|refine iteI (fun h=>?_) fun h=>?_)<;>clear a b A B))
 simp only [go_sem,zx,zw ty3 zbF rfl]

/- The library's sort of ints as a run: bits, the stirring of a row that sorts badly. -/
open Go.Proofs
set_option maxRecDepth 20000
set_option maxHeartbeats 4000000


theorem wrapU64m (n:Nat):IntKind.wrap .u64 (n:Int)=((n % 18446744073709551616:Nat):Int):=by
 simp [IntKind.wrap,IntKind.min,IntKind.max,IntKind.signed,IntKind.bits]
theorem shl13 (n:Nat):shiftBin .shl .u64 (n:Int) 13=some (.int .u64 ((n*8192 % 18446744073709551616:Nat):Int)):=by
 rw [←wrapU64m];rfl
theorem shl17 (n:Nat):shiftBin .shl .u64 (n:Int) 17=some (.int .u64 ((n*131072 % 18446744073709551616:Nat):Int)):=by
 rw [←wrapU64m];rfl
theorem xorN {x y:Nat}(hx:x<18446744073709551616) (hy:y<18446744073709551616):IntKind.wrap .u64 (((BitVec.ofInt 64 (x:Int) ^^^ BitVec.ofInt 64 (y:Int)).toNat:Nat):Int)=((x ^^^ y:Nat):Int):=by
 have e1:(BitVec.ofInt 64 (x:Int)).toNat=x:=by simp;omega
 have e2:(BitVec.ofInt 64 (y:Int)).toNat=y:=by simp;omega
 rw [BitVec.toNat_xor,e1,e2]
 exact wrapU64 (Nat.xor_lt_two_pow (n:=64) hx hy)
theorem andN {x y:Nat}(hx:x<18446744073709551616) (hy:y<18446744073709551616):IntKind.wrap .u64 (((BitVec.ofInt 64 (x:Int) &&& BitVec.ofInt 64 (y:Int)).toNat:Nat):Int)=((x &&& y:Nat):Int):=by
 have e1:(BitVec.ofInt 64 (x:Int)).toNat=x:=by simp;omega
 have e2:(BitVec.ofInt 64 (y:Int)).toNat=y:=by simp;omega
 rw [BitVec.toNat_and,e1,e2]
 exact wrapU64 (Nat.lt_of_le_of_lt Nat.and_le_left hx)

theorem xorB {x y:Nat}(hx:x<18446744073709551616) (hy:y<18446744073709551616):IntKind.wrap .u64 (((BitVec.ofInt IntKind.u64.bits (x:Int) ^^^ BitVec.ofInt IntKind.u64.bits (y:Int)).toNat:Nat):Int)=((x ^^^ y:Nat):Int):=xorN hx hy
theorem andB {x y:Nat}(hx:x<18446744073709551616) (hy:y<18446744073709551616):IntKind.wrap .u64 (((BitVec.ofInt IntKind.u64.bits (x:Int) &&& BitVec.ofInt IntKind.u64.bits (y:Int)).toNat:Nat):Int)=((x &&& y:Nat):Int):=andN hx hy

def SX (A C1 C2:Store) (d:Array El) (w x ws:Nat):Store:=A ++ .arr (rowsD d) 1 w true::(C1 ++ .arr [[.int .u64 (x:Int)]] 1 ws true::C2)

theorem nxE (A C1 C2:Store) (d:Array El) (w x ws:Nat) (hx:x<18446744073709551616) (hws:ws≤1) :
  EvR CX 161 [.ptr (A.length+(C1.length+1)) 1 1 0 0] (SX A C1 C2 d w x ws)
   (fun v S=>v = .int .u64 (Go.Sort.xorNextN x:Nat)∧S=SX A C1 C2 d w (Go.Sort.xorNextN x) 1):=by
 unfold SX
 have z:(0:Nat)<1:=by omega
 obtain⟨p,hp⟩:∃ p,x ^^^ (x*8192 % 18446744073709551616)=p:=⟨_,rfl⟩
 have x1:=xorB (x:=x) (y:=x*8192 % 18446744073709551616) hx (by omega)
 have hpl:p<18446744073709551616:=by rw [←hp];exact Nat.xor_lt_two_pow (n:=64) hx (by omega)
 obtain⟨q,hq⟩:∃ q,p ^^^ (p / 128)=q:=⟨_,rfl⟩
 have x2:=xorB (x:=p) (y:=p / 128) hpl (by omega)
 have hql:q<18446744073709551616:=by rw [←hq];exact Nat.xor_lt_two_pow (n:=64) hpl (by omega)
 obtain⟨r,hr⟩:∃ r,q ^^^ (q*131072 % 18446744073709551616)=r:=⟨_,rfl⟩
 have x3:=xorB (x:=q) (y:=q*131072 % 18446744073709551616) hql (by omega)
 have e:Go.Sort.xorNextN x=r:=by unfold Go.Sort.xorNextN;simp only [hp,hq,hr]
 rw [e]
 rw [hp] at x1;rw [hq] at x2;rw [hr] at x3
 refine EvR.walk rfl fn161 rfl nt161 rfl ?_
 simp only [List.length_cons,List.length_nil,List.cons_append,List.nil_append,Nat.reduceAdd,Nat.reduceSub,List.replicate]
 repeat' (first|refine go1 ?_|refine za rfl ?_|(refine go2 fun A B a b=>?_;simp only [beq_iff_eq,beq_eq_false_iff_ne,Int.natCast_inj,Bool.not_eq_false',zbD,zbx,zaE,za9,zaw,zas,za7,zF,zaB,zaD,zE,zax,zbw,zP,zH,za8,zI,zba,zaC,zbv,zbu,zL,zar,zR,zaz,zQ,zay,zS,zaA,za5,zat,zae,zbd,zaG,zbc,zbb,zbe,zby,zaF,zaY,zao,zaX,zaZ,zav,zaW,zaV,zaI,zaK,zaf,zac,zW,z8,zbg,zaJ,boxK,storeK,zaq,zaM,zam,zaN,zbm,zau,zbz,zbf,zX,zaa,zaP,zaQ,zan,zbn,zaO,zbr,zaU,zbp,zbA,zbs,zbo,zbq,zaR,zbC,zaS,zaT,List.all_cons,List.all_nil,Bool.and_true,Bool.and_self,Bool.true_and,z7,zaH,List.set_cons_zero,List.set_cons_succ,List.length_cons,List.length_nil,List.nil_append,List.cons_append,stabL,AV.stab,fieldAddrA,fieldA,List.getElem?_cons_zero,List.getElem?_cons_succ,Nat.zero_add,loadA,rowOf,Nat.le_refl,and_self,true_and,and_true,partA,binA,unA,intBin,eqBin,eqCells,eqCell,Option.bind_some,decide_true,decide_false,decide_eq_true_eq,ite_not,Bool.not_eq_true',decide_eq_false_iff_not,Bool.false_eq_true,Option.map_some,Option.map_none,Bool.not_true,Bool.not_false,buildA,fillA,patch,List.take,List.drop,List.map_cons,List.map_nil,extK,List.getD_cons_zero,List.getD_cons_succ,minmaxA,minmaxGo,zJ,zV,zak,zU,zai,zT,zal,zaj,zah,zag,zaL,zbk,zbi,zbl,zbj,zbh,bne,Bool.false_and,Bool.and_false,ne_eq,not_true_eq_false,not_false_eq_true,List.append_nil,resultsR,resultsL,resultA,za3,zap,za2,za4,za0,za1,zZ,zbK,zad,zO,zD,zbB,reduceIte,Nat.reduceAdd,Nat.reduceEqDiff,Nat.reduceLT,Nat.reduceLeDiff, *,zbM,zbR,ty183,ze,zp,zb,zm,shl13,shl17,shr7];(repeat' first|apply a.1|apply b.1|refine iteI (fun h=>?_) fun h=>?_)<;>clear a b A B))
 simp only [resultsR,resultsL,resultA,za3,zap,za2,za4,za0,za1,zZ,beq_iff_eq,beq_eq_false_iff_ne,Int.natCast_inj,Bool.not_eq_false',zbD,zbx,zaE,za9,zaw,zas,za7,zF,zaB,zaD,zE,zax,zbw,zP,zH,za8,zI,zba,zaC,zbv,zbu,zL,zar,zR,zaz,zQ,zay,zS,zaA,za5,zat,zae,zbd,zaG,zbc,zbb,zbe,zby,zaF,zaY,zao,zaX,zaZ,zav,zaW,zaV,zaI,zaK,zaf,zac,zW,z8,zbg,zaJ,boxK,storeK,zaq,zaM,zam,zaN,zbm,zau,zbz,zbf,zX,zaa,zaP,zaQ,zan,zbn,zaO,zbr,zaU,zbp,zbA,zbs,zbo,zbq,zaR,zbC,zaS,zaT,List.all_cons,List.all_nil,Bool.and_true,Bool.and_self,Bool.true_and,z7,zaH,List.set_cons_zero,List.set_cons_succ,List.length_cons,List.length_nil,List.nil_append,List.cons_append,stabL,AV.stab,fieldAddrA,fieldA,List.getElem?_cons_zero,List.getElem?_cons_succ,Nat.zero_add,loadA,rowOf,Nat.le_refl,and_self,true_and,and_true,partA,binA,unA,intBin,eqBin,eqCells,eqCell,Option.bind_some,decide_true,decide_false,decide_eq_true_eq,ite_not,Bool.not_eq_true',decide_eq_false_iff_not,Bool.false_eq_true,Option.map_some,Option.map_none,Bool.not_true,Bool.not_false,buildA,fillA,patch,List.take,List.drop,List.map_cons,List.map_nil,extK,List.getD_cons_zero,List.getD_cons_succ,minmaxA,minmaxGo,zJ,zV,zak,zU,zai,zT,zal,zaj,zah,zag,zaL,zbk,zbi,zbl,zbj,zbh,bne,Bool.false_and,Bool.and_false,ne_eq,not_true_eq_false,not_false_eq_true,List.append_nil,resultsR,resultsL,resultA,za3,zap,za2,za4,za0,za1,zZ,zbK,zad,zO,zD,zbB,reduceIte,Nat.reduceAdd,Nat.reduceEqDiff,Nat.reduceLT,Nat.reduceLeDiff,zbM,zbR,ty183,]

def stir (a L M:Nat):Nat→Nat→UInt64×Array El→UInt64×Array El
 | 0,_,st=>st
 | k+1,idx,st=>stir a L M k (idx+1) (Go.Sort.breakStep a L M st idx)

theorem breakE (A C:Store) (d:Array El) (n w a b:Nat) (hn:d.size=n) (hw:w≤n) (hab:a<b) (hb:b≤n) (hsm:n<4294967296) :
  EvR CX 152 [.sl A.length n 0 n 1,.int .i64 a,.int .i64 b] (A ++ .arr (rowsD d) 1 w true::C) (fun v S=>v = .tup []∧Left A C n (Go.Sort.breakPatterns d a b) S):=by
 have q1:IntKind.wrap .i64 ((b:Int)-(a:Int))=((b-a:Nat):Int):=by rw [zu (by omega) (by omega)];omega
 by_cases h8:b-a≥8
 ·have h8':(8:Int)≤((b-a:Nat):Int):=by omega
  obtain⟨L,hL⟩:∃ L,b-a=L:=⟨_,rfl⟩
  rw [hL] at h8 h8' q1
  have q2:IntKind.wrap .i64 ((L:Int).tdiv 4)=((L / 4:Nat):Int):=by rw [Int.tdiv_eq_ediv_of_nonneg (by omega),zu (by omega) (by omega)];omega
  have q4:IntKind.wrap .i64 (((L / 4:Nat):Int)*2)=((L / 4*2:Nat):Int):=by rw [zu (by omega) (by omega)];omega
  have q5:IntKind.wrap .i64 ((a:Int)+((L / 4*2:Nat):Int))=((a+L / 4*2:Nat):Int):=by rw [zu (by omega) (by omega)];omega
  have q6:IntKind.wrap .i64 (((a+L / 4*2:Nat):Int)-1)=((a+L / 4*2-1:Nat):Int):=by rw [zu (by omega) (by omega)];omega
  have q7:=zB (n:=a+L / 4*2) (by omega)
  have q8:=wrapU64 (n:=L) (by omega)
  have q9:¬(4:Int)=0:=by omega
  have z:(0:Nat)<1:=by omega
  obtain⟨M,hM⟩:∃ M,1 <<< Go.Sort.bitsLen L=M:=⟨_,rfl⟩
  have qn:=(nextE L (by omega)).rw
  rw [hM] at qn
  have hM1:M≤2*L:=by rw [←hM,Nat.one_shiftLeft];exact Go.Sort.two_pow_bitsLen_le (by omega)
  have hM0:0<M:=by rw [←hM,Nat.one_shiftLeft];exact Nat.two_pow_pos _
  have q10:IntKind.wrap .u64 ((M:Int)-1)=((M-1:Nat):Int):=by
   rw [←wrapU64 (n:=M-1) (by omega)];congr 1;omega
  have hB:Go.Sort.breakPatterns d a b=(stir a L M 3 (a+L / 4*2-1) (UInt64.ofNat L,d)).2:=by
   unfold Go.Sort.breakPatterns
   simp only [hL]
   rw [if_pos h8,hM]
   rfl
  rw [hB]
  obtain⟨R,hR⟩:∃ R,stir a L M 3 (a+L / 4*2-1) (UInt64.ofNat L,d)=R:=⟨_,rfl⟩
  rw [hR]
  refine EvR.walk rfl fn152 rfl nt152 rfl ?_
  simp only [List.length_cons,List.length_nil,List.cons_append,List.nil_append,Nat.reduceAdd,Nat.reduceSub,List.replicate]
  repeat' (first|refine go1 ?_|refine za rfl ?_|(refine go2 fun A B a b=>?_;simp only [beq_iff_eq,beq_eq_false_iff_ne,Int.natCast_inj,Bool.not_eq_false',zbD,zbx,zaE,za9,zaw,zas,za7,zF,zaB,zaD,zE,zax,zbw,zP,zH,za8,zI,zba,zaC,zbv,zbu,zL,zar,zR,zaz,zQ,zay,zS,zaA,za5,zat,zae,zbd,zaG,zbc,zbb,zbe,zby,zaF,zaY,zao,zaX,zaZ,zav,zaW,zaV,zaI,zaK,zaf,zac,zW,z8,zbg,zaJ,boxK,storeK,zaq,zaM,zam,zaN,zbm,zau,zbz,zbf,zX,zaa,zaP,zaQ,zan,zbn,zaO,zbr,zaU,zbp,zbA,zbs,zbo,zbq,zaR,zbC,zaS,zaT,List.all_cons,List.all_nil,Bool.and_true,Bool.and_self,Bool.true_and,z7,zaH,List.set_cons_zero,List.set_cons_succ,List.length_cons,List.length_nil,List.nil_append,List.cons_append,stabL,AV.stab,fieldAddrA,fieldA,List.getElem?_cons_zero,List.getElem?_cons_succ,Nat.zero_add,loadA,rowOf,Nat.le_refl,and_self,true_and,and_true,partA,binA,unA,intBin,eqBin,eqCells,eqCell,Option.bind_some,decide_true,decide_false,decide_eq_true_eq,ite_not,Bool.not_eq_true',decide_eq_false_iff_not,Bool.false_eq_true,Option.map_some,Option.map_none,Bool.not_true,Bool.not_false,buildA,fillA,patch,List.take,List.drop,List.map_cons,List.map_nil,extK,List.getD_cons_zero,List.getD_cons_succ,minmaxA,minmaxGo,zJ,zV,zak,zU,zai,zT,zal,zaj,zah,zag,zaL,zbk,zbi,zbl,zbj,zbh,bne,Bool.false_and,Bool.and_false,ne_eq,not_true_eq_false,not_false_eq_true,List.append_nil,resultsR,resultsL,resultA,za3,zap,za2,za4,za0,za1,zZ,zbK,zad,zO,zD,zbB,reduceIte,Nat.reduceAdd,Nat.reduceEqDiff,Nat.reduceLT,Nat.reduceLeDiff, *,ty3,ty4,ty29,zbF,zbM,zbR,zcs,zcr,allocK,zx,fz255,fz256,zw zbF ty3 rfl,zw ty3 zbR rfl,List.length_append,List.append_assoc,ze,zp,zb,zm];(repeat' first|apply a.1|apply b.1|refine iteI (fun h=>?_) fun h=>?_)<;>clear a b A B))
  obtain⟨I,hI⟩:∃ I,a+L / 4*2-1=I:=⟨_,rfl⟩
  rw [hI] at hR ⊢
  refine zN [10,26,27,28,29,30,31,32,33,34,35,36,37,38,39,40,41,42,43,44,45,46,47,48,49,50,51,52,53,54,55,56,57,58,59,60,61,62,63,64] (fun p:Nat×Nat×UInt64×Array El×Nat×Nat=>[(9,.int .i64 p.2.1)]) (fun p H=>SX A C H p.2.2.2.1 p.2.2.2.2.1 p.2.2.1.toNat p.2.2.2.2.2)
   (fun p=>p.2.2.2.1.size=n∧p.2.2.2.2.1≤n∧p.2.2.2.2.2≤1∧p.2.1+p.1=a+L / 4*2+2∧p.1≤3∧stir a L M p.1 p.2.1 (p.2.2.1,p.2.2.2.1)=R) (fun p=>p.1) (3,I,UInt64.ofNat L,d,w,1) ⟨hn,hw,Nat.le_refl _,by simp only;omega,Nat.le_refl _,hR⟩ ?_ ?_ ?_
  ·rfl
  ·refine⟨[],?_⟩
   have e:(UInt64.ofNat L).toNat=L:=by simp;omega
   simp only [SX,e]
  clear hR hI hn hw w hB q6
  rintro⟨k,idx,r,d1,w,ws⟩ g G ⟨hn,hw,hws,hix,hk,hR⟩
  simp only at hn hw hws hix hk hR
  unfold SX
  simp only [zo,zq,zd,zf,List.set_cons_zero,List.set_cons_succ]
  cases k with
  | zero=>
   have h1:¬(idx:Int)≤((a+L / 4*2+1:Nat):Int):=by omega
   simp only [stir] at hR
   subst hR
   repeat' (first|refine go1 ?_|refine za rfl ?_|(refine go2 fun A B a b=>?_;simp only [beq_iff_eq,beq_eq_false_iff_ne,Int.natCast_inj,Bool.not_eq_false',zbD,zbx,zaE,za9,zaw,zas,za7,zF,zaB,zaD,zE,zax,zbw,zP,zH,za8,zI,zba,zaC,zbv,zbu,zL,zar,zR,zaz,zQ,zay,zS,zaA,za5,zat,zae,zbd,zaG,zbc,zbb,zbe,zby,zaF,zaY,zao,zaX,zaZ,zav,zaW,zaV,zaI,zaK,zaf,zac,zW,z8,zbg,zaJ,boxK,storeK,zaq,zaM,zam,zaN,zbm,zau,zbz,zbf,zX,zaa,zaP,zaQ,zan,zbn,zaO,zbr,zaU,zbp,zbA,zbs,zbo,zbq,zaR,zbC,zaS,zaT,List.all_cons,List.all_nil,Bool.and_true,Bool.and_self,Bool.true_and,z7,zaH,List.set_cons_zero,List.set_cons_succ,List.length_cons,List.length_nil,List.nil_append,List.cons_append,stabL,AV.stab,fieldAddrA,fieldA,List.getElem?_cons_zero,List.getElem?_cons_succ,Nat.zero_add,loadA,rowOf,Nat.le_refl,and_self,true_and,and_true,partA,binA,unA,intBin,eqBin,eqCells,eqCell,Option.bind_some,decide_true,decide_false,decide_eq_true_eq,ite_not,Bool.not_eq_true',decide_eq_false_iff_not,Bool.false_eq_true,Option.map_some,Option.map_none,Bool.not_true,Bool.not_false,buildA,fillA,patch,List.take,List.drop,List.map_cons,List.map_nil,extK,List.getD_cons_zero,List.getD_cons_succ,minmaxA,minmaxGo,zJ,zV,zak,zU,zai,zT,zal,zaj,zah,zag,zaL,zbk,zbi,zbl,zbj,zbh,bne,Bool.false_and,Bool.and_false,ne_eq,not_true_eq_false,not_false_eq_true,List.append_nil,resultsR,resultsL,resultA,za3,zap,za2,za4,za0,za1,zZ,zbK,zad,zO,zD,zbB,reduceIte,Nat.reduceAdd,Nat.reduceEqDiff,Nat.reduceLT,Nat.reduceLeDiff, *,ty3,ty4,ty29,zbF,zbM,zbR,zcs,zcr,allocK,zx,fz255,fz256,zw zbF ty3 rfl,zw ty3 zbR rfl];(repeat' first|apply a.1|apply b.1|refine iteI (fun h=>?_) fun h=>?_)<;>clear a b A B))
   simp only [resultsR,resultsL,resultA,za3,zap,za2,za4,za0,za1,zZ,beq_iff_eq,beq_eq_false_iff_ne,Int.natCast_inj,Bool.not_eq_false',zbD,zbx,zaE,za9,zaw,zas,za7,zF,zaB,zaD,zE,zax,zbw,zP,zH,za8,zI,zba,zaC,zbv,zbu,zL,zar,zR,zaz,zQ,zay,zS,zaA,za5,zat,zae,zbd,zaG,zbc,zbb,zbe,zby,zaF,zaY,zao,zaX,zaZ,zav,zaW,zaV,zaI,zaK,zaf,zac,zW,z8,zbg,zaJ,boxK,storeK,zaq,zaM,zam,zaN,zbm,zau,zbz,zbf,zX,zaa,zaP,zaQ,zan,zbn,zaO,zbr,zaU,zbp,zbA,zbs,zbo,zbq,zaR,zbC,zaS,zaT,List.all_cons,List.all_nil,Bool.and_true,Bool.and_self,Bool.true_and,z7,zaH,List.set_cons_zero,List.set_cons_succ,List.length_cons,List.length_nil,List.nil_append,List.cons_append,stabL,AV.stab,fieldAddrA,fieldA,List.getElem?_cons_zero,List.getElem?_cons_succ,Nat.zero_add,loadA,rowOf,Nat.le_refl,and_self,true_and,and_true,partA,binA,unA,intBin,eqBin,eqCells,eqCell,Option.bind_some,decide_true,decide_false,decide_eq_true_eq,ite_not,Bool.not_eq_true',decide_eq_false_iff_not,Bool.false_eq_true,Option.map_some,Option.map_none,Bool.not_true,Bool.not_false,buildA,fillA,patch,List.take,List.drop,List.map_cons,List.map_nil,extK,List.getD_cons_zero,List.getD_cons_succ,minmaxA,minmaxGo,zJ,zV,zak,zU,zai,zT,zal,zaj,zah,zag,zaL,zbk,zbi,zbl,zbj,zbh,bne,Bool.false_and,Bool.and_false,ne_eq,not_true_eq_false,not_false_eq_true,List.append_nil,resultsR,resultsL,resultA,za3,zap,za2,za4,za0,za1,zZ,zbK,zad,zO,zD,zbB,reduceIte,Nat.reduceAdd,Nat.reduceEqDiff,Nat.reduceLT,Nat.reduceLeDiff,ty3,ty4,ty29,zbF,zbM,zbR,zcs,zcr,allocK,zx,fz255,fz256,zw zbF ty3 rfl,zw ty3 zbR rfl,]
   exact⟨hn,w,_,hw,rfl⟩
  | succ k=>
   have h1:(idx:Int)≤((a+L / 4*2+1:Nat):Int):=by omega
   have hrl:r.toNat<18446744073709551616:=r.toNat_lt
   obtain⟨r',hr'⟩:∃ r',Go.Sort.xorNext r=r':=⟨_,rfl⟩
   have hx:Go.Sort.xorNextN r.toNat=r'.toNat:=by rw [←Go.Sort.xorNext_toNat,hr']
   have hrl':r'.toNat<18446744073709551616:=r'.toNat_lt
   obtain⟨o,ho⟩:∃ o,r'.toNat &&& (M-1)=o:=⟨_,rfl⟩
   have hol:o≤M-1:=by rw [←ho];exact Nat.and_le_right
   have a1:=andB (x:=r'.toNat) (y:=M-1) hrl' (by omega)
   rw [ho] at a1
   have a2:=zu (n:=(o:Int)) (by omega) (by omega)
   have w2:=zB (n:=idx) (by omega)
   simp only [stir,Go.Sort.breakStep,hr',ho] at hR
   obtain⟨t,ht⟩:∃ t,(if o≥L then o-L else o)=t:=⟨_,rfl⟩
   rw [ht] at hR
   have htl:t<L:=by rw [←ht];split<;>omega
   have a3:IntKind.wrap .i64 ((a:Int)+(t:Int))=((a+t:Nat):Int):=by rw [zu (by omega) (by omega)];omega
   have i1:a+t<n:=by omega
   have i2:idx<n:=by omega
   repeat' (first|refine go1 ?_|refine za rfl ?_|(refine zt fun A B a b=>?_;simp only [beq_iff_eq,beq_eq_false_iff_ne,Int.natCast_inj,Bool.not_eq_false',zbD,zbx,zaE,za9,zaw,zas,za7,zF,zaB,zaD,zE,zax,zbw,zP,zH,za8,zI,zba,zaC,zbv,zbu,zL,zar,zR,zaz,zQ,zay,zS,zaA,za5,zat,zae,zbd,zaG,zbc,zbb,zbe,zby,zaF,zaY,zao,zaX,zaZ,zav,zaW,zaV,zaI,zaK,zaf,zac,zW,z8,zbg,zaJ,boxK,storeK,zaq,zaM,zam,zaN,zbm,zau,zbz,zbf,zX,zaa,zaP,zaQ,zan,zbn,zaO,zbr,zaU,zbp,zbA,zbs,zbo,zbq,zaR,zbC,zaS,zaT,List.all_cons,List.all_nil,Bool.and_true,Bool.and_self,Bool.true_and,z7,zaH,List.set_cons_zero,List.set_cons_succ,List.length_cons,List.length_nil,List.nil_append,List.cons_append,stabL,AV.stab,fieldAddrA,fieldA,List.getElem?_cons_zero,List.getElem?_cons_succ,Nat.zero_add,loadA,rowOf,Nat.le_refl,and_self,true_and,and_true,partA,binA,unA,intBin,eqBin,eqCells,eqCell,Option.bind_some,decide_true,decide_false,decide_eq_true_eq,ite_not,Bool.not_eq_true',decide_eq_false_iff_not,Bool.false_eq_true,Option.map_some,Option.map_none,Bool.not_true,Bool.not_false,buildA,fillA,patch,List.take,List.drop,List.map_cons,List.map_nil,extK,List.getD_cons_zero,List.getD_cons_succ,minmaxA,minmaxGo,zJ,zV,zak,zU,zai,zT,zal,zaj,zah,zag,zaL,zbk,zbi,zbl,zbj,zbh,bne,Bool.false_and,Bool.and_false,ne_eq,not_true_eq_false,not_false_eq_true,List.append_nil,resultsR,resultsL,resultA,za3,zap,za2,za4,za0,za1,zZ,zbK,zad,zO,zD,zbB,reduceIte,Nat.reduceAdd,Nat.reduceEqDiff,Nat.reduceLT,Nat.reduceLeDiff, *,ty3,ty4,ty29,zbF,zbM,zbR,zcs,zcr,allocK,zx,fz255,fz256,zw zbF ty3 rfl,zw ty3 zbR rfl];(repeat' first|apply a.1|refine iteI (fun h=>?_) fun h=>?_)<;>clear a b A B))
   (refine zY fun A B hA hB=>?_;simp only [beq_iff_eq,beq_eq_false_iff_ne,Int.natCast_inj,Bool.not_eq_false',zbD,zbx,zaE,za9,zaw,zas,za7,zF,zaB,zaD,zE,zax,zbw,zP,zH,za8,zI,zba,zaC,zbv,zbu,zL,zar,zR,zaz,zQ,zay,zS,zaA,za5,zat,zae,zbd,zaG,zbc,zbb,zbe,zby,zaF,zaY,zao,zaX,zaZ,zav,zaW,zaV,zaI,zaK,zaf,zac,zW,z8,zbg,zaJ,boxK,storeK,zaq,zaM,zam,zaN,zbm,zau,zbz,zbf,zX,zaa,zaP,zaQ,zan,zbn,zaO,zbr,zaU,zbp,zbA,zbs,zbo,zbq,zaR,zbC,zaS,zaT,List.all_cons,List.all_nil,Bool.and_true,Bool.and_self,Bool.true_and,z7,zaH,List.set_cons_zero,List.set_cons_succ,List.length_cons,List.length_nil,List.nil_append,List.cons_append,stabL,AV.stab,fieldAddrA,fieldA,List.getElem?_cons_zero,List.getElem?_cons_succ,Nat.zero_add,loadA,rowOf,Nat.le_refl,and_self,true_and,and_true,partA,binA,unA,intBin,eqBin,eqCells,eqCell,Option.bind_some,decide_true,decide_false,decide_eq_true_eq,ite_not,Bool.not_eq_true',decide_eq_false_iff_not,Bool.false_eq_true,Option.map_some,Option.map_none,Bool.not_true,Bool.not_false,buildA,fillA,patch,List.take,List.drop,List.map_cons,List.map_nil,extK,List.getD_cons_zero,List.getD_cons_succ,minmaxA,minmaxGo,zJ,zV,zak,zU,zai,zT,zal,zaj,zah,zag,zaL,zbk,zbi,zbl,zbj,zbh,bne,Bool.false_and,Bool.and_false,ne_eq,not_true_eq_false,not_false_eq_true,List.append_nil,resultsR,resultsL,resultA,za3,zap,za2,za4,za0,za1,zZ,zbK,zad,zO,zD,zbB,reduceIte,Nat.reduceAdd,Nat.reduceEqDiff,Nat.reduceLT,Nat.reduceLeDiff, *,ty3,ty4,ty29,zbF,zbM,zbR,zcs,zcr,allocK,zx,fz255,fz256,zw zbF ty3 rfl,zw ty3 zbR rfl];first|(refine hA.out ?_;clear hA hB A B)|(refine hB.out ?_;clear hA hB A B))
   repeat' (first|refine go1 ?_|refine za rfl ?_|(refine zt fun A B a b=>?_;simp only [beq_iff_eq,beq_eq_false_iff_ne,Int.natCast_inj,Bool.not_eq_false',zbD,zbx,zaE,za9,zaw,zas,za7,zF,zaB,zaD,zE,zax,zbw,zP,zH,za8,zI,zba,zaC,zbv,zbu,zL,zar,zR,zaz,zQ,zay,zS,zaA,za5,zat,zae,zbd,zaG,zbc,zbb,zbe,zby,zaF,zaY,zao,zaX,zaZ,zav,zaW,zaV,zaI,zaK,zaf,zac,zW,z8,zbg,zaJ,boxK,storeK,zaq,zaM,zam,zaN,zbm,zau,zbz,zbf,zX,zaa,zaP,zaQ,zan,zbn,zaO,zbr,zaU,zbp,zbA,zbs,zbo,zbq,zaR,zbC,zaS,zaT,List.all_cons,List.all_nil,Bool.and_true,Bool.and_self,Bool.true_and,z7,zaH,List.set_cons_zero,List.set_cons_succ,List.length_cons,List.length_nil,List.nil_append,List.cons_append,stabL,AV.stab,fieldAddrA,fieldA,List.getElem?_cons_zero,List.getElem?_cons_succ,Nat.zero_add,loadA,rowOf,Nat.le_refl,and_self,true_and,and_true,partA,binA,unA,intBin,eqBin,eqCells,eqCell,Option.bind_some,decide_true,decide_false,decide_eq_true_eq,ite_not,Bool.not_eq_true',decide_eq_false_iff_not,Bool.false_eq_true,Option.map_some,Option.map_none,Bool.not_true,Bool.not_false,buildA,fillA,patch,List.take,List.drop,List.map_cons,List.map_nil,extK,List.getD_cons_zero,List.getD_cons_succ,minmaxA,minmaxGo,zJ,zV,zak,zU,zai,zT,zal,zaj,zah,zag,zaL,zbk,zbi,zbl,zbj,zbh,bne,Bool.false_and,Bool.and_false,ne_eq,not_true_eq_false,not_false_eq_true,List.append_nil,resultsR,resultsL,resultA,za3,zap,za2,za4,za0,za1,zZ,zbK,zad,zO,zD,zbB,reduceIte,Nat.reduceAdd,Nat.reduceEqDiff,Nat.reduceLT,Nat.reduceLeDiff, *,ty3,ty4,ty29,zbF,zbM,zbR,zcs,zcr,allocK,zx,fz255,fz256,zw zbF ty3 rfl,zw ty3 zbR rfl];(repeat' first|apply a.1|refine iteI (fun h=>?_) fun h=>?_)<;>clear a b A B))
   refine zG fun K hK=>?_
   simp only [beq_iff_eq,beq_eq_false_iff_ne,Int.natCast_inj,Bool.not_eq_false',zbD,zbx,zaE,za9,zaw,zas,za7,zF,zaB,zaD,zE,zax,zbw,zP,zH,za8,zI,zba,zaC,zbv,zbu,zL,zar,zR,zaz,zQ,zay,zS,zaA,za5,zat,zae,zbd,zaG,zbc,zbb,zbe,zby,zaF,zaY,zao,zaX,zaZ,zav,zaW,zaV,zaI,zaK,zaf,zac,zW,z8,zbg,zaJ,boxK,storeK,zaq,zaM,zam,zaN,zbm,zau,zbz,zbf,zX,zaa,zaP,zaQ,zan,zbn,zaO,zbr,zaU,zbp,zbA,zbs,zbo,zbq,zaR,zbC,zaS,zaT,List.all_cons,List.all_nil,Bool.and_true,Bool.and_self,Bool.true_and,z7,zaH,List.set_cons_zero,List.set_cons_succ,List.length_cons,List.length_nil,List.nil_append,List.cons_append,stabL,AV.stab,fieldAddrA,fieldA,List.getElem?_cons_zero,List.getElem?_cons_succ,Nat.zero_add,loadA,rowOf,Nat.le_refl,and_self,true_and,and_true,partA,binA,unA,intBin,eqBin,eqCells,eqCell,Option.bind_some,decide_true,decide_false,decide_eq_true_eq,ite_not,Bool.not_eq_true',decide_eq_false_iff_not,Bool.false_eq_true,Option.map_some,Option.map_none,Bool.not_true,Bool.not_false,buildA,fillA,patch,List.take,List.drop,List.map_cons,List.map_nil,extK,List.getD_cons_zero,List.getD_cons_succ,minmaxA,minmaxGo,zJ,zV,zak,zU,zai,zT,zal,zaj,zah,zag,zaL,zbk,zbi,zbl,zbj,zbh,bne,Bool.false_and,Bool.and_false,ne_eq,not_true_eq_false,not_false_eq_true,List.append_nil,resultsR,resultsL,resultA,za3,zap,za2,za4,za0,za1,zZ,zbK,zad,zO,zD,zbB,reduceIte,Nat.reduceAdd,Nat.reduceEqDiff,Nat.reduceLT,Nat.reduceLeDiff,ty3,ty4,ty29,zbF,zbM,zbR,zcs,zcr,allocK,zx,fz255,fz256,zw zbF ty3 rfl,zw ty3 zbR rfl,za5]
   refine EvR.mono (nxE A C G d1 w r.toNat ws hrl hws) ?_
   rw [hx]
   rintro _ S ⟨rfl,rfl⟩
   refine hK.out _ _ ?_
   clear hK K
   unfold SX
   repeat' (first|refine go1 ?_|refine za rfl ?_|(refine zt fun A B a b=>?_;simp only [beq_iff_eq,beq_eq_false_iff_ne,Int.natCast_inj,Bool.not_eq_false',zbD,zbx,zaE,za9,zaw,zas,za7,zF,zaB,zaD,zE,zax,zbw,zP,zH,za8,zI,zba,zaC,zbv,zbu,zL,zar,zR,zaz,zQ,zay,zS,zaA,za5,zat,zae,zbd,zaG,zbc,zbb,zbe,zby,zaF,zaY,zao,zaX,zaZ,zav,zaW,zaV,zaI,zaK,zaf,zac,zW,z8,zbg,zaJ,boxK,storeK,zaq,zaM,zam,zaN,zbm,zau,zbz,zbf,zX,zaa,zaP,zaQ,zan,zbn,zaO,zbr,zaU,zbp,zbA,zbs,zbo,zbq,zaR,zbC,zaS,zaT,List.all_cons,List.all_nil,Bool.and_true,Bool.and_self,Bool.true_and,z7,zaH,List.set_cons_zero,List.set_cons_succ,List.length_cons,List.length_nil,List.nil_append,List.cons_append,stabL,AV.stab,fieldAddrA,fieldA,List.getElem?_cons_zero,List.getElem?_cons_succ,Nat.zero_add,loadA,rowOf,Nat.le_refl,and_self,true_and,and_true,partA,binA,unA,intBin,eqBin,eqCells,eqCell,Option.bind_some,decide_true,decide_false,decide_eq_true_eq,ite_not,Bool.not_eq_true',decide_eq_false_iff_not,Bool.false_eq_true,Option.map_some,Option.map_none,Bool.not_true,Bool.not_false,buildA,fillA,patch,List.take,List.drop,List.map_cons,List.map_nil,extK,List.getD_cons_zero,List.getD_cons_succ,minmaxA,minmaxGo,zJ,zV,zak,zU,zai,zT,zal,zaj,zah,zag,zaL,zbk,zbi,zbl,zbj,zbh,bne,Bool.false_and,Bool.and_false,ne_eq,not_true_eq_false,not_false_eq_true,List.append_nil,resultsR,resultsL,resultA,za3,zap,za2,za4,za0,za1,zZ,zbK,zad,zO,zD,zbB,reduceIte,Nat.reduceAdd,Nat.reduceEqDiff,Nat.reduceLT,Nat.reduceLeDiff, *,ty3,ty4,ty29,zbF,zbM,zbR,zcs,zcr,allocK,zx,fz255,fz256,zw zbF ty3 rfl,zw ty3 zbR rfl];(repeat' first|apply a.1|refine iteI (fun h=>?_) fun h=>?_)<;>clear a b A B))
   refine zcI [41,42,43,44,45,46] (fun _:Nat=>[(10,.int .i64 t)]) (fun _ H=>A ++ .arr (rowsD d1) 1 w true::(C ++ .arr [[.int .u64 (r'.toNat:Int)]] 1 1 true::H)) (fun _=>True) ?_ ?_
   ·by_cases hoL:o≥L
    ·have hoL':(L:Int)≤(o:Int):=by omega
     rw [if_pos hoL] at ht
     have a4:IntKind.wrap .i64 ((o:Int)-(L:Int))=((o-L:Nat):Int):=by rw [zu (by omega) (by omega)];omega
     rw [ht] at a4
     clear ht
     repeat' (first|refine go1 ?_|refine za rfl ?_|(refine go2 fun A B a b=>?_;simp only [beq_iff_eq,beq_eq_false_iff_ne,Int.natCast_inj,Bool.not_eq_false',zbD,zbx,zaE,za9,zaw,zas,za7,zF,zaB,zaD,zE,zax,zbw,zP,zH,za8,zI,zba,zaC,zbv,zbu,zL,zar,zR,zaz,zQ,zay,zS,zaA,za5,zat,zae,zbd,zaG,zbc,zbb,zbe,zby,zaF,zaY,zao,zaX,zaZ,zav,zaW,zaV,zaI,zaK,zaf,zac,zW,z8,zbg,zaJ,boxK,storeK,zaq,zaM,zam,zaN,zbm,zau,zbz,zbf,zX,zaa,zaP,zaQ,zan,zbn,zaO,zbr,zaU,zbp,zbA,zbs,zbo,zbq,zaR,zbC,zaS,zaT,List.all_cons,List.all_nil,Bool.and_true,Bool.and_self,Bool.true_and,z7,zaH,List.set_cons_zero,List.set_cons_succ,List.length_cons,List.length_nil,List.nil_append,List.cons_append,stabL,AV.stab,fieldAddrA,fieldA,List.getElem?_cons_zero,List.getElem?_cons_succ,Nat.zero_add,loadA,rowOf,Nat.le_refl,and_self,true_and,and_true,partA,binA,unA,intBin,eqBin,eqCells,eqCell,Option.bind_some,decide_true,decide_false,decide_eq_true_eq,ite_not,Bool.not_eq_true',decide_eq_false_iff_not,Bool.false_eq_true,Option.map_some,Option.map_none,Bool.not_true,Bool.not_false,buildA,fillA,patch,List.take,List.drop,List.map_cons,List.map_nil,extK,List.getD_cons_zero,List.getD_cons_succ,minmaxA,minmaxGo,zJ,zV,zak,zU,zai,zT,zal,zaj,zah,zag,zaL,zbk,zbi,zbl,zbj,zbh,bne,Bool.false_and,Bool.and_false,ne_eq,not_true_eq_false,not_false_eq_true,List.append_nil,resultsR,resultsL,resultA,za3,zap,za2,za4,za0,za1,zZ,zbK,zad,zO,zD,zbB,reduceIte,Nat.reduceAdd,Nat.reduceEqDiff,Nat.reduceLT,Nat.reduceLeDiff, *,ty3,ty4,ty29,zbF,zbM,zbR,zcs,zcr,allocK,zx,fz255,fz256,zw zbF ty3 rfl,zw ty3 zbR rfl];(repeat' first|apply a.1|apply b.1|refine iteI (fun h=>?_) fun h=>?_)<;>clear a b A B))
     refine zM 0 trivial ?_ ⟨_,rfl⟩
     ((try simp only [zg,zi,zd,zf,List.set_cons_zero,List.set_cons_succ]);all_goals (first|rfl|(simp only [zn,zj,zc,List.length_map,List.length_append,List.length_cons,List.length_nil,Nat.zero_add];first|done|rfl)))
    ·have hoL':¬(L:Int)≤(o:Int):=by omega
     rw [if_neg hoL] at ht
     subst ht
     repeat' (first|refine go1 ?_|refine za rfl ?_|(refine go2 fun A B a b=>?_;simp only [beq_iff_eq,beq_eq_false_iff_ne,Int.natCast_inj,Bool.not_eq_false',zbD,zbx,zaE,za9,zaw,zas,za7,zF,zaB,zaD,zE,zax,zbw,zP,zH,za8,zI,zba,zaC,zbv,zbu,zL,zar,zR,zaz,zQ,zay,zS,zaA,za5,zat,zae,zbd,zaG,zbc,zbb,zbe,zby,zaF,zaY,zao,zaX,zaZ,zav,zaW,zaV,zaI,zaK,zaf,zac,zW,z8,zbg,zaJ,boxK,storeK,zaq,zaM,zam,zaN,zbm,zau,zbz,zbf,zX,zaa,zaP,zaQ,zan,zbn,zaO,zbr,zaU,zbp,zbA,zbs,zbo,zbq,zaR,zbC,zaS,zaT,List.all_cons,List.all_nil,Bool.and_true,Bool.and_self,Bool.true_and,z7,zaH,List.set_cons_zero,List.set_cons_succ,List.length_cons,List.length_nil,List.nil_append,List.cons_append,stabL,AV.stab,fieldAddrA,fieldA,List.getElem?_cons_zero,List.getElem?_cons_succ,Nat.zero_add,loadA,rowOf,Nat.le_refl,and_self,true_and,and_true,partA,binA,unA,intBin,eqBin,eqCells,eqCell,Option.bind_some,decide_true,decide_false,decide_eq_true_eq,ite_not,Bool.not_eq_true',decide_eq_false_iff_not,Bool.false_eq_true,Option.map_some,Option.map_none,Bool.not_true,Bool.not_false,buildA,fillA,patch,List.take,List.drop,List.map_cons,List.map_nil,extK,List.getD_cons_zero,List.getD_cons_succ,minmaxA,minmaxGo,zJ,zV,zak,zU,zai,zT,zal,zaj,zah,zag,zaL,zbk,zbi,zbl,zbj,zbh,bne,Bool.false_and,Bool.and_false,ne_eq,not_true_eq_false,not_false_eq_true,List.append_nil,resultsR,resultsL,resultA,za3,zap,za2,za4,za0,za1,zZ,zbK,zad,zO,zD,zbB,reduceIte,Nat.reduceAdd,Nat.reduceEqDiff,Nat.reduceLT,Nat.reduceLeDiff, *,ty3,ty4,ty29,zbF,zbM,zbR,zcs,zcr,allocK,zx,fz255,fz256,zw zbF ty3 rfl,zw ty3 zbR rfl];(repeat' first|apply a.1|apply b.1|refine iteI (fun h=>?_) fun h=>?_)<;>clear a b A B))
     refine zM 0 trivial ?_ ⟨_,rfl⟩
     ((try simp only [zg,zi,zd,zf,List.set_cons_zero,List.set_cons_succ]);all_goals (first|rfl|(simp only [zn,zj,zc,List.length_map,List.length_append,List.length_cons,List.length_nil,Nat.zero_add];first|done|rfl)))
   ·intro _ g' H _
    simp only [zo,zq,zd,zf,List.set_cons_zero,List.set_cons_succ]
    repeat' (first|refine go1 ?_|refine za rfl ?_|(refine go2 fun A B a b=>?_;simp only [beq_iff_eq,beq_eq_false_iff_ne,Int.natCast_inj,Bool.not_eq_false',zbD,zbx,zaE,za9,zaw,zas,za7,zF,zaB,zaD,zE,zax,zbw,zP,zH,za8,zI,zba,zaC,zbv,zbu,zL,zar,zR,zaz,zQ,zay,zS,zaA,za5,zat,zae,zbd,zaG,zbc,zbb,zbe,zby,zaF,zaY,zao,zaX,zaZ,zav,zaW,zaV,zaI,zaK,zaf,zac,zW,z8,zbg,zaJ,boxK,storeK,zaq,zaM,zam,zaN,zbm,zau,zbz,zbf,zX,zaa,zaP,zaQ,zan,zbn,zaO,zbr,zaU,zbp,zbA,zbs,zbo,zbq,zaR,zbC,zaS,zaT,List.all_cons,List.all_nil,Bool.and_true,Bool.and_self,Bool.true_and,z7,zaH,List.set_cons_zero,List.set_cons_succ,List.length_cons,List.length_nil,List.nil_append,List.cons_append,stabL,AV.stab,fieldAddrA,fieldA,List.getElem?_cons_zero,List.getElem?_cons_succ,Nat.zero_add,loadA,rowOf,Nat.le_refl,and_self,true_and,and_true,partA,binA,unA,intBin,eqBin,eqCells,eqCell,Option.bind_some,decide_true,decide_false,decide_eq_true_eq,ite_not,Bool.not_eq_true',decide_eq_false_iff_not,Bool.false_eq_true,Option.map_some,Option.map_none,Bool.not_true,Bool.not_false,buildA,fillA,patch,List.take,List.drop,List.map_cons,List.map_nil,extK,List.getD_cons_zero,List.getD_cons_succ,minmaxA,minmaxGo,zJ,zV,zak,zU,zai,zT,zal,zaj,zah,zag,zaL,zbk,zbi,zbl,zbj,zbh,bne,Bool.false_and,Bool.and_false,ne_eq,not_true_eq_false,not_false_eq_true,List.append_nil,resultsR,resultsL,resultA,za3,zap,za2,za4,za0,za1,zZ,zbK,zad,zO,zD,zbB,reduceIte,Nat.reduceAdd,Nat.reduceEqDiff,Nat.reduceLT,Nat.reduceLeDiff, *,ty3,ty4,ty29,zbF,zbM,zbR,zcs,zcr,allocK,zx,fz255,fz256,zw zbF ty3 rfl,zw ty3 zbR rfl,zb,zm,idxD,rowsD_get,rowsD_len,rowsD_put,dropD,takeD,sizeD,(lessE _ _).rw,encE];(repeat' first|apply a.1|apply b.1|refine iteI (fun h=>?_) fun h=>?_)<;>clear a b A B))
    refine zy (k,idx+1,r',Go.Sort.swp d1 idx (a+t),n,1) (Nat.lt_succ_self _) ⟨by simp [Go.Sort.swp,hn],Nat.le_refl _,Nat.le_refl _,by simp only;omega,by simp only;omega,hR⟩ ?_ ⟨_,rfl⟩
    ((try simp only [zg,zi,zd,zf,List.set_cons_zero,List.set_cons_succ]);all_goals (first|rfl|(simp only [zn,zj,zc,List.length_map,List.length_append,List.length_cons,List.length_nil,Nat.zero_add];first|done|rfl)))
 ·have h8':¬(8:Int)≤((b-a:Nat):Int):=by omega
  have e:Go.Sort.breakPatterns d a b=d:=by unfold Go.Sort.breakPatterns;simp only [h8,if_false]
  refine EvR.walk rfl fn152 rfl nt152 rfl ?_
  simp only [List.length_cons,List.length_nil,List.cons_append,List.nil_append,Nat.reduceAdd,Nat.reduceSub,List.replicate]
  repeat' (first|refine go1 ?_|refine za rfl ?_|(refine go2 fun A B a b=>?_;simp only [beq_iff_eq,beq_eq_false_iff_ne,Int.natCast_inj,Bool.not_eq_false',zbD,zbx,zaE,za9,zaw,zas,za7,zF,zaB,zaD,zE,zax,zbw,zP,zH,za8,zI,zba,zaC,zbv,zbu,zL,zar,zR,zaz,zQ,zay,zS,zaA,za5,zat,zae,zbd,zaG,zbc,zbb,zbe,zby,zaF,zaY,zao,zaX,zaZ,zav,zaW,zaV,zaI,zaK,zaf,zac,zW,z8,zbg,zaJ,boxK,storeK,zaq,zaM,zam,zaN,zbm,zau,zbz,zbf,zX,zaa,zaP,zaQ,zan,zbn,zaO,zbr,zaU,zbp,zbA,zbs,zbo,zbq,zaR,zbC,zaS,zaT,List.all_cons,List.all_nil,Bool.and_true,Bool.and_self,Bool.true_and,z7,zaH,List.set_cons_zero,List.set_cons_succ,List.length_cons,List.length_nil,List.nil_append,List.cons_append,stabL,AV.stab,fieldAddrA,fieldA,List.getElem?_cons_zero,List.getElem?_cons_succ,Nat.zero_add,loadA,rowOf,Nat.le_refl,and_self,true_and,and_true,partA,binA,unA,intBin,eqBin,eqCells,eqCell,Option.bind_some,decide_true,decide_false,decide_eq_true_eq,ite_not,Bool.not_eq_true',decide_eq_false_iff_not,Bool.false_eq_true,Option.map_some,Option.map_none,Bool.not_true,Bool.not_false,buildA,fillA,patch,List.take,List.drop,List.map_cons,List.map_nil,extK,List.getD_cons_zero,List.getD_cons_succ,minmaxA,minmaxGo,zJ,zV,zak,zU,zai,zT,zal,zaj,zah,zag,zaL,zbk,zbi,zbl,zbj,zbh,bne,Bool.false_and,Bool.and_false,ne_eq,not_true_eq_false,not_false_eq_true,List.append_nil,resultsR,resultsL,resultA,za3,zap,za2,za4,za0,za1,zZ,zbK,zad,zO,zD,zbB,reduceIte,Nat.reduceAdd,Nat.reduceEqDiff,Nat.reduceLT,Nat.reduceLeDiff, *,ty3,ty4,ty29,zbF,zbM,zbR,zcs,zcr,allocK,zx,fz255,fz256,zw zbF ty3 rfl,zw ty3 zbR rfl];(repeat' first|apply a.1|apply b.1|refine iteI (fun h=>?_) fun h=>?_)<;>clear a b A B))
  simp only [resultsR,resultsL,resultA,za3,zap,za2,za4,za0,za1,zZ,beq_iff_eq,beq_eq_false_iff_ne,Int.natCast_inj,Bool.not_eq_false',zbD,zbx,zaE,za9,zaw,zas,za7,zF,zaB,zaD,zE,zax,zbw,zP,zH,za8,zI,zba,zaC,zbv,zbu,zL,zar,zR,zaz,zQ,zay,zS,zaA,za5,zat,zae,zbd,zaG,zbc,zbb,zbe,zby,zaF,zaY,zao,zaX,zaZ,zav,zaW,zaV,zaI,zaK,zaf,zac,zW,z8,zbg,zaJ,boxK,storeK,zaq,zaM,zam,zaN,zbm,zau,zbz,zbf,zX,zaa,zaP,zaQ,zan,zbn,zaO,zbr,zaU,zbp,zbA,zbs,zbo,zbq,zaR,zbC,zaS,zaT,List.all_cons,List.all_nil,Bool.and_true,Bool.and_self,Bool.true_and,z7,zaH,List.set_cons_zero,List.set_cons_succ,List.length_cons,List.length_nil,List.nil_append,List.cons_append,stabL,AV.stab,fieldAddrA,fieldA,List.getElem?_cons_zero,List.getElem?_cons_succ,Nat.zero_add,loadA,rowOf,Nat.le_refl,and_self,true_and,and_true,partA,binA,unA,intBin,eqBin,eqCells,eqCell,Option.bind_some,decide_true,decide_false,decide_eq_true_eq,ite_not,Bool.not_eq_true',decide_eq_false_iff_not,Bool.false_eq_true,Option.map_some,Option.map_none,Bool.not_true,Bool.not_false,buildA,fillA,patch,List.take,List.drop,List.map_cons,List.map_nil,extK,List.getD_cons_zero,List.getD_cons_succ,minmaxA,minmaxGo,zJ,zV,zak,zU,zai,zT,zal,zaj,zah,zag,zaL,zbk,zbi,zbl,zbj,zbh,bne,Bool.false_and,Bool.and_false,ne_eq,not_true_eq_false,not_false_eq_true,List.append_nil,resultsR,resultsL,resultA,za3,zap,za2,za4,za0,za1,zZ,zbK,zad,zO,zD,zbB,reduceIte,Nat.reduceAdd,Nat.reduceEqDiff,Nat.reduceLT,Nat.reduceLeDiff,ty3,ty4,ty29,zbF,zbM,zbR,zcs,zcr,allocK,zx,fz255,fz256,zw zbF ty3 rfl,zw ty3 zbR rfl,e]
  exact⟨hn,w,[],hw,by rw [SB,List.append_nil]⟩

/- The library's sort of ints as a run: the sort. -/
open Go.Proofs
attribute [local go_sem] ty29 ty159 br133 br150 br151 br152 br153 br154 br155 br156 br157 br158 fz239 fz240 fz241 fz242 fz243 fz244 fz270 fz271 fz272 fz273 fz274
set_option maxRecDepth 20000
set_option maxHeartbeats 8000000

theorem peq_range (a b:Nat):∀ (m i j:Nat) (d:Array El),j+1-i≤m→i≤b→j+1≤b→i≤(Go.Sort.partEqLoop ltE a i j d).1∧(Go.Sort.partEqLoop ltE a i j d).1≤b
 | m,i,j,d,hm,hi,hj=>by
  rw [Go.Sort.partEqLoop]
  have h1:=up_le (fun x=> !ltE d[a]! x) d j i
  have h2:=up_ge (fun x=> !ltE d[a]! x) d j i b hi hj
  generalize Go.Sort.scanUp (fun x=> !ltE d[a]! x) d j i=i2 at h1 h2 ⊢
  have h3:=down_le (fun x=>ltE d[a]! x) d i2 j
  generalize Go.Sort.scanDown (fun x=>ltE d[a]! x) d i2 j=j2 at h3 ⊢
  split
  ·exact⟨h1,h2⟩
  ·split
   ·rename_i k1 k2
    match m,hm with
    | 0,hm=>omega
    | m+1,hm=>
     have:=peq_range a b m (i2+1) (j2-1) (Go.Sort.swp d i2 j2) (by omega) (by omega) (by omega)
     omega
   ·exact⟨h1,h2⟩

theorem wpC_cut2 {X:Ctx}{α:Type}{r c b:Code}{Q:Ex→List AV→Store→Prop}{fr0:List AV}{S0:Store}(ix:List Nat) (F:α→List (Nat×AV)) (SS:α→Store→Store) (P:α→Prop)
  (h1:wpC X r (seqK X c (cutK ix fr0 F SS P Q)) fr0 S0)
  (h2:∀ a (g:Nat→AV) (G:Store),P a→wpC X b Q (garbA ix g (setL fr0 (F a))) (SS a G)):wpC X r (seqK X c (seqK X b Q)) fr0 S0:=by
 have key:∀ fr S,wpC X c (cutK ix fr0 F SS P Q) fr S→wpC X c (seqK X b Q) fr S:=fun fr S h=>by
  refine zb7 (fun e fr S h=>?_) h
  cases e with
  | normal=>
   simp only [cutK] at h
   obtain⟨a,k1,k2,G,rfl⟩:=h
   refine zb1 ?_
   rw [zcm k2]
   exact h2 a _ _ k1
  | exit id=>simp only [cutK] at h;exact zcM h
  | ret=>simp only [cutK] at h;exact seqK_ret h
 refine zb7 (fun e fr S h=>?_) h1
 cases e with
 | normal=>simp only [seqK] at h;exact zb1 (key fr S h)
 | exit id=>simp only [seqK,cutK] at h;exact zcM (zcM h)
 | ret=>simp only [seqK,cutK] at h;exact seqK_ret (seqK_ret h)

theorem pdqE:∀ (m:Nat) (A C:Store) (d:Array El) (n w a b lim:Nat),b-a≤m→d.size=n→w≤n→a≤b→b≤n→n<4294967296→lim≤100 →
  EvR CX 133 [.sl A.length n 0 n 1,.int .i64 a,.int .i64 b,.int .i64 lim] (A ++ .arr (rowsD d) 1 w true::C) (fun v S=>v = .tup []∧Left A C n (Go.Sort.pdq ltE d a b lim true true) S):=by
 intro m
 induction m using Nat.strongRecOn with|ind m ih=>?_
 intro A C d n w a b lim hm hn hw hab hb hsm hlim
 obtain⟨R,hR⟩:∃ R,Go.Sort.pdq ltE d a b lim true true=R:=⟨_,rfl⟩
 rw [hR]
 refine EvR.walk rfl fn133 rfl nt133 rfl ?_
 simp only [List.length_cons,List.length_nil,List.cons_append,List.nil_append,Nat.reduceAdd,Nat.reduceSub,List.replicate]
 repeat' (first|refine go1 ?_|refine za rfl ?_|(refine go2 fun A B a b=>?_;simp only [go_sem, *];(repeat' first|apply a.1|apply b.1|refine iteI (fun h=>?_) fun h=>?_)<;>clear a b A B))
 refine zN [10,11,12,13,14,15,16,17,18,19,20,21,22,23,24,25,26,27,28,29,30,31,32,33,34,35,36,37,38,39,40,41,42,43,44,45,46,47,48,49,50,51,52,53,54,55,56,57,58,59,60,61,62,63,64,65,66,67,68,69,70,71,72,73,74,75,76,77,78,79,80,81,82,83,84,85,86,87,88,89,90,91,92,93,94,95,96,97,98,99,100,101,102,103,104,105,106,107,108,109,110,111,112,113,114,115,116,117,118,119,120,121,122,123,124,125,126,127,128,129,130,131,132,133] (fun p:Nat×Nat×Nat×Bool×Bool×Array El×Nat=>[(1,.int .i64 p.1),(2,.int .i64 p.2.1),(3,.int .i64 p.2.2.1),(8,.bool p.2.2.2.1),(9,.bool p.2.2.2.2.1)])
  (fun p G=>A ++ .arr (rowsD p.2.2.2.2.2.1) 1 p.2.2.2.2.2.2 true::(C++G))
  (fun p=>p.2.2.2.2.2.1.size=n∧p.2.2.2.2.2.2≤n∧p.1≤p.2.1∧p.2.1≤n∧p.2.1-p.1≤m∧p.2.2.1≤100∧Go.Sort.pdq ltE p.2.2.2.2.2.1 p.1 p.2.1 p.2.2.1 p.2.2.2.1 p.2.2.2.2.1=R) (fun p=>p.2.1-p.1) (a,b,lim,true,true,d,w) ⟨hn,hw,hab,hb,hm,hlim,hR⟩ ?_ ?_ ?_
 ·rfl
 ·exact⟨[],by rw [List.append_nil]⟩
 clear hR hlim hm hb hab hw hn
 rintro⟨a,b,lim,wb,wp,d,w⟩ g G ⟨hn,hw,hab,hb,hm,hlim,hR⟩
 simp only at hn hw hab hb hm hlim hR
 have q1:IntKind.wrap .i64 ((b:Int)-(a:Int))=((b-a:Nat):Int):=by rw [zu (by omega) (by omega)];omega
 rw [Go.Sort.pdq] at hR
 simp only [zo,zq,zd,zf,List.set_cons_zero,List.set_cons_succ]
 by_cases h12:b-a≤12
 ·have h12':((b-a:Nat):Int)≤12:=by omega
  rw [if_pos h12] at hR
  repeat' (first|refine go1 ?_|refine za rfl ?_|(refine go2 fun A B a b=>?_;simp only [go_sem, *];(repeat' first|apply a.1|apply b.1|refine iteI (fun h=>?_) fun h=>?_)<;>clear a b A B))
  refine zG fun K hK=>?_
  simp only [go_sem]
  refine EvR.mono (insE A (C++G) d n w a b hn hw hb hab (by omega)) ?_
  rw [hR]
  rintro _ S ⟨rfl,hL⟩
  obtain⟨w',C',hn2,hw2,rfl⟩:=left_shift hL
  refine hK.out _ _ ?_
  clear hK K
  repeat' (first|refine go1 ?_|refine za rfl ?_|(refine go2 fun A B a b=>?_;simp only [go_sem, *];(repeat' first|apply a.1|apply b.1|refine iteI (fun h=>?_) fun h=>?_)<;>clear a b A B))
  simp only [go_sem]
  exact⟨hn2,w',_,hw2,rfl⟩
 have h12':¬((b-a:Nat):Int)≤12:=by omega
 rw [if_neg h12] at hR
 by_cases hl0:lim=0
 ·subst hl0
  rw [if_pos rfl] at hR
  have z:((0:Nat):Int)=0:=rfl
  repeat' (first|refine go1 ?_|refine za rfl ?_|(refine go2 fun A B a b=>?_;simp only [go_sem, *];(repeat' first|apply a.1|apply b.1|refine iteI (fun h=>?_) fun h=>?_)<;>clear a b A B))
  refine zG fun K hK=>?_
  simp only [go_sem]
  refine EvR.mono (heapE A (C++G) d n w a b hn hw hab hb (by omega)) ?_
  rw [hR]
  rintro _ S ⟨rfl,hL⟩
  obtain⟨w',C',hn2,hw2,rfl⟩:=left_shift hL
  refine hK.out _ _ ?_
  clear hK K
  repeat' (first|refine go1 ?_|refine za rfl ?_|(refine go2 fun A B a b=>?_;simp only [go_sem, *];(repeat' first|apply a.1|apply b.1|refine iteI (fun h=>?_) fun h=>?_)<;>clear a b A B))
  simp only [go_sem]
  exact⟨hn2,w',_,hw2,rfl⟩
 have hl0':¬(lim:Int)=0:=by omega
 rw [if_neg hl0] at hR
 obtain⟨d1,hd1⟩:∃ d1,(if !wb then Go.Sort.breakPatterns d a b else d)=d1:=⟨_,rfl⟩
 obtain⟨lim1,hlim1⟩:∃ l,(if !wb then lim-1 else lim)=l:=⟨_,rfl⟩
 simp only [hd1,hlim1] at hR
 repeat' (first|refine go1 ?_|refine za rfl ?_|(refine zt fun A B a b=>?_;simp only [go_sem, *];(repeat' first|apply a.1|refine iteI (fun h=>?_) fun h=>?_)<;>clear a b A B))
 (refine zY fun A B hA hB=>?_;simp only [go_sem, *];first|(refine hA.out ?_;clear hA hB A B)|(refine hB.out ?_;clear hA hB A B))
 repeat' (first|refine go1 ?_|refine za rfl ?_|(refine zt fun A B a b=>?_;simp only [go_sem, *];(repeat' first|apply a.1|refine iteI (fun h=>?_) fun h=>?_)<;>clear a b A B))
 (refine zY fun A B hA hB=>?_;simp only [go_sem, *];first|(refine hA.out ?_;clear hA hB A B)|(refine hB.out ?_;clear hA hB A B))
 repeat' (first|refine go1 ?_|refine za rfl ?_|(refine zt fun A B a b=>?_;simp only [go_sem, *];(repeat' first|apply a.1|refine iteI (fun h=>?_) fun h=>?_)<;>clear a b A B))
 refine zcI [34,35,36,37,38,39,40,41] (fun _:Nat=>[(3,.int .i64 lim1)]) (fun w H=>A ++ .arr (rowsD d1) 1 w true::(C++H)) (fun w=>d1.size=n∧w≤n) ?_ ?_
 ·cases wb with
  | true=>
   simp only [Bool.not_true,Bool.false_eq_true,if_false] at hd1 hlim1
   subst hd1 hlim1
   repeat' (first|refine go1 ?_|refine za rfl ?_|(refine go2 fun A B a b=>?_;simp only [go_sem, *];(repeat' first|apply a.1|apply b.1|refine iteI (fun h=>?_) fun h=>?_)<;>clear a b A B))
   refine zM w ⟨hn,hw⟩ ?_ ⟨_,rfl⟩
   ((try simp only [zg,zi,zd,zf,List.set_cons_zero,List.set_cons_succ]);all_goals (first|rfl|(simp only [zn,zj,zc,List.length_map,List.length_append,List.length_cons,List.length_nil,Nat.zero_add];first|done|rfl)))
  | false=>
   simp only [Bool.not_false,if_true] at hd1 hlim1
   have w1:IntKind.wrap .i64 ((lim:Int)-1)=(lim1:Int):=by rw [zu (by omega) (by omega)];omega
   repeat' (first|refine go1 ?_|refine za rfl ?_|(refine go2 fun A B a b=>?_;simp only [go_sem, *];(repeat' first|apply a.1|apply b.1|refine iteI (fun h=>?_) fun h=>?_)<;>clear a b A B))
   refine zG fun K hK=>?_
   simp only [go_sem]
   refine EvR.mono (breakE A (C++G) d n w a b hn hw (by omega) hb hsm) ?_
   rw [hd1]
   rintro _ S ⟨rfl,hL⟩
   obtain⟨w',C',hn2,hw2,rfl⟩:=left_shift hL
   refine hK.out _ _ ?_
   clear hK K
   repeat' (first|refine go1 ?_|refine za rfl ?_|(refine go2 fun A B a b=>?_;simp only [go_sem, *];(repeat' first|apply a.1|apply b.1|refine iteI (fun h=>?_) fun h=>?_)<;>clear a b A B))
   refine zM w' ⟨hn2,hw2⟩ ?_ ⟨_,rfl⟩
   ((try simp only [zg,zi,zd,zf,List.set_cons_zero,List.set_cons_succ]);all_goals (first|rfl|(simp only [zn,zj,zc,List.length_map,List.length_append,List.length_cons,List.length_nil,Nat.zero_add];first|done|rfl)))
 clear hd1 hw hn
 have hlim':lim1≤100:=by rw [←hlim1];split<;>omega
 clear hlim1 hlim hl0' hl0
 rintro w g G ⟨hn,hw⟩
 simp only [zo,zq,zd,zf,List.set_cons_zero,List.set_cons_succ]
 repeat' (first|refine go1 ?_|refine za rfl ?_|(refine zt fun A B a b=>?_;simp only [go_sem, *];(repeat' first|apply a.1|refine iteI (fun h=>?_) fun h=>?_)<;>clear a b A B))
 have hch:=Go.Sort.choosePivot_holds ltE d1 a b (by omega)
 refine zG fun K hK=>?_
 simp only [go_sem]
 refine EvR.mono (chooseE A (C++G) d1 n w a b hn hw (by omega) hb (by omega)) ?_
 obtain⟨cp,hcp⟩:∃ c,Go.Sort.choosePivot ltE d1 a b=c:=⟨_,rfl⟩
 rw [hcp] at hch ⊢
 simp only [hcp] at hR
 rintro _ S ⟨rfl,hL⟩
 obtain⟨w',C',_,hw2,rfl⟩:=left_shift hL
 refine hK.out _ _ ?_
 clear hK K
 repeat' (first|refine go1 ?_|refine za rfl ?_|(refine zt fun A B a b=>?_;simp only [go_sem, *];(repeat' first|apply a.1|refine iteI (fun h=>?_) fun h=>?_)<;>clear a b A B))
 clear hL hw w
 obtain⟨d2,hd2⟩:∃ x,(if cp.2 = .decreasing then Go.Sort.reverseRange d1 a b else d1)=x:=⟨_,rfl⟩
 obtain⟨pv,hpv⟩:∃ x,(if cp.2 = .decreasing then (b-1)-(cp.1-a) else cp.1)=x:=⟨_,rfl⟩
 obtain⟨hint,hhi⟩:∃ x,(if cp.2 = .decreasing then Go.Sort.Hint.increasing else cp.2)=x:=⟨_,rfl⟩
 simp only [hd2,hpv,hhi] at hR
 have hpr:a≤pv∧pv<b:=by rw [←hpv];split<;>omega
 refine zcI [49,50,51,52,53,54,55,56,57,58,59,60] (fun _:Nat=>[(11,.int .i64 pv),(12,.int .i64 (Go.Sort.hintCode hint))]) (fun w H=>A ++ .arr (rowsD d2) 1 w true::(C++H)) (fun w=>d2.size=n∧w≤n) ?_ ?_
 ·by_cases hdec:cp.2 = .decreasing
  ·rw [if_pos hdec] at hd2 hpv hhi
   have e1:Go.Sort.hintCode cp.2=2:=by rw [hdec];rfl
   have e2:Go.Sort.hintCode hint=1:=by rw [←hhi];rfl
   have w1:IntKind.wrap .i64 ((b:Int)-1)=((b-1:Nat):Int):=by rw [zu (by omega) (by omega)];omega
   have w2:IntKind.wrap .i64 ((cp.1:Int)-(a:Int))=((cp.1-a:Nat):Int):=by rw [zu (by omega) (by omega)];omega
   have w3:IntKind.wrap .i64 (((b-1:Nat):Int)-((cp.1-a:Nat):Int))=(pv:Int):=by rw [zu (by omega) (by omega)];omega
   clear hhi hdec
   repeat' (first|refine go1 ?_|refine za rfl ?_|(refine go2 fun A B a b=>?_;simp only [go_sem, *];(repeat' first|apply a.1|apply b.1|refine iteI (fun h=>?_) fun h=>?_)<;>clear a b A B))
   refine zG fun K hK=>?_
   simp only [go_sem]
   refine EvR.mono (revE A (C++C') d1 n w' a b hn hw2 (by omega) hb (by omega)) ?_
   rw [hd2]
   rintro _ S ⟨rfl,hL⟩
   obtain⟨w'',C'',hn3,hw3,rfl⟩:=left_shift hL
   refine hK.out _ _ ?_
   clear hK K
   repeat' (first|refine go1 ?_|refine za rfl ?_|(refine go2 fun A B a b=>?_;simp only [go_sem, *];(repeat' first|apply a.1|apply b.1|refine iteI (fun h=>?_) fun h=>?_)<;>clear a b A B))
   refine zM w'' ⟨hn3,hw3⟩ ?_ ⟨_,rfl⟩
   ((try simp only [zg,zi,zd,zf,List.set_cons_zero,List.set_cons_succ]);all_goals (first|rfl|(simp only [zn,zc,List.length_map,e1,e2];done)|(simp only [zn,zj,zc,List.length_map,List.length_append,List.length_cons,List.length_nil,Nat.zero_add,e1,e2];first|done|rfl)))
  ·rw [if_neg hdec] at hd2 hpv hhi
   subst hd2 hpv hhi
   have e1:¬Go.Sort.hintCode cp.2=2:=by intro e;cases hh:cp.2<;>rw [hh] at e hdec<;>simp [Go.Sort.hintCode] at e hdec
   clear hdec
   repeat' (first|refine go1 ?_|refine za rfl ?_|(refine go2 fun A B a b=>?_;simp only [go_sem, *];(repeat' first|apply a.1|apply b.1|refine iteI (fun h=>?_) fun h=>?_)<;>clear a b A B))
   refine zM w' ⟨hn,hw2⟩ ?_ ⟨_,rfl⟩
   ((try simp only [zg,zi,zd,zf,List.set_cons_zero,List.set_cons_succ]);all_goals (first|rfl|(simp only [zn,zj,zc,List.length_map,List.length_append,List.length_cons,List.length_nil,Nat.zero_add];first|done|rfl)))
 clear hd2 hpv hhi hch hw2 hn
 rintro w g H ⟨hn,hw⟩
 simp only [zo,zq,zd,zf,List.set_cons_zero,List.set_cons_succ]
 obtain⟨pi,hpi⟩:∃ x,(if (wb && wp && decide (hint=Go.Sort.Hint.increasing))=true then Go.Sort.partialInsertionSort ltE d2 a b else (d2,false))=x:=⟨_,rfl⟩
 simp only [hpi] at hR
 refine zce ?_
 refine zce ?_
 refine wpC_cut2 [61,62,63,64,65,66,67,68,69,70,71,72] (fun _:Nat=>[]) (fun w H=>A ++ .arr (rowsD pi.1) 1 w true::(C++H)) (fun w=>pi.1.size=n∧w≤n∧pi.2=false) ?_ ?_
 ·by_cases hc:(wb && wp && decide (hint=Go.Sort.Hint.increasing))=true
  ·rw [if_pos hc] at hpi
   simp only [Bool.and_eq_true,decide_eq_true_eq] at hc
   obtain⟨⟨rfl,rfl⟩,rfl⟩:=hc
   have e1:Go.Sort.hintCode Go.Sort.Hint.increasing=1:=rfl
   repeat' (first|refine go1 ?_|refine za rfl ?_|(refine go2 fun A B a b=>?_;simp only [go_sem, *];(repeat' first|apply a.1|apply b.1|refine iteI (fun h=>?_) fun h=>?_)<;>clear a b A B))
   refine zG fun K hK=>?_
   simp only [go_sem]
   refine EvR.mono (partE A (C++H) d2 n w a b hn hw (by omega) hb (by omega)) ?_
   rw [hpi]
   rintro _ S ⟨rfl,hL⟩
   obtain⟨w'',C'',hn3,hw3,rfl⟩:=left_shift hL
   refine hK.out _ _ ?_
   clear hK K
   obtain⟨d3,pb⟩:=pi
   cases pb with
   | true=>
    simp only [if_true] at hR
    subst hR
    repeat' (first|refine go1 ?_|refine za rfl ?_|(refine go2 fun A B a b=>?_;simp only [go_sem, *];(repeat' first|apply a.1|apply b.1|refine iteI (fun h=>?_) fun h=>?_)<;>clear a b A B))
    simp only [go_sem]
    exact⟨hn3,w'',_,hw3,rfl⟩
   | false=>
    repeat' (first|refine go1 ?_|refine za rfl ?_|(refine go2 fun A B a b=>?_;simp only [go_sem, *];(repeat' first|apply a.1|apply b.1|refine iteI (fun h=>?_) fun h=>?_)<;>clear a b A B))
    refine zM w'' ⟨hn3,hw3,rfl⟩ ?_ ⟨_,rfl⟩
    ((try simp only [zg,zi,zd,zf,List.set_cons_zero,List.set_cons_succ]);all_goals (first|rfl|(simp only [zn,zj,zc,List.length_map,List.length_append,List.length_cons,List.length_nil,Nat.zero_add];first|done|rfl)))
  ·rw [if_neg hc] at hpi
   subst hpi
   have e0:wb=true→wp=true→¬Go.Sort.hintCode hint=1:=by
    rintro rfl rfl e
    cases hint<;>simp [Go.Sort.hintCode] at hc e
   clear hc hR
   cases wb<;>cases wp
   all_goals
    try have e1:=e0 rfl rfl
    clear e0
    repeat' (first|refine go1 ?_|refine za rfl ?_|(refine go2 fun A B a b=>?_;simp only [go_sem, *];(repeat' first|apply a.1|apply b.1|refine iteI (fun h=>?_) fun h=>?_)<;>clear a b A B))
    refine zM w ⟨hn,hw,rfl⟩ ?_ ⟨_,rfl⟩
    ((try simp only [zg,zi,zd,zf,List.set_cons_zero,List.set_cons_succ]);all_goals (first|rfl|(simp only [zn,zj,zc,List.length_map,List.length_append,List.length_cons,List.length_nil,Nat.zero_add];first|done|rfl)))
 clear hpi hn hw w
 rintro w g H ⟨hn,hw,hpf⟩
 rw [hpf] at hR
 simp only [Bool.false_eq_true,if_false] at hR
 obtain⟨d3,hd3⟩:∃ x,pi.1=x:=⟨_,rfl⟩
 rw [hd3] at hR hn ⊢
 simp only [zo,zq,zd,zf,List.set_cons_zero,List.set_cons_succ]
 clear hd3 hpf
 have p1:a-1<n:=by omega
 have p2:pv<n:=by omega
 by_cases heq:(decide (a > 0) && !ltE d3[a-1]! d3[pv]!)=true
 ·rw [if_pos heq] at hR
  simp only [Bool.and_eq_true,decide_eq_true_eq,Bool.not_eq_true'] at heq
  obtain⟨ha0,hlt⟩:=heq
  have ha0':(0:Int)<(a:Int):=by omega
  have w1:IntKind.wrap .i64 ((a:Int)-1)=((a-1:Nat):Int):=by rw [zu (by omega) (by omega)];omega
  have hr:=peq_range a b (b-1+1-(a+1)) (a+1) (b-1) (Go.Sort.swp d3 a pv) (Nat.le_refl _) (by omega) (by omega)
  have hpe:Go.Sort.partitionEqual ltE d3 a b pv=Go.Sort.partEqLoop ltE a (a+1) (b-1) (Go.Sort.swp d3 a pv):=rfl
  rw [←hpe] at hr
  clear hpe
  repeat' (first|refine go1 ?_|refine za rfl ?_|(refine go2 fun A B a b=>?_;simp only [go_sem, *,zb,zm,idxD,rowsD_get,rowsD_len,rowsD_put,dropD,takeD,sizeD,(lessE _ _).rw,encE];(repeat' first|apply a.1|apply b.1|refine iteI (fun h=>?_) fun h=>?_)<;>clear a b A B))
  refine zG fun K hK=>?_
  simp only [go_sem]
  refine EvR.mono (partEqE A (C++H) d3 n w a b pv hn hw hpr.1 hpr.2 hb (by omega)) ?_
  obtain⟨⟨mid,d4⟩,hP⟩:∃ x,Go.Sort.partitionEqual ltE d3 a b pv=x:=⟨_,rfl⟩
  rw [hP] at hr ⊢
  simp only [hP] at hR hr
  rw [dif_pos (by omega)] at hR
  rintro _ S ⟨rfl,hL⟩
  obtain⟨w'',C'',hn3,hw3,rfl⟩:=left_shift hL
  refine hK.out _ _ ?_
  clear hK K
  repeat' (first|refine go1 ?_|refine za rfl ?_|(refine go2 fun A B a b=>?_;simp only [go_sem, *];(repeat' first|apply a.1|apply b.1|refine iteI (fun h=>?_) fun h=>?_)<;>clear a b A B))
  refine zy (mid,b,lim1,wb,wp,d4,w'') (by simp only;omega) ⟨hn3,hw3,by simp only;omega,hb,by simp only;omega,hlim',hR⟩ ?_ ⟨_,rfl⟩
  ((try simp only [zg,zi,zd,zf,List.set_cons_zero,List.set_cons_succ]);all_goals (first|rfl|(simp only [zn,zj,zc,List.length_map,List.length_append,List.length_cons,List.length_nil,Nat.zero_add];first|done|rfl)))
 ·rw [if_neg heq] at hR
  have hpr2:=Go.Sort.partition_holds ltE Go.Sort.swo_ltInt d3 a b pv hpr.1 hpr.2 (by omega)
  have hr:a≤(Go.Sort.partition ltE d3 a b pv).1∧(Go.Sort.partition ltE d3 a b pv).1<b:=⟨hpr2.1,hpr2.2.1⟩
  clear hpr2
  have w1:(0:Int)<(a:Int)→IntKind.wrap .i64 ((a:Int)-1)=((a-1:Nat):Int):=fun _=>by rw [zu (by omega) (by omega)];omega
  have hlt:(0:Int)<(a:Int)→ltE d3[a-1]! d3[pv]! = true:=fun h=>by
   simp only [Bool.and_eq_true,decide_eq_true_eq,Bool.not_eq_true',not_and] at heq
   simpa using heq (by omega)
  clear heq
  refine zce ?_
  refine zce ?_
  refine wpC_cut2 [13,73,74,75,76,77,78,79,80,81,82,83,84,85,86,87,88,89,90,91,92,93] (fun _:Nat=>[]) (fun _ H=>A ++ .arr (rowsD d3) 1 w true::(C++H)) (fun _=>True) ?_ ?_
  ·by_cases h0:(0:Int)<(a:Int)
   ·have w1:=w1 h0
    have hlt:=hlt h0
    repeat' (first|refine go1 ?_|refine za rfl ?_|(refine go2 fun A B a b=>?_;simp only [go_sem, *,zb,zm,idxD,rowsD_get,rowsD_len,rowsD_put,dropD,takeD,sizeD,(lessE _ _).rw,encE];(repeat' first|apply a.1|apply b.1|refine iteI (fun h=>?_) fun h=>?_)<;>clear a b A B))
    refine zM 0 trivial ?_ ⟨_,rfl⟩
    ((try simp only [zg,zi,zd,zf,List.set_cons_zero,List.set_cons_succ]);all_goals (first|rfl|(simp only [zn,zj,zc,List.length_map,List.length_append,List.length_cons,List.length_nil,Nat.zero_add];first|done|rfl)))
   ·clear w1 hlt
    repeat' (first|refine go1 ?_|refine za rfl ?_|(refine go2 fun A B a b=>?_;simp only [go_sem, *,zb,zm,idxD,rowsD_get,rowsD_len,rowsD_put,dropD,takeD,sizeD,(lessE _ _).rw,encE];(repeat' first|apply a.1|apply b.1|refine iteI (fun h=>?_) fun h=>?_)<;>clear a b A B))
    refine zM 0 trivial ?_ ⟨_,rfl⟩
    ((try simp only [zg,zi,zd,zf,List.set_cons_zero,List.set_cons_succ]);all_goals (first|rfl|(simp only [zn,zj,zc,List.length_map,List.length_append,List.length_cons,List.length_nil,Nat.zero_add];first|done|rfl)))
  clear w1 hlt
  rintro _ g H _
  simp only [zo,zq,zd,zf,List.set_cons_zero,List.set_cons_succ]
  repeat' (first|refine go1 ?_|refine za rfl ?_|(refine zt fun A B a b=>?_;simp only [go_sem, *];(repeat' first|apply a.1|refine iteI (fun h=>?_) fun h=>?_)<;>clear a b A B))
  refine zG fun K hK=>?_
  simp only [go_sem]
  refine EvR.mono (partitE A (C++H) d3 n w a b pv hn hw hpr.1 hpr.2 hb (by omega)) ?_
  obtain⟨⟨mid,ap,d4⟩,hP⟩:∃ x,Go.Sort.partition ltE d3 a b pv=x:=⟨_,rfl⟩
  rw [hP] at hr ⊢
  simp only [hP] at hR hr
  rw [dif_pos hr] at hR
  rintro _ S ⟨rfl,hL⟩
  obtain⟨w'',C'',hn3,hw3,rfl⟩:=left_shift hL
  refine hK.out _ _ ?_
  clear hK K
  have v1:IntKind.wrap .i64 ((mid:Int)-(a:Int))=((mid-a:Nat):Int):=by rw [zu (by omega) (by omega)];omega
  have v2:IntKind.wrap .i64 ((b:Int)-(mid:Int))=((b-mid:Nat):Int):=by rw [zu (by omega) (by omega)];omega
  have v3:IntKind.wrap .i64 (((b-a:Nat):Int).tdiv 8)=(((b-a) / 8:Nat):Int):=by rw [Int.tdiv_eq_ediv_of_nonneg (by omega),zu (by omega) (by omega)];omega
  have v4:¬(8:Int)=0:=by omega
  have v5:=zB (n:=mid) (by omega)
  by_cases hlr:mid-a<b-mid
  ·have hlr':((mid-a:Nat):Int)<((b-mid:Nat):Int):=by omega
   rw [if_pos hlr] at hR
   repeat' (first|refine go1 ?_|refine za rfl ?_|(refine go2 fun A B a b=>?_;simp only [go_sem, *];(repeat' first|apply a.1|apply b.1|refine iteI (fun h=>?_) fun h=>?_)<;>clear a b A B))
   refine zG fun K hK=>?_
   simp only [go_sem]
   refine EvR.mono (ih (mid-a) (by omega) A (C++C'') d4 n w'' a mid lim1 (Nat.le_refl _) hn3 hw3 hr.1 (by omega) hsm hlim') ?_
   rintro _ S ⟨rfl,hL2⟩
   obtain⟨w4,C4,hn4,hw4,rfl⟩:=left_shift hL2
   refine hK.out _ _ ?_
   clear hK K
   repeat' (first|refine go1 ?_|refine za rfl ?_|(refine go2 fun A B a b=>?_;simp only [go_sem, *];(repeat' first|apply a.1|apply b.1|refine iteI (fun h=>?_) fun h=>?_)<;>clear a b A B))
   refine zy (mid+1,b,lim1,decide (mid-a≥(b-a) / 8),ap,_,w4) (by simp only;omega) ⟨hn4,hw4,by simp only;omega,hb,by simp only;omega,hlim',hR⟩ ?_ ⟨_,rfl⟩
   have ed:decide ((((b-a) / 8:Nat):Int)≤((mid-a:Nat):Int))=decide (mid-a≥(b-a) / 8):=by simp only [ge_iff_le,Int.ofNat_le]
   ((try simp only [zg,zi,zd,zf,List.set_cons_zero,List.set_cons_succ]);all_goals (first|rfl|(simp only [zn,zc,List.length_map,ed];done)|(simp only [zn,zj,zc,List.length_map,List.length_append,List.length_cons,List.length_nil,Nat.zero_add,ed];first|done|rfl)))
  ·have hlr':¬((mid-a:Nat):Int)<((b-mid:Nat):Int):=by omega
   rw [if_neg hlr] at hR
   repeat' (first|refine go1 ?_|refine za rfl ?_|(refine go2 fun A B a b=>?_;simp only [go_sem, *];(repeat' first|apply a.1|apply b.1|refine iteI (fun h=>?_) fun h=>?_)<;>clear a b A B))
   refine zG fun K hK=>?_
   simp only [go_sem]
   refine EvR.mono (ih (b-(mid+1)) (by omega) A (C++C'') d4 n w'' (mid+1) b lim1 (Nat.le_refl _) hn3 hw3 (by omega) hb hsm hlim') ?_
   rintro _ S ⟨rfl,hL2⟩
   obtain⟨w4,C4,hn4,hw4,rfl⟩:=left_shift hL2
   refine hK.out _ _ ?_
   clear hK K
   repeat' (first|refine go1 ?_|refine za rfl ?_|(refine go2 fun A B a b=>?_;simp only [go_sem, *];(repeat' first|apply a.1|apply b.1|refine iteI (fun h=>?_) fun h=>?_)<;>clear a b A B))
   refine zy (a,mid,lim1,decide (b-mid≥(b-a) / 8),ap,_,w4) (by simp only;omega) ⟨hn4,hw4,hr.1,by simp only;omega,by simp only;omega,hlim',hR⟩ ?_ ⟨_,rfl⟩
   have ed:decide ((((b-a) / 8:Nat):Int)≤((b-mid:Nat):Int))=decide (b-mid≥(b-a) / 8):=by simp only [ge_iff_le,Int.ofNat_le]
   ((try simp only [zg,zi,zd,zf,List.set_cons_zero,List.set_cons_succ]);all_goals (first|rfl|(simp only [zn,zc,List.length_map,ed];done)|(simp only [zn,zj,zc,List.length_map,List.length_append,List.length_cons,List.length_nil,Nat.zero_add,ed];first|done|rfl)))

/- slices.Sort, slices.Collect, slices.Sorted at ints. -/
open Go.Proofs
attribute [local go_sem] ty108 br118 br119 fz56 fz57 nilsK fz188 fz245 br132 fz55
set_option maxRecDepth 20000
set_option maxHeartbeats 4000000

theorem rowsD_toList (d:Array Int):rowsD d=ints d.toList:=rfl

theorem sortE (A C:Store) (d:Array El) (n w:Nat) (hn:d.size=n) (hw:w≤n) (hsm:n<4294967296) :
  EvR CX 119 [.sl A.length n 0 n 1] (A ++ .arr (rowsD d) 1 w true::C) (fun v S=>v = .tup []∧Left A C n (Go.Sort.sort ltE d) S):=by
 have w1:=wrapU64 (n:=n) (by omega)
 have q:=(lenE n hsm).rw
 have hk:=(Go.Sort.bitsLen_le_iff n 32).2 (by omega)
 refine EvR.walk rfl fn119 rfl nt119 rfl ?_
 simp only [List.length_cons,List.length_nil,List.cons_append,List.nil_append,Nat.reduceAdd,Nat.reduceSub,List.replicate]
 repeat' (first|refine go1 ?_|refine za rfl ?_|(refine go2 fun A B a b=>?_;simp only [go_sem, *,zx,zw ty3 zbF rfl,zbV];(repeat' first|apply a.1|apply b.1|refine iteI (fun h=>?_) fun h=>?_)<;>clear a b A B))
 refine zG fun K hK=>?_
 simp only [go_sem,zx,zw ty3 zbF rfl]
 refine EvR.mono (pdqE n A C d n w 0 n (Go.Sort.bitsLen n) (by omega) hn hw (Nat.zero_le _) (Nat.le_refl _) hsm (by omega)) ?_
 have e:Go.Sort.sort ltE d=Go.Sort.pdq ltE d 0 n (Go.Sort.bitsLen n) true true:=by rw [Go.Sort.sort,hn]
 rw [←e]
 rintro _ S ⟨rfl,hL⟩
 refine hK.out _ _ ?_
 clear hK K
 repeat' (first|refine go1 ?_|refine za rfl ?_|(refine go2 fun A B a b=>?_;simp only [go_sem, *,zx,zw ty3 zbF rfl];(repeat' first|apply a.1|apply b.1|refine iteI (fun h=>?_) fun h=>?_)<;>clear a b A B))
 simp only [go_sem,zx,zw ty3 zbF rfl]
 exact hL

theorem insNil (S:Store):EvR CX 150 [.flat (.slice none 0 0),.int .i64 0,.int .i64 (0:Nat)] S (fun v S'=>v = .tup []∧S'=S):=by
 have w1:IntKind.wrap .i64 (0+1)=1:=rfl
 refine EvR.walk rfl fn150 rfl nt150 rfl ?_
 simp only [List.length_cons,List.length_nil,List.cons_append,List.nil_append,Nat.reduceAdd,Nat.reduceSub,List.replicate]
 repeat' (first|refine go1 ?_|refine za rfl ?_|(refine go2 fun A B a b=>?_;simp only [go_sem, *];(repeat' first|apply a.1|apply b.1|refine iteI (fun h=>?_) fun h=>?_)<;>clear a b A B))
 refine zN [7,10,11,12,13,14,15,16,17,18,19,20,21,22,23,24,25,26,27,28,29,30,31,32,33,34,35,36,37,38,39,40,41,42,43,44,45,46,47,48] (fun _:Nat=>[(6,.int .i64 1)]) (fun _ _=>S) (fun _=>True) (fun p=>p) 0 trivial ?_ ?_ ?_
 ·rfl
 ·exact⟨[],rfl⟩
 rintro _ g G _
 have z:¬(1:Int)<((0:Nat):Int):=by omega
 simp only [zo,zq,zd,zf,List.set_cons_zero,List.set_cons_succ]
 repeat' (first|refine go1 ?_|refine za rfl ?_|(refine go2 fun A B a b=>?_;simp only [go_sem, *];(repeat' first|apply a.1|apply b.1|refine iteI (fun h=>?_) fun h=>?_)<;>clear a b A B))
 simp only [go_sem]

theorem pdqNil (S:Store):EvR CX 133 [.flat (.slice none 0 0),.int .i64 0,.int .i64 (0:Nat),.int .i64 (0:Nat)] S (fun v S'=>v = .tup []∧S'=S):=by
 have w1:IntKind.wrap .i64 (((0:Nat):Int)-0)=0:=rfl
 refine EvR.walk rfl fn133 rfl nt133 rfl ?_
 simp only [List.length_cons,List.length_nil,List.cons_append,List.nil_append,Nat.reduceAdd,Nat.reduceSub,List.replicate]
 repeat' (first|refine go1 ?_|refine za rfl ?_|(refine go2 fun A B a b=>?_;simp only [go_sem, *];(repeat' first|apply a.1|apply b.1|refine iteI (fun h=>?_) fun h=>?_)<;>clear a b A B))
 refine zN [10,11,12,13,14,15,16,17,18,19,20,21,22,23,24,25,26,27,28,29,30,31,32,33,34,35,36,37,38,39,40,41,42,43,44,45,46,47,48,49,50,51,52,53,54,55,56,57,58,59,60,61,62,63,64,65,66,67,68,69,70,71,72,73,74,75,76,77,78,79,80,81,82,83,84,85,86,87,88,89,90,91,92,93,94,95,96,97,98,99,100,101,102,103,104,105,106,107,108,109,110,111,112,113,114,115,116,117,118,119,120,121,122,123,124,125,126,127,128,129,130,131,132,133] (fun _:Nat=>[]) (fun _ _=>S) (fun _=>True) (fun p=>p) 0 trivial ?_ ?_ ?_
 ·rfl
 ·exact⟨[],rfl⟩
 rintro _ g G _
 have z:(0:Int)≤12:=by omega
 simp only [zo,zq,zd,zf,List.set_cons_zero,List.set_cons_succ]
 repeat' (first|refine go1 ?_|refine za rfl ?_|(refine go2 fun A B a b=>?_;simp only [go_sem, *];(repeat' first|apply a.1|apply b.1|refine iteI (fun h=>?_) fun h=>?_)<;>clear a b A B))
 refine zG fun K hK=>?_
 simp only [go_sem]
 refine EvR.mono (insNil S) ?_
 rintro _ _ ⟨rfl,rfl⟩
 refine hK.out _ _ ?_
 clear hK K
 repeat' (first|refine go1 ?_|refine za rfl ?_|(refine go2 fun A B a b=>?_;simp only [go_sem, *];(repeat' first|apply a.1|apply b.1|refine iteI (fun h=>?_) fun h=>?_)<;>clear a b A B))
 simp only [go_sem]

theorem sortNil (S:Store):EvR CX 119 [.flat (.slice none 0 0)] S (fun v S'=>v = .tup []∧S'=S):=by
 have w1:=wrapU64 (n:=0) (by omega)
 have q:=(lenE 0 (by omega)).rw
 have e:Go.Sort.bitsLen 0=0:=rfl
 rw [e] at q
 refine EvR.walk rfl fn119 rfl nt119 rfl ?_
 simp only [List.length_cons,List.length_nil,List.cons_append,List.nil_append,Nat.reduceAdd,Nat.reduceSub,List.replicate]
 repeat' (first|refine go1 ?_|refine za rfl ?_|(refine go2 fun A B a b=>?_;simp only [go_sem, *,zx,zw ty3 zbF rfl,zcF];(repeat' first|apply a.1|apply b.1|refine iteI (fun h=>?_) fun h=>?_)<;>clear a b A B))
 refine zG fun K hK=>?_
 simp only [go_sem,zx,zw ty3 zbF rfl]
 refine EvR.mono (pdqNil S) ?_
 rintro _ _ ⟨rfl,rfl⟩
 refine hK.out _ _ ?_
 clear hK K
 repeat' (first|refine go1 ?_|refine za rfl ?_|(refine go2 fun A B a b=>?_;simp only [go_sem, *,zx,zw ty3 zbF rfl];(repeat' first|apply a.1|apply b.1|refine iteI (fun h=>?_) fun h=>?_)<;>clear a b A B))
 simp only [go_sem,zx,zw ty3 zbF rfl]

def outV (l:List Int):AV:=if l = [] then .flat (.slice none 0 0) else .osl 1 (ints l)

theorem intsOf_ints:∀ l:List Int,intsOf (ints l)=some l
 | []=>rfl
 | x::l=>by
  have:=intsOf_ints l
  simp only [ints,List.map_cons,intsOf] at this ⊢
  rw [this]

theorem seqInts_sls {v:AV}{l:List Int}(h:SLs 1 (ints l) v):seqInts v=some l:=by
 cases h with
 | rows st=>exact intsOf_ints l
 | esl h=>
  have:l = []:=by simpa [ints] using h
  subst this;rfl
 | nil h=>
  have:l = []:=by simpa [ints] using h
  subst this;rfl

theorem seqE (v:AV) (l:List Int) (st:Bool) (hv:SLs 1 (ints l) v) (hl:l.length≤1099511627776):EvV CX 132 [.flat (.slice none 0 0),.fn 120 [.tptr st [v] 0]] (· = outV l):=by
 by_cases h:l = []
 ·subst h
  refine EvV.prim (r := .flat (.slice none 0 0)) (S:=[]) rfl ?_ rfl
  simp only [primSeq,seqInts_sls hv]
  rfl
 ·have h0:¬l.length=0:=by simpa using h
  refine EvV.prim (r := .sl 0 l.length 0 l.length 1) (S:=[.arr (ints l) 1 0 true]) rfl ?_ ?_
  ·simp only [primSeq,seqInts_sls hv,if_true,if_pos hl,if_neg h0]
   rfl
  ·simp only [outV,if_neg h]
   simp [exportA,idsOK,ownIds,lentIds,expTop,zc]

theorem colE (v:AV) (l:List Int) (st:Bool) (hv:SLs 1 (ints l) v) (hl:l.length≤1099511627776):EvV CX 118 [.fn 120 [.tptr st [v] 0]] (· = outV l):=by
 have q:=(seqE v l st hv hl).rw
 have hs:∀ S,snap S (.tptr st [v] 0)=some (.tptr st [v] 0):=fun S=>by simp only [snap]
 by_cases h:l = []
 ·subst h
  have e:outV [] = .flat (.slice none 0 0):=rfl
  rw [e] at q ⊢
  have ha:∀ id,adoptA id (.flat (.slice none 0 0))=(.flat (.slice none 0 0),[]):=fun _=>rfl
  refine EvV.walk rfl fn118 rfl nt118 rfl ?_
  simp only [List.length_cons,List.length_nil,List.cons_append,List.nil_append,Nat.reduceAdd,Nat.reduceSub,List.replicate]
  repeat' (first|refine go1 ?_|refine za rfl ?_|(refine go2 fun A B a b=>?_;simp only [go_sem, *,zk ty29 rfl];(repeat' first|apply a.1|apply b.1|refine iteI (fun h=>?_) fun h=>?_)<;>clear a b A B))
  simp only [go_sem,zk ty29 rfl]
  simp [expK,exportA,idsOK,ownIds,expTop,AV.stab]
 ·have e:outV l = .osl 1 (ints l):=by rw [outV,if_neg h]
  rw [e] at q ⊢
  refine EvV.walk rfl fn118 rfl nt118 rfl ?_
  simp only [List.length_cons,List.length_nil,List.cons_append,List.nil_append,Nat.reduceAdd,Nat.reduceSub,List.replicate]
  repeat' (first|refine go1 ?_|refine za rfl ?_|(refine go2 fun A B a b=>?_;simp only [go_sem, *,zk ty29 rfl];(repeat' first|apply a.1|apply b.1|refine iteI (fun h=>?_) fun h=>?_)<;>clear a b A B))
  simp only [go_sem,zk ty29 rfl,zc]
  simp

def srt (l:List Int):List Int:=l.mergeSort fun x y=>decide (x≤y)
theorem srt_len (l:List Int):(srt l).length=l.length:=by simp [srt]
theorem srt_nil (l:List Int):srt l = []↔l = []:=by
 rw [←List.length_eq_zero_iff,srt_len,List.length_eq_zero_iff]

theorem srtE (v:AV) (l:List Int) (st:Bool) (hv:SLs 1 (ints l) v) (hl:l.length<4294967296):EvV CX 86 [.fn 120 [.tptr st [v] 0]] (· = outV (srt l)):=by
 have q:=(colE v l st hv (by omega)).rw
 have hs:∀ S,snap S (.tptr st [v] 0)=some (.tptr st [v] 0):=fun S=>by simp only [snap]
 by_cases h:l = []
 ·subst h
  have e:outV [] = .flat (.slice none 0 0):=rfl
  have e':outV (srt []) = .flat (.slice none 0 0):=by simp [outV,srt]
  rw [e] at q
  rw [e']
  have ha:∀ id,adoptA id (.flat (.slice none 0 0))=(.flat (.slice none 0 0),[]):=fun _=>rfl
  refine EvV.walk rfl fn86 rfl nt86 rfl ?_
  simp only [List.length_cons,List.length_nil,List.cons_append,List.nil_append,Nat.reduceAdd,Nat.reduceSub,List.replicate]
  repeat' (first|refine go1 ?_|refine za rfl ?_|(refine zt fun A B a b=>?_;simp only [go_sem, *,zk ty29 rfl];(repeat' first|apply a.1|refine iteI (fun h=>?_) fun h=>?_)<;>clear a b A B))
  refine zG fun K hK=>?_
  simp only [go_sem,zk ty29 rfl]
  refine EvR.mono (sortNil _) ?_
  rintro _ _ ⟨rfl,rfl⟩
  refine hK.out _ _ ?_
  clear hK K
  repeat' (first|refine go1 ?_|refine za rfl ?_|(refine go2 fun A B a b=>?_;simp only [go_sem, *,zk ty29 rfl];(repeat' first|apply a.1|apply b.1|refine iteI (fun h=>?_) fun h=>?_)<;>clear a b A B))
  simp only [go_sem,zk ty29 rfl]
  simp [expK,exportA,idsOK,ownIds,expTop,AV.stab]
 ·have e:outV l = .osl 1 (ints l):=by rw [outV,if_neg h]
  have e':outV (srt l) = .osl 1 (ints (srt l)):=by rw [outV,if_neg (by rw [srt_nil];exact h)]
  rw [e] at q
  rw [e']
  refine EvV.walk rfl fn86 rfl nt86 rfl ?_
  simp only [List.length_cons,List.length_nil,List.cons_append,List.nil_append,Nat.reduceAdd,Nat.reduceSub,List.replicate]
  repeat' (first|refine go1 ?_|refine za rfl ?_|(refine zt fun A B a b=>?_;simp only [go_sem, *,zk ty29 rfl];(repeat' first|apply a.1|refine iteI (fun h=>?_) fun h=>?_)<;>clear a b A B))
  have hsz:l.toArray.size=l.length:=by simp
  have hso:(Go.Sort.sort ltE l.toArray).toList=srt l:=Go.Sort.sortInt l
  refine zG fun K hK=>?_
  simp only [go_sem,zk ty29 rfl]
  simp only [zc]
  refine EvR.mono (sortE [.arr [] 1 0 true] [] l.toArray l.length 0 hsz (Nat.zero_le _) hl) ?_
  rintro _ S ⟨rfl,hL⟩
  obtain⟨h1,w',C',hw',rfl⟩:=hL
  have e2:rowsD (Go.Sort.sort ltE l.toArray)=ints (srt l):=by rw [rowsD_toList,hso]
  rw [SB,e2]
  refine hK.out _ _ ?_
  clear hK K
  repeat' (first|refine go1 ?_|refine za rfl ?_|(refine go2 fun A B a b=>?_;simp only [go_sem, *,zk ty29 rfl];(repeat' first|apply a.1|apply b.1|refine iteI (fun h=>?_) fun h=>?_)<;>clear a b A B))
  simp only [go_sem,zk ty29 rfl,zc,srt_len]
  simp [hw']

/- slices.Compact at ints, num.Sorted. -/
open Go.Proofs
attribute [local go_sem] br85 br86 br87 fz118 ty107 br120
set_option maxRecDepth 20000
set_option maxHeartbeats 4000000

def dedup:List Int→List Int
 | []=>[]
 | [x]=>[x]
 | x::y::l=>if x=y then dedup (y::l) else x::dedup (y::l)

theorem wpK_clear {X:Ctx}{d:Bool}{dst:Option Tmp}{ty:TypeId}{pos:String}{after:Array Edge}{g:Option (Nat×Bool)}{K:List AV→Store→Prop}{fr:List AV}{S:Store}{s:Operand}{t el:TypeId}{i ei:TyI}{b e off len sz wep:Nat}{rows:List (List AV)}{pr:Bool}
  (ht:X.ty t=some i) (hd:i.desc = .slice el) (he:X.ty el=some ei) (hs:evalA fr s = .sl b e off len sz) (hb:S[b]? = some (.arr rows sz wep pr))
  (h1:rows.length=e) (h2:wep≤e) (h3:sz=ei.size) (h4:ei.zero.length=sz) (h5:off+len≤e) (h6:len≠0)
  (hk:K (putA fr dst (.tup [])) (S.set b (.arr (rows.take off++List.replicate len ei.zero++rows.drop (off+len)) sz e pr))) :
  wpK X d ⟨dst,.call ⟨.builtin .clear,⟨[s]⟩,⟨[t]⟩⟩,ty,pos,after,g⟩ dst K fr S:=by
 obtain⟨a,bb,c,z,dd⟩:=i
 simp only at hd;subst hd
 rw [wpK_eop rfl rfl rfl rfl rfl]
 simp only [eopA,ht,hs,he,hb]
 rw [if_pos ⟨h1,h2,h3,trivial,h4,h5⟩,if_neg h6]
 exact hk

theorem idxS {b n off len j:Nat}{k:IntKind}(h:j<len):indexAddrA CX 29 (.sl b n off len 1) (.int k j)=some (.ptr b n 1 (off+j) 0):=by
 have:(j:Int)<len:=by omega
 simp [indexAddrA,ty29,ty3,this]
theorem slcFrom {b n i:Nat}{k:IntKind}(h0:0<i) (h:i<n):sliceA CX 29 (.sl b n 0 n 1) (some (.int k i)) none none=some (.sl b n i (n-i) 1):=by
 have h1:¬i=0:=by omega
 have h2:¬i=n:=by omega
 have h3:i≤n:=by omega
 simp [sliceA,ty29,ty3,boundA,h1,h2,h3]
theorem slcTo {b n i:Nat}{k:IntKind}(h:i≤n):sliceA CX 29 (.sl b n 0 n 1) none (some (.int k i)) none=some (.sl b n 0 i 1):=by
 simp [sliceA,ty29,ty3,boundA,h]

def fromA (d:Array Int) (i:Nat):List Int:=d.toList.drop i
theorem zcb {d:Array Int}{i:Nat}(h:i<d.size):fromA d i=d[i]! :: fromA d (i+1):=by
 unfold fromA
 rw [List.drop_eq_getElem_cons (by simpa using h)]
 simp [h]
theorem fromA_end {d:Array Int}{i:Nat}(h:d.size≤i):fromA d i = []:=by simp [fromA,h]

theorem dedup_head (x:Int) (l:List Int):dedup (x::l)=x::(dedup (x::l)).tail:=by
 induction l generalizing x with
 | nil=>rfl
 | cons y l ih=>
  rw [dedup]
  split
  ·rename_i h;subst h;exact ih x
  ·rfl

theorem take_set {l:List Int}{i:Nat}{x:Int}(h:i<l.length):(l.set i x).take (i+1)=l.take i++[x]:=by
 rw [List.take_add_one,List.take_set_of_le (Nat.le_refl _)];simp [h]

theorem compE (A C:Store) (d:Array El) (n w:Nat) (hn:d.size=n) (hw:w≤n) (hsm:n<4294967296) :
  EvR CX 85 [.sl A.length n 0 n 1] (A ++ .arr (rowsD d) 1 w true::C)
   (fun v S=> ∃ k d' w' C',v = .sl A.length n 0 k 1∧k≤n∧d'.size=n∧w'≤n∧S=A ++ .arr (rowsD d') 1 w' true::(C++C')∧d'.toList.take k=dedup d.toList∧(k=n→d'=d)):=by
 by_cases h2:n<2
 ·have h2':(n:Int)<2:=by omega
  refine EvR.walk rfl fn85 rfl nt85 rfl ?_
  simp only [List.length_cons,List.length_nil,List.cons_append,List.nil_append,Nat.reduceAdd,Nat.reduceSub,List.replicate]
  repeat' (first|refine go1 ?_|refine za rfl ?_|(refine go2 fun A B a b=>?_;simp only [go_sem, *,zk ty29 rfl,zbV,List.append_assoc];(repeat' first|apply a.1|apply b.1|refine iteI (fun h=>?_) fun h=>?_)<;>clear a b A B))
  simp only [go_sem,zk ty29 rfl]
  refine⟨n,d,w,[.arr [] 1 0 true],rfl,Nat.le_refl _,hn,hw,rfl,?_,fun _=>rfl⟩
  rw [List.take_of_length_le (by simp [hn])]
  obtain⟨l⟩:=d
  match l,hn with
  | [],_=>rfl
  | [x],_=>rfl
  | x::y::l,hn=>simp at hn;omega
 have h2':¬(n:Int)<2:=by omega
 refine EvR.walk rfl fn85 rfl nt85 rfl ?_
 simp only [List.length_cons,List.length_nil,List.cons_append,List.nil_append,Nat.reduceAdd,Nat.reduceSub,List.replicate]
 repeat' (first|refine go1 ?_|refine za rfl ?_|(refine go2 fun A B a b=>?_;simp only [go_sem, *,zk ty29 rfl,zbV,List.append_assoc];(repeat' first|apply a.1|apply b.1|refine iteI (fun h=>?_) fun h=>?_)<;>clear a b A B))
 refine zN [2,4,5,10,11,12,13,14,15,16,17,18,19,20,21,22,23,24,25,26,27,28,29,30,31,32,33,34,35,36,37,38,39,40,41,42,43,44,45,46,47,48,49,50,51,52,53,54,55,56,57,58,59] (fun i:Nat=>[(3,.int .i64 i)]) (fun _ G=>A ++ .arr (rowsD d) 1 w true::(C++G))
  (fun i=>0<i∧i≤n∧dedup d.toList=d.toList.take (i-1)++dedup (fromA d (i-1))) (fun i=>n-i) 1 ⟨by omega,by omega,by simp [fromA]⟩ ?_ ?_ ?_
 ·rfl
 ·exact⟨[.arr [] 1 0 true],rfl⟩
 rintro i g G ⟨hi0,hin,hE⟩
 simp only [zo,zq,zd,zf,List.set_cons_zero,List.set_cons_succ]
 by_cases hlt:i<n
 ·have hlt':(i:Int)<(n:Int):=by omega
  have w1:IntKind.wrap .i64 ((i:Int)-1)=((i-1:Nat):Int):=by rw [zu (by omega) (by omega)];omega
  have w2:=zB (n:=i) (by omega)
  have j1:i-1<n:=by omega
  have e0:fromA d (i-1)=d[i-1]! :: d[i]! :: fromA d (i+1):=by
   rw [zcb (by omega),show i-1+1=i by omega,zcb (by omega)]
  by_cases heq:d[i]! = d[i-1]!
  ·have s1:=slcFrom (b:=A.length) (n:=n) (i:=i) (k := .i64) hi0 hlt
   have hh:Hold (d[i]! = d[i-1]!):=⟨heq⟩
   have heq':(d[i]! == d[i-1]!)=true:=by simpa using heq
   clear heq
   repeat' (first|refine go1 ?_|refine za rfl ?_|(refine zt fun A B a b=>?_;simp only [go_sem, *,zk ty29 rfl,zbV,zb,zm,idxD,rowsD_get,rowsD_len,rowsD_put,dropD,takeD,sizeD,encE];(repeat' first|apply a.1|refine iteI (fun h=>?_) fun h=>?_)<;>clear a b A B))
   (refine zY fun A B hA hB=>?_;simp only [go_sem, *,zk ty29 rfl,zbV,zb,zm,idxD,rowsD_get,rowsD_len,rowsD_put,dropD,takeD,sizeD,encE];first|(refine hA.out ?_;clear hA hB A B)|(refine hB.out ?_;clear hA hB A B))
   repeat' (first|refine go1 ?_|refine za rfl ?_|(refine zt fun A B a b=>?_;simp only [go_sem, *,zk ty29 rfl,zbV,zb,zm,idxD,rowsD_get,rowsD_len,rowsD_put,dropD,takeD,sizeD,encE,heq'];(repeat' first|apply a.1|refine iteI (fun h=>?_) fun h=>?_)<;>clear a b A B))
   (refine zY fun A B hA hB=>?_;simp only [go_sem, *,zk ty29 rfl,zbV,zb,zm,idxD,rowsD_get,rowsD_len,rowsD_put,dropD,takeD,sizeD,encE];first|(refine hA.out ?_;clear hA hB A B)|(refine hB.out ?_;clear hA hB A B))
   repeat' (first|refine go1 ?_|refine za rfl ?_|(refine zt fun A B a b=>?_;simp only [go_sem, *,zk ty29 rfl,zbV,zb,zm,idxD,rowsD_get,rowsD_len,rowsD_put,dropD,takeD,sizeD,encE,heq'];(repeat' first|apply a.1|refine iteI (fun h=>?_) fun h=>?_)<;>clear a b A B))
   have heq:=hh.out
   have hE1:dedup d.toList=d.toList.take i++(dedup (fromA d i)).tail:=by
    have e1:dedup (fromA d (i-1))=dedup (fromA d i):=by
     rw [e0,heq,dedup,if_pos rfl,zcb (d:=d) (i:=i) (by omega),heq]
    rw [hE,e1]
    have:d.toList.take i=d.toList.take (i-1)++[d[i-1]!]:=by
     conv=>lhs;rw [show i=i-1+1 by omega]
     rw [List.take_add_one];simp [show i-1<d.size by omega]
    rw [this,List.append_assoc,zcb (d:=d) (i:=i) (by omega),heq]
    conv=>lhs;rw [dedup_head]
    rfl
   refine zN [29,30,31,32,33,34,35,36,37,38,39,40,41,42,43,44,45,46,47,48,49,50,51,52,53] (fun p:Nat×Nat×Array Int×Nat=>[(3,.int .i64 p.1),(5,.int .i64 p.2.1)]) (fun p H=>A ++ .arr (rowsD p.2.2.1) 1 p.2.2.2 true::(C++H))
    (fun p=>i≤p.1∧1≤p.2.1∧p.1+1≤i+p.2.1∧p.2.1≤n-i∧p.2.2.1.size=n∧p.2.2.2≤n∧(∀ j,i+p.2.1≤j+1→j<n→p.2.2.1[j]! = d[j]!)∧dedup d.toList=p.2.2.1.toList.take p.1++(dedup (fromA d (i+p.2.1-1))).tail)
    (fun p=>n-p.2.1) (i,1,d,w) ⟨Nat.le_refl _,Nat.le_refl _,by simp only;omega,by simp only;omega,hn,hw,fun _ _ _=>rfl,hE1⟩ ?_ ?_ ?_
   ·rfl
   ·exact⟨_,rfl⟩
   clear hE hE1
   rintro⟨i',k,d',w'⟩ g H ⟨hi1,hk1,hik,hkn,hn',hw',hag,hE⟩
   simp only at hi1 hk1 hik hkn hn' hw' hag hE
   simp only [zo,zq,zd,zf,List.set_cons_zero,List.set_cons_succ]
   have i1:i'<n:=by omega
   by_cases hk:k<n-i
   ·have hk':(k:Int)<((n-i:Nat):Int):=by omega
    have y1:IntKind.wrap .i64 ((k:Int)-1)=((k-1:Nat):Int):=by rw [zu (by omega) (by omega)];omega
    have y2:=zB (n:=k) (by omega)
    have y3:=zB (n:=i') (by omega)
    have y4:k-1<n-i:=by omega
    have y5:i+k<n:=by omega
    have y6:i+(k-1)<n:=by omega
    have g1:=hag (i+k) (by omega) y5
    have g2:=hag (i+(k-1)) (by omega) y6
    have f1:fromA d (i+k-1)=d[i+(k-1)]! :: d[i+k]! :: fromA d (i+k+1):=by
     rw [zcb (by omega),show i+k-1+1=i+k by omega,zcb (by omega),show i+k-1=i+(k-1) by omega]
    have f2:fromA d (i+(k+1)-1)=d[i+k]! :: fromA d (i+k+1):=by
     rw [show i+(k+1)-1=i+k by omega,zcb (by omega)]
    obtain⟨x,hx⟩:∃ x,d[i+(k-1)]! = x:=⟨_,rfl⟩
    obtain⟨y,hy⟩:∃ y,d[i+k]! = y:=⟨_,rfl⟩
    rw [hx] at f1 g2
    rw [hy] at f1 f2 g1
    clear hx hy heq heq' hh
    rw [f1] at hE
    by_cases hxy:y=x
    ·subst hxy
     repeat' (first|refine go1 ?_|refine za rfl ?_|(refine go2 fun A B a b=>?_;simp only [go_sem, *,zk ty29 rfl,zbV,idxS,zb,zm,idxD,rowsD_get,rowsD_len,rowsD_put,dropD,takeD,sizeD,encE,beq_self_eq_true];(repeat' first|apply a.1|apply b.1|refine iteI (fun h=>?_) fun h=>?_)<;>clear a b A B))
     refine zy (i',k+1,d',w') (by simp only;omega) ⟨hi1,by simp only;omega,by simp only;omega,by simp only;omega,hn',hw',fun j h1 h2=>hag j (by simp only at h1;omega) h2,?_⟩ ?_ ⟨_,rfl⟩
     ·simp only [f2]
      rw [hE,dedup,if_pos rfl]
     ·((try simp only [zg,zi,zd,zf,List.set_cons_zero,List.set_cons_succ]);all_goals (first|rfl|(simp only [zn,zj,zc,List.length_map,List.length_append,List.length_cons,List.length_nil,Nat.zero_add];first|done|rfl)))
    ·have hxy':(y == x)=false:=by simpa using hxy
     have hxy2:¬x=y:=fun e=>hxy e.symm
     have hh2:Hold (¬y=x):=⟨hxy⟩
     clear hxy
     repeat' (first|refine go1 ?_|refine za rfl ?_|(refine go2 fun A B a b=>?_;simp only [go_sem, *,zk ty29 rfl,zbV,idxS,zb,zm,idxD,rowsD_get,rowsD_len,rowsD_put,dropD,takeD,sizeD,encE,hxy'];(repeat' first|apply a.1|apply b.1|refine iteI (fun h=>?_) fun h=>?_)<;>clear a b A B))
     refine zy (i'+1,k+1,d'.setIfInBounds i' y,n) (by simp only;omega) ⟨by simp only;omega,by simp only;omega,by simp only;omega,by simp only;omega,by simp [hn'],Nat.le_refl _,fun j h1 h2=>?_,?_⟩ ?_ ⟨_,rfl⟩
     ·simp only at h1
      have:(d'.setIfInBounds i' y)[j]! = d'[j]! := by
       have hne:i'≠j:=by omega
       simp [Array.getElem!_eq_getD,Array.getD,hn',h2,Array.getElem_setIfInBounds_ne,hne]
      rw [this];exact hag j (by omega) h2
     ·simp only [f2]
      rw [hE,dedup,if_neg hxy2,List.tail_cons,Array.toList_setIfInBounds,take_set (by simp;omega),List.append_assoc]
      conv=>lhs;rw [dedup_head]
      rfl
     ·((try simp only [zg,zi,zd,zf,List.set_cons_zero,List.set_cons_succ]);all_goals (first|rfl|(simp only [zn,zj,zc,List.length_map,List.length_append,List.length_cons,List.length_nil,Nat.zero_add];first|done|rfl)))
   ·have hk':¬(k:Int)<((n-i:Nat):Int):=by omega
    have hkk:i+k-1=n-1:=by omega
    have s2:=slcFrom (b:=A.length) (n:=n) (i:=i') (k := .i64) (by omega) i1
    have s3:=slcTo (b:=A.length) (n:=n) (i:=i') (k := .i64) (by omega)
    have hE2:dedup d.toList=d'.toList.take i':=by
     rw [hE,hkk,zcb (d:=d) (i:=n-1) (by omega),fromA_end (d:=d) (by omega)]
     simp [dedup]
    clear heq heq' hh
    repeat' (first|refine go1 ?_|refine za rfl ?_|(refine zt fun A B a b=>?_;simp only [go_sem, *,zk ty29 rfl,zbV];(repeat' first|apply a.1|refine iteI (fun h=>?_) fun h=>?_)<;>clear a b A B))
    (refine zY fun A B hA hB=>?_;simp only [go_sem, *,zk ty29 rfl];first|(refine hA.out ?_;clear hA hB A B)|(refine hB.out ?_;clear hA hB A B))
    repeat' (first|refine go1 ?_|refine za rfl ?_|(refine zt fun A B a b=>?_;simp only [go_sem, *,zk ty29 rfl,zbV];(repeat' first|apply a.1|refine iteI (fun h=>?_) fun h=>?_)<;>clear a b A B))
    refine zG fun K hK=>?_
    simp only [zbD]
    refine wpK_clear ty29 rfl ty3 rfl (zb.trans rfl) (by rw [rowsD_len];exact hn') hw' rfl rfl (by omega) (by omega) ?_
    refine hK.out _ _ ?_
    clear hK K
    have ed:(rowsD d').take i'++List.replicate (n-i') [AV.int .i64 0]++(rowsD d').drop (i'+(n-i'))=rowsD (d'.toList.take i'++List.replicate (n-i') 0).toArray:=by
     rw [List.drop_of_length_le (by rw [rowsD_len];omega)]
     simp [rowsD,encE,List.map_take]
    simp only [zm,List.set_cons_zero,ed]
    repeat' (first|refine go1 ?_|refine za rfl ?_|(refine go2 fun A B a b=>?_;simp only [go_sem, *,zk ty29 rfl,zbV];(repeat' first|apply a.1|apply b.1|refine iteI (fun h=>?_) fun h=>?_)<;>clear a b A B))
    simp only [go_sem,zk ty29 rfl]
    refine⟨i',(d'.toList.take i'++List.replicate (n-i') 0).toArray,n,H,rfl,by omega,by simp [hn'];omega,Nat.le_refl _,rfl,?_,fun e=>by omega⟩
    rw [hE2]
    show (d'.toList.take i'++List.replicate (n-i') 0).take i'=_
    rw [List.take_append_of_le_length (by simp [hn'];omega),List.take_take,Nat.min_self]
  ·repeat' (first|refine go1 ?_|refine za rfl ?_|(refine go2 fun A B a b=>?_;simp only [go_sem, *,zk ty29 rfl,zbV,zb,zm,idxD,rowsD_get,rowsD_len,rowsD_put,dropD,takeD,sizeD,encE];(repeat' first|apply a.1|apply b.1|refine iteI (fun h=>?_) fun h=>?_)<;>clear a b A B))
   refine zy (i+1) (by first|omega|(simp only;omega)) ⟨by omega,by omega,?_⟩ ?_ ⟨_,rfl⟩
   ·rw [hE,e0,dedup,if_neg (fun e=>heq e.symm),show i+1-1=i by omega,zcb (d:=d) (i:=i) (by omega)]
    have:d.toList.take i=d.toList.take (i-1)++[d[i-1]!]:=by
     conv=>lhs;rw [show i=i-1+1 by omega]
     rw [List.take_add_one];simp [show i-1<d.size by omega]
    rw [this,List.append_assoc];rfl
   ·((try simp only [zg,zi,zd,zf,List.set_cons_zero,List.set_cons_succ]);all_goals (first|rfl|(simp only [zn,zj,zc,List.length_map,List.length_append,List.length_cons,List.length_nil,Nat.zero_add];first|done|rfl)))
 ·have hlt':¬(i:Int)<(n:Int):=by omega
  repeat' (first|refine go1 ?_|refine za rfl ?_|(refine go2 fun A B a b=>?_;simp only [go_sem, *,zk ty29 rfl,zbV];(repeat' first|apply a.1|apply b.1|refine iteI (fun h=>?_) fun h=>?_)<;>clear a b A B))
  have hin':i=n:=by omega
  simp only [go_sem,zk ty29 rfl]
  refine⟨n,d,w,G,rfl,Nat.le_refl _,hn,hw,rfl,?_,fun _=>rfl⟩
  rw [List.take_of_length_le (by simp [hn]),hE,zcb (by omega),fromA_end (by omega)]
  conv=>lhs;rw [←List.take_append_drop (i-1) d.toList]
  congr 1
  have:=zcb (d:=d) (i:=i-1) (by omega)
  rw [fromA_end (d:=d) (i:=i-1+1) (by omega)] at this
  exact this

theorem compNil (S:Store):EvR CX 85 [.flat (.slice none 0 0)] S (fun v S'=>v = .flat (.slice none 0 0)∧∃ G,S'=S++G):=by
 have z:((0:Nat):Int)<2:=by omega
 refine EvR.walk rfl fn85 rfl nt85 rfl ?_
 simp only [List.length_cons,List.length_nil,List.cons_append,List.nil_append,Nat.reduceAdd,Nat.reduceSub,List.replicate]
 repeat' (first|refine go1 ?_|refine za rfl ?_|(refine go2 fun A B a b=>?_;simp only [go_sem, *,zk ty29 rfl,zcF];(repeat' first|apply a.1|apply b.1|refine iteI (fun h=>?_) fun h=>?_)<;>clear a b A B))
 simp only [go_sem,zk ty29 rfl]
 exact⟨_,rfl⟩

inductive OutI (l:List Int):AV→Prop
 | own:OutI l (.osl 1 (ints l))
 | part:OutI l (.tsl true 1 (ints l))
 | nil (h:l = []):OutI l (.flat (.slice none 0 0))

def sorted (l:List Int):List Int:=dedup (srt l)

theorem wpK_assignNF {X:Ctx}{d:Bool}{dst:Option Tmp}{ty:TypeId}{pos:String}{after:Array Edge}{g:Option (Nat×Bool)}{K:List AV→Store→Prop}{fr:List AV}{S:Store} :
  wpK X d ⟨dst,.assign (.const .nilFunc),ty,pos,after,g⟩ dst K fr S=K (putA fr dst (.flat .nilFunc)) S:=(zb0 (some (.flat .nilFunc)) rfl rfl rfl rfl rfl).trans zW
theorem SLs.clean {sz:Nat}{rows:List (List AV)}{v:AV}(h:SLs sz rows v):v.clean=true:=by cases h<;>simp [AV.clean]

theorem valuesE (v:AV) (S:Store) (hc:v.cell=true):EvR CX 87 [v] S (fun r S'=>r = .fn 120 [.ptr S.length 1 1 0 0]∧∃ pr,S'=S++[.arr [[v]] 1 0 pr]):=by
 have hcl:(v.cells) = [v]:=by cases v<;>first|rfl|(simp [AV.cell] at hc)
 refine EvR.walk rfl fn87 rfl nt87 rfl ?_
 simp only [List.length_cons,List.length_nil,List.cons_append,List.nil_append,Nat.reduceAdd,Nat.reduceSub,List.replicate]
 repeat' (first|refine go1 ?_|refine za rfl ?_|(refine go2 fun A B a b=>?_;simp only [go_sem, *,wpK_assignNF];(repeat' first|apply a.1|apply b.1|refine iteI (fun h=>?_) fun h=>?_)<;>clear a b A B))
 simp only [go_sem]
 exact⟨_,rfl⟩

theorem snap_box {S:Store}{v:AV}{b:Nat}{pr:Bool}(h:S[b]? = some (.arr [[v]] 1 0 pr)) (hc:v.clean=true):snap S (.ptr b 1 1 0 0)=some (.tptr false [v] 0):=by
 simp [snap,rowOf,h,cleanL,hc]

theorem sortedE (v:AV) (l:List Int) (hv:SLs 1 (ints l) v) (hl:l.length<4294967296):∃ r,OutI (sorted l) r∧EvV CX 52 [v] (· = r):=by
 have q:=(srtE v l false hv hl).rw
 have c1:=hv.cell
 have c2:=hv.clean
 by_cases h:l = []
 ·subst h
  have e:outV (srt []) = .flat (.slice none 0 0):=by simp [outV,srt]
  rw [e] at q
  refine⟨.flat (.slice none 0 0),.nil (by simp [sorted,srt,dedup]),?_⟩
  refine EvV.walk rfl fn52 rfl nt52 rfl ?_
  simp only [List.length_cons,List.length_nil,List.cons_append,List.nil_append,Nat.reduceAdd,Nat.reduceSub,List.replicate]
  repeat' (first|refine go1 ?_|refine za rfl ?_|(refine zt fun A B a b=>?_;simp only [go_sem, *,zk ty29 rfl];(repeat' first|apply a.1|refine iteI (fun h=>?_) fun h=>?_)<;>clear a b A B))
  refine zG fun K hK=>?_
  simp only [go_sem,zk ty29 rfl]
  refine EvR.mono (valuesE v _ c1) ?_
  rintro _ _ ⟨rfl,pr,rfl⟩
  refine hK.out _ _ ?_
  clear hK K
  refine zG fun K hK=>?_
  simp only [go_sem,zk ty29 rfl]
  have hs:snap [Blk.arr [] 1 0 true,Blk.arr [[v]] 1 0 pr] (.ptr 1 1 1 0 0)=some (.tptr false [v] 0):=snap_box rfl c2
  have ha:∀ id,adoptA id (.flat (.slice none 0 0))=(.flat (.slice none 0 0),[]):=fun _=>rfl
  simp only [hs,q,ha]
  refine hK.out _ _ ?_
  clear hK K
  refine zG fun K hK=>?_
  simp only [go_sem,zk ty29 rfl]
  refine EvR.mono (compNil _) ?_
  rintro _ _ ⟨rfl,G,rfl⟩
  refine hK.out _ _ ?_
  clear hK K
  repeat' (first|refine go1 ?_|refine za rfl ?_|(refine go2 fun A B a b=>?_;simp only [go_sem, *,zk ty29 rfl];(repeat' first|apply a.1|apply b.1|refine iteI (fun h=>?_) fun h=>?_)<;>clear a b A B))
  simp only [go_sem,zk ty29 rfl]
  simp [expK,exportA,idsOK,ownIds,expTop,AV.stab]
 ·have e:outV (srt l) = .osl 1 (ints (srt l)):=by rw [outV,if_neg (by rw [srt_nil];exact h)]
  rw [e] at q
  obtain⟨n,hn⟩:∃ n,(srt l).length=n:=⟨_,rfl⟩
  have hnb:n<4294967296:=by rw [←hn,srt_len];exact hl
  -- the run, for whatever it hands back
  have run:∀ r,(∀ k (d':Array Int) w' S,k≤n→d'.size=n→w'≤n→S[2]? = some (.arr (rowsD d') 1 w' true)→d'.toList.take k=sorted l→(k=n→d'=(srt l).toArray)→expK (· = r) (.sl 2 n 0 k 1) S)→EvV CX 52 [v] (· = r):=by
   intro r hfin
   refine EvV.walk rfl fn52 rfl nt52 rfl ?_
   simp only [List.length_cons,List.length_nil,List.cons_append,List.nil_append,Nat.reduceAdd,Nat.reduceSub,List.replicate]
   repeat' (first|refine go1 ?_|refine za rfl ?_|(refine zt fun A B a b=>?_;simp only [go_sem, *,zk ty29 rfl];(repeat' first|apply a.1|refine iteI (fun h=>?_) fun h=>?_)<;>clear a b A B))
   refine zG fun K hK=>?_
   simp only [go_sem,zk ty29 rfl]
   refine EvR.mono (valuesE v _ c1) ?_
   rintro _ _ ⟨rfl,pr,rfl⟩
   refine hK.out _ _ ?_
   clear hK K
   refine zG fun K hK=>?_
   simp only [go_sem,zk ty29 rfl]
   have hs:snap [Blk.arr [] 1 0 true,Blk.arr [[v]] 1 0 pr] (.ptr 1 1 1 0 0)=some (.tptr false [v] 0):=snap_box rfl c2
   simp only [hs,q,zav,zc,hn]
   refine hK.out _ _ ?_
   clear hK K
   refine zG fun K hK=>?_
   simp only [go_sem,zk ty29 rfl]
   refine EvR.mono (compE [.arr [] 1 0 true,.arr [[v]] 1 0 pr] [] (srt l).toArray n 0 (by simp [hn]) (Nat.zero_le _) (by omega)) ?_
   rintro _ _ ⟨k,d',w',C',rfl,hk,hd,hw,rfl,hE,hEq⟩
   refine hK.out _ _ ?_
   clear hK K
   repeat' (first|refine go1 ?_|refine za rfl ?_|(refine go2 fun A B a b=>?_;simp only [go_sem, *,zk ty29 rfl];(repeat' first|apply a.1|apply b.1|refine iteI (fun h=>?_) fun h=>?_)<;>clear a b A B))
   simp only [resultsR,resultsL,resultA,zZ,zX,zaa]
   refine hfin k d' w' _ hk hd hw ?_ hE hEq
   rfl
  have hkl:∀ (k:Nat) (d':Array Int),k≤n→d'.size=n→d'.toList.take k=sorted l→k=(sorted l).length:=fun k d' hk hd hE=>by
   rw [←hE,List.length_take,Array.length_toList,hd];omega
  by_cases hk0:(sorted l).length=n
  ·refine⟨.osl 1 (ints (sorted l)),.own,run _ fun k d' w' S hk hd hw hS hE hEq=>?_⟩
   have hkn:k=n:=by rw [hkl k d' hk hd hE,hk0]
   subst hkn
   have hds:rowsD d'=ints (sorted l):=by rw [rowsD_toList,←hE,List.take_of_length_le (by simp [hd])]
   rw [za0,hS]
   simp only
   rw [if_pos ⟨trivial,by rw [rowsD_len,hd],hw,rfl⟩,hds]
  ·refine⟨.tsl true 1 (ints (sorted l)),.part,run _ fun k d' w' S hk hd hw hS hE hEq=>?_⟩
   have hkn:¬k=n:=fun e=>hk0 (by rw [←hkl k d' hk hd hE,e])
   have hds:(rowsD d').take k=ints (sorted l):=by rw [rowsD_toList,zC,hE]
   have hro:rowsOf S 1 (.sl 2 n 0 k 1)=some (ints (sorted l),true):=by
    rw [zbI,hS]
    simp only
    rw [if_pos ⟨trivial,trivial,hw,by omega,by rw [rowsD_len,hd];exact Nat.le_refl _⟩,List.drop_zero,hds]
   unfold expK
   simp [exportA,idsOK,ownIds,lentIds,expTop,hkn,expCell,hro]

/- Recordings: Recs, as the program and the reference test them. -/
open Go.Proofs
attribute [local go_sem] ty31 ty22 ty93 fz182 br93 fz184 ty23 ty34 ty66 br59 br60 br61 allocK fz107 fz117
set_option maxHeartbeats 4000000

def noR:Rec:=⟨0,.empty,0,0,.flat (.slice none 0 0),[]⟩
def nmE (x r:Rec):Bool:=x.name.toList == r.name.toList
def rcF (ps:List Psn):List Rec→List Rec→Int
 | _,[]=>0
 | pre,x::post=>if chkC ps x=0 then if (0:Int)<(pre.length:Int)∧x.id≤(pre.getLastD noR).id then 10 else if (pre.any fun y=>nmE y x)=true then 8 else rcF ps (pre++[x]) post else chkC ps x
def recsF (ps:List Psn) (rs:List Rec):Int:=if rs.length≤12 then rcF ps [] rs else 11

end Go.Eng

/- Increasing lists (plain). -/
namespace Go.Eng

theorem EvV.ex {X:Ctx}{f:FuncId}{args:List AV}{R:AV→Prop}(h:EvV X f args R):∃ r,R r∧EvV X f args (· = r):=by
 obtain⟨n,r,h1,h2⟩:=h
 exact⟨r,h2,n,r,h1,rfl⟩
theorem cells_fn {f:FuncId}{l:List AV}:(AV.fn f l).cells = [.fn f l]:=rfl
theorem za6 {id:Nat}:adoptA id (.flat (.slice none 0 0))=(.flat (.slice none 0 0),[]):=rfl
theorem zbP {R:AV→Prop}{S:Store}:expK R (.flat (.slice none 0 0)) S=R (.flat (.slice none 0 0)):=by simp [expK,exportA,idsOK,ownIds,expTop,AV.stab]

def UpL (l:List Int):Prop:=l.Pairwise (· < ·)

theorem up_unique:∀ {a b:List Int},UpL a→UpL b→(∀ x,x∈a↔x∈b)→a=b
 | [],[],_,_,_=>rfl
 | [],y::b,_,_,h=>absurd ((h y).mpr (by simp)) (by simp)
 | x::a,[],_,_,h=>absurd ((h x).mp (by simp)) (by simp)
 | x::a,y::b,ha,hb,h=>by
  have ha':=List.pairwise_cons.mp ha
  have hb':=List.pairwise_cons.mp hb
  have hxy:x=y:=by
   have h1:=(h x).mp (by simp)
   have h2:=(h y).mpr (by simp)
   rcases List.mem_cons.mp h1 with h1|h1
   ·exact h1
   ·rcases List.mem_cons.mp h2 with h2|h2
    ·exact h2.symm
    ·have:=ha'.1 _ h2;have:=hb'.1 _ h1;omega
  subst hxy
  rw [up_unique ha'.2 hb'.2 fun z=>?_]
  constructor
  ·intro hz
   have:=(h z).mp (by simp [hz])
   rcases List.mem_cons.mp this with e|e
   ·subst e;have:=ha'.1 _ hz;omega
   ·exact e
  ·intro hz
   have:=(h z).mpr (by simp [hz])
   rcases List.mem_cons.mp this with e|e
   ·subst e;have:=hb'.1 _ hz;omega
   ·exact e

theorem mem_dedup (n:Int):∀ l:List Int,n∈dedup l↔n∈l
 | []=>by simp [dedup]
 | [x]=>by simp [dedup]
 | x::y::l=>by
  rw [dedup]
  have ih:=mem_dedup n (y::l)
  split
  ·rename_i h;subst h;rw [ih];simp
  ·rw [List.mem_cons,ih];simp
theorem dedup_up:∀ {l:List Int},l.Pairwise (·≤·)→UpL (dedup l)
 | [],_=>by simp [dedup,UpL]
 | [x],_=>by simp [dedup,UpL]
 | x::y::l,h=>by
  rw [dedup]
  have h':=List.pairwise_cons.mp h
  have ih:=dedup_up h'.2
  split
  ·exact ih
  ·rename_i hne
   refine List.pairwise_cons.mpr ⟨fun z hz=>?_,ih⟩
   rw [mem_dedup] at hz
   have h2:=List.pairwise_cons.mp h'.2
   have:=h'.1 y (by simp)
   rcases List.mem_cons.mp hz with e|e
   ·subst e;omega
   ·have:=h2.1 z e;omega
theorem srt_le (l:List Int):(srt l).Pairwise (·≤·):=by
 have:=List.pairwise_mergeSort (le:=fun x y:Int=>decide (x≤y)) (by intro a b c;simp;omega) (by intro a b;simp;omega) l
 exact this.imp (by simp)
theorem mem_srt (n:Int) (l:List Int):n∈srt l↔n∈l:=(List.mergeSort_perm l _).mem_iff
theorem zcw (l:List Int):UpL (sorted l):=dedup_up (srt_le l)
theorem zb9 (n:Int) (l:List Int):n∈sorted l↔n∈l:=by rw [sorted,mem_dedup,mem_srt]
theorem dedup_len:∀ l:List Int,(dedup l).length≤l.length
 | []=>by simp [dedup]
 | [x]=>by simp [dedup]
 | x::y::l=>by
  rw [dedup]
  have ih:=dedup_len (y::l)
  split
  ·simp only [List.length_cons] at *;omega
  ·simp only [List.length_cons] at *;omega
theorem sorted_len (l:List Int):(sorted l).length≤l.length:=by
 have:=dedup_len (srt l);rw [srt_len] at this;exact this
theorem sorted_eq {l m:List Int}(h:∀ x,x∈l↔x∈m):sorted l=sorted m:=up_unique (zcw l) (zcw m) fun x=>by rw [zb9,zb9,h]
end Go.Eng

/- The reference's small functions over lists of numbers: Has, Same. -/
namespace Go.Eng
open Go.Proofs
attribute [local irreducible] wpC wpO wp1 EvV EvR wpL
attribute [local go_sem] ty3 ty4 ty29 reduceIte Nat.reduceAdd Nat.reduceEqDiff Nat.reduceLT Nat.reduceLeDiff beq_iff_eq beq_eq_false_iff_ne Int.natCast_inj Bool.not_eq_false' zbD zbx zaE za9 zaw zas za7 zF zaB zaD zE zax zbw zP zH za8 zI zba zaC zbv zbu zL zar zR zaz zQ zay zS zaA za5 zat zae zbd zaG zbc zbb zbe zby zaF zaY zao zaX zaZ zav zaW zaV zaI zaK zaf zac zW z8 zbg zaJ boxK storeK zaq zaM zam zaN zbm zau zbz zbf zX zaa zaP zaQ zan zbn zaO zbr zaU zbp zbA zbs zbo zbq zaR zbC zaS zaT List.all_cons List.all_nil Bool.and_true Bool.and_self Bool.true_and z7 zaH List.set_cons_zero List.set_cons_succ List.length_cons List.length_nil List.nil_append List.cons_append stabL AV.stab fieldAddrA fieldA List.getElem?_cons_zero List.getElem?_cons_succ Nat.zero_add loadA rowOf Nat.le_refl and_self true_and and_true partA binA unA intBin eqBin eqCells eqCell Option.bind_some decide_true decide_false decide_eq_true_eq ite_not Bool.not_eq_true' decide_eq_false_iff_not Bool.false_eq_true Option.map_some Option.map_none Bool.not_true Bool.not_false buildA fillA patch List.take List.drop List.map_cons List.map_nil extK List.getD_cons_zero List.getD_cons_succ minmaxA minmaxGo zJ zV zak zU zai zT zal zaj zah zag zaL zbk zbi zbl zbj zbh bne Bool.false_and Bool.and_false ne_eq not_true_eq_false not_false_eq_true List.append_nil resultsR resultsL resultA za3 zap za2 za4 za0 za1 zZ zbK zad zO zD zbB

theorem has1 (v:AV) (l:List Int) (n:Int) (hv:SLs 1 (ints l) v) (hl:l.length<9223372036854775807):EvV CX 71 [v,.int .i64 n] (· = .bool (l.contains n)):=by
 refine EvV.walk rfl fn71 rfl nt71 rfl ?_
 simp only [List.length_cons,List.length_nil,List.cons_append,List.nil_append,Nat.reduceAdd,Nat.reduceSub,List.replicate]
 repeat' (first|refine go1 ?_|refine za rfl ?_|(refine go2 fun A B a b=>?_;simp only [go_sem, *,zA hv];(repeat' first|apply a.1|apply b.1|refine iteI (fun h=>?_) fun h=>?_)<;>clear a b A B))
 refine zbS [4,5,9,10,11,12,13,14,15,16,17] 8 l (fun _ post=>l.contains n=post.contains n) ?_ ?_ ?_ ?_
 ·rfl
 ·rfl
 ·intro g G h2
  rw [h2];simp only [zo,zq,zd,zf,List.set_cons_zero,List.set_cons_succ]
  repeat' (first|refine go1 ?_|refine za rfl ?_|(refine go2 fun A B a b=>?_;simp only [go_sem, *,zc,List.length_map,Int.lt_irrefl];(repeat' first|apply a.1|apply b.1|refine iteI (fun h=>?_) fun h=>?_)<;>clear a b A B))
  simp only [go_sem,List.contains_nil]
 ·intro g G pre x post h1 h2
  rw [h2];subst h1;simp only [zo,zq,zd,zf,List.set_cons_zero,List.set_cons_succ]
  have i1:=zbE hv (X:=CX) ty29 ty3 rfl (zb8 pre x post) (k := .i64)
  have w1:=zB (n:=pre.length) (by simp at hl;omega)
  repeat' (first|refine go1 ?_|refine za rfl ?_|(refine go2 fun A B a b=>?_;simp only [go_sem, *,zb,ze,zm,zp,zj,zc,List.length_map,zK];(repeat' first|apply a.1|apply b.1|refine iteI (fun h=>?_) fun h=>?_)<;>clear a b A B))
  ·simp only [go_sem,List.contains_cons]
   simp_all
  ·refine zbH rfl ?_ ?_ ?_
   ·have:¬n=x:=fun e=>h e.symm
    rw [List.contains_cons];simp [this]
   ·((try simp only [zg,zi,zd,zf,List.set_cons_zero,List.set_cons_succ]);all_goals (first|rfl|(simp only [zn,zj,zc,List.length_map,List.length_append,List.length_cons,List.length_nil,Nat.zero_add];first|done|rfl)))
   ·first|exact⟨[],(List.append_nil _).symm⟩|exact⟨_,rfl⟩|(simp only [List.append_assoc,List.cons_append,List.nil_append];exact⟨_,rfl⟩)

/- Sets of numbers: Put, Minus. -/
open Go.Proofs
attribute [local go_sem] List.replicate Nat.one_mul Nat.reduceMul Nat.zero_mul appK bslA fz160 fz162 lenK_esl zcF zbV lenK_tsl nilsK rowsFill zcL zcA zbI zcK

def put:List Int→Int→List Int
 | [],n=>[n]
 | x::l,n=>if x<n then x::put l n else if x=n then n::l else n::x::l

theorem put_len:∀ (l:List Int) (n:Int),(put l n).length≤l.length+1
 | [],n=>by simp [put]
 | x::l,n=>by
  unfold put
  split
  ·simp only [List.length_cons];have:=put_len l n;omega
  ·split<;>simp

theorem put1 (st:Bool) (l:List Int) (n:Int) (hl:l.length≤1099511627776):EvV CX 54 [.tsl st 1 (ints l),.int .i64 n] (· = .osl 1 (ints (put l n))):=by
 have hv:SLs 1 (ints l) (.tsl st 1 (ints l)) := .rows st
 refine EvV.walk rfl fn54 rfl nt54 rfl ?_
 simp only [List.length_cons,List.length_nil,List.cons_append,List.nil_append,Nat.reduceAdd,Nat.reduceSub,List.replicate]
 repeat' (first|refine go1 ?_|refine za rfl ?_|(refine go2 fun A B a b=>?_;simp only [go_sem, *,zr ty29 rfl,zk ty29 rfl,zh ty29 rfl];(repeat' first|apply a.1|apply b.1|refine iteI (fun h=>?_) fun h=>?_)<;>clear a b A B))
 refine zN [7,8,9,10,11,12,13,14,15,16,17,18,19,20,21,22,23,24,25,26,27] (fun a:List Int×List Int=>[(5,.sl 1 a.1.length 0 a.1.length 1),(6,.int .i64 a.1.length)]) (fun a G=> .arr [] 1 0 true :: .arr (ints a.1) 1 0 true::G)
  (fun a=>l=a.1++a.2∧put l n=a.1++put a.2 n) (fun a=>a.2.length) ([],l) ⟨rfl,rfl⟩ ?_ ?_ ?_
 ·rfl
 ·exact⟨[],rfl⟩
 rintro⟨pre,post⟩ g G ⟨h1,h2⟩
 simp only at h1 h2
 rw [h2];subst h1;simp only [zo,zq,zd,zf,List.set_cons_zero,List.set_cons_succ]
 simp only [List.length_append] at hl
 cases post with
 | nil=>
  simp only [List.append_nil] at *
  obtain⟨b1,b2⟩:=app1 (n:=pre.length) (by omega)
  have i3:=slice_from (X:=CX) (st:=st) (n:=pre.length) (k := .i64) ty29 ty3 rfl (rows:=ints pre) (rows':=[]) (by rw [zc];exact Nat.le_refl _) (by simp [ints])
  simp only [List.length_nil,Nat.add_zero] at hl
  repeat' (first|refine go1 ?_|refine za rfl ?_|(refine go2 fun A B a b=>?_;simp only [go_sem, *,zr ty29 rfl,zk ty29 rfl,zh ty29 rfl,zb,ze,zm,zp,zj,zc,List.length_map,zK,Int.lt_irrefl];(repeat' first|apply a.1|apply b.1|refine iteI (fun h=>?_) fun h=>?_)<;>clear a b A B))
  ·simp only [go_sem,zr ty29 rfl,zk ty29 rfl,zh ty29 rfl,zc,List.length_append]
   simp [put,ints]
 | cons x post=>
  obtain⟨b1,b2⟩:=app1 (n:=pre.length) (by omega)
  have b3:(pre.length+1+post.length)*8≤140737488355328:=by simp only [List.length_cons] at hl;omega
  have b4:pre.length+1+post.length≤140737488355328:=by omega
  have b5:(pre.length+1+(post.length+1))*8≤140737488355328:=by simp only [List.length_cons] at hl;omega
  have b6:pre.length+1+(post.length+1)≤140737488355328:=by omega
  have i1:=zbE hv (X:=CX) ty29 ty3 rfl (zb8 pre x post) (k := .i64)
  have w1:=zB (n:=pre.length) (by omega)
  have i3:=slice_from (X:=CX) (st:=st) (n:=pre.length) (k := .i64) ty29 ty3 rfl (rows:=ints (pre++x::post)) (rows':=ints (x::post)) (by rw [zc];simp) (by rw [ints_drop];simp)
  have i4:=slice_from (X:=CX) (st:=st) (n:=pre.length+1) (k := .i64) ty29 ty3 rfl (rows:=ints (pre++x::post)) (rows':=ints post) (by rw [zc];simp) (by rw [ints_drop,←List.drop_drop];simp)
  by_cases hx:x=n
  ·subst hx
   repeat' (first|refine go1 ?_|refine za rfl ?_|(refine go2 fun A B a b=>?_;simp only [go_sem, *,zr ty29 rfl,zk ty29 rfl,zh ty29 rfl,zb,ze,zm,zp,zj,zc,List.length_map,zK,Int.lt_irrefl,beq_self_eq_true];(repeat' first|apply a.1|apply b.1|refine iteI (fun h=>?_) fun h=>?_)<;>clear a b A B))
   all_goals
    simp only [go_sem,zr ty29 rfl,zk ty29 rfl,zh ty29 rfl,zc,List.length_append, *]
    simp [put,ints,List.eq_nil_of_length_eq_zero, *]
  ·repeat' (first|refine go1 ?_|refine za rfl ?_|(refine go2 fun A B a b=>?_;simp only [go_sem, *,zr ty29 rfl,zk ty29 rfl,zh ty29 rfl,zb,ze,zm,zp,zj,zc,List.length_map,zK];(repeat' first|apply a.1|apply b.1|refine iteI (fun h=>?_) fun h=>?_)<;>clear a b A B))
   ·refine zy (pre++[x],post) (Nat.lt_succ_self _) ⟨by simp,by simp [put,h]⟩ ?_ ?_
    ·((try simp only [zg,zi,zd,zf,List.set_cons_zero,List.set_cons_succ]);all_goals (first|rfl|(simp only [zn,zj,zc,List.length_map,List.length_append,List.length_cons,List.length_nil,Nat.zero_add];first|done|rfl)))
    ·exact⟨_,by simp only [ints_append];rfl⟩
   all_goals
    simp only [go_sem,zr ty29 rfl,zk ty29 rfl,zh ty29 rfl,zc,List.length_append]
    simp [put,ints, *]

end Go.Eng

/- Increasing lists and putting into them (plain). -/
namespace Go.Eng

theorem mem_put (x n:Int):∀ l:List Int,x∈put l n↔x=n∨x∈l
 | []=>by simp [put]
 | y::l=>by
  unfold put
  have ih:=mem_put x n l
  split
  ·rw [List.mem_cons,ih,List.mem_cons]
   constructor
   ·rintro (h|h|h)
    ·exact .inr (.inl h)
    ·exact .inl h
    ·exact .inr (.inr h)
   ·rintro (h|h|h)
    ·exact .inr (.inl h)
    ·exact .inl h
    ·exact .inr (.inr h)
  ·split
   ·rename_i h;subst h;simp
   ·simp
theorem put_up {n:Int}:∀ {l:List Int},UpL l→UpL (put l n)
 | [],_=>by simp [put,UpL]
 | y::l,h=>by
  have h':=List.pairwise_cons.mp h
  unfold put
  split
  ·rename_i hy
   refine List.pairwise_cons.mpr ⟨fun z hz=>?_,put_up h'.2⟩
   rcases (mem_put z n l).mp hz with e|e
   ·omega
   ·exact h'.1 z e
  ·split
   ·rename_i h1 h2;subst h2;exact h
   ·rename_i h1 h2
    refine List.pairwise_cons.mpr ⟨fun z hz=>?_,h⟩
    rcases List.mem_cons.mp hz with e|e
    ·omega
    ·have:=h'.1 z e;omega
theorem mem_puts (x:Int):∀ (b out:List Int),x∈b.foldl put out↔x∈out∨x∈b
 | [],out=>by simp
 | y::b,out=>by
  rw [List.foldl_cons,mem_puts x b,mem_put,List.mem_cons]
  constructor
  ·rintro ((h|h)|h)
   ·exact .inr (.inl h)
   ·exact .inl h
   ·exact .inr (.inr h)
  ·rintro (h|h|h)
   ·exact .inl (.inr h)
   ·exact .inl (.inl h)
   ·exact .inr h
theorem puts_up:∀ (b out:List Int),UpL out→UpL (b.foldl put out)
 | [],_,h=>h
 | x::b,out,h=>puts_up b (put out x) (put_up h)
theorem puts_eq {b out:List Int}(h:UpL out):b.foldl put out=sorted (out++b) :=
 up_unique (puts_up b out h) (zcw _) fun x=>by rw [mem_puts,zb9,List.mem_append]
theorem up_nil:UpL []:=List.Pairwise.nil
theorem sortR_eq (l:List Int):l.foldl put []=sorted l:=puts_eq up_nil
theorem unionR_eq (a b:List Int):b.foldl put (sorted a)=sorted (a++b):=by
 rw [puts_eq (zcw a)]
 exact sorted_eq fun x=>by rw [List.mem_append,List.mem_append,zb9]
theorem up_nodup {l:List Int}(h:UpL l):l.Nodup:=h.imp (by intro a b h e;omega)
end Go.Eng

/- Recordings: the reference's Recs; Speaks and Heard. -/
namespace Go.Eng
open Go.Proofs
attribute [local irreducible] wpC wpO wp1 EvV EvR wpL
attribute [local go_sem] ty3 ty4 ty9 ty22 ty23 ty29 ty31 ty34 ty66 br41 fz177 br64 fz108 br71 fz131 reduceIte Nat.reduceAdd Nat.reduceEqDiff Nat.reduceLT Nat.reduceLeDiff beq_iff_eq beq_eq_false_iff_ne Int.natCast_inj Bool.not_eq_false' zbD zbx zaE za9 zaw zas za7 zF zaB zaD zE zax zbw zP zH za8 zI zba zaC zbv zbu zL zar zR zaz zQ zay zS zaA za5 zat zae zbd zaG zbc zbb zbe zby zaF zaY zao zaX zaZ zav zaW zaV zaI zaK zaf zac zW z8 zbg zaJ boxK storeK zaq zaM zam zaN zbm zau zbz zbf zX zaa zaP zaQ zan zbn zaO zbr zaU zbp zbA zbs zbo zbq zaR zbC zaS zaT List.all_cons List.all_nil Bool.and_true Bool.and_self Bool.true_and z7 zaH List.set_cons_zero List.set_cons_succ List.length_cons List.length_nil List.nil_append List.cons_append stabL AV.stab fieldAddrA fieldA List.getElem?_cons_zero List.getElem?_cons_succ Nat.zero_add loadA rowOf Nat.le_refl and_self true_and and_true partA binA unA intBin eqBin eqCells eqCell Option.bind_some decide_true decide_false decide_eq_true_eq ite_not Bool.not_eq_true' decide_eq_false_iff_not Bool.false_eq_true Option.map_some Option.map_none Bool.not_true Bool.not_false buildA fillA patch List.take List.drop List.map_cons List.map_nil extK List.getD_cons_zero List.getD_cons_succ minmaxA minmaxGo zJ zV zak zU zai zT zal zaj zah zag zaL zbk zbi zbl zbj zbh bne Bool.false_and Bool.and_false ne_eq not_true_eq_false not_false_eq_true List.append_nil resultsR resultsL resultA za3 zap za2 za4 za0 za1 zZ zbK zad zO zD zbB
set_option maxHeartbeats 4000000

theorem at_app {S:Store}{b:Nat}{x:Blk}(h:S[b]? = some x):∀ X,(S++X)[b]? = some x:=fun X=>by
 rw [List.getElem?_append_left (List.getElem?_eq_some_iff.1 h).1];exact h
theorem set_app {S:Store}{b:Nat}{x:Blk}(h:S[b]? = some x):∀ X y,(S++X).set b y=S.set b y++X:=fun X y=>by
 rw [List.set_append_left _ _ (List.getElem?_eq_some_iff.1 h).1]
theorem at_set {S:Store}{b:Nat}{x:Blk}(h:S[b]? = some x):∀ y X,(S.set b y++X)[b]? = some y:=fun y X=>by
 have hl:=(List.getElem?_eq_some_iff.1 h).1
 rw [List.getElem?_append_left (by simpa using hl),List.getElem?_set_self hl]
theorem at_new {S X:Store}{b:Nat}{y:Blk}:(S.set b y++X)[S.length]? = X[0]? := by
 have:=zb (G:=S.set b y) (l:=X);rwa [List.length_set] at this

end Go.Eng
