/- Scalars and their bytes (plain): the reference's Points over the bytes, and the library's "valid" is "it has points". -/
import Derived.Test.YtkahfcmeeloikaaGreatDoorEngU
import Derived.Test.YtkahfcmeeloikaaGreatDoorEngV
import Derived.Lib.MapLaws
import Derived.Lib.ValidLaws
import Derived.Sort.AssemblyPlain
set_option linter.all false
set_option maxHeartbeats 1000000
namespace Go.Eng
section
variable {a b c:UInt8}{b0 b1 b2 b3 n p:Nat}{l r:List UInt8}{o:Option (Nat×Nat)}
def lu(p:Nat):Bool:=decide (p<=1114111) && (decide (p<55296) || decide (57343<p))
def kX(p:Nat):List UInt8 :=
 if p<128 then [UInt8.ofNat p]
 else if p<2048 then [UInt8.ofNat (192+p / 64),UInt8.ofNat (128+p % 64)]
 else if p<65536 then [UInt8.ofNat (224+p / 4096),UInt8.ofNat (128+p / 64 % 64),UInt8.ofNat (128+p % 64)]
 else [UInt8.ofNat (240+p / 262144),UInt8.ofNat (128+p / 4096 % 64),UInt8.ofNat (128+p / 64 % 64),UInt8.ofNat (128+p % 64)]
def jI(c:Nat):Nat×Nat:=if 240<=c then (c-240,4) else if 224<=c then (c-224,3) else if 192<=c then (c-192,2) else (c,1)
def iR(p:Nat)(l:List UInt8):Nat:=l.foldl (fun p b=>p*64+b.toNat % 64) p
def jm:List UInt8->Option (Nat×Nat)
 | []=>none
 | c::tl=>if tl.length+1<(jI c.toNat).2 then none else
  if lu (iR (jI c.toNat).1 (tl.take ((jI c.toNat).2-1)))=true/\kX (iR (jI c.toNat).1 (tl.take ((jI c.toNat).2-1)))=(c::tl).take (jI c.toNat).2 then some (iR (jI c.toNat).1 (tl.take ((jI c.toNat).2-1)),(jI c.toNat).2) else none
def hdU_n(c:Nat):1<=(jI c).2/\(jI c).2<=4:=by
 unfold jI;repeat' split
 all_goals simp
def hdU_p{c:Nat}(h:c<256):(jI c).1<256:=by
 unfold jI;repeat' split
 all_goals (simp;omega)
theorem Hk:∀(l:List UInt8) (p:Nat),iR p l<(p+1)*64 ^ l.length
 | [],p=>by simp[iR]
 | b::l,p=>by
  have h:=Hk l (p*64+b.toNat % 64);have e:iR p (b::l)=iR (p*64+b.toNat % 64) l:=rfl;rw[e,UB,Nat.pow_succ];have h1:b.toNat % 64<64:=Nat.mod_lt _ (by omega);have h2:p*64+b.toNat % 64+1<=(p+1)*64:=by omega
  calc iR (p*64+b.toNat % 64) l<(p*64+b.toNat % 64+1)*64 ^ l.length:=h
   _<=((p+1)*64)*64 ^ l.length:=VC _ h2
   _=(p+1)*(64 ^ l.length*64):=by rw[Nat.mul_assoc,Xj 64]
def EY:Nat->List UInt8->Option (List Nat)
 | _,[]=>some []
 | 0,_::_=>none
 | k+1,c::l=>match jm (c::l) with
  | none=>none
  | some (p,n)=>(EY k ((c::l).drop n)).map (p :: ·)
def qq(l:List UInt8):Option (List Nat):=EY l.length l
theorem vl(h:jm l=some (p,n)):1<=n/\n<=l.length:=by
 cases l with
 | nil=>simp[jm]at h
 | cons c tl=>
  rw[jm]at h;by_cases h1:tl.length+1<(jI c.toNat).2
  .rw[if_pos h1]at h;cases h
  .rw[if_neg h1]at h;split at h
   .injection h with h;injection h with _ h;subst h;have:=hdU_n c.toNat;simp only[UB];omega
   .cases h
theorem HR:∀(k:Nat) (l:List UInt8),l.length<=k->EY k l=EY l.length l:=by
 intro k
 induction k using Nat.strongRecOn with
 | _ k ih=>
  intro l hl;cases l with
  | nil=>cases k<;>rfl
  | cons c l=>
   cases k with
   | zero=>simp at hl
   | succ k=>
    simp only[UB,EY];cases h:jm (c::l) with
    | none=>rfl
    | some pn=>
     obtain⟨p,n⟩:=pn;have hn:=vl h;simp only[UB]at hl hn;simp only;have hd:((c::l).drop n).length<=l.length:=by simp only[VU,UB];omega
     rw[ih k (UV _) _ (by omega)];by_cases hk:l.length<k+1
     .rw[ih l.length hk _ hd]
     .have:l.length=k:=by omega
      subst this;rw[ih l.length (UV _) _ hd]
def sP:qq []=some []:=rfl
def oE(h:jm (c::l)=none):qq (c::l)=none:=by
 unfold qq;simp only[UB,EY,h]
def oD(h:jm (c::l)=some (p,n)):qq (c::l)=(qq ((c::l).drop n)).map (p :: ·):=by
 have hn:=vl h;unfold qq;simp only[UB,EY,h];rw[HR l.length _ (by simp only[VU,UB];omega)]
def uO(x:Nat)(b:UInt8):UInt8.ofNat x=b↔x % 256=b.toNat:=by
 rw[<-UInt8.toNat_inj];simp
def fstU_one(h:a.toNat<128):jm (a::r)=some (a.toNat,1):=by
 have hd:jI a.toNat=(a.toNat,1):=by unfold jI;rw[if_neg (by omega),if_neg (by omega),if_neg (by omega)]
 have he:kX a.toNat = [a]:=by unfold kX;rw[if_pos h];simp
 rw[jm];rw[hd];simp only[W7,Xm,iR,Xn,he];rw[if_neg (by omega),if_pos ⟨by simp[lu];omega,by simp⟩]
def fstU_bad(h:128<=a.toNat)(h2:a.toNat<192):jm (a::r)=none:=by
 have hd:jI a.toNat=(a.toNat,1):=by unfold jI;rw[if_neg (by omega),if_neg (by omega),if_neg (by omega)]
 rw[jm];rw[hd];simp only[W7,Xm,iR,Xn];rw[if_neg (by omega),if_neg];rintro⟨-,h3⟩;have:=congrArg List.length h3;unfold kX at this;rw[if_neg (by omega),if_pos (by omega)]at this;simp at this
def DF(h:192<=a.toNat)(h2:a.toNat<224) :
  jm (a::b::r)=if b.toNat / 64=2/\128<=(a.toNat-192)*64+b.toNat % 64 then some ((a.toNat-192)*64+b.toNat % 64,2) else none:=by
 have hd:jI a.toNat=(a.toNat-192,2):=by unfold jI;rw[if_neg (by omega),if_neg (by omega),if_pos (by omega)]
 have hb:=b.toNat_lt;rw[jm];rw[hd];obtain⟨p,hp⟩:∃p,(a.toNat-192)*64+b.toNat % 64=p:=⟨_,rfl⟩;simp only[Nat.reduceSub,WQ,Xm,iR,VD,Xn,hp,UB];rw[if_neg (by omega)];have hs:lu p=true:=by simp[lu];omega
 have he:kX p = [a,b]↔b.toNat / 64=2/\128<=p:=by
  unfold kX;by_cases h3:p<128
  .rw[if_pos h3];simp;omega
  .rw[if_neg h3,if_pos (by omega)];simp only[Wk,uO,and_true];omega
 simp only[hs,he,true_and]
def yM(h:224<=a.toNat)(h2:a.toNat<240) :
  jm (a::b::c::r)=if b.toNat / 64=2/\c.toNat / 64=2/\2048<=((a.toNat-224)*64+b.toNat % 64)*64+c.toNat % 64/\lu (((a.toNat-224)*64+b.toNat % 64)*64+c.toNat % 64)=true then some (((a.toNat-224)*64+b.toNat % 64)*64+c.toNat % 64,3) else none:=by
 have hd:jI a.toNat=(a.toNat-224,3):=by unfold jI;rw[if_neg (by omega),if_pos (by omega)]
 have hb:=b.toNat_lt;have hc:=c.toNat_lt;rw[jm];rw[hd];obtain⟨p,hp⟩:∃p,((a.toNat-224)*64+b.toNat % 64)*64+c.toNat % 64=p:=⟨_,rfl⟩;simp only[Nat.reduceSub,WQ,Xm,iR,VD,Xn,hp,UB];rw[if_neg (by omega)]
 have he:kX p = [a,b,c]↔b.toNat / 64=2/\c.toNat / 64=2/\2048<=p:=by
  unfold kX;by_cases h3:p<128
  .rw[if_pos h3];simp;omega
  .rw[if_neg h3];by_cases h4:p<2048
   .rw[if_pos h4];simp;omega
   .rw[if_neg h4,if_pos (by omega)];simp only[Wk,uO,and_true];omega
 simp only[he,and_assoc,and_comm (a:=lu p=true)]
def AZ{d:UInt8}(h:240<=a.toNat) :
  jm (a::b::c::d::r)=if b.toNat / 64=2/\c.toNat / 64=2/\d.toNat / 64=2/\65536<=(((a.toNat-240)*64+b.toNat % 64)*64+c.toNat % 64)*64+d.toNat % 64/\lu ((((a.toNat-240)*64+b.toNat % 64)*64+c.toNat % 64)*64+d.toNat % 64)=true then some ((((a.toNat-240)*64+b.toNat % 64)*64+c.toNat % 64)*64+d.toNat % 64,4) else none:=by
 have hd:jI a.toNat=(a.toNat-240,4):=by unfold jI;rw[if_pos (by omega)]
 have ha:=a.toNat_lt;have hb:=b.toNat_lt;have hc:=c.toNat_lt;have hdd:=d.toNat_lt;rw[jm];rw[hd];obtain⟨p,hp⟩:∃p,(((a.toNat-240)*64+b.toNat % 64)*64+c.toNat % 64)*64+d.toNat % 64=p:=⟨_,rfl⟩;simp only[Nat.reduceSub,WQ,Xm,iR,VD,Xn,hp,UB];rw[if_neg (by omega)]
 have he:kX p = [a,b,c,d]↔b.toNat / 64=2/\c.toNat / 64=2/\d.toNat / 64=2/\65536<=p:=by
  unfold kX;by_cases h3:p<128
  .rw[if_pos h3];simp;omega
  .rw[if_neg h3];by_cases h4:p<2048
   .rw[if_pos h4];simp;omega
   .rw[if_neg h4];by_cases h5:p<65536
    .rw[if_pos h5];simp;omega
    .rw[if_neg h5];simp only[Wk,uO,and_true];omega
 simp only[he,and_assoc,and_comm (a:=lu p=true)]
def jl(h:r.length+1<(jI a.toNat).2):jm (a::r)=none:=by
 rw[jm,if_pos h]
def CV :lu p=true↔p<=1114111/\(p<55296\/57343<p):=by simp[lu]
def Ha(h:128<=b0/\b0<192\/248<=b0)(h2:b0<256):Lib.decodeN n b0 b1 b2 b3=(65533,1):=by
 unfold Lib.decodeN;rw[if_neg (by omega),if_neg (by omega),if_neg (by omega),if_neg (by omega)]
def B9(h:192<=b0)(h2:b0<224):Lib.decodeN n b0 b1 b2 b3 =
  if 1<n/\b1 / 64=2/\128<=(b0-192)*64+b1 % 64 then ((b0-192)*64+b1 % 64,2) else (65533,1):=by
 have e:b0 % 32=b0-192:=by omega
 unfold Lib.decodeN;rw[if_neg (by omega),e];by_cases c:1<n/\b1 / 64=2
 .rw[if_pos (by omega)];by_cases d:128<=(b0-192)*64+b1 % 64
  .rw[if_pos d,if_pos ⟨c.1,c.2,d⟩]
  .rw[if_neg d,if_neg (fun q=>d q.2.2)]
 .rw[if_neg (by omega),if_neg (by omega),if_neg (by omega),if_neg (fun q=>c ⟨q.1,q.2.1⟩)]
def pX(h:224<=b0)(h2:b0<240):Lib.decodeN n b0 b1 b2 b3 =
  if 2<n/\b1 / 64=2/\b2 / 64=2/\2048<=((b0-224)*64+b1 % 64)*64+b2 % 64/\lu (((b0-224)*64+b1 % 64)*64+b2 % 64)=true then (((b0-224)*64+b1 % 64)*64+b2 % 64,3) else (65533,1):=by
 have e:b0 % 16*4096+b1 % 64*64+b2 % 64=((b0-224)*64+b1 % 64)*64+b2 % 64:=by omega
 simp only[CV];unfold Lib.decodeN;rw[if_neg (by omega),if_neg (by omega),e];have k:((b0-224)*64+b1 % 64)*64+b2 % 64<=1114111:=by omega
 obtain⟨p,hp⟩:∃p,((b0-224)*64+b1 % 64)*64+b2 % 64=p:=⟨_,rfl⟩;rw[hp]at k ⊢;by_cases c:2<n/\b1 / 64=2/\b2 / 64=2
 .rw[if_pos (by omega)];by_cases d:2048<=p/\(p<55296\/57343<p)
  .rw[if_pos (by omega),if_pos ⟨c.1,c.2.1,c.2.2,d.1,k,d.2⟩]
  .rw[if_neg (by omega),if_neg (fun q=>d ⟨q.2.2.2.1,q.2.2.2.2.2⟩)]
 .rw[if_neg (by omega),if_neg (by omega),if_neg (fun q=>c ⟨q.1,q.2.1,q.2.2.1⟩)]
def pd(h:240<=b0)(h2:b0<256):Lib.decodeN n b0 b1 b2 b3 =
  if 3<n/\b1 / 64=2/\b2 / 64=2/\b3 / 64=2/\65536<=(((b0-240)*64+b1 % 64)*64+b2 % 64)*64+b3 % 64/\lu ((((b0-240)*64+b1 % 64)*64+b2 % 64)*64+b3 % 64)=true then ((((b0-240)*64+b1 % 64)*64+b2 % 64)*64+b3 % 64,4) else (65533,1):=by
 simp only[CV];by_cases h3:b0<248
 .have e:b0 % 8*262144+b1 % 64*4096+b2 % 64*64+b3 % 64=(((b0-240)*64+b1 % 64)*64+b2 % 64)*64+b3 % 64:=by omega
  unfold Lib.decodeN;rw[if_neg (by omega),if_neg (by omega),if_neg (by omega),e];obtain⟨p,hp⟩:∃p,(((b0-240)*64+b1 % 64)*64+b2 % 64)*64+b3 % 64=p:=⟨_,rfl⟩;rw[hp];by_cases c:3<n/\b1 / 64=2/\b2 / 64=2/\b3 / 64=2
  .rw[if_pos (by omega)];by_cases d:65536<=p/\p<=1114111
   .rw[if_pos (by omega),if_pos (by omega)]
   .rw[if_neg (by omega),if_neg (by omega)]
  .rw[if_neg (by omega),if_neg (fun q=>c ⟨q.1,q.2.1,q.2.2.1,q.2.2.2.1⟩)]
 .rw[Ha (by omega) h2,if_neg (by omega)]
def qF{r:Nat×Nat}(ho:o=none)(h:r=(65533,1)):o=if r.1=65533/\r.2=1 then none else some r:=by
 subst h;rw[ho,if_pos ⟨rfl,rfl⟩]
def Gx{r:Nat×Nat}(ho:o=some (p,n))(hn:p<128\/1<n)(h:r=(p,n)):o=if r.1=65533/\r.2=1 then none else some r:=by
 subst h;rw[ho,if_neg (by simp only;omega)]
theorem wm:∀l:List UInt8,l≠[]->jm l=if (Lib.decodeL l).1=65533/\(Lib.decodeL l).2=1 then none else some (Lib.decodeL l):=by
 intro l hl;rw[Lib.decodeL_N]
 match l,hl with
 | a::r,_=>
  have k0:=a.toNat_lt;simp only[Wl,UB];by_cases c1:a.toNat<128
  .exact Gx (fstU_one c1) (Or.inl c1) (Lib.decodeN_ascii _ _ _ _ _ c1)
  by_cases c2:a.toNat<192
  .exact qF (fstU_bad (by omega) c2) (Ha (by omega) (by omega))
  by_cases c3:a.toNat<224
  .match r with
   | []=>exact qF (jl (by unfold jI;rw[if_neg (by omega),if_neg (by omega),if_pos (by omega)];simp)) ((B9 (by omega) c3).trans (if_neg (by simp)))
   | b::r=>
    simp only[WE,Wl,UB];by_cases d:b.toNat / 64=2/\128<=(a.toNat-192)*64+b.toNat % 64
    .exact Gx ((DF (by omega) c3).trans (if_pos d)) (Or.inr (by omega)) ((B9 (by omega) c3).trans (if_pos ⟨by omega,d⟩))
    .exact qF ((DF (by omega) c3).trans (if_neg d)) ((B9 (by omega) c3).trans (if_neg (fun q=>d q.2)))
  by_cases c4:a.toNat<240
  .have hh:(jI a.toNat).2=3:=by unfold jI;rw[if_neg (by omega),if_pos (by omega)]
   match r with
   | []=>exact qF (jl (by rw[hh];simp)) ((pX (by omega) c4).trans (if_neg (by simp)))
   | [b]=>exact qF (jl (by rw[hh];simp)) ((pX (by omega) c4).trans (if_neg (by simp)))
   | b::c::r=>
    simp only[WE,Wl,UB];by_cases d:b.toNat / 64=2/\c.toNat / 64=2/\2048<=((a.toNat-224)*64+b.toNat % 64)*64+c.toNat % 64/\lu (((a.toNat-224)*64+b.toNat % 64)*64+c.toNat % 64)=true
    .exact Gx ((yM (by omega) c4).trans (if_pos d)) (Or.inr (by omega)) ((pX (by omega) c4).trans (if_pos ⟨by omega,d⟩))
    .exact qF ((yM (by omega) c4).trans (if_neg d)) ((pX (by omega) c4).trans (if_neg (fun q=>d q.2)))
  .have hh:(jI a.toNat).2=4:=by unfold jI;rw[if_pos (by omega)]
   match r with
   | []=>exact qF (jl (by rw[hh];simp)) ((pd (by omega) (by omega)).trans (if_neg (by simp)))
   | [b]=>exact qF (jl (by rw[hh];simp)) ((pd (by omega) (by omega)).trans (if_neg (by simp)))
   | [b,c]=>exact qF (jl (by rw[hh];simp)) ((pd (by omega) (by omega)).trans (if_neg (by simp)))
   | b::c::d::r=>
    simp only[WE,Wl,UB];by_cases q:b.toNat / 64=2/\c.toNat / 64=2/\d.toNat / 64=2/\65536<=(((a.toNat-240)*64+b.toNat % 64)*64+c.toNat % 64)*64+d.toNat % 64/\lu ((((a.toNat-240)*64+b.toNat % 64)*64+c.toNat % 64)*64+d.toNat % 64)=true
    .exact Gx ((AZ (by omega)).trans (if_pos q)) (Or.inr (by omega)) ((pd (by omega) (by omega)).trans (if_pos ⟨by omega,q⟩))
    .exact qF ((AZ (by omega)).trans (if_neg q)) ((pd (by omega) (by omega)).trans (if_neg (fun x=>q x.2)))
theorem Ez:∀(n:Nat) (l:List UInt8),l.length<=n->Lib.validD l=(qq l).isSome:=by
 intro n
 induction n with
 | zero=>intro l h;have:l = []:=UO (by omega);subst this;rfl
 | succ n ih=>
  intro l h;cases l with
  | nil=>rfl
  | cons c l=>
   have hf:=wm (c::l) (by simp);rw[Lib.validD_step _ (by simp)];by_cases hb:(Lib.decodeL (c::l)).1=65533/\(Lib.decodeL (c::l)).2=1
   .rw[if_pos hb];rw[if_pos hb]at hf;rw[oE hf];rfl
   .rw[if_neg hb];rw[if_neg hb]at hf;have hn:=vl (p:=(Lib.decodeL (c::l)).1) (n:=(Lib.decodeL (c::l)).2) hf;rw[oD (p:=(Lib.decodeL (c::l)).1) (n:=(Lib.decodeL (c::l)).2) hf,ih _ (by rw[VU];simp only[UB]at h ⊢;omega)];cases qq _<;>rfl
end
section
variable [aw]
variable {P:Program}{f:FuncId}{fn:Func}
open Go.RowKit
def kf(args:List AV)(S:ab):Option (AV×ab) :=
 match args with
 | [.str s]=>if s.size<=1073741824 then
   (match qq s.data.toList with
    | none=>some (.tup [.flat (.slice none 0 0),.bool false],S)
    | some l=>if l.length=0 then some (.tup [.flat (.slice none 0 0),.bool true],S)
     else some (.tup [.sl S.length l.length 0 l.length 1,.bool true],S++[.arr (l.map fun n:Nat=>[.int .i64 (n:Int)]) 1 0 true]))
  else none
 | _=>none
def sQ(ok:ByteArray->Bool)(args:List AV)(S:ab):Option (AV×ab) :=
 match args with
 | [.str s]=>if ok s=true then kf [.str s] S else none
 | _=>none
def Gb(te:TypeId)(s:ByteArray)(w:World)(e:Ending)(W':World):Prop :=
 ∃v b,e = .returned (.tuple #[v,.bool b])/\Below w.heap.size w W' /\
  match qq s.data.toList with
  | none=>v = .slice none 0 0/\b=false
  | some l=>b=true/\W'.ownsRow w.heap.size te 1 v l.length (l.map fun n:Nat=> .int .i64 (n:Int))/\(v = .slice none 0 0↔l = [])
theorem x7{te:TypeId}(ok:ByteArray->Bool)(hf:P.funcs[f]? = some fn)(JX:(fn.name == "runtime.NumGoroutine")=false)(hb:fn.body.isNone=false)
  (hc:∀(s:ByteArray),ok s=true->s.size<=1073741824->∀w:World,(∀g o,aw.blk g=some o->w.heap[g]? = some o)->Calls P f #[.string s] w (Gb te s w)) :
  bQ P f (sQ ok):=by
 refine⟨⟨fn,hf,JX,hb⟩,?_⟩;intro args S r S' hp base T B I w vs hrel I3;unfold sQ at hp;split at hp
 .rename_i s;by_cases hok:ok s=true
  rotate_left
  .rw[if_neg hok]at hp;cases hp
  rw[if_pos hok]at hp;simp only[kf]at hp;split at hp
  .rename_i IY;simp only[ae,ap]at I3;obtain⟨_,_,rfl,rfl,rfl⟩:=I3;have J0:=hc s hok IY w (fun g o k=>(hrel.known g o k).2);refine J0.mono ?_;rintro e W' ⟨v,b,rfl,JH,hm⟩;have KD:cB base T B I (dN S) W':=hrel.quiet JH (fun _ h=>h) (fun _ h=>h) hrel.TB (fun _ h=> .inl h);have J2:bu base T B I w T B I W':=bu.quiet hrel JH (fun _ h=>h) (fun _ h=>h) (fun _ h=> .inl h) (fun _ h=> .inl h);split at hp
   .rename_i e1;rw[e1]at hm;obtain⟨rfl,rfl⟩:=hm;injection hp with hp;injection hp with q1 q2;subst q1 q2;exact⟨_,T,B,I,rfl,J2,KD,by simp only[ap,ae];exact⟨[.slice none 0 0,.bool false],rfl,_,_,rfl,rfl,_,_,rfl,rfl,rfl⟩⟩
   .rename_i l e1;rw[e1]at hm;obtain⟨rfl,Jh,Jo⟩:=hm;split at hp
    .rename_i h0;injection hp with hp;injection hp with q1 q2;subst q1 q2;have h1:l = []:=UO h0;have h2:=Jo.2 h1;subst h2;exact⟨_,T,B,I,rfl,J2,KD,by simp only[ap,ae];exact⟨[.slice none 0 0,.bool true],rfl,_,_,rfl,rfl,_,_,rfl,rfl,rfl⟩⟩
    .rename_i h0;injection hp with hp;injection hp with q1 q2;subst q1 q2;have I8:l≠[]:=fun e=>h0 (by rw[e];rfl);rcases Jh.2 with ⟨rfl,_⟩|⟨gb,aK,cur,rfl,OY,M9,k1,k2,k3,k4⟩
     .exact absurd (Jo.1 rfl) I8
     .have IX:∀e,I S.length e=none:=hrel.fresh (UJ _)
      have Kx:cB base T B I (dN (S++[.arr (l.map fun n:Nat=>[.int .i64 (n:Int)]) 1 0 true])) W':=KD.view fun b e p hi=>by
       obtain⟨blk,hS,_⟩:=hrel.cov hi;simp only[dN];rw[UN (UK.1 hS).1]
      have Jj:=Kx.newBlk (b:=S.length) (g:=gb) (rows:=l.map fun n:Nat=>[.int .i64 (n:Int)]) (sz:=1) (pr:=true) (c:=cur) (ty:=te) (IX _) (Holds.of (by simp[dN])) (UQ hrel.base_le OY)
       (fun hB=>absurd (hrel.Blt _ hB) (by omega)) (fun b e gs hi=>absurd (hrel.lt hi) (by omega)) M9 (by simp;omega)
       (df.2 fun i r hr=>by
        rw[Vc]at hr;cases hi:l[i]? with
        | none=>rw[hi]at hr;cases hr
        | some x=>
         rw[hi]at hr;injection hr with hr;subst hr;refine⟨rfl,?_⟩;simp only[aU,ap];refine⟨⟨.int .i64 (x:Int),?_,rfl,rfl⟩,trivial⟩;have M4:=(UK.1 hi).1
         have O9:cur.toList[i]? = some (.int .i64 (x:Int)):=by
          have:=congrArg (fun q=>q[i]?) k4;simp only[Vc,hi,Vf]at this;rw[WT (by omega)]at this;exact this
         simp only[World.cell?,M9,UW,Nat.mul_one];simpa using O9)
      refine⟨_,T,B,_,rfl,J2.trans (bu.inj (IX _)),Jj,?_⟩;simp only[ap,ae,UI];refine⟨[_,.bool true],rfl,_,_,rfl,.inr ⟨gb,cur.size,aK,dK.put_self,?_,k1,k2,by omega⟩,_,_,rfl,rfl,rfl⟩;simp
  .cases hp
 .cases hp
def zX{te:TypeId}(hf:P.funcs[f]? = some fn)(JX:(fn.name == "runtime.NumGoroutine")=false)(hb:fn.body.isNone=false)
  (hc:∀(s:ByteArray),s.size<=1073741824->∀w:World,(∀g o,aw.blk g=some o->w.heap[g]? = some o)->Calls P f #[.string s] w (Gb te s w)) :
  bQ P f kf:=by
 have h:=x7 (te:=te) (fun _=>true) hf JX hb fun s _=>hc s
 have e:sQ (fun _=>true)=kf:=by
  funext args S
  unfold sQ;split
  .rw[if_pos rfl]
  .rename_i I8;unfold kf;split
   .exact absurd rfl (I8 _)
   .rfl
 rw[e]at h;exact h
end
section
variable [aw]
open Go.RowKit
structure gw where
 person:Int
 rc:Int
 day:Int
 kind:Int
def i6(c:gw):List AV:=[.int .i64 c.person,.int .i64 c.rc,.int .i64 c.day,.int .i64 c.kind]
def yF(p r:Int)(c:gw):Bool:=(c.person == p) && ((c.rc == 0) || (c.rc == r))
def hitC(p r d:Int)(c:gw):Bool:=yF p r c && decide (c.day<=d)
def zH(cs:List gw)(p r d:Int):Int:=cs.foldl (fun out c=>if hitC p r d c=true then c.kind else out) 0
omit [aw] in
def Em(cs:List gw)(c:gw)(p r d:Int):zH (cs++[c]) p r d=if hitC p r d c=true then c.kind else zH cs p r d:=by simp[zH,Xp]
def qA(d:Int):List gw->Int
 | []=>0
 | c::l=>if c.day<=d then c.kind else qA d l
omit [aw] in
theorem yN(d:Int)(b:List gw):∀a:List gw,qA d (a++b)=if (a.any fun c=>decide (c.day<=d))=true then qA d a else qA d b
 | []=>rfl
 | c::a=>by
  rw[UF,qA,yN d b a,V4,qA];by_cases h:c.day<=d
  .simp[h]
  .simp[h]
omit [aw] in
theorem A0(d:Int):∀a:List gw,(∀c∈a,d<c.day)->qA d a=0
 | [],_=>rfl
 | c::a,h=>by
  have:=h c (by simp);rw[qA,if_neg (by omega)];exact A0 d a fun x hx=>h x (by simp[hx])
omit [aw] in
theorem F8(p r d:Int):∀(n:Nat) (cs:List gw),cs.length=n->qA d (cs.reverse.filter (yF p r))=zH cs p r d
 | 0,cs,h=>by rw[UO h];rfl
 | n+1,cs,h=>by
  obtain⟨a,c,rfl⟩:∃a c,cs=a++[c]:=by
   refine⟨cs.dropLast,cs.getLast (by intro e;rw[e]at h;simp at h),(List.dropLast_concat_getLast _).symm⟩
  have ih:=F8 p r d n a (by simpa using h);rw[Em,List.reverse_append,List.reverse_singleton,List.singleton_append,Vy,hitC];cases h1:yF p r c with
  | false=>simpa using ih
  | true=>
   simp only[if_true,qA,VB,decide_eq_true_eq];by_cases h2:c.day<=d
   .rw[if_pos h2,if_pos h2]
   .rw[if_neg h2,if_neg h2];exact ih
def Hc:List AV->Option gw
 | [.int .i64 a,.int .i64 b,.int .i64 c,.int .i64 d]=>some ⟨a,b,c,d⟩
 | _=>none
def rS:List (List AV)->Option (List gw)
 | []=>some []
 | r::rs=>match Hc r with
  | some c=>match rS rs with
   | some cs=>some (c::cs)
   | none=>none
  | none=>none
omit [aw] in
def conOf_eq{r:List AV}{c:gw}(h:Hc r=some c):r=i6 c:=by
 unfold Hc at h;split at h
 .injection h with h;subst h;rfl
 .cases h
omit [aw] in
theorem A6:∀{rows:List (List AV)}{cs:List gw},rS rows=some cs->rows=cs.map i6
 | [],cs,h=>by simp[rS]at h;subst h;rfl
 | r::rs,cs,h=>by
  rw[rS]at h;split at h
  .rename_i c e1;split at h
   .rename_i cs' e2;injection h with h;subst h;rw[conOf_eq e1,A6 e2];rfl
   .cases h
  .cases h
omit [aw] in
theorem zi:∀cs:List gw,rS (cs.map i6)=some cs
 | []=>rfl
 | c::cs=>by
  rw[Vk,rS];have:Hc (i6 c)=some c:=rfl;rw[this,zi cs]
def Cb:AV->Option (List gw)
 | .tsl _ 4 rows=>rS rows
 | .flat (.slice none 0 0)=>some []
 | _=>none
def uE(args:List AV)(S:ab):Option (AV×ab) :=
 match args with
 | [x,.int .i64 p,.int .i64 r,.int .i64 d]=>match Cb x with
  | some cs=>if cs.length<=1000000 then some (.int .i64 (zH cs p r d),S) else none
  | none=>none
 | _=>none
def nM(n₀:Nat)(W:World)(sv:Value)(cs:List gw):Prop :=
 (∃ao aK,sv = .slice ao 0 aK/\cs = [])\/∃b off aK,sv = .slice (some ⟨b,off,none⟩) cs.length aK/\b<n₀/\∀j c,cs[j]? = some c ->
  W.cell? ⟨b,off+j*4,none⟩=some (.int .i64 c.person)/\W.cell? ⟨b,off+j*4+1,none⟩=some (.int .i64 c.rc)/\W.cell? ⟨b,off+j*4+2,none⟩=some (.int .i64 c.day)/\W.cell? ⟨b,off+j*4+3,none⟩=some (.int .i64 c.kind)
theorem BI{P:Program}{f:FuncId}{fn:Func}(hf:P.funcs[f]? = some fn)(JX:(fn.name == "runtime.NumGoroutine")=false)(hb:fn.body.isNone=false)
  (hc:∀(sv:Value) (cs:List gw) (p r d:Int),cs.length<=1000000->∀w:World,nM w.heap.size w sv cs ->
   Calls P f #[sv,.int .i64 p,.int .i64 r,.int .i64 d] w fun e W'=>e = .returned (.int .i64 (zH cs p r d))/\Below w.heap.size w W') :
  bQ P f uE:=by
 refine⟨⟨fn,hf,JX,hb⟩,?_⟩;intro args S rr S' hp base T B I w vs hrel I3;unfold uE at hp;split at hp
 .rename_i x p r d;split at hp
  .rename_i cs el;split at hp
   .rename_i IY;simp only[ae,ap]at I3;obtain⟨u,_,rfl,hu,_,_,rfl,rfl,_,_,rfl,rfl,_,_,rfl,rfl,rfl⟩:=I3
    have hI:nM w.heap.size w u cs:=by
     unfold Cb at el;split at el
     .rename_i st rows;have er:=A6 el;simp only[ap]at hu;obtain⟨ao,aK,rfl,_,_,h4,h5⟩:=hu;cases cs with
      | nil=>subst er;exact .inl ⟨ao,aK,rfl,rfl⟩
      | cons c cs=>
       obtain⟨g',Ny,rfl,OH,MC⟩:=h5 (by rw[er];simp);refine .inr ⟨g',Ny,aK,by rw[er];simp,?_,?_⟩
       .exact hrel.Blt _ (jy (st:=st) hrel.TB _ OH)
       .intro j c' hj;obtain⟨_,QU⟩:=df.1 MC j (i6 c') (by rw[er,Vc,hj];rfl);simp only[i6,aU,ap]at QU;obtain⟨⟨u1,k1,_,rfl⟩,⟨u2,k2,_,rfl⟩,⟨u3,k3,_,rfl⟩,⟨u4,k4,_,rfl⟩,_⟩:=QU;exact⟨k1,k2,k3,k4⟩
     .injection el with el;subst el;simp only[ap]at hu;subst hu;exact .inl ⟨none,0,rfl,rfl⟩
     .cases el
    injection hp with hp;injection hp with q1 q2;subst q1 q2;have J0:=hc u cs p r d IY w hI;refine J0.mono ?_;rintro e W' ⟨rfl,JH⟩;have KD:cB base T B I (dN S) W':=hrel.quiet JH (fun _ h=>h) (fun _ h=>h) hrel.TB (fun _ h=> .inl h);have J2:bu base T B I w T B I W':=bu.quiet hrel JH (fun _ h=>h) (fun _ h=>h) (fun _ h=> .inl h) (fun _ h=> .inl h);exact⟨_,T,B,I,rfl,J2,KD,by simp only[ap]⟩
   .cases hp
  .cases hp
 .cases hp
end
def FC(n:Int):List AV->Bool
 | .int .i64 m::_=>m == n
 | _=>false
def Fr:List AV->Option Int
 | _::_::_::_ :: .int .i64 m::_=>some m
 | _=>none
def BC:List AV->AV
 | _::_::_::_::_::s::_=>s
 | _=> .junk
def Bv:List AV->Bool
 | [.str _,.str _]=>true
 | _=>false
def Hs(rows:List (List AV)):Nat->Int->Option (List (List AV))
 | 0,_=>some []
 | k+1,n=>match rows.find? (FC n) with
  | none=>some []
  | some r=>match rowsOf [] 2 (BC r),Fr r with
   | some (x::l,_),_=>some (x::l)
   | some ([],_),some m=>if m=0 then some [] else Hs rows k m
   | _,_=>none
def rR(r:List AV):Bool :=
 match r with
 | [.int .i64 _,_,_,_,.int .i64 _,s,_,_]=>match rowsOf [] 2 s with
  | some (rs,_)=>s.cell && s.clean && rs.all Bv && decide (rs.length<=1073741824)
  | none=>false
 | _=>false
def gD(args:List AV)(S:ab):Option (AV×ab) :=
 match args with
 | [l,.int .i64 n]=>if l.clean=true then match rowsOf [] 8 l with
  | some (rows,_)=>if rows.all rR=true/\rows.length<=1000000 then match Hs rows (rows.length+1) n with
   | some []=>some (.flat (.slice none 0 0),S)
   | some (x::o)=>some (.sl S.length (x::o).length 0 (x::o).length 2,S++[.arr (x::o) 2 0 true])
   | none=>none
   else none
  | none=>none
  else none
 | _=>none
section
variable {S:ab}{b e sz:Nat}{cl:List AV->Bool}{r:List AV}{sf:List (List AV)->Option (List (List AV))}
def Fz(x:Int):List Int->List Int
 | []=>[x]
 | y::l=>if x<=y then x::y::l else y::Fz x l
def BX:List Int->List Int
 | []=>[]
 | x::l=>Fz x (BX l)
def kg:List (List AV)->Option (List (Int×Int))
 | []=>some []
 | r::rest=>match r,kg rest with
  | [.int .i64 a,.int .i64 b],some l=>some ((a,b)::l)
  | _,_=>none
def ltP(x y:Int×Int):Bool:=decide (x.1<y.1)
def psrt(l:List (Int×Int)):List (Int×Int):=(Go.Sort.sort ltP l.toArray).toList
def x9(x:Int×Int):List AV:=[.int .i64 x.1,.int .i64 x.2]
def IT(rows:List (List AV)):Option (List (List AV)):=(kQ rows).map fun l=>az (BX l)
def sfP(rows:List (List AV)):Option (List (List AV)):=(kg rows).map fun l=>(psrt l).map x9
def intA:AV->Bool
 | .int _ _=>true
 | _=>false
def fY(sz:Nat)(r:List AV):Bool:=r.length == sz && r.all intA
def fX(sz:Nat)(sf:List (List AV)->Option (List (List AV)))(cl:List AV->Bool)(args:List AV)(S:ab):Option (AV×ab) :=
 match args with
 | .flat (.slice none 0 0)::r=>if cl r=true then some (.tup [],S) else none
 | .sl b e 0 n Je::r=>if cl r=true/\Je=sz then
   if n=0 then some (.tup [],S) else match S[b]? with
    | some (.arr rows sz2 wep pr)=>if sz2=sz/\rows.length=e/\wep<=e/\n<=e/\n<4294967296/\rows.all (fY sz)=true then match sf (rows.take n) with
      | some rs=>some (.tup [],S.set b (.arr (rs++rows.drop n) sz e pr))
      | none=>none
     else none
    | _=>none
  else none
 | _=>none
def Fw(f:FuncId):List AV->Bool
 | [.fn g []]=>f == g
 | _=>false
def xY(hc:cl r=true):fX sz sf cl (.sl b e 0 0 sz::r) S=some (.tup [],S):=by
 show (if cl r=true/\sz=sz then _ else _)=_;rw[if_pos ⟨hc,rfl⟩];rfl
def xZ{n wep:Nat}{rows rs:List (List AV)}{pr:Bool}(hc:cl r=true)(h0:¬n=0)(hb:S[b]? = some (.arr rows sz wep pr))(h:rows.length=e/\wep<=e/\n<=e/\n<4294967296/\rows.all (fY sz)=true)(hs:sf (rows.take n)=some rs) :
  fX sz sf cl (.sl b e 0 n sz::r) S=some (.tup [],S.set b (.arr (rs++rows.drop n) sz e pr)):=by
 show (if cl r=true/\sz=sz then _ else _)=_;rw[if_pos ⟨hc,rfl⟩,if_neg h0,hb];show (if sz=sz/\_ then _ else _)=_;rw[if_pos ⟨rfl,h⟩,hs]
theorem vf(x:Int):∀l,(Fz x l).Perm (x::l)
 | []=> .refl _
 | y::l=>by
  rw[Fz];split
  .exact .refl _
  .exact((vf x l).cons y).trans (.swap ..)
theorem vb:∀l,(BX l).Perm l
 | []=> .refl _
 | x::l=>(vf x _).trans ((vb l).cons x)
theorem DB(x:Int):∀l:List Int,l.Pairwise (·<=·)->(Fz x l).Pairwise (·<=·)
 | [],_=>by simp[Fz]
 | y::l,h=>by
  rw[Fz];rw[Wx]at h;split
  .rename_i hx;rw[Wx];refine⟨fun z hz=>?_,Wx.2 h⟩;rcases U2.1 hz with rfl|hz
   .exact hx
   .exact Int.le_trans hx (h.1 z hz)
  .rename_i hx;rw[Wx];refine⟨fun z hz=>?_,DB x l h.2⟩;rcases U2.1 ((vf x l).mem_iff.1 hz) with rfl|hz
   .omega
   .exact h.1 z hz
theorem Dz:∀l:List Int,(BX l).Pairwise (·<=·)
 | []=> .nil
 | x::l=>DB x _ (Dz l)
def GW(l:List Int):BX l=l.mergeSort fun x y=>decide (x<=y):=by
 refine List.Perm.eq_of_pairwise (le:=fun a b:Int=>a<=b) (fun a b _ _ h1 h2=>Int.le_antisymm h1 h2) (Dz l) ?_ ((vb l).trans (List.mergeSort_perm l _).symm);have:=List.pairwise_mergeSort (le:=fun x y:Int=>decide (x<=y)) (fun a b c h1 h2=>by simp only[decide_eq_true_eq]at*;omega) (fun a b=>by simp;omega) l;exact this.imp fun h=>by simpa using h
end
def bE:ByteArray:=⟨#[98,97,98,105]⟩
def bBa:ByteArray:=⟨#[98,97]⟩
def bPi:ByteArray:=⟨#[112,105]⟩
def b1(n:UInt8):ByteArray:=⟨#[n]⟩
def w8(args:List AV)(S:ab):Option (AV×ab) :=
 match args with
 | [.str s]=>if s=bE then some (.sl S.length 4 0 4 1,S++[.arr [[.str (b1 98)],[.str (b1 97)],[.str (b1 98)],[.str (b1 105)]] 1 0 true]) else none
 | _=>none
def BH(args:List AV)(S:ab):Option (AV×ab) :=
 match args with
 | [.agg [.str _,.tsl _ 2 [[.str g1,.tsl _ 1 [[.int .i64 n1]]],[.str g2,.tsl _ 1 [[.int .i64 n2]]],[.str g3,.tsl _ 1 [[.int .i64 n3]]],[.str g4,.tsl _ 1 [[.int .i64 n4]]]],.flat (.slice none 0 0)],.tsl _ 1 [[.int .i64 x1],[.int .i64 x2]]]=>
  if b1 98=g1/\b1 97=g2/\b1 112=g3/\b1 105=g4/\1=n1/\2=n2/\3=n3/\4=n4 then
   if x1=1/\x2=2 then some (.tup [.str bBa,.int .i64 0,.int .i64 0],S) else if x1=3/\x2=4 then some (.tup [.str bPi,.int .i64 0,.int .i64 0],S) else none
  else none
 | _=>none
def BJ(args:List AV)(S:ab):Option (AV×ab) :=
 match args with
 | [p]=>match rowsOf S 1 p with
  | some ([[c]],_)=>match rowsOf S 1 c with
   | some ([[.str s]],_)=>if bE=s then some (.sl S.length 1 0 1 1,S++[.arr [[.str bE]] 1 0 true]) else none
   | _=>none
  | _=>none
 | _=>none
end Go.Eng
