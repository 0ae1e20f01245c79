/- An operation that only computes, as a whole. -/
import Derived.Test.YtkahfcmeeloikaaGreatDoorEngD
set_option linter.all false
set_option maxHeartbeats 1000000
namespace Go.Eng
open Go.RowKit
variable [aw]
variable {a:Act}{fr:List AV}
section
variable {P:Program}{X:dV}(hX:eC P X){w:World}{T B:bV}{I:dK}
theorem x8(I4:∀x,ap w (ak fr x) T B I (a.eval x)):∀(ps:List (Nat×Operand)),dQ w T B I (ps.map fun p=>(p.1,ak fr p.2)) (ps.map fun p=>(p.1,a.eval p.2))
 | []=>by simp[dQ]
 | p::ps=>by
  simp only[Vk,dQ];exact⟨_,_,rfl,I4 p.2,x8 I4 ps⟩
theorem Fc(I4:∀x,ap w (ak fr x) T B I (a.eval x))(o:Option Operand):gm w T B I (o.map (ak fr)) (o.map a.eval):=by
 cases o with
 | none=>simp[gm]
 | some x=>simp only[Vf,gm];exact⟨_,rfl,I4 x⟩
def yu(I4:∀x,ap w (ak fr x) T B I (a.eval x))(l:List Operand):ae w (l.map (ak fr)) T B I (l.map a.eval) :=
 lE l fun x _=>I4 x
include hX in
def uG(Jc:∀g,T g->B g){o:Oper}{v:AV}(I4:∀x,ap w (ak fr x) T B I (a.eval x))(h:eJ X fr o=some v) :
  ∃u,(∀w1,(execOp a.eval o).run P w1 = .ok (.value u) w1)/\ap w v T B I u:=by
 unfold eJ at h;split at h
 .rename_i x ho;split at h
  .cases h
  .injection h with h;subst h;exact⟨_,fun w1=>by simp only[execOp,ho];rfl,I4 _⟩
 .rename_i x ho;split at h
  .cases h
  .injection h with h;subst h;exact⟨_,fun w1=>by simp only[execOp,ho];rfl,I4 _⟩
 .rename_i c x y ho;split at h
  .rename_i t hc;injection h with h;subst h;have h1:=I4 c;rw[hc]at h1;simp only[ap]at h1;refine⟨if t then a.eval x else a.eval y,fun w1=>?_,?_⟩
   .simp[execOp,ho,h1,asBool]
   .cases t
    .exact I4 y
    .exact I4 x
  .cases h
 .rename_i x ho;have h1:=I4 x;split at h
  .rename_i hx;injection h with h;subst h;rw[hx]at h1;have h2:=h1;simp only[ap]at h1;obtain⟨g,gs,_,hu⟩:=h1;exact⟨_,fun w1=>by simp only[execOp,ho,hu];rfl,hu ▸ h2⟩
  .rename_i hx;injection h with h;subst h;rw[hx]at h1;have h2:=h1;simp only[ap]at h1;obtain⟨g,gs,hu,_⟩:=h1;exact⟨_,fun w1=>by simp only[execOp,ho,hu];rfl,hu ▸ h2⟩
  .rename_i hx;injection h with h;subst h;rw[hx]at h1;have h2:=h1;simp only[ap]at h1;obtain⟨v,hu,_⟩:=h1;exact⟨_,fun w1=>by simp only[execOp,ho,hu];rfl,hu ▸ h2⟩
  .cases h
 .rename_i t x ho;split at h
  .rename_i i e1;split at h
   .rename_i hs;injection h with h;subst h;obtain⟨_,d,_,_,_,_,_,_,_,_,k8,q1,_⟩:=bm (hX.ty _ _ e1);refine⟨.iface t (a.eval x),fun w1=>?_,by simp only[ap];exact⟨_,rfl,I4 x⟩⟩
    have hd:∀l,d≠.interface l:=by
     intro l hl;subst hl;generalize i.desc=dd at hs k8;cases dd<;>simp only[cg]at k8<;>first|(cases k8;done)|(obtain⟨_,h0,_⟩:=k8;cases h0;done)|(cases hs;done)
    simp only[execOp,ho,UY,Instr.makeInterface,q1,UR];cases d<;>first|rfl|exact absurd rfl (hd _)
   .cases h
  .cases h
 .rename_i op t x y _ ho;obtain⟨u,h1,h2⟩:=run_binA hX x y h (I4 x) (I4 y);refine⟨u,fun w1=>?_,h2⟩;have:=h1 w1;simp only[execOp,ho,UY]at this ⊢;rw[this];rfl
 .rename_i op t x ho;obtain⟨u,h1,h2⟩:=run_unA (P:=P) h (I4 x);exact⟨u,fun w1=>by simp only[execOp,ho,UY,h1];rfl,h2⟩
 .rename_i s d x ho;obtain⟨u,h1,h2⟩:=HK hX h (I4 x);exact⟨u,fun w1=>by simp only[execOp,ho,UY,h1];rfl,h2⟩
 .rename_i t parts ho;obtain⟨u,h1,h2⟩:=EQ hX (qs:=parts.map fun p=>(p.1,a.eval p.2)) h (by simpa using x8 I4 parts.toList);exact⟨u,fun w1=>by simp only[execOp,ho,UY];rw[h1];rfl,h2⟩
 .rename_i t x f ho;obtain⟨u,h1,h2⟩:=EP hX h (I4 x);exact⟨u,fun w1=>by simp only[execOp,ho,UY,h1];rfl,h2⟩
 .rename_i t x f ho;obtain⟨u,h1,h2⟩:=xR hX h (I4 x);exact⟨u,fun w1=>by simp only[execOp,ho,UY,h1];rfl,h2⟩
 .rename_i t x i ho;obtain⟨u,h1,h2⟩:=xQ hX Jc h (I4 x) (I4 i);exact⟨u,fun w1=>by simp only[execOp,ho,UY,h1];rfl,h2⟩
 .rename_i t x i ho;obtain⟨u,h1,h2⟩:=EO hX h (I4 x) (I4 i);exact⟨u,fun w1=>by simp only[execOp,ho,UY,h1];rfl,h2⟩
 .rename_i t x lo hi mx ho;obtain⟨u,h1,h2⟩:=EN hX h (I4 x) (Fc I4 lo) (Fc I4 hi) (Fc I4 mx);exact⟨u,fun w1=>by simp only[execOp,ho,UY,h1];rfl,h2⟩
 .rename_i f first captured ho
  split at h
  .rename_i hz;injection h with h;subst h;have Pt:first = #[]:=by simpa using hz
   subst Pt;refine⟨.func (.func f) #[] (captured.map a.eval),fun w1=>by simp[execOp,ho,Instr.makeFunc],?_⟩;simp only[ap];exact⟨captured.toList.map a.eval,by rw[<-W9,WK],yu I4 _⟩
  .cases h
 .rename_i x i ho;split at h
  .rename_i vs hx;have h1:=I4 x;rw[hx]at h1;simp only[ap]at h1;obtain⟨us,hu,h2⟩:=h1;obtain⟨u,k1,k2⟩:=fQ h2 i v h;refine⟨u,fun w1=>?_,k2⟩;simp[execOp,ho,hu,Instr.extract,k1]
  .cases h
 .rename_i args argTypes ho;split at h
  .rename_i x t ea et;have LW:args = #[x]:=by rw[<-Vw];exact ea
   have LV:argTypes = #[t]:=by rw[<-Vw];exact et
   subst LW LV
   have fin:∀(n:Nat),(∀w1,(Builtin.len_ #[t] o.type #[a.eval x]).run P w1 = .ok (.int .i64 n) w1)->∀w1,(execOp a.eval o).run P w1 = .ok (.value (.int .i64 n)) w1:=fun n hn w1=>by
    simp[execOp,ho,resolve,invoke,builtin,hn]
   split at h
   .rename_i el n e1 en;split at h
    .cases h
    .rename_i Km;injection h with h;subst h;obtain⟨ti,d,z,_,_,_,_,_,_,_,k8,q1,_⟩:=bm (hX.ty _ _ e1);simp only[cg]at k8;subst k8;rcases GS en (I4 x) with ⟨s,hs,_⟩|⟨_,ao,aK,hu⟩
     .exact absurd hs (Km s)
     .exact⟨.int .i64 n,fin n fun w1=>by simp[Builtin.len_,q1,hu,goInt],by simp only[ap]⟩
   .rename_i n e1 en;split at h
    .injection h with h;subst h;obtain⟨ti,d,z,_,_,_,_,_,_,_,k8,q1,_⟩:=bm (hX.ty _ _ e1);simp only[cg]at k8;subst k8;rcases GS en (I4 x) with ⟨s,hs,hu,rfl⟩|⟨Km,_⟩
     .exact⟨.int .i64 s.size,fin s.size fun w1=>by simp[Builtin.len_,q1,hu,goInt],by simp only[ap]⟩
     .exact absurd (by assumption) (Km _)
    .cases h
   .cases h
  .cases h
 .rename_i args argTypes ho;obtain⟨u,h1,h2⟩:=yo (P:=P) true argTypes o.type h (yu I4 _);simp only[if_true]at h1;refine⟨u,fun w1=>?_,h2⟩;have:=h1 w1;simp only[<-W9,WK]at this;simp[execOp,ho,resolve,invoke,builtin,this]
 .rename_i args argTypes ho;obtain⟨u,h1,h2⟩:=yo (P:=P) false argTypes o.type h (yu I4 _);simp only[U3,if_false]at h1;refine⟨u,fun w1=>?_,h2⟩;have:=h1 w1;simp only[<-W9,WK]at this;simp[execOp,ho,resolve,invoke,builtin,this]
 .cases h
end
end Go.Eng
