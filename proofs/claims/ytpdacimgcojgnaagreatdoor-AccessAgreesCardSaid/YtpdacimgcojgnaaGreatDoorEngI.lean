/- An operation that writes, as a whole. -/
import Derived.Test.YtpdacimgcojgnaaGreatDoorEngH
set_option linter.all false
namespace Go.Eng
open Go.RowKit
variable [Known]

section
variable {P:Program}{X:Ctx}(hX:CtxOK P X){base:Nat}{T B:Area}{I:Inj}{S:Store}{w:World}

def sig (S:Store):Sig:=fun b=>S[b]?

omit [Known] in
theorem sig_set {b:Nat}{blk blk':Blk}(h:S[b]? = some blk):sig (S.set b blk') b=some blk'∧∀ x,x≠b→sig (S.set b blk') x=sig S x:=by
 have hb:=(List.getElem?_eq_some_iff.1 h).1
 refine⟨by simp [sig,hb],fun x hx=>?_⟩
 simp only [sig]
 rw [List.getElem?_set_ne (fun e=>hx e.symm)]

theorem Rel.fresh (h:Rel base T B I (sig S) w){b:Nat}(hb:S.length≤b):∀ e,I b e=none:=by
 intro e
 cases hi:I b e with
 | none=>rfl
 | some p=>
  obtain⟨rs,sz2,wep2,pr2,q1,_⟩:=h.blk b e p.1 p.2 hi
  simp [sig,List.getElem?_eq_none hb] at q1

include hX in
theorem eop_sound {fr:List AV}{a:Act}{o:Oper}{v:AV}{S2:Store}(h:Rel base T B I (sig S) w) (hfr:∀ x,vrep w (evalA fr x) T B I (a.eval x)) (hq:eopA X S fr o=some (v,S2)) :
  EOut P base T B I (sig S2) w v (execOp a.eval o):=by
 unfold eopA at hq
 split at hq
 ·rename_i t p x ho
  split at hq
  ·rename_i i b e sz row off e1 e2
   split at hq
   ·rename_i rows sz' wep pr e3
    dsimp only at hq
    split at hq
    ·rename_i hc
     obtain⟨c1,c2,c3,c4,c5,c6,c7⟩:=hc
     subst c1
     injection hq with hq;injection hq with q1 q2;subst q1 q2
     have hp:=hfr p
     rw [e2] at hp
     obtain⟨w',s1,s2,s3⟩:=store_sound hX (S':=sig (S.set b _)) h e1 hp (hfr x) e3 c2 c3 c4 c5 c6 c7 (sig_set e3).1 (sig_set e3).2
     exact⟨T,B,I,w',undef,.skip,by simp [execOp,ho,s1],.inr ⟨rfl,rfl⟩,s2,s3,by simp only [vrep]⟩
    ·cases hq
   ·cases hq
  ·cases hq
 ·rename_i args argTypes ho
  split at hq
  ·rename_i s x t u ea et
   have ea':args = #[s,x]:=by rw [←Array.toList_inj];exact ea
   have et':argTypes = #[t,u]:=by rw [←Array.toList_inj];exact et
   subst ea' et'
   split at hq
   ·rename_i el e1
    obtain⟨_,d,_,_,ht,_,_,_,_,_,k8,_⟩:=zbO (hX.ty _ _ e1)
    simp only [descOK] at k8
    subst k8
    split at hq
    ·rename_i ei e2
     split at hq
     ·rename_i hc
      obtain⟨c1,c2,c3⟩:=hc
      subst c1
      split at hq
      ·rename_i news prn e3
       obtain⟨xo,xc,hxu,hx1,hx2,hx3,hx4'⟩:=rowsOf_rep h (S:=S) (fun b blk hb=>hb) e3 (hfr x)
       have hx4:news≠[]→∃ g off,xo=some ⟨g,off,none⟩∧rowsRep w news T (if prn then T else B) (if prn then noInj else I) g off ei.size:=fun hne=>
        let ⟨g,off,q1,q2,_⟩:=hx4' hne
        ⟨g,off,q1,q2⟩
       have hs:=hfr s
       have exec:∀ r w',(Builtin.append_ #[t,t] o.type #[a.eval s,a.eval x]).run P w = .ok r w'→(execOp a.eval o).run P w = .ok (.value r) w':=fun r w' hr=>by
        simp [execOp,ho,resolve,invoke,builtin,hr]
       obtain⟨tei,_,_,ke1,_⟩:=(hX.ty _ _ e2).ok
       have zero:∀ (ao:Option Addr) (n cap:Nat),a.eval s = .slice ao n cap→n≤cap→news.length=0→(execOp a.eval o).run P w = .ok (.value (a.eval s)) w:=fun ao n cap hu hn h0=>by
        refine exec _ _ ?_
        rw [hxu,hu,h0]
        exact run_append_zero (P:=P) w t o.type el _ ht ke1 ao xo n cap xc hn
       split at hq
       ·rename_i b e off len sz e4
        rw [e4] at hs
        split at hq
        ·rename_i rows sz' wep pr e5
         split at hq
         ·rename_i hc
          obtain⟨d1,d2,d3,d4,d5,d6,d7,d8⟩:=hc
          subst d1 d2 d5 d6
          subst d3
          split at hq
          ·rename_i h0
           injection hq with hq;injection hq with q1 q2;subst q1 q2
           have hs2:=hs
           simp only [vrep] at hs2
           rcases hs2 with ⟨_,_,h00,ao,hu⟩|⟨g,gs,cap,_,hu,hle,_⟩
           ·exact⟨T,B,I,w,_,_,zero _ _ _ hu (Nat.le_refl _) h0,.inl rfl,Step.refl,h,hs⟩
           ·exact⟨T,B,I,w,_,_,zero _ _ _ hu hle h0,.inl rfl,Step.refl,h,hs⟩
          ·rename_i h0
           injection hq with hq;injection hq with q1 q2;subst q1 q2
           obtain⟨I',w',r,r1,r2,r3,r4⟩:=append_own hX (ty:=o.type) (xc:=xc) (S':=sig (S.set b _)) h ht e2 hx4 c3 h0 d7 d8 hs e5 d4 (sig_set e5).1 (sig_set e5).2
           exact⟨T,B,I',w',r,_,exec _ _ (by rw [hxu];exact r1),.inl rfl,r2,r3,r4⟩
         ·cases hq
        ·cases hq
       ·cases hq
      ·cases hq
     ·cases hq
    ·cases hq
   ·cases hq
  ·cases hq
 ·rename_i args argTypes ho
  split at hq
  ·rename_i s t ea et
   have ea':args = #[s]:=by rw [←Array.toList_inj];exact ea
   have et':argTypes = #[t]:=by rw [←Array.toList_inj];exact et
   subst ea' et'
   have exec:∀ r w',(Builtin.clear_ #[t] o.type #[a.eval s]).run P w = .ok r w'→(execOp a.eval o).run P w = .ok (.value r) w':=fun r w' hr=>by
    simp [execOp,ho,resolve,invoke,builtin,hr]
   have hs:=hfr s
   have tup0:∀ {w T B I},vrep w (.tup []) T B I (.tuple #[]):=by simp [vrep,listRep]
   split at hq
   ·rename_i el b e off len sz e1 e2
    obtain⟨_,d,_,_,ht,_,_,_,_,_,k8,_⟩:=zbO (hX.ty _ _ e1)
    simp only [descOK] at k8
    subst k8
    rw [e2] at hs
    split at hq
    ·rename_i ei rows sz' wep pr e3 e4
     split at hq
     ·rename_i hc
      obtain⟨d1,d2,d3,d4,d5,d6⟩:=hc
      split at hq
      ·rename_i h0
       injection hq with hq;injection hq with q1 q2;subst q1 q2
       refine⟨T,B,I,w,_,_,exec (.tuple #[]) w ?_,.inl rfl,Step.refl,h,tup0⟩
       simp only [vrep] at hs
       subst h0
       rcases hs with ⟨_,_,_,ao,hu⟩|⟨g,gs,cap,_,hu,_⟩
       ·cases ao<;>simp [hu,Builtin.clear_,run_underlying ht]
       ·simp [hu,Builtin.clear_,run_underlying ht]
      ·rename_i h0
       injection hq with hq;injection hq with q1 q2;subst q1 q2
       subst d4
       obtain⟨w',r1,r2,r3⟩:=clear_sound hX (ty:=o.type) (S':=sig (S.set b _)) h ht e3 hs e4 d1 d2 d3 d5 d6 h0 (sig_set e4).1 (sig_set e4).2
       exact⟨T,B,I,w',_,_,exec _ _ r1,.inl rfl,r2,r3,tup0⟩
     ·cases hq
    ·cases hq
   ·rename_i el st sz e1 e2
    obtain⟨_,d,_,_,ht,_,_,_,_,_,k8,_⟩:=zbO (hX.ty _ _ e1)
    simp only [descOK] at k8
    subst k8
    rw [e2] at hs
    injection hq with hq;injection hq with q1 q2;subst q1 q2
    refine⟨T,B,I,w,_,_,exec (.tuple #[]) w ?_,.inl rfl,Step.refl,h,tup0⟩
    simp only [vrep] at hs
    obtain⟨ao,cap,hu,_⟩:=hs
    cases ao<;>simp [hu,Builtin.clear_,run_underlying ht]
   ·cases hq
  ·cases hq
 ·cases hq

include hX in
theorem nop_sound {S':Sig}{dr:Bool}{id:Nat}{fr:List AV}{a:Act}{o:Oper}{v:AV}{nb:List Blk}(h:Rel base T B I S' w) (hS:∀ b blk,S[b]? = some blk→S' b=some blk) (hfr:∀ x,vrep w (evalA fr x) T B I (a.eval x))
  (hq:nopA X dr S id fr o=some (v,nb)) (hfresh:nb≠[]→∀ e,I id e=none) (hnb:∀ blk,nb = [blk]→S' id=some blk) :
  ∃ x:Sem Value,execOp a.eval o=(do let u ← x;pure (.value u))∧QOut P base T B I S' w id nb v x:=by
 have nilcase:(execOp a.eval o=pure (.value (.slice none 0 0)))→(if dr=true then some (AV.flat (.slice none 0 0),[]) else match X.ty o.type with
   | some ⟨_,_,_,_,.slice el⟩=>match X.ty el with
    | some ei=>some (AV.sl id 0 0 0 ei.size,[Blk.arr [] ei.size 0 true])
    | none=>none
   | _=>none)=some (v,nb)→∃ x:Sem Value,execOp a.eval o=(do let u ← x;pure (.value u))∧QOut P base T B I S' w id nb v x:=by
  intro he hq
  refine⟨pure (.slice none 0 0),by rw [he];rfl,?_⟩
  split at hq
  ·injection hq with hq;injection hq with q1 q2;subst q1 q2
   exact QOut.same h ⟨_,rfl,by simp only [vrep]⟩
  ·split at hq
   ·split at hq
    ·injection hq with hq;injection hq with q1 q2;subst q1 q2
     exact QOut.same h ⟨_,rfl,by simp only [vrep];exact .inl ⟨trivial,trivial,trivial,_,rfl⟩⟩
    ·cases hq
   ·cases hq
 unfold nopA at hq
 split at hq
 ·rename_i ho
  exact nilcase (by simp only [execOp,ho];rfl) hq
 ·rename_i ho
  exact nilcase (by simp only [execOp,ho];rfl) hq
 ·rename_i args argTypes ho
  split at hq
  ·rename_i s x t u ea et
   have ea':args = #[s,x]:=by rw [←Array.toList_inj];exact ea
   have et':argTypes = #[t,u]:=by rw [←Array.toList_inj];exact et
   subst ea' et'
   split at hq
   ·rename_i el e1
    obtain⟨_,d,_,_,ht,_,_,_,_,_,k8,_⟩:=zbO (hX.ty _ _ e1)
    simp only [descOK] at k8
    subst k8
    split at hq
    ·rename_i ei e2
     split at hq
     ·rename_i hc
      obtain⟨c1,c2,c3⟩:=hc
      subst c1
      split at hq
      ·rename_i news prn e3
       obtain⟨xo,xc,hxu,hx1,hx2,hx3,hx4'⟩:=rowsOf_rep h hS e3 (hfr x)
       have hx4:news≠[]→∃ g off,xo=some ⟨g,off,none⟩∧rowsRep w news T (if prn then T else B) (if prn then noInj else I) g off ei.size:=fun hne=>
        let ⟨g,off,q1,q2,_⟩:=hx4' hne
        ⟨g,off,q1,q2⟩
       have hs:=hfr s
       refine⟨Builtin.append_ #[t,t] o.type #[a.eval s,a.eval x],by simp [execOp,ho,resolve,invoke,builtin],?_⟩
       obtain⟨tei,_,_,ke1,_⟩:=(hX.ty _ _ e2).ok
       have zero:∀ (ao:Option Addr),a.eval s = .slice ao 0 0→news.length=0→(Builtin.append_ #[t,t] o.type #[a.eval s,a.eval x]).run P w = .ok (a.eval s) w:=fun ao hu h0=>by
        rw [hxu,hu,h0]
        exact run_append_zero (P:=P) w t o.type el _ ht ke1 ao xo 0 0 xc (Nat.le_refl _)
       have more:∀ (ao:Option Addr),a.eval s = .slice ao 0 0→news.length≠0→news.length*ei.bytes≤140737488355328→news.length≤140737488355328→nb = [.arr news ei.size 0 prn]→v = .sl id news.length 0 news.length ei.size →
         QOut P base T B I S' w id nb v (Builtin.append_ #[t,t] o.type #[a.eval s,a.eval x]):=fun ao hu h0 hb1 hb2 hn hv=>by
        obtain⟨I',w',r,r1,r2,r3,r4,r5⟩:=append_fresh hX (ty:=o.type) (ao:=ao) (xc:=xc) (S':=S') (b:=id) h ht e2 hx4 c3 h0 hb1 hb2 (hfresh (by rw [hn];simp)) (hnb _ hn) (fun _ _=>rfl)
        rw [hxu,hu,hv]
        exact⟨T,B,I',w',r,r1,r2,r3,r4,fun b e p hp=>(r5 b e p hp).imp (fun h=>h) (fun h=>⟨h,by rw [hn];simp⟩)⟩
       split at hq
       ·rename_i e4
        rw [e4] at hs
        simp only [vrep] at hs
        obtain⟨ao,hu⟩:=hs
        split at hq
        ·rename_i h0
         injection hq with hq;injection hq with q1 q2;subst q1 q2
         exact QOut.same h ⟨_,zero ao hu h0,by simp only [vrep];exact⟨ao,hu⟩⟩
        ·rename_i h0
         split at hq
         ·rename_i hb
          injection hq with hq;injection hq with q1 q2
          exact more ao hu h0 hb.1 hb.2 q2.symm q1.symm
         ·cases hq
       ·rename_i e4
        rw [e4] at hs
        simp only [vrep] at hs
        split at hq
        ·rename_i h0
         injection hq with hq;injection hq with q1 q2;subst q1 q2
         exact QOut.same h ⟨_,zero none hs h0,by simp only [vrep];exact hs⟩
        ·rename_i h0
         split at hq
         ·rename_i hb
          injection hq with hq;injection hq with q1 q2
          exact more none hs h0 hb.1 hb.2 q2.symm q1.symm
         ·cases hq
       ·cases hq
      ·cases hq
     ·cases hq
    ·cases hq
   ·cases hq
  ·cases hq
 ·cases hq
end
end Go.Eng
