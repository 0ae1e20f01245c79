/- More fuel changes nothing; and how to reason about a run step by step. -/
import Derived.Test.YtkahfcmeeloikaaGreatDoorEngO
set_option linter.all false
set_option maxHeartbeats 1000000
namespace Go.Eng
open Go.RowKit
variable {R:AV->Prop}{S:ab}{args:List AV}{c c':gX}{d:Bool}{f:FuncId}{m n:Nat}{o:Oper}{ops:Array Oper}{r:AV}
def rY(c c':gX):Prop := ∀f args S r,c f args S=some r->c' f args S=some r
section
variable {X:dV}
def rX(h:rY c c')(hr:iL c f args=some r):iL c' f args=some r:=by
 unfold iL at hr ⊢;split at hr
 .rename_i e1;rw[h _ _ _ _ e1];exact hr
 .cases hr
def ph(h:rY c c')(hr:jQ c f args=some r):jQ c' f args=some r:=by
 unfold jQ at hr ⊢;split at hr
 .rename_i e1;rw[h _ _ _ _ e1];exact hr
 .cases hr
theorem xD(h:rY c c'){st:St}{r:AV×ab}(hr:dH X d c st o=some r):dH X d c' st o=some r:=by
 unfold dH at hr ⊢;cases e1:eJ X st.fr o with
 | some v=>simp only[e1]at hr ⊢;exact hr
 | none=>
  simp only[e1]at hr ⊢;cases e2:ff X d st.S st.S.length st.fr o with
  | some v=>simp only[e2]at hr ⊢;exact hr
  | none=>
   simp only[e2]at hr ⊢;cases e3:iq X d st.S st.S.length st.fr o with
   | some v=>simp only[e3]at hr ⊢;exact hr
   | none=>
    simp only[e3]at hr ⊢;cases e4:cL X st.fr o with
    | none=>simp only[e4]at hr ⊢;exact hr
    | some fa=>
     obtain⟨f,args⟩:=fa;simp only[e4]at hr ⊢;by_cases hb:X.byRef f=true
     .rw[if_pos hb]at hr ⊢;by_cases hd:(d && !iF X o)=true
      .rw[if_pos hd]at hr;cases hr
      .rw[if_neg hd]at hr ⊢;exact h _ _ _ _ hr
     .rw[if_neg hb]at hr ⊢;cases e5:dU st.S args with
      | none=>simp only[e5]at hr;cases hr
      | some Jb=>
       simp only[e5]at hr ⊢;by_cases hn:X.nest f=true
       .rw[if_pos hn]at hr ⊢;cases e6:jQ c f Jb with
        | none=>simp only[e6]at hr;cases hr
        | some r'=>
         simp only[e6]at hr;rw[ph h e6];exact hr
       .rw[if_neg hn]at hr ⊢;cases e6:iL c f Jb with
        | none=>simp only[e6]at hr;cases hr
        | some r'=>
         simp only[e6]at hr;rw[rX h e6];exact hr
theorem pN(h:rY c c'):∀{l:List Oper}{st I5:St},nX X d c ops l st=some I5->nX X d c' ops l st=some I5
 | [],_,_,hr=>hr
 | o::rest,st,I5,hr=>by
  simp only[nX]at hr ⊢;cases e1:eL ops st.fr o with
  | none=>simp only[e1]at hr;cases hr
  | some b=>
   cases b with
   | true=>
    simp only[e1]at hr ⊢;split at hr
    .cases hr
    rename_i hl;rw[if_neg hl];cases e2:dH X d c st o with
    | none=>simp only[e2]at hr;cases hr
    | some vs=>
     obtain⟨v,S'⟩:=vs;simp only[e2]at hr;rw[xD h e2];exact pN h hr
   | false=>
    simp only[e1]at hr ⊢;exact pN h hr
theorem re{b b':St->Option (Ex×St)}(h:∀st r,b st=some r->b' st=some r):∀{n m:Nat},n<=m->∀{st:St}{r:Ex×St},mA b n st=some r->mA b' m st=some r
 | 0,_,_,_,_,hr=>by simp[mA]at hr
 | n+1,0,JX,_,_,_=>by omega
 | n+1,m+1,JX,st,r,hr=>by
  simp only[mA]at hr ⊢;split at hr
  .rename_i I5 e1;rw[h _ _ e1];exact re h (by omega) hr
  .rename_i I8;rw[h _ _ hr];split
   .rename_i I5 e1;injection e1 with e1;exact absurd (by rw[hr,e1]) (I8 I5)
   .rfl
theorem dz(h:rY c c')(JX:n<=m):∀(k:Code){st:St}{r:Ex×St},cJ X c n k st=some r->cJ X c' m k st=some r
 | .skip,_,_,hr=>hr
 | .label _,_,_,hr=>hr
 | .exit _,_,_,hr=>hr
 | .ret,_,_,hr=>hr
 | .region _ ops d,st,r,hr=>by
  simp only[cJ]at hr ⊢;split at hr
  .rename_i I5 e1;rw[pN h e1];exact hr
  .cases hr
 | .seq a b,st,r,hr=>by
  simp only[cJ]at hr ⊢;split at hr
  .rename_i I5 e1;rw[dz h JX a e1];exact dz h JX b hr
  .rename_i I8;rw[dz h JX a hr];split
   .rename_i I5 e1;injection e1 with e1;exact absurd (by rw[hr,e1]) (I8 I5)
   .rfl
 | .cond _ a b,st,r,hr=>by
  simp only[cJ]at hr ⊢;split at hr
  .rename_i t e;split at hr
   .rename_i ht;rw[if_pos ht];exact dz h JX a hr
   .rename_i ht;rw[if_neg ht];exact dz h JX b hr
  .cases hr
 | .block id k,st,r,hr=>by
  simp only[cJ]at hr ⊢;split at hr
  .rename_i Ki I5 e1;rw[dz h JX k e1];exact hr
  .rename_i I8;rw[dz h JX k hr];split
   .rename_i Ki I5 e1;injection e1 with e1;exact absurd (by rw[hr,e1]) (I8 Ki I5)
   .rfl
 | .loop k,st,r,hr=>by
  simp only[cJ]at hr ⊢;exact re (fun st r hk=>dz h JX k hk) JX hr
 | .rangeFunc ..,_,_,hr=>by simp[cJ]at hr
 | .scope c,st,r,hr=>by
  simp only[cJ]at hr ⊢;exact dz h JX c hr
 | .goto _,_,_,hr=>by simp[cJ]at hr
 | .refuse _,_,_,hr=>by simp[cJ]at hr
theorem F0(n:Nat):rY (dj X n) (dj X (n+1)):=by
 induction n with
 | zero=>exact fun f args S r hr=>by simp[dj]at hr
 | succ n ih=>
  intro f args S r hr;rw[dj]at hr ⊢;cases e0:X.prim f with
  | some p=>simp only[e0]at hr ⊢;exact hr
  | none=>
   simp only[e0]at hr ⊢;cases e1:X.fn f with
   | none=>simp only[e1]at hr;cases hr
   | some fn=>
    simp only[e1]at hr ⊢;cases e2:fn.body with
    | none=>simp only[e2]at hr;cases hr
    | some c=>
     simp only[e2]at hr ⊢;split at hr
     .rename_i st e3;rw[dz ih (V2 n) _ e3];exact hr
     .rename_i st e3;rw[dz ih (V2 n) _ e3];exact hr
     .cases hr
theorem dZ(h:n<=m):rY (dj X n) (dj X m):=by
 induction h with
 | refl=>exact fun _ _ _ _ h=>h
 | step _ ih=>exact fun f args S r hr=>F0 _ f args S r (ih f args S r hr)
def aB(X:dV)(f:FuncId)(args:List AV)(R:AV->Prop):Prop := ∃n r,iL (dj X n) f args=some r/\R r
def Ho(X:dV)(f:FuncId)(args:List AV)(R:AV->Prop):Prop := ∃n r,jQ (dj X n) f args=some r/\R r
def bS(X:dV)(f:FuncId)(args:List AV)(S:ab)(R:AV->ab->Prop):Prop := ∃n r S',dj X n f args S=some (r,S')/\R r S'
def cZ(X:dV)(d:Bool)(o:Oper)(K:AV->ab->Prop)(fr:List AV)(S:ab):Prop :=
 match eJ X fr o with
 | some v=>K v S
 | none=>match ff X d S S.length fr o with
  | some (v,nb)=>K v (S++nb)
  | none=>match iq X d S S.length fr o with
   | some (v,nb)=>K v (S++nb)
   | none=>match cL X fr o with
    | some (f,args)=>
     if X.byRef f then (if d && !iF X o then False else bS X f args S K)
     else match dU S args with
      | some Jb=>if X.nest f=true then Ho X f Jb fun r=>K (fD S.length r).1 (S++(fD S.length r).2) else aB X f Jb fun r=>K (i8 (X.frz o.pos) S.length r).1 (S++(i8 (X.frz o.pos) S.length r).2)
      | none=>False
    | none=>if d && !mM S fr o then False else match iz X S fr o with
     | some (v,S')=>K v S'
     | none=>False
def ia(X:dV)(d:Bool)(fr:List AV):Op->String->Prop->Prop
 | .store _ p _,pos,Q=>if (d && !((X.late pos).all fun t=>pi (eS fr t) (ak fr p)))=true then False else Q
 | _,_,Q=>Q
def Dv{X:dV}{fr:List AV}{Q:Prop}:ia X d fr o.op o.pos Q↔(d && !kL X fr o)=false/\Q:=by
 unfold ia kL;split
 .rename_i t p x h;split
  .rename_i h1;simp only[h,h1,false_iff];simp
  .rename_i h1;simp only[Bool.not_eq_true]at h1;simp only[h,h1,true_and]
 .simp
def cX(X:dV)(d:Bool)(ops:Array Oper):List Oper->(List AV->ab->Prop)->List AV->ab->Prop
 | [],Q,fr,S=>Q fr S
 | o::rest,Q,fr,S=>match eL ops fr o with
  | some g=>if g=true then ia X d fr o.op o.pos (cZ X d o (fun v S'=>cX X d ops rest Q (cj fr o.dst v) S') fr S) else cX X d ops rest Q (cj fr o.dst (.flat undef)) S
  | none=>False
def dE(body:(Ex->List AV->ab->Prop)->List AV->ab->Prop)(Q:Ex->List AV->ab->Prop):Nat->List AV->ab->Prop
 | 0,_,_=>False
 | n+1,fr,S=>body (fun e Jy S'=>match e with | .normal=>dE body Q n Jy S'|e=>Q e Jy S') fr S
def bB(X:dV):Code->(Ex->List AV->ab->Prop)->List AV->ab->Prop
 | .skip,Q,fr,S=>Q .normal fr S
 | .region _ ops d,Q,fr,S=>cX X d ops ops.toList (Q .normal) fr S
 | .seq a b,Q,fr,S=>bB X a (fun e Jy S'=>match e with | .normal=>bB X b Q Jy S'|e=>Q e Jy S') fr S
 | .cond c a b,Q,fr,S=>match ak fr c with
  | .bool t=>if t=true then bB X a Q fr S else bB X b Q fr S
  | _=>False
 | .block id c,Q,fr,S=>bB X c (fun e Jy S'=>match e with | .exit Ki=>if Ki=id then Q .normal Jy S' else Q (.exit Ki) Jy S'|e=>Q e Jy S') fr S
 | .loop c,Q,fr,S=> ∃n,dE (bB X c) Q n fr S
 | .exit id,Q,fr,S=>Q (.exit id) fr S
 | .ret,Q,fr,S=>Q .ret fr S
 | .label t,Q,fr,S=>Q .normal fr (oR (eS fr t) S)
 | .scope c,Q,fr,S=>bB X c Q fr S
 | _,_,_,_=>False
theorem uc :∀{l:List Oper}{Q:List AV->ab->Prop}{fr:List AV}{S:ab},cX X d ops l Q fr S->∃n I5,nX X d (dj X n) ops l ⟨fr,S⟩=some I5/\Q I5.fr I5.S
 | [],Q,fr,S,h=>⟨0,⟨fr,S⟩,rfl,h⟩
 | o::rest,Q,fr,S,h=>by
  have join:∀{n1:Nat}{v:AV}{S1:ab},eL ops fr o=some true->(d && !kL X fr o)=false->dH X d (dj X n1) ⟨fr,S⟩ o=some (v,S1)->cX X d ops rest Q (cj fr o.dst v) S1->∃n I5,nX X d (dj X n) ops (o::rest) ⟨fr,S⟩=some I5/\Q I5.fr I5.S:=by
   intro n1 v S1 hg hl hs hr;obtain⟨n2,I5,h1,h2⟩:=uc hr;refine⟨max n1 n2,I5,?_,h2⟩;simp only[nX,hg,hl,U3,if_false];rw[xD (dZ (WU n1 n2)) hs];exact pN (dZ (WP n1 n2)) h1
  simp only[cX]at h;split at h
  .rename_i g hg;cases g with
   | false=>
    simp only[U3,if_false]at h;obtain⟨n2,I5,h1,h2⟩:=uc h;exact⟨n2,I5,by simp only[nX,hg];exact h1,h2⟩
   | true=>
   simp only[if_true,Dv]at h;obtain⟨hl,h⟩:=h;have join:=fun {n1:Nat}{v:AV}{S1:ab} hg=>join (n1:=n1) (v:=v) (S1:=S1) hg hl;simp only[cZ]at h;split at h
   .rename_i v e1;exact join (n1:=0) hg (by unfold dH;simp only[e1]) h
   .rename_i e1;split at h
    .rename_i v nb e2;exact join (n1:=0) hg (by unfold dH;simp only[e1,e2]) h
    .rename_i e2;split at h
     .rename_i v nb e3;exact join (n1:=0) hg (by unfold dH;simp only[e1,e2,e3]) h
     .rename_i e3;split at h
      .rename_i f args e4;split at h
       .rename_i hb;split at h
        .exact h.elim
        .rename_i hd;obtain⟨n1,r,S',h1,h2⟩:=h;exact join (n1:=n1) hg (by unfold dH;simp only[e1,e2,e3,e4];rw[if_pos hb,if_neg hd];exact h1) h2
       .rename_i hb;split at h
        .rename_i Jb e5;split at h
         .rename_i hn;obtain⟨n1,r,h1,h2⟩:=h;exact join (n1:=n1) hg (by unfold dH;simp only[e1,e2,e3,e4];rw[if_neg hb,e5];simp only;rw[if_pos hn];simp only[h1]) h2
         .rename_i hn;obtain⟨n1,r,h1,h2⟩:=h;exact join (n1:=n1) hg (by unfold dH;simp only[e1,e2,e3,e4];rw[if_neg hb,e5];simp only;rw[if_neg hn];simp only[h1]) h2
        .exact h.elim
      .rename_i e4;split at h
       .exact h.elim
       .rename_i hd;split at h
        .rename_i v S' e5;exact join (n1:=0) hg (by unfold dH;simp only[e1,e2,e3,e4];rw[if_neg hd];exact e5) h
        .exact h.elim
  .exact h.elim
theorem iB:∀{c:Code}{Q:Ex->List AV->ab->Prop}{fr:List AV}{S:ab},bB X c Q fr S->∃n e I5,cJ X (dj X n) n c ⟨fr,S⟩=some (e,I5)/\Q e I5.fr I5.S
 | .skip,Q,fr,S,h=>⟨0,.normal,⟨fr,S⟩,rfl,h⟩
 | .label t,Q,fr,S,h=>⟨0,.normal,⟨fr,oR (eS fr t) S⟩,rfl,h⟩
 | .exit id,Q,fr,S,h=>⟨0,.exit id,⟨fr,S⟩,rfl,h⟩
 | .ret,Q,fr,S,h=>⟨0,.ret,⟨fr,S⟩,rfl,h⟩
 | .region id ops d,Q,fr,S,h=>by
  obtain⟨n,I5,h1,h2⟩:=uc h;exact⟨n,.normal,I5,by simp only[cJ,h1],h2⟩
 | .seq a b,Q,fr,S,h=>by
  obtain⟨n,e,I5,h1,h2⟩:=iB (c:=a) h;cases e with
  | normal=>
   obtain⟨m,e2,st2,h3,h4⟩:=iB (c:=b) h2;refine⟨max n m,e2,st2,?_,h4⟩;simp only[cJ];rw[dz (dZ (WU n m)) (WU n m) a h1];exact dz (dZ (WP n m)) (WP n m) b h3
  | exit id=>exact⟨n,.exit id,I5,by simp only[cJ];rw[h1],h2⟩
  | ret=>exact⟨n,.ret,I5,by simp only[cJ];rw[h1],h2⟩
 | .cond c a b,Q,fr,S,h=>by
  simp only[bB]at h;split at h
  .rename_i t e;split at h
   .rename_i ht;obtain⟨n,e',I5,h1,h2⟩:=iB (c:=a) h;exact⟨n,e',I5,by simp only[cJ,e,ht,if_true,h1],h2⟩
   .rename_i ht;obtain⟨n,e',I5,h1,h2⟩:=iB (c:=b) h;exact⟨n,e',I5,by simp only[cJ,e];rw[if_neg ht];exact h1,h2⟩
  .exact h.elim
 | .block id c,Q,fr,S,h=>by
  obtain⟨n,e,I5,h1,h2⟩:=iB (c:=c) h;cases e with
  | normal=>exact⟨n,.normal,I5,by simp only[cJ];rw[h1],h2⟩
  | exit Ki=>
   by_cases hid:Ki=id
   .simp only[hid,if_true]at h2;exact⟨n,.normal,I5,by simp only[cJ];rw[h1];simp[hid],h2⟩
   .simp only[hid,if_false]at h2;exact⟨n,.exit Ki,I5,by simp only[cJ];rw[h1];simp[hid],h2⟩
  | ret=>exact⟨n,.ret,I5,by simp only[cJ];rw[h1],h2⟩
 | .loop c,Q,fr,S,h=>by
  obtain⟨k,h⟩:=h
  have go:∀(k:Nat){fr:List AV}{S:ab},dE (bB X c) Q k fr S->∃n e I5,mA (cJ X (dj X n) n c) n ⟨fr,S⟩=some (e,I5)/\Q e I5.fr I5.S:=by
   intro k
   induction k with
   | zero=>intro fr S h;exact h.elim
   | succ k ih=>
    intro fr S h;obtain⟨n,e,I5,h1,h2⟩:=iB (c:=c) h
    have other:e≠.normal->Q e I5.fr I5.S->∃n e I5,mA (cJ X (dj X n) n c) n ⟨fr,S⟩=some (e,I5)/\Q e I5.fr I5.S:=by
     intro I8 hq;refine⟨n+1,e,I5,?_,hq⟩;simp only[mA];rw[dz (dZ (V2 n)) (V2 n) c h1];cases e<;>first|rfl|exact absurd rfl I8
    cases e with
    | normal=>
     obtain⟨m,e2,st2,h3,h4⟩:=ih h2;refine⟨max n m+1,e2,st2,?_,h4⟩;simp only[mA];rw[dz (dZ (show n<=max n m+1 by omega)) (show n<=max n m+1 by omega) c h1];exact re (fun st r hk=>dz (dZ (show m<=max n m+1 by omega)) (show m<=max n m+1 by omega) c hk) (show m<=max n m by omega) h3
    | exit id=>exact other (by simp) h2
    | ret=>exact other (by simp) h2
  obtain⟨n,e,I5,h1,h2⟩:=go k h;exact⟨n,e,I5,by simp only[cJ];exact h1,h2⟩
 | .rangeFunc ..,_,_,_,h=>h.elim
 | .scope c,Q,fr,S,h=>by
  obtain⟨n,e,I5,h1,h2⟩:=iB (c:=c) h;exact⟨n,e,I5,by simp only[cJ];exact h1,h2⟩
 | .goto _,_,_,_,h=>h.elim
 | .refuse _,_,_,_,h=>h.elim
theorem Cu :∀{l:List Oper}{Q Q':List AV->ab->Prop}{fr:List AV}{S:ab},(∀fr S,Q fr S->Q' fr S)->cX X d ops l Q fr S->cX X d ops l Q' fr S
 | [],Q,Q',fr,S,hq,h=>hq _ _ h
 | o::rest,Q,Q',fr,S,hq,h=>by
  have ih:∀{fr:List AV}{S:ab},cX X d ops rest Q fr S->cX X d ops rest Q' fr S:=fun {fr S}=>Cu (l:=rest) (fr:=fr) (S:=S) hq;simp only[cX]at h ⊢;cases e0:eL ops fr o with
  | none=>simp only[e0]at h
  | some g=>
   cases g with
   | false=>simp only[e0,U3,if_false]at h ⊢;exact ih h
   | true=>
    simp only[e0,if_true,Dv]at h ⊢;refine⟨h.1,?_⟩;replace h:=h.2;simp only[cZ]at h ⊢;cases e1:eJ X fr o with
    | some v=>simp only[e1]at h ⊢;exact ih h
    | none=>
     simp only[e1]at h ⊢;cases e2:ff X d S S.length fr o with
     | some v=>simp only[e2]at h ⊢;exact ih h
     | none=>
      simp only[e2]at h ⊢;cases e3:iq X d S S.length fr o with
      | some v=>simp only[e3]at h ⊢;exact ih h
      | none=>
       simp only[e3]at h ⊢;cases e4:cL X fr o with
       | some fa=>
        obtain⟨f,args⟩:=fa;simp only[e4]at h ⊢;by_cases hb:X.byRef f=true
        .rw[if_pos hb]at h ⊢;by_cases hd:(d && !iF X o)=true
         .rw[if_pos hd]at h;exact h.elim
         .rw[if_neg hd]at h ⊢;obtain⟨n,r,S',h1,h2⟩:=h;exact⟨n,r,S',h1,ih h2⟩
        .rw[if_neg hb]at h ⊢;cases e5:dU S args with
         | none=>simp only[e5]at h
         | some Jb=>
          simp only[e5]at h ⊢;by_cases hn:X.nest f=true
          .rw[if_pos hn]at h ⊢;obtain⟨n,r,h1,h2⟩:=h;exact⟨n,r,h1,ih h2⟩
          .rw[if_neg hn]at h ⊢;obtain⟨n,r,h1,h2⟩:=h;exact⟨n,r,h1,ih h2⟩
       | none=>
        simp only[e4]at h ⊢;by_cases hd:(d && !mM S fr o)=true
        .rw[if_pos hd]at h;exact h.elim
        .rw[if_neg hd]at h ⊢;cases e5:iz X S fr o with
         | none=>simp only[e5]at h
         | some vs=>simp only[e5]at h ⊢;exact ih h
theorem fk:∀{c:Code}{Q Q':Ex->List AV->ab->Prop}{fr:List AV}{S:ab},(∀e fr S,Q e fr S->Q' e fr S)->bB X c Q fr S->bB X c Q' fr S
 | .skip,_,_,_,_,hq,h=>hq _ _ _ h
 | .label _,_,_,_,_,hq,h=>hq _ _ _ h
 | .exit _,_,_,_,_,hq,h=>hq _ _ _ h
 | .ret,_,_,_,_,hq,h=>hq _ _ _ h
 | .region _ _ _,_,_,_,_,hq,h=>Cu (hq _) h
 | .seq a b,Q,Q',fr,S,hq,h=>by
  refine fk (c:=a) (fun e fr S h'=>?_) h;cases e with
  | normal=>exact fk (c:=b) hq h'
  | exit id=>exact hq _ _ _ h'
  | ret=>exact hq _ _ _ h'
 | .cond c a b,Q,Q',fr,S,hq,h=>by
  simp only[bB]at h ⊢;split at h
  .split at h
   .rename_i ht;rw[if_pos ht];exact fk (c:=a) hq h
   .rename_i ht;rw[if_neg ht];exact fk (c:=b) hq h
  .exact h.elim
 | .block id c,Q,Q',fr,S,hq,h=>by
  refine fk (c:=c) (fun e fr S h'=>?_) h;cases e with
  | normal=>exact hq _ _ _ h'
  | exit Ki=>
   by_cases hid:Ki=id
   .simp only[hid,if_true]at h' ⊢;exact hq _ _ _ h'
   .simp only[hid,if_false]at h' ⊢;exact hq _ _ _ h'
  | ret=>exact hq _ _ _ h'
 | .loop c,Q,Q',fr,S,hq,h=>by
  obtain⟨n,h⟩:=h;refine⟨n,?_⟩
  have go:∀(n:Nat){fr:List AV}{S:ab},dE (bB X c) Q n fr S->dE (bB X c) Q' n fr S:=by
   intro n
   induction n with
   | zero=>intro fr S h;exact h
   | succ n ih=>
    intro fr S h;refine fk (c:=c) (fun e fr S h'=>?_) h;cases e with
    | normal=>exact ih h'
    | exit id=>exact hq _ _ _ h'
    | ret=>exact hq _ _ _ h'
  exact go n h
 | .rangeFunc ..,_,_,_,_,_,h=>h.elim
 | .scope c,Q,Q',fr,S,hq,h=>fk (c:=c) hq h
 | .goto _,_,_,_,_,_,h=>h.elim
 | .refuse _,_,_,_,_,_,h=>h.elim
def wpF(X:dV)(f:FuncId)(args:List AV)(S:ab)(R:AV->ab->Prop):Prop :=
 match X.fn f with
 | none=>False
 | some fn=>match fn.body with
  | none=>False
  | some c=>bB X (X.deco f c) (fun e fr S'=>match e with | .exit _=>False|_=>match jx X fn ⟨fr,S'⟩ with|some v=>R v S'|none=>False) (args++List.replicate (fn.ntmps-args.length) (.flat undef)) S
theorem EvR_of{R:AV->ab->Prop}(hp:X.prim f=none)(h:wpF X f args S R):bS X f args S R:=by
 unfold wpF at h;split at h
 .exact h.elim
 .rename_i fn e1;split at h
  .exact h.elim
  .rename_i c e2;obtain⟨n,e,I5,h1,h2⟩:=iB h
   have fin:(e = .normal\/e = .ret)->(match jx X fn ⟨I5.fr,I5.S⟩ with|some v=>R v I5.S|none=>False)->bS X f args S R:=by
    intro he hr;split at hr
    .rename_i v e3;refine⟨n+1,v,I5.S,?_,hr⟩;rw[dj];simp only[hp,e1,e2,h1];rcases he with rfl|rfl<;>simp only[e3]
    .exact hr.elim
   cases e with
   | normal=>exact fin (.inl rfl) h2
   | exit id=>exact h2.elim
   | ret=>exact fin (.inr rfl) h2
def EvV_of(h:bS X f args [] fun r S=>match da S r with|some v=>R v|none=>False):aB X f args R:=by
 obtain⟨n,r,S,h1,h2⟩:=h;split at h2
 .rename_i v e;exact⟨n,v,by unfold iL;rw[h1];exact e,h2⟩
 .exact h2.elim
def EvN_of(h:bS X f args [] fun r S=>match pU S r with|some v=>R v|none=>False):Ho X f args R:=by
 obtain⟨n,r,S,h1,h2⟩:=h;split at h2
 .rename_i v e;exact⟨n,v,by unfold jQ;rw[h1];exact e,h2⟩
 .exact h2.elim
def Ho.eq(h:Ho X f args (· = r))(Q:AV->Prop):Ho X f args Q↔Q r:=by
 obtain⟨n,r',h1,rfl⟩:=h;constructor
 .rintro⟨m,r2,h2,h3⟩;have e1:=ph (dZ (WU n m)) h1;have e2:=ph (dZ (WP n m)) h2;rw[e1]at e2;injection e2 with e2;rw[e2];exact h3
 .exact fun hq=>⟨n,r',h1,hq⟩
def aB.mono{R':AV->Prop}(h:aB X f args R)(hR:∀r,R r->R' r):aB X f args R' :=
 let ⟨n,r,h1,h2⟩:=h
 ⟨n,r,h1,hR r h2⟩
def bS.mono{R R':AV->ab->Prop}(h:bS X f args S R)(hR:∀r S,R r S->R' r S):bS X f args S R' :=
 let ⟨n,r,S',h1,h2⟩:=h
 ⟨n,r,S',h1,hR r S' h2⟩
def aB.eq(h:aB X f args (· = r))(Q:AV->Prop):aB X f args Q↔Q r:=by
 obtain⟨n,r',h1,rfl⟩:=h;constructor
 .rintro⟨m,r2,h2,h3⟩;have e1:=rX (dZ (WU n m)) h1;have e2:=rX (dZ (WP n m)) h2;rw[e1]at e2;injection e2 with e2;rw[e2];exact h3
 .exact fun hq=>⟨n,r',h1,hq⟩
def bS.eq{S1:ab}(h:bS X f args S fun v s=>v=r/\s=S1)(Q:AV->ab->Prop):bS X f args S Q↔Q r S1:=by
 obtain⟨n,r',S',h1,rfl,rfl⟩:=h;constructor
 .rintro⟨m,r2,S2,h2,h3⟩;have e1:=dZ (WU n m) _ _ _ _ h1;have e2:=dZ (WP n m) _ _ _ _ h2;rw[e1]at e2;injection e2 with e2;injection e2 with q1 q2;rw[q1,q2];exact h3
 .exact fun hq=>⟨n,r',S',h1,hq⟩
end
end Go.Eng
