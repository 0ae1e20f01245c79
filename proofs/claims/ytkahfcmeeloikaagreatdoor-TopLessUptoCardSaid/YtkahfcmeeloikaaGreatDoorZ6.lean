/- The sorts as primitives: what they owe. -/
import Derived.Test.YtkahfcmeeloikaaGreatDoorZ1
import Derived.Test.YtkahfcmeeloikaaGreatDoorZ2
import Derived.Shelf.GgSortFunc.RowK
import Derived.Lib.ItoaNum
set_option linter.all false
set_option maxHeartbeats 1000000
namespace Go.Eng
open Go.RowKit
section
variable {g sz:Nat}{rows:List (List AV)}
variable [aw] {base:Nat}{T B:bV}{I:dK}{w:World}
def vals(rows:List (List AV)):List Value:=rows.flatten.map gz
omit [aw] in
theorem intRep{cs:List AV}(hc:∀c∈cs,intA c=true){off:Nat}:aU w cs T B I g off↔∀(j:Nat) (v:Value),(cs.map gz)[j]? = some v->w.cell? ⟨g,off+j,none⟩=some v:=by
 rw[dG];constructor
 .intro h j v hv;rw[Vc]at hv;cases hj:cs[j]? with
  | none=>rw[hj]at hv;cases hv
  | some c=>
   rw[hj]at hv;injection hv with hv;obtain⟨u,k1,_,k3⟩:=h j c hj;have hi:=hc c (Vs hj);cases c<;>simp only[intA]at hi<;>try cases hi
   simp only[ap]at k3;rw[k1,k3,<-hv];rfl
 .intro h j c hj;have hi:=hc c (Vs hj);refine⟨gz c,h j _ (by rw[Vc,hj];rfl),?_⟩;cases c<;>simp only[intA]at hi<;>try cases hi
  exact⟨rfl,by simp only[ap,gz]⟩
omit [aw] in
def vZ(hr:rows.all (fY sz)=true):bn w rows T B I g 0 sz↔∀(j:Nat) (v:Value),(vals rows)[j]? = some v->w.cell? ⟨g,j,none⟩=some v:=by
 simp only[Vb,fY,UT,beq_iff_eq]at hr
 have hc:∀c∈rows.flatten,intA c=true:=fun c hc=>by
  obtain⟨r,h1,h2⟩:=Xa.1 hc;exact(hr r h1).2 c h2
 rw[cU,intRep hc];simp only[UW];exact⟨fun h=>h.2,fun h=>⟨fun r h1=>(hr r h1).1,h⟩⟩
omit [aw] in
def CA(a b:List (List AV)):vals (a++b)=vals a++vals b:=by simp[vals]
omit [aw] in
theorem sD(hr:rows.all (fY sz)=true):(vals rows).length=rows.length*sz:=by
 simp only[Vb,fY,UT,beq_iff_eq]at hr
 have:∀rows:List (List AV),(∀r∈rows,r.length=sz)->rows.flatten.length=rows.length*sz:=by
  intro rows
  induction rows with
  | nil=>simp
  | cons r rows ih=>intro h;simp only[V7,UG,UB,ih (fun x hx=>h x (by simp[hx])),h r (by simp),VJ];omega
 unfold vals;rw[UI];exact this rows fun r h=>(hr r h).1
omit [aw] in
def F6(w:World)(os:Array Obj):Below w.heap.size w (Go.Sort.grow w os):=⟨rfl,rfl,rfl,by simp,fun k hk=>Go.Sort.heap_grow_old w os hk⟩
omit [aw] in
def EV(w:World)(g:Nat){c:Array Value}{ty:TypeId}(hc:w.heap[g]? = some (.cells c ty (0,0)))(d:Array Value):Go.Sort.putRow id w g 0 d=w.setRow g (Go.Sort.putCells id 0 d c):=by
 unfold Go.Sort.putRow Go.Sort.mapBlock World.setRow
 congr 1
 apply Array.ext_getElem?;intro k;simp only[Array.getElem?_modify];by_cases hk:g=k
 .subst hk;simp only[if_true,hc,Vf,Go.Sort.onCells]
 .simp only[hk,if_false]
def qH{P:Program}{f:FuncId}{fn:Func}{sf:List (List AV)->Option (List (List AV))}{cl:List AV->Bool}(cv:List Value)(hf:P.funcs[f]? = some fn)(JX:(fn.name == "runtime.NumGoroutine")=false)(hb:fn.body.isNone=false)
  (JA:∀r,cl r=true->∀(w:World) (T B:bV) (I:dK) (us:List Value),ae w r T B I us->us=cv)
  (Su:∀rows rs,sf rows=some rs->rs.length=rows.length/\rs.all (fY sz)=true)
  (h0:∀ao aK w,Calls P f (Value.slice ao 0 aK::cv).toArray w fun e w'=>e = .returned (.tuple #[])/\w'=w)
  (hc:∀rows rs,sf rows=some rs->rows.all (fY sz)=true->rows.length<4294967296->∀(g aK:Nat) (w:World),g<w.heap.size->Go.Sort.Holds id w g 0 (vals rows).toArray ->
   Calls P f (Value.slice (some ⟨g,0,none⟩) rows.length aK::cv).toArray w fun e w'=>e = .returned (.tuple #[])/\∃n os,w'=Go.Sort.grow (Go.Sort.putRow id (Go.Sort.ahead w n) g 0 (vals rs).toArray) os) :
  bQ P f (fX sz sf cl):=by
 refine⟨⟨fn,hf,JX,hb⟩,?_⟩;intro args S r S' hp base T B I w vs hrel I3;unfold fX at hp;split at hp
 .rename_i q;split at hp
  .rename_i hq;injection hp with hp;injection hp with q1 q2;subst q1 q2;simp only[ae]at I3;obtain⟨u,us,rfl,hu,JM⟩:=I3;simp only[ap]at hu;subst hu;rw[JA _ hq _ _ _ _ _ JM]
   exact(h0 none 0 w).mono fun e w' ⟨he,hw⟩=>by
    subst hw;exact⟨_,T,B,I,he,bu.refl,hrel,by simp only[ap];exact⟨[],rfl,by simp only[ae]⟩⟩
  .cases hp
 .rename_i b e n Je q;split at hp
  .rename_i hq;obtain⟨hq,rfl⟩:=hq;simp only[ae]at I3;obtain⟨u,us,rfl,hu,JM⟩:=I3;rw[JA _ hq _ _ _ _ _ JM];clear JM;simp only[ap]at hu;split at hp
   .rename_i hn;injection hp with hp;injection hp with q1 q2;subst q1 q2 hn
    obtain⟨ao,aK,rfl⟩:∃ao aK,u = .slice ao 0 aK:=by
     rcases hu with ⟨_,_,_,ao,rfl⟩|⟨g,gs,aK,_,rfl,_⟩
     .exact⟨ao,0,rfl⟩
     .exact⟨_,aK,rfl⟩
    exact(h0 ao aK w).mono fun e w' ⟨he,hw⟩=>by
     subst hw;exact⟨_,T,B,I,he,bu.refl,hrel,by simp only[ap];exact⟨[],rfl,by simp only[ae]⟩⟩
   .rename_i hn;split at hp
    .rename_i rows sz2 wep pr hS;split at hp
     .rename_i hk;obtain⟨rfl,hl,hw,I8,SN,JW⟩:=hk;split at hp
      .rename_i rs Sx;injection hp with hp;injection hp with q1 q2;subst q1 q2;rcases hu with ⟨_,_,LC,_⟩|⟨g,gs,aK,hi,rfl,h1,h2,h3⟩
       .exact absurd LC hn
       rw[Vg];have J1:dN S b=some (.arr rows sz2 wep pr):=hS;obtain⟨o1,o2,c,ty,o3,o4⟩:=hrel.ownA hi J1;obtain⟨k1,k2,k3⟩:=hrel.blkA hi J1;have k3:=k3 hw;rw[<-hl,Vn]at k3;have KU:=(vZ JW).1 k3
       have Kj:(rows.take n).all (fY sz2)=true:=by
        rw[Vb]at JW ⊢;exact fun x hx=>JW x (Wi hx)
       have QR:(rows.drop n).all (fY sz2)=true:=by
        rw[Vb]at JW ⊢;exact fun x hx=>JW x (WL hx)
       have RB:(rows.take n).length=n:=by rw[Wh];omega
       obtain⟨g1,g2⟩:=Su _ _ Sx;rw[RB]at g1;have MQ:vals rows=vals (rows.take n)++vals (rows.drop n):=by rw[<-CA,VW]
       have Ja:=(UP.1 o3).1
       have hH:Go.Sort.Holds id w g 0 (vals (rows.take n)).toArray:=fun j hj=>by
        simp only[Vi]at hj;have hg:(vals (rows.take n))[j]? = some (vals (rows.take n))[j]:=UL hj;refine⟨?_,by simp[World.frozen?,o3]⟩;rw[UW,KU j _ (by rw[MQ,UN hj];exact hg)];simp[hj]
       have Ok:=hc _ _ Sx Kj (by rw[RB];exact SN) g aK w Ja hH;rw[RB]at Ok;refine Ok.mono ?_;rintro _ w' ⟨rfl,m,os,rfl⟩;have KD:cB base T B I (dN S) (Go.Sort.ahead w m):=hrel.heap rfl;have J2:bu base T B I w T B I (Go.Sort.ahead w m):=bu.quiet hrel ⟨rfl,rfl,rfl,UJ _,fun _ _=>rfl⟩ (fun _ h=>h) (fun _ h=>h) (fun _ h=> .inl h) (fun _ h=> .inl h);have o3':(Go.Sort.ahead w m).heap[g]? = some (.cells c ty (0,0)):=o3;rw[EV _ g o3'];have J5:(vals rs).length=n*sz2:=by rw[sD g2,g1]
       have Mj:(vals (rows.take n)).length=n*sz2:=by rw[sD Kj,RB]
       have Ji:(rs++rows.drop n).all (fY sz2)=true:=by rw[List.all_append,g2,QR];rfl
       have JV:b<S.length:=(UK.1 hS).1
       obtain⟨J6,KQ⟩:=KD.write (b:=b) (S':=dN (S.set b (.arr (rs++rows.drop n) sz2 e pr))) (c':=Go.Sort.putCells id 0 (vals rs).toArray c) hi J1 hl (by rw[UG,g1,VU];omega) o3' (by simp[Go.Sort.putCells])
        (by simp only[dN];rw[Wn JV]) (fun x hx=>by simp only[dN];rw[VF (fun h=>hx h.symm)])
        ((vZ Ji).2 fun j v hj=>by
         rw[cell_setRow_same _ g j c _ ty (0,0) o3']
         have hjc:j<c.size:=by
          have:=(UK.1 hj).1;rw[sD Ji,UG,g1,VU]at this;have e1:(n+(rows.length-n))*sz2=e*sz2:=by rw[<-hl];congr 1;omega
          omega
         simp only[Go.Sort.putCells,Array.getElem?_mapIdx,WM hjc,Vf,Vi,UW,U9,true_and,Nat.sub_zero,id];rw[CA]at hj;by_cases MI:j<(vals rs).length
         .rw[if_pos MI];rw[UN MI]at hj;rw[<-hj,UL MI];simp[MI]
         .rw[if_neg MI];rw[Vd (by omega)]at hj;have:=KU j v (by rw[MQ,Vd (by omega),Mj,<-J5];exact hj);simp only[World.cell?,o3]at this;rw[WM hjc]at this;exact this)
       have hbg:=F6 ((Go.Sort.ahead w m).setRow g (Go.Sort.putCells id 0 (vals rs).toArray c)) os;exact⟨_,T,B,I,rfl,(J2.trans KQ).trans (bu.quiet J6 hbg (fun _ h=>h) (fun _ h=>h) (fun _ h=> .inl h) (fun _ h=> .inl h)),J6.quiet hbg (fun _ h=>h) (fun _ h=>h) J6.TB (fun _ h=> .inl h),by simp only[ap];exact⟨[],rfl,by simp only[ae]⟩⟩
      .cases hp
     .cases hp
    .cases hp
  .cases hp
 .cases hp
end
end Go.Eng
namespace Go.Eng
open Go.RowKit Go.Shelf Go.Proofs Go.Sort
theorem qZ:∀{rows:List (List AV)}{l:List (Int×Int)},kg rows=some l->rows=l.map x9
 | [],l,h=>by simp[kg]at h;subst h;rfl
 | r::rows,l,h=>by
  unfold kg at h;split at h
  .rename_i a b l' h2;injection h with h;subst h;rw[qZ h2];rfl
  .cases h
def AT{rows:List (List AV)}{l:List Int}(h:kQ rows=some l):rows=az l:=vd h
def all_ints(l:List Int):(az l).all (fY 1)=true:=by
 rw[Vb];intro r hr;obtain⟨x,_,rfl⟩:=UZ.1 hr;rfl
def Bf(l:List (Int×Int)):(l.map x9).all (fY 2)=true:=by
 rw[Vb];intro r hr;obtain⟨x,_,rfl⟩:=UZ.1 hr;rfl
theorem ul(l:List Int):vals (az l)=l.map (Value.int .i64):=by
 induction l with
 | nil=>rfl
 | cons x l ih=>
  have e:vals (az (x::l))=Value.int .i64 x::vals (az l):=rfl;rw[e,ih];rfl
theorem EW(w:World)(g:Nat)(d:Array Int):putRow (Value.int .i64) w g 0 d=putRow id w g 0 (d.toList.map (Value.int .i64)).toArray:=by
 unfold putRow;refine mapBlock_congr _ _ _ _ fun c e fr _=>?_;apply Array.ext_getElem?;intro k;simp only[putCells,Array.getElem?_mapIdx,Vi,UI,VV,id];cases c[k]? with
 | none=>rfl
 | some y=>
  simp only[Vf];by_cases h:0<=k/\k<0+d.size
  .rw[if_pos h,if_pos h];have hk:k<d.size:=by omega
   simp[hk]
  .rw[if_neg h,if_neg h]
theorem xG[aw]:bQ Tryz.prog 247 (fX 1 IT fun r=>r.isEmpty) :=
 qH (fn:=Tryz.f247) [] Tryz.func247 (by kernel_rfl) (by kernel_rfl)
  (fun r h w T B I us hr=>by
   have:r = []:=by simpa using h
   subst this;simpa[ae]using hr)
  (fun rows rs h=>by
   cases e:kQ rows with
   | none=>simp[IT,e]at h
   | some l=>
    simp only[IT,e,Vf,VK]at h;subst h;refine⟨?_,all_ints _⟩;rw[AT e];simp only[az,UI];exact(vb l).length_eq)
  (fun ao aK w=>Any.slices_Sort_int_none Tryz.laysSortI ao aK w)
  fun rows rs h hr hl g aK w hg hH=>by
   cases e:kQ rows with
   | none=>simp[IT,e]at h
   | some l=>
    simp only[IT,e,Vf,VK]at h;subst h;have er:=AT e;subst er;have Jd:(az l).length=l.length:=by simp[az]
    rw[Jd]at hl ⊢;refine(Any.slices_Sort_int Tryz.laysSortI g 0 aK l w (fun j hj=>?_) hg (by omega)).mono ?_
    .have:=hH j (by rw[ul];simpa using hj);simp only[Vi]at hj;rw[ul]at this;simpa[hj]using this
    .rintro _ w' ⟨he,n,os,hw⟩;refine⟨he,n,os,?_⟩;rw[hw,<-GW,EW,ul]
def jT(x:Int×Int):List Value:=[.int .i64 x.1,.int .i64 x.2]
def GR:ltOf (fun x y:Int×Int=>Lib.compareInt x.1 y.1)=ltP:=by
 funext x y
 unfold ltOf Lib.compareInt ltP;by_cases h1:x.1<y.1
 .simp[h1]
 .by_cases h2:y.1<x.1<;>simp[h1,h2]
def swoP:SWO ltP:=⟨fun x=>by simp[ltP],fun x y z h1 h2=>by simp only[ltP,decide_eq_true_eq]at*;omega,fun x y z h1 h2=>by simp only[ltP,decide_eq_false_iff_not]at*;omega⟩
def swo_ltP:SWO (ltOf fun x y:Int×Int=>Lib.compareInt x.1 y.1):=GR ▸ swoP
def closureP(x y:Int×Int)(W:World):Calls Tryz.prog 219 #[.agg #[.int .i64 x.1,.int .i64 x.2],.agg #[.int .i64 y.1,.int .i64 y.2]] W fun e w'=>e = .returned (.int .i64 (Lib.compareInt x.1 y.1))/\∃q os',w'=grow (W.drewN q) os':=by
 have Jv:=fun W'=>AnyG.cmp_Compare_int Tryz.laysCmp x.1 y.1 W';change ∀W',Calls Tryz.prog 150 _ _ _ at Jv;generalize Lib.compareInt x.1 y.1=r at Jv ⊢
 go_enter Tryz.func219,Tryz.ntmps219
 go_wp2_with (go_at_call 150;refine(Jv _).mono ?_;rintro e w' ⟨rfl,rfl⟩)
 go_ret
 exact⟨rfl,0,_,by rw[alloc_eq_grow,alloc_eq_grow,grow_grow];rfl⟩
def cmpLaysP(blk off size:Nat)(w:World):CmpLays Tryz.prog 219 #[] jT 2 (fun x y=>Lib.compareInt x.1 y.1) blk off size w :=
 fun _ _ _ _ x y=>closureP x y _
def bitLen_eq(n:Nat)(h:n<18446744073709551616):Lib.bitLen n=bitsLen n:=by
 unfold Lib.bitLen bitsLen;by_cases h0:n=0
 .subst h0;rfl
 .rw[if_neg h0];obtain⟨h1,h2,h3⟩:=Lib.bitLenAux_bounds 64 n h h0;have:=(Nat.log2_eq_iff h0 (k:=Lib.bitLenAux 64 n-1)).2 ⟨h2,by rw[show Lib.bitLenAux 64 n-1+1=Lib.bitLenAux 64 n by omega];exact h3⟩;omega
theorem xx(l:List (Int×Int)):vals (l.map x9)=l.flatMap jT:=by
 induction l with
 | nil=>rfl
 | cons x l ih=>
  have e:vals ((x::l).map x9)=jT x++vals (l.map x9):=rfl;rw[e,ih,VX]
theorem flat_two(l:List (Int×Int)):∀t,t<l.length*2->(l.flatMap jT)[t]? = (jT l[t / 2]!)[t % 2]? := by
 induction l with
 | nil=>intro t h;simp at h
 | cons x l ih=>
  intro t h;rw[VX];rcases t with _|_|t
  .rfl
  .rfl
  .have e1:(t+2) / 2=t / 2+1:=by omega
   have e2:(t+2) % 2=t % 2:=by omega
   rw[e1,e2,List.getElem!_cons_succ,<-ih t (by simp at h;omega)];rfl
def yW(l:List (Int×Int)):flatK jT 2 l.toArray=(vals (l.map x9)).toArray:=by
 rw[xx];apply Array.ext_getElem?;intro t;by_cases h:t<l.length*2
 .have h1:t<(flatK jT 2 l.toArray).size:=by simpa using h
  have h2:=get_flatK jT 2 l.toArray t (by simpa using h);have hl:t % 2<(jT l[t / 2]!).length:=by simp[jT];omega
  have e:(l.toArray)[t / 2]! = l[t / 2]! := by simp
  rw[WM h1,<-getElem!_pos (flatK jT 2 l.toArray) t h1,h2,e,Wt,flat_two l t h,UL hl,getElem!_pos (jT l[t / 2]!) (t % 2) hl]
 .have h1:(flatK jT 2 l.toArray).size<=t:=by simp;omega
  have h2:(l.flatMap jT).length<=t:=by
   have:=sD (Bf l);rw[xx]at this;rw[this];simp;omega
  rw[Array.getElem?_eq_none h1,Wt,VO h2]
theorem xF[aw]:bQ Tryz.prog 218 (fX 2 sfP (Fw 219)) :=
 qH (fn:=Tryz.f218) [.func (.func 219) #[] #[]] Tryz.func218 (by kernel_rfl) (by kernel_rfl)
  (fun r h w T B I us hr=>by
   unfold Fw at h;split at h
   .rename_i g;obtain rfl:219=g:=by simpa using h
    simp only[ae,ap]at hr;obtain⟨u,_,rfl,⟨us,rfl,rfl⟩,rfl⟩:=hr;rfl
   .cases h)
  (fun rows rs h=>by
   cases e:kg rows with
   | none=>simp[sfP,e]at h
   | some l=>
    simp only[sfP,e,Vf,VK]at h;subst h;refine⟨?_,Bf _⟩;rw[qZ e];have:=(sort_sorts ltP swoP l.toArray).1.1;simpa[psrt]using this)
  (fun ao aK w=>AnyF.slices_SortFunc_none Tryz.laysSortF ao aK _ w)
  fun rows rs h hr hl g aK w hg hH=>by
   cases e:kg rows with
   | none=>simp[sfP,e]at h
   | some l=>
    simp only[sfP,e,Vf,VK]at h;subst h;have er:=qZ e;subst er;rw[UI]at hl ⊢;rw[<-yW]at hH;have Jd:l.toArray.size=l.length:=by simp
    have:=AnyQ.slices_SortFunc_eq Tryz.laysSortF 2 Tryz.isAgg51 Tryz.sizeOf51 jT (fun _=>rfl) (fun x v hv=>by simp[jT]at hv;rcases hv with rfl|rfl<;>rfl) (fun x y=>Lib.compareInt x.1 y.1) swo_ltP 219 #[] g 0 aK l.toArray w (enters_of Tryz.func219 (by kernel_rfl) rfl) (cmpLaysP g 0 _ w) hH hg (by rw[Jd];omega);rw[Jd]at this;refine this.mono ?_;rintro _ w' ⟨he,n,os,hw⟩;refine⟨he,n,os,?_⟩;rw[hw,sortWorldK,putRowK,GR,bitLen_eq _ (by omega)];have e2:pdq ltP l.toArray 0 l.length (bitsLen l.length) true true=(psrt l).toArray:=by simp[psrt,Go.Sort.sort]
    rw[e2,yW]
end Go.Eng
