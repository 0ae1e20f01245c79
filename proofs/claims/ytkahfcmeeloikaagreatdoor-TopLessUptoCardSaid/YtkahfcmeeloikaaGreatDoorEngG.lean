/- Operations that read blocks or make one. -/
import Derived.Test.YtkahfcmeeloikaaGreatDoorEngF
import Derived.Laws.MakeOwn
set_option linter.all false
set_option maxHeartbeats 1000000
namespace Go.Eng
open Go.RowKit
variable [aw]
variable {b e g gs off sz:Nat}{blk:dY}{dr pr:Bool}{i:mN}{k v x:AV}{nb:List dY}{r:List AV}{u:Value}{us:List Value}
section
variable {P:Program}{X:dV}(hX:eC P X){base:Nat}{T B:bV}{I:dK}{S:ab}{S':zS}{w:World}
def kI{rs:List (List AV)}(Jc:∀g,T g->B g)(h:bn w rs T (if pr then T else B) (if pr then aT else I) g off sz):bn w rs T B I g off sz:=by
 cases pr
 .exact h
 .exact eh rs ⟨fun _ h=>h,Jc,fun _ _ _ h=>(by simp[aT]at h),fun _ _=>rfl⟩ (fun _ h=>h) (fun _=>rfl) h
def pH(h:cB base T B I S' w)(hS:kp S S'){row:Nat}(hr:g9 S b e sz row=some r)(hi:I b e=some (g,gs)) :
  aU w r T B I g (row*sz)/\r.length=sz:=by
 unfold g9 at hr;split at hr
 .rename_i rows Je wep pr e1;split at hr
  .rename_i hc;obtain⟨rfl,c2,c3⟩:=hc;obtain⟨more,hm⟩:=(hS _ _ e1).arr;obtain⟨k2,k3,k5⟩:=h.blkA hi hm;have:=(df.1 (kI h.TB (k5 c2))) row r (by rw[VZ,if_pos c3,UN (UK.1 hr).1];exact hr);rw[UW]at this;exact⟨this.2,this.1⟩
  .cases hr
 .cases hr
include hX in
def s8{t:TypeId}{o:Nat}(ht:X.ty t=some i)(hc:aU w r T B I g o)(h:gU i r off=some v) :
  ∃u,(Instr.loadAt t (.pointer (some ⟨g,o+off,none⟩))).run P w = .ok u w/\ap w v T B I u:=by
 obtain⟨ti,d,z,_,_,_,_,_,_,_,_,_,r2,r3,_⟩:=bm (hX.ty _ _ ht);unfold gU at h;split at h
 .rename_i ha;split at h
  .rename_i hle;injection h with h;subst h;obtain⟨us,l1,l2,_,l4⟩:=jr hc;have IY:((us.drop off).take i.size).length=i.size:=by simp;omega
   have I6:=run_loadCells_list (P:=P) w ⟨g,o+off,none⟩ ((us.drop off).take i.size) (fun j u hj=>by
    rw[Xt,VY];rw[VZ]at hj;split at hj
    .rw[List.getElem?_drop]at hj;exact l4 _ _ hj
    .cases hj)
   rw[IY]at I6;refine⟨.agg ((us.drop off).take i.size).toArray,?_,?_⟩
   .simp[Instr.loadAt,Instr.sureAddr,loadVar,r3,ha,r2,I6]
   .simp only[ap];exact⟨_,rfl,gO _ (gP _ l1)⟩
  .cases h
 .rename_i ha;obtain⟨u,k1,_,k3⟩:=dG.1 hc off v h;refine⟨u,?_,k3⟩;simp[Instr.loadAt,Instr.sureAddr,loadVar,r3,ha,k1]
def dO(h:cB base T B I S' w)(hS:kp S S'){rows:List (List AV)}(hr:rowsOf S sz x=some (rows,pr))(hu:ap w x T B I u) :
  ∃ao aK,u = .slice ao rows.length aK/\(ao=none->aK=0)/\rows.length<=aK/\aK<=maxLen/\(rows≠[]->∃g off,ao=some ⟨g,off,none⟩/\bn w rows T (if pr then T else B) (if pr then aT else I) g off sz/\(B g\/∃b e gs,I b e=some (g,gs)/\∃o l s,x = .sl b e o l s)):=by
 unfold rowsOf at hr;split at hr
 .rename_i st Je rows';split at hr
  .rename_i Jl;subst Jl;injection hr with hr;injection hr with q1 q2;subst q1 q2;simp only[ap]at hu;obtain⟨ao,aK,rfl,c1,c2,c3,c4⟩:=hu;refine⟨ao,aK,rfl,c3,c1,c2,fun I8=>?_⟩;obtain⟨g,off,rfl,p1,p2⟩:=c4 I8;exact⟨g,off,rfl,p2,.inl (jy h.TB g p1)⟩
  .cases hr
 .rename_i b e off len Je;split at hr
  .rename_i rows' sz'' wep pr' e1;split at hr
   .rename_i hc;obtain⟨rfl,rfl,c3,c4,c5⟩:=hc;injection hr with hr;injection hr with q1 q2;subst q1 q2;have IY:((rows'.drop off).take len).length=len:=by simp;omega
    simp only[ap]at hu;rcases hu with ⟨rfl,rfl,rfl,ao,rfl⟩|⟨g,gs,aK,hi,rfl,d1,d2,d3⟩
    .exact⟨ao,0,by simp,fun _=>rfl,by simp,by simp,fun I8=>absurd (by simp) I8⟩
    .refine⟨_,aK,by rw[IY],by simp,by omega,d2,fun I8=>⟨g,_,rfl,?_⟩⟩;obtain⟨more,hm⟩:=(hS _ _ e1).arr;obtain⟨k2,k3,k5⟩:=h.blkA hi hm;have:=jZ len (mW off (k5 c3));rw[UW]at this
     rw[show (((rows'++more).take e).drop off).take len=(rows'.drop off).take len by
      rw[Wg (by omega),List.drop_take,List.take_take];congr 1;omega]at this
     exact⟨this,.inr ⟨_,_,_,hi,_,_,_,rfl⟩⟩
   .cases hr
  .cases hr
 .injection hr with hr;injection hr with q1 q2;subst q1 q2;simp only[ap]at hu;obtain⟨ao,rfl⟩:=hu;exact⟨ao,0,rfl,fun _=>rfl,by simp,by simp,fun I8=>absurd rfl I8⟩
 .injection hr with hr;injection hr with q1 q2;subst q1 q2;simp only[ap]at hu;subst hu;exact⟨none,0,rfl,fun _=>rfl,by simp,by simp,fun I8=>absurd rfl I8⟩
 .split at hr
  .rename_i KB;injection hr with hr;injection hr with q1 q2;subst q1 q2;simp only[ap]at hu;subst hu;exact⟨_,_,rfl,(fun h=>absurd h (by simp)),by simp,KB,fun I8=>absurd rfl I8⟩
  .cases hr
 .cases hr
def fG(id:Nat)(nb:List dY)(b e:Nat):Prop := ∃k blk,nb[k]? = some blk/\b=id+k/\e<=blk.len
omit [aw] in
def fG.one{id:Nat}(hb:b=id)(he:e<=blk.len):fG id [blk] b e:=⟨0,blk,rfl,hb,he⟩
def mj(P:Program)(base:Nat)(T B:bV)(I:dK)(S':zS)(w:World)(id:Nat)(nb:List dY)(v:AV)(x:Sem Value):Prop :=
 ∃T' B' I' w' u,x.run P w = .ok u w'/\bu base T B I w T' B' I' w'/\cB base T' B' I' S' w'/\ap w' v T' B' I' u/\∀b e p,I' b e=some p->I b e=some p\/fG id nb b e
def mj.same{id:Nat}{x:Sem Value}(h:cB base T B I S' w)(hx:∃u,x.run P w = .ok u w/\ap w v T B I u):mj P base T B I S' w id nb v x:=by
 obtain⟨u,h1,h2⟩:=hx;exact⟨T,B,I,w,u,h1,bu.refl,h,h2,fun _ _ _ h=> .inl h⟩
omit [aw] in
def mw(he:e<=blk.len):∀b' e' p,dK.put I b e g gs b' e'=some p->I b' e'=some p\/fG b [blk] b' e':=by
 intro b' e' p h;unfold dK.put at h;split at h
 .rename_i hc;exact .inr (fG.one hc.1 (by rw[hc.2];exact he))
 .exact .inl h
def He(h:cB base T B I S' w){id:Nat}{cs:List AV}{c:Array Value}(ty:TypeId){x:Sem Value}(IX:I id 1=none)(hS:Holds S' id (.arr [cs] cs.length 0 pr))
  (JM:ae w cs T (if pr then T else B) (if pr then aT else I) us) (h1:∀u∈us,u.oneCell'=true) (hc:c.toList=us) (hx:x.run P w = .ok (.pointer (some ⟨w.heap.size,0,none⟩)) (w.alloc (.cells c ty))) :
  mj P base T B I S' w id [.arr [cs] cs.length 0 pr] (.ptr id 1 cs.length 0 0) x:=by
 obtain⟨r1,r2⟩:=h.made (b:=id) (rows:=[cs]) (sz:=cs.length) (pr:=pr) (c:=c) (us:=us) ty IX hS (by simp) (by simpa using JM) h1 (by rw[hc,Vn]);refine⟨T,B,_,_,_,hx,r2,r1,?_,mw (by simp[dY.len])⟩;simp only[ap];exact⟨w.heap.size,c.size,dK.put_self,by simp⟩
theorem mX :∀{parts:List (Nat×AV)}{qs:List (Nat×Value)}{rows out:List (List AV)}{us:List Value},ba sz rows parts=some out->(∀r∈rows,r.length=sz)->ae w rows.flatten T B I us->dQ w T B I parts qs ->
   (parts.all fun p=>p.2.cells.all AV.cell)=true->(∀u∈us,u.oneCell'=true) ->
   ∃Jf:Array Value,Instr.fill (fun i=>some (i*sz,sz)) us.toArray qs=some Jf/\ae w out.flatten T B I Jf.toList/\(∀r∈out,r.length=sz)/\out.length=rows.length/\∀u∈Jf.toList,u.oneCell'=true
 | [],qs,rows,out,us,h,hl,h1,h2,_,KL=>by
  simp only[dQ]at h2;subst h2;simp only[ba]at h;injection h with h;subst h;exact⟨_,rfl,by simpa using h1,hl,rfl,by simpa using KL⟩
 |(i,v)::rest,qs,rows,out,us,h,hl,h1,h2,Ji,KL=>by
  simp only[dQ]at h2;obtain⟨u,Ps,rfl,hu,Qg⟩:=h2;simp only[U1,UT]at Ji;simp only[ba]at h;split at h
  .rename_i hc;obtain⟨c1,c2⟩:=hc;obtain⟨k1,k2⟩:=pZ Ji.1 hu;have l1:=dC k1;have l2:=dC h1;simp only[VV]at l1;rw[fw hl]at l2
   have hle:i*sz+sz<=rows.length*sz:=by
    have:=VC sz (show i+1<=rows.length by omega);rw[VJ,Vp]at this;exact this
   have Jj:ae w (rows.set i v.cells).flatten T B I (us.take (i*sz)++u.cells.toList++us.drop (i*sz+u.cells.size)):=by
    rw[DH hl i v.cells c2,l1,c1];exact cw (cw (gO _ h1) k1) (gP _ h1)
   have RI:∀r∈rows.set i v.cells,r.length=sz:=fun r hr=>by
    rcases List.mem_or_eq_of_mem_set hr with h3|rfl
    .exact hl r h3
    .exact c1
   have Qn:∀x∈us.take (i*sz)++u.cells.toList++us.drop (i*sz+u.cells.size),x.oneCell'=true:=fun x hx=>by
    simp only[UU]at hx;rcases hx with (hx|hx)|hx
    .exact KL x (Wi hx)
    .exact k2 x hx
    .exact KL x (WL hx)
   obtain⟨Jf,f1,f2,f3,f4,f5⟩:=mX h RI Jj Qg Ji.2 Qn;refine⟨Jf,?_,f2,f3,by simpa using f4,f5⟩;simp only[Instr.fill];rw[if_neg (by simp[l1,c1,l2];omega),tA _ u.cells us.toArray (by simp[l1,c1,l2];omega)];exact f1
  .cases h
omit [aw] in
def xh(z:Array Value)(n:Nat)(hz:0<z.size):((Array.range (n*z.size)).map fun j=>z[j % z.size]!).toList=(List.replicate n z.toList).flatten:=by
 have hl:∀r∈List.replicate n z.toList,r.length=z.size:=fun r hr=>by rw[Wf hr];simp
 apply List.ext_getElem?;intro p;by_cases hp:p<n*z.size
 .have hm:=Nat.mod_lt p hz
  have:=tC hl (p / z.size) (p % z.size) z.toList z[p % z.size] (by
   rw[List.getElem?_replicate,if_pos (Nat.div_lt_of_lt_mul (by rw[Xj];exact hp))]) (by simp[hm])
  rw[Xj,Nat.div_add_mod]at this;rw[this];simp[hp,getElem!_pos z (p % z.size) hm]
 .rw[VO (by simp;omega),VO (by rw[fw hl];simp;omega)]
omit [aw] in
theorem px{zs:List AV}(h:ae w zs T B I us):∀n,ae w (List.replicate n zs).flatten T B I (List.replicate n us).flatten
 | 0=>by simp[ae]
 | n+1=>by
  simp only[List.replicate_succ,V7];exact cw h (px h n)
omit [aw] in
theorem rZ:∀{rows:List (List AV)}{l:List UInt8},eM rows=some l->∃ns:List Int,rows=ns.map (fun n=>[AV.int .u8 n])/\l=ns.map (fun n=>UInt8.ofNat n.toNat)
 | [],l,h=>by
  simp only[eM]at h;injection h with h;subst h;exact⟨[],rfl,rfl⟩
 | [.int .u8 n]::rest,l,h=>by
  simp only[eM,Vl]at h;obtain⟨l',h,rfl⟩:=h;obtain⟨ns,h1,h2⟩:=rZ h;exact⟨n::ns,by rw[h1];rfl,by rw[h2];rfl⟩
 |(x::y::xs)::rest,l,h=>by simp[eM]at h
 | []::rest,l,h=>by simp[eM]at h
 | [x]::rest,l,h=>by
  unfold eM at h;split at h
  .rename_i e;cases e
  .rename_i n PN e;rw[Vl]at h;obtain⟨l',h,rfl⟩:=h;injection e with e1 e2;subst e2;obtain⟨ns,h1,h2⟩:=rZ h;exact⟨n::ns,by rw[h1,e1];rfl,by rw[h2];rfl⟩
  .cases h
omit [aw] in
theorem Da:∀(ns:List Int) (s:ByteArray),ns.foldl (fun r n=>r.push (UInt8.ofNat n.toNat)) s=⟨s.data++(ns.map fun n=>UInt8.ofNat n.toNat).toArray⟩
 | [],s=>by simp
 | n::ns,s=>by
  simp only[VD,Da ns];simp[ByteArray.push]
omit [aw] in
theorem IE{ns:List Int}{ao:Option Addr}{aK:Nat}(h:ns≠[]->∃g off,ao=some ⟨g,off,none⟩/\bn w (ns.map fun n=>[AV.int .u8 n]) T B I g off 1) :
  (Conv.bytesToString (.slice ao ns.length aK)).run P w = .ok (.string ⟨(ns.map fun n=>UInt8.ofNat n.toNat).toArray⟩) w:=by
 cases ao with
 | none=>
  have:ns = []:=by
   rcases ns with _|⟨n,ns⟩
   .rfl
   .obtain⟨_,_,h,_⟩:=h (by simp);cases h
  subst this;simp[Conv.bytesToString];rfl
 | some a=>
  have Qv:(loadCells a ns.length).run P w = .ok (ns.map (Value.int .u8)).toArray w:=by
   have:=run_loadCells_list (P:=P) w a (ns.map (Value.int .u8)) (fun j v hj=>by
    have I8:ns≠[]:=by intro h0;subst h0;simp at hj
    obtain⟨g,off,TQ,hr⟩:=h I8;injection TQ with TQ;subst TQ;rw[Xt];rw[Vc,Vl]at hj;obtain⟨n,hn,rfl⟩:=hj;have h2:=(df.1 hr) j [AV.int .u8 n] (by simp[hn]);obtain⟨u,k1,_,k3⟩:=dG.1 h2.2 0 (AV.int .u8 n) rfl;simp only[ap]at k3;subst k3;simpa using k1)
   simpa using this
  rw[run_bytesToString w a ns.length aK ns Qv,Da]
  congr 2
  simp
omit [aw] in
def D8(h:cq v.cells=true):v.stab=true:=by
 cases v<;>simp_all [AV.cells,cq,AV.stab]
omit [aw] in
theorem wb(Jc:∀g,T g->B g):∀{ps:List (Nat×AV)}{qs:List (Nat×Value)},dQ w T B I ps qs->(ps.all fun p=>cq p.2.cells)=true->dQ w T T aT ps qs
 | [],_,h,_=>by simp only[dQ]at h ⊢;exact h
 | p::ps,_,h,hc=>by
  simp only[U1,UT]at hc;simp only[dQ]at h ⊢;obtain⟨u,Ps,h1,h2,h3⟩:=h;exact⟨u,Ps,h1,kE Jc _ (D8 hc.1) h2,wb Jc h3 hc.2⟩
omit [aw] in
theorem AQ{w:World}{T B:bV}{I:dK}:∀{ks:List EK}{xs:List AV}{us:List Value},ep ks xs=true->ae w xs T B I us->us=xs.map gz
 | [],[],_,_,h=>by simp only[ae]at h;subst h;rfl
 | [],_::_,_,h,_=>by simp[ep]at h
 | k::ks,[],_,h,_=>by cases k<;>simp[ep]at h
 | k::ks,x::xs,us,h,hl=>by
  cases k<;>cases x<;>simp only[ep]at h<;>try (cases h;done)
  simp only[ae]at hl;obtain⟨u,Jf,rfl,hu,hl⟩:=hl;simp only[ap]at hu;subst hu;rw[AQ h hl];rfl
omit [aw] in
theorem rC{w:World}{T B:bV}{I:dK}:∀{ks:List EK}{xs:List AV},ep ks xs=true->ae w xs T B I (xs.map gz)
 | [],[],_=>by simp only[Wb,ae]
 | [],_::_,h=>by simp[ep]at h
 | k::ks,[],h=>by cases k<;>simp[ep]at h
 | k::ks,x::xs,h=>by
  cases k<;>cases x<;>simp only[ep]at h<;>try (cases h;done)
  simp only[Vk,ae];exact⟨_,_,rfl,by simp only[ap,gz],rC h⟩
omit [aw] in
theorem tN:∀{ks:List EK}{xs ys:List AV}{b:Bool},ep ks xs=true->jN xs ys=some b->cn ks xs ys=some b
 | [],[],[],_,_,h=>by simpa[jN,cn]using h
 | [],[],_::_,_,_,h=>by simp[jN]at h
 | [],_::_,_,_,h,_=>by simp[ep]at h
 | k::ks,[],_,_,h,_=>by cases k<;>simp[ep]at h
 | k::ks,x::xs,[],_,h,h2=>by cases x<;>simp[jN]at h2
 | k::ks,x::xs,y::ys,b,h,h2=>by
  cases k<;>cases x<;>simp only[ep]at h<;>try (cases h;done)
  cases y<;>simp only[jN]at h2<;>try (cases h2;done)
  split at h2
  .rename_i hk;split at h2
   .rename_i c hc;simp only[cn,kV,if_pos hk,tN h hc];exact h2
   .cases h2
  .cases h2
omit [aw] in
theorem wt:∀{xs ys:List AV},jN xs ys=some true->xs=ys
 | [],[],_=>rfl
 | [],_::_,h=>by simp[jN]at h
 | x::xs,[],h=>by cases x<;>simp[jN]at h
 | x::xs,y::ys,h=>by
  cases x<;>cases y<;>simp only[jN]at h<;>try (cases h;done)
  split at h
  .rename_i hk;split at h
   .rename_i c hc;simp only[VK,UT,beq_iff_eq]at h;obtain⟨h1,h2⟩:=h;subst h2;rw[hk,h1,wt hc]
   .cases h
  .cases h
def Gc(P:Program)(X:dV)(t:TypeId)(k:AV)(u:Value):Prop :=
 (∃d,P.underlying t=some d/\((∃j n,k = .int j n/\u = .int j n/\d = .int j)\/(∃s,k = .str s/\u = .string s/\d = .string))) \/
  ∃xs ks,k = .agg xs/\u = .agg (xs.map gz).toArray/\X.eqT t=some ks/\ep ks xs=true
def yD{P:Program}{X:dV}{t:TypeId}{w:World}{T B:bV}{I:dK}(hX:eC P X)(ht:X.ty t=some i)(hk:nY X t i.desc k=true)(hu:ap w k T B I u):Gc P X t k u:=by
 obtain⟨_,d,_,_,k2,_,_,_,_,_,k8,_⟩:=bm (hX.ty _ _ ht);unfold nY at hk;split at hk
 .rename_i e1;rw[e1]at k8;simp only[cg]at k8;subst k8;simp only[decide_eq_true_eq]at hk;subst hk;simp only[ap]at hu;exact .inl ⟨_,k2,.inl ⟨_,_,rfl,hu,rfl⟩⟩
 .rename_i e1;rw[e1]at k8;simp only[cg]at k8;subst k8;simp only[ap]at hu;exact .inl ⟨_,k2,.inr ⟨_,rfl,hu,rfl⟩⟩
 .split at hk
  .rename_i ks e2;simp only[ap]at hu;obtain⟨us,rfl,hl⟩:=hu;rw[AQ hk hl];exact .inr ⟨_,ks,rfl,rfl,e2,hk⟩
  .cases hk
 .cases hk
omit [aw] in
def Gc.stands{P:Program}{X:dV}{t:TypeId}{w:World}{T B:bV}{I:dK}(h:Gc P X t k u):ap w k T B I u:=by
 rcases h with ⟨_,_,⟨j,n,rfl,rfl,_⟩|⟨s,rfl,rfl,_⟩⟩|⟨xs,ks,rfl,rfl,_,hk⟩
 .simp only[ap]
 .simp only[ap]
 .simp only[ap];exact⟨_,rfl,rC hk⟩
omit [aw] in
theorem yC:∀{ks:List EK}{xs:List AV}(n:Nat),ep ks xs=true->(((xs.map gz).zip (xs.map gz)).all fun p=>Instr.sameBits n p.1 p.2)=true
 | [],[],_,_=>rfl
 | [],_::_,_,h=>by simp[ep]at h
 | k::ks,[],_,h=>by cases k<;>simp[ep]at h
 | k::ks,x::xs,n,h=>by
  cases k<;>cases x<;>simp only[ep]at h<;>try (cases h;done)
  simp only[Vk,List.zip_cons_cons,U1,yC n h,WC,gz];cases n<;>simp[Instr.sameBits]
omit [aw] in
def Gc.same{P:Program}{X:dV}{t:TypeId}(h:Gc P X t k u):Instr.sameBits 10000 u u=true:=by
 rcases h with ⟨_,_,⟨j,n,rfl,rfl,_⟩|⟨s,rfl,rfl,_⟩⟩|⟨xs,ks,rfl,rfl,_,hk⟩
 .simp[Instr.sameBits]
 .simp[Instr.sameBits,beq_toListBytes]
 .rw[show (10000:Nat)=9999+1 from rfl];have:=yC 9999 hk;simp only[Instr.sameBits,beq_self_eq_true,VB];exact this
omit [aw] in
def xP{P:Program}{t:TypeId}{d:TypeDesc}{k2:AV}{u2:Value}{b:Bool}{w:World}{T:bV}(hk:(∃j n,k = .int j n/\u = .int j n/\d = .int j)\/(∃s,k = .str s/\u = .string s/\d = .string))(h:iK k k2=some b)(h2:ap w k2 T T aT u2) :
  Instr.sameNow d u u2=some b:=by
 rcases hk with ⟨j,n,rfl,rfl,rfl⟩|⟨s,rfl,rfl,rfl⟩
 .unfold iK at h;split at h
  .rename_i e1;injection e1 with q1 q2;subst q1 q2;split at h
   .rename_i e2;subst e2;simp only[ap]at h2;subst h2;simp only[Instr.sameNow,if_true];exact h
   .cases h
  .rename_i e1;cases e1
  .rename_i e1;cases e1
  .cases h
 .unfold iK at h;split at h
  .rename_i e1;cases e1
  .rename_i e1;injection e1 with q1;subst q1;simp only[ap]at h2;subst h2;simp only[Instr.sameNow];exact h
  .rename_i e1;cases e1
  .cases h
omit [aw] in
theorem yY{P:Program}{d:TypeDesc}{w:World}{T B:bV}{I:dK}(hk:(∃j n,k = .int j n/\u = .int j n/\d = .int j)\/(∃s,k = .str s/\u = .string s/\d = .string)) :
  ∀{es:List (AV×AV)}{ms:List MapEntry}{r:Option AV}(i:Nat),ef k es=some r->cf w T B I es ms ->
   (r=none/\Instr.findNow d u ms i=some none)\/∃v n m,r=some v/\Instr.findNow d u ms i=some (some (i+n,m.val))/\ms[n]? = some m/\ap w v T B I m.val/\m.key=u/\(∀(x:AV) (xv:Value),ap w x T B I xv->ap w k T T aT u->(cf w T B I (jc k x es) (ms.modify n fun e=>{ e with key:=u,val:=xv })))/\cf w T B I (nZ k es) (ms.eraseIdx n)
 | [],ms,r,i,h,he=>by
  simp only[cf]at he;subst he;simp only[ef]at h;injection h with h;subst h;exact .inl ⟨rfl,rfl⟩
 | e::es,ms,r,i,h,he=>by
  simp only[cf]at he;obtain⟨m,K8,rfl,h1,h2,h3⟩:=he;simp only[ef]at h;split at h
  .rename_i e1;injection h with h;subst h;have:=xP (P:=P) (t:=0) hk e1 h1
   have LP:m.key=u:=by
    rcases hk with ⟨j,n,rfl,rfl,rfl⟩|⟨s,rfl,rfl,rfl⟩
    .generalize m.key=u2 at this;cases u2<;>simp[Instr.sameNow]at this
     obtain⟨rfl,rfl⟩:=this;rfl
    .generalize m.key=u2 at this;cases u2<;>simp only[Instr.sameNow,VK]at this<;>first|(cases this;done)|skip
     rw[beq_toListBytes,beq_iff_eq,Xf,Xf]at this;rw[ByteArray.ext (Array.toList_inj.mp this)]
   exact .inr ⟨e.2,0,m,rfl,by simp[Instr.findNow,this],rfl,h2,LP,fun x xv hx JK=>by
    simp only[jc,e1,List.modify_zero_cons,cf];exact⟨_,_,rfl,JK,hx,h3⟩,by simp only[nZ,e1,List.eraseIdx_cons_zero];exact h3⟩
  .rename_i e1;have:=xP (P:=P) (t:=0) hk e1 h1;rcases yY (P:=P) hk (i+1) h h3 with ⟨q1,q2⟩|⟨v,n,m',q1,q2,q3,q4,q5,q6,q7⟩
   .exact .inl ⟨q1,by simp only[Instr.findNow,this];exact q2⟩
   .exact .inr ⟨v,n+1,m',q1,by simp only[Instr.findNow,this];rw[q2,Nat.add_right_comm,VY],by simpa using q3,q4,q5,fun x xv hx JK=>by
    simp only[jc,e1,List.modify_succ_cons,cf];exact⟨_,_,rfl,h1,h2,q6 x xv hx JK⟩,by simp only[nZ,e1,List.eraseIdx_cons_succ,cf];exact⟨_,_,rfl,h1,h2,q7⟩⟩
  .cases h
omit [aw] in
theorem nA :∀{es:List (AV×AV)},ef k es=some none->∀x,jc k x es=es++[(k,x)]
 | [],_,_=>rfl
 | e::es,h,x=>by
  simp only[ef]at h;split at h
  .cases h
  .rename_i e1;simp only[jc,e1,UF,nA h x]
  .cases h
omit [aw] in
theorem A4 :∀{es:List (AV×AV)},ef k es=some none->nZ k es=es
 | [],_=>rfl
 | e::es,h=>by
  simp only[ef]at h;split at h
  .cases h
  .rename_i e1;simp only[nZ,e1,A4 h]
  .cases h
omit [aw] in
theorem wv{w:World}{T B:bV}{I:dK}{m:MapEntry}(hk:ap w k T T aT m.key)(hx:ap w x T B I m.val):∀{es:List (AV×AV)}{ms:List MapEntry},cf w T B I es ms->cf w T B I (es++[(k,x)]) (ms++[m])
 | [],ms,h=>by
  simp only[cf]at h;subst h;simp only[UH,cf];exact⟨_,_,rfl,hk,hx,rfl⟩
 | e::es,ms,h=>by
  simp only[cf]at h;obtain⟨m0,K8,rfl,h1,h2,h3⟩:=h;simp only[UF,cf];exact⟨_,_,rfl,h1,h2,wv hk hx h3⟩
def gT{P:Program}{X:dV}(hX:eC P X){t:TypeId}{w:World}{b:Bool}(hk:Gc P X t k u):(Instr.checkKey b 10000 t u).run P w = .ok () w:=by
 rcases hk with ⟨d,ht,hk⟩|⟨xs,ks,rfl,rfl,hq,hk⟩
 .have e:(10000:Nat)=9999+1:=rfl;rw[e];generalize 9999=n;simp only[Instr.checkKey,UY,run_underlying ht,UR];rcases hk with ⟨j,n,rfl,rfl,rfl⟩|⟨s,rfl,rfl,rfl⟩<;>rfl
 .exact(hX.keyT t ks hq).2 xs hk b w
theorem wq{P:Program}{X:dV}(hX:eC P X){t:TypeId}{ks:List EK}(hq:X.eqT t=some ks){xs:List AV}(hk:ep ks xs=true){w:World}{T B:bV}{I:dK} :
  ∀{es:List (AV×AV)}{ms:List MapEntry}{r:Option AV}(i:Nat),ef (.agg xs) es=some r->cf w T B I es ms ->
   (r=none/\(Instr.findAsking t (.agg (xs.map gz).toArray) ms i).run P w = .ok none w)\/∃v n m,r=some v/\(Instr.findAsking t (.agg (xs.map gz).toArray) ms i).run P w = .ok (some (i+n,m.val)) w/\ms[n]? = some m/\ap w v T B I m.val/\m.key = .agg (xs.map gz).toArray/\(∀(x:AV) (xv:Value),ap w x T B I xv->ap w (.agg xs) T T aT (.agg (xs.map gz).toArray)->cf w T B I (jc (.agg xs) x es) (ms.modify n fun e=>{ e with key := .agg (xs.map gz).toArray,val:=xv }))/\cf w T B I (nZ (.agg xs) es) (ms.eraseIdx n)
 | [],ms,r,i,h,he=>by
  simp only[cf]at he;subst he;simp only[ef]at h;injection h with h;subst h;exact .inl ⟨rfl,rfl⟩
 | e::es,ms,r,i,h,he=>by
  simp only[cf]at he;obtain⟨m,K8,rfl,h1,h2,h3⟩:=he
  have key:∀b,iK (.agg xs) e.1=some b->∃ys,e.1 = .agg ys/\jN xs ys=some b/\m.key = .agg (ys.map gz).toArray/\(Op.equal t (.agg (xs.map gz).toArray) m.key).run P w = .ok b w:=by
   intro b hb;unfold iK at hb;split at hb
   .rename_i e1 _;cases e1
   .rename_i e1 _;cases e1
   .rename_i xs' ys e1 e2;injection e1 with e1;subst e1;rw[e2]at h1;simp only[ap]at h1;obtain⟨us,e3,hl⟩:=h1;have hc:=tN hk hb;obtain⟨_,rfl⟩:=oY hc (rC hk) hl;exact⟨ys,e2,hb,e3,by rw[e3];exact(hX.eqT t ks hq xs ys b hc w).1⟩
   .cases hb
  simp only[ef]at h;split at h
  .rename_i e1;injection h with h;subst h;obtain⟨ys,k1,k2,k3,k4⟩:=key _ e1;have:=wt k2;subst this
   exact .inr ⟨e.2,0,m,rfl,by simp only[Instr.findAsking,UY,k4,UR];rfl,rfl,h2,k3,fun x xv hx JK=>by
    simp only[jc,e1,List.modify_zero_cons,cf];exact⟨_,_,rfl,JK,hx,h3⟩,by simp only[nZ,e1,List.eraseIdx_cons_zero];exact h3⟩
  .rename_i e1;obtain⟨ys,k1,k2,k3,k4⟩:=key _ e1;rcases wq hX hq hk (i+1) h h3 with ⟨q1,q2⟩|⟨v,n,m',q1,q2,q3,q4,q5,q6,q7⟩
   .exact .inl ⟨q1,by simp only[Instr.findAsking,UY,k4,UR];exact q2⟩
   .exact .inr ⟨v,n+1,m',q1,by simp only[Instr.findAsking,UY,k4,UR];rw[show i+(n+1)=i+1+n by omega];exact q2,by simpa using q3,q4,q5,fun x xv hx JK=>by
    simp only[jc,e1,List.modify_succ_cons,cf];exact⟨_,_,rfl,h1,h2,q6 x xv hx JK⟩,by simp only[nZ,e1,List.eraseIdx_cons_succ,cf];exact⟨_,_,rfl,h1,h2,q7⟩⟩
  .cases h
theorem lK{P:Program}{X:dV}(hX:eC P X){t:TypeId}{w:World}{T B:bV}{I:dK}{es:List (AV×AV)}{ms:List MapEntry}{r:Option AV}(hk:Gc P X t k u)(h:ef k es=some r)(he:cf w T B I es ms) :
  (r=none/\(Instr.findKey t u ms).run P w = .ok none w)\/∃v n m,r=some v/\(Instr.findKey t u ms).run P w = .ok (some (n,m.val)) w/\ms[n]? = some m/\ap w v T B I m.val/\m.key=u/\(∀(x:AV) (xv:Value),ap w x T B I xv->ap w k T T aT u->cf w T B I (jc k x es) (ms.modify n fun e=>{ e with key:=u,val:=xv }))/\cf w T B I (nZ k es) (ms.eraseIdx n):=by
 rcases hk with ⟨d,ht,hk⟩|⟨xs,ks,rfl,rfl,hq,hk⟩
 .rcases yY (P:=P) hk 0 h he with ⟨q1,q2⟩|⟨v,n,m,q1,q2,q3,q4,q5⟩
  .exact .inl ⟨q1,by simp only[Instr.findKey,UY,run_underlying ht,UR,q2];rfl⟩
  .exact .inr ⟨v,n,m,q1,by simp only[Instr.findKey,UY,run_underlying ht,UR,q2,UW];rfl,q3,q4,q5⟩
 .obtain⟨fs,ht⟩:=(hX.keyT t ks hq).1;cases ms with
  | nil=>
   cases es with
   | nil=>
    simp only[ef]at h;injection h with h;subst h;exact .inl ⟨rfl,by simp only[Instr.findKey,UY,run_underlying ht,UR];rfl⟩
   | cons e es=>simp only[cf]at he;obtain⟨_,_,he,_⟩:=he;cases he
  | cons m ms=>
   have e0:(Instr.findKey t (.agg (xs.map gz).toArray) (m::ms)).run P w=(Instr.findAsking t (.agg (xs.map gz).toArray) (m::ms) 0).run P w:=by
    simp only[Instr.findKey,UY,run_underlying ht,UR];rfl
   rw[e0];rcases wq hX hq hk 0 h he with q|⟨v,n,m',q1,q2,q3,q4,q5⟩
   .exact .inl q
   .exact .inr ⟨v,n,m',q1,by rw[q2,UW],q3,q4,q5⟩
omit [aw] in
theorem za{w:World}{T B:bV}{I:dK}:∀{es:List (AV×AV)}{ms:List MapEntry},cf w T B I es ms->ms.length=es.length
 | [],ms,h=>by simp only[cf]at h;subst h;rfl
 | e::es,ms,h=>by
  simp only[cf]at h;obtain⟨m0,K8,rfl,_,_,h3⟩:=h;simp[za h3]
omit [aw] in
def fW{P:Program}{w:World}{clock:Nat}{ms:Array MapEntry}(h:w.heap[g]? = some (.map ms clock)):(getObj g).run P w = .ok (.map ms clock) w:=by
 simp[getObj,Sem.run,h]
def CE{z:AV}{zv:Value}{w:World}{T B:bV}{I:dK}(ha:BY zv=i.agg)(h6:Cp i.zero zv.cells.toList)(hz:gp i i.zero=some z):ap w z T B I zv:=by
 have hl:=kA (w:=w) (T:=T) (B:=B) (I:=I) h6;unfold gp at hz;split at hz
 .rename_i h;injection hz with hz;subst hz;rw[h]at ha;cases zv<;>first|(cases ha;done)|skip
  rename_i cs;simp only[ap];exact⟨cs.toList,by simp,hl⟩
 .rename_i h;have h0:BY zv=false:=by rw[ha];simpa using h
  have hc:zv.cells = #[zv]:=by cases zv<;>first|rfl|cases h0
  rw[hc]at hl;obtain⟨u,k1,k2⟩:=fQ hl 0 z hz;simp at k1;subst k1;exact k2
include hX in
def Ef{id:Nat}{t:TypeId}{len:Nat}{pos:String}{ps:List (Nat×AV)}{qs:Array (Nat×Value)}(h:cB base T B I S' w)(JP:dQ w T B I ps qs.toList)
  (hq:bsA X dr id t len pos ps=some (v,nb)) (IX:∀b e,fG id nb b e->I b e=none) (MU:∀k blk,nb[k]? = some blk->Holds S' (id+k) blk):mj P base T B I S' w id nb v (Instr.buildSlice t len qs):=by
 unfold bsA at hq;split at hq
 .rename_i el e1;obtain⟨_,d,_,_,_,_,_,_,_,_,k8,r1,_⟩:=bm (hX.ty _ _ e1);simp only[cg]at k8;subst k8;split at hq
  .rename_i ei e2;obtain⟨ti,d2,z,_,_,_,_,_,k6,_,_,_,r2,_,r4,_⟩:=bm (hX.ty _ _ e2);split at hq
   .rename_i hd;split at hq
    .rename_i hc;injection hq with hq;injection hq with q1 q2;subst q1 q2;obtain⟨hd1,rfl⟩:=hd
     have Rz:qs = #[]:=by
      have h0:ps = []:=UO hc.1;rw[h0]at JP;simp only[dQ]at JP;exact Vw.1 JP
     subst Rz;refine⟨T,B,I,w.alloc (.cells #[] el),.slice (some ⟨w.heap.size,0,none⟩) 0 0,?_,bu.quiet h ((Vh _ w).alloc (UJ _) _) (fun _ h=>h) (fun _ h=>h) (fun _ h=> .inl h) (fun _ h=> .inl h),h.alloc _,by simp only[ap];exact⟨_,rfl⟩,fun _ _ _ h=> .inl h⟩;have K1:∀f:Nat->Value,(Array.range 0).map f = #[]:=fun f=>by simp
     simp[Instr.buildSlice,r1,r2,Instr.fill,newRow];rw[K1]
    .cases hq
   split at hq
   .rename_i hc;obtain⟨c1,c2,c3,c4⟩:=hc;split at hq
    .rename_i rows e3;have zl:z.cells.size=ei.size:=by have:=k6.1;rw[<-c2,this];simp
     have zz:((Array.range (len*ei.size)).map fun j=>z.cells[j % z.cells.size]!).toList=(List.replicate len z.cells.toList).flatten:=by
      rw[<-zl];exact xh z.cells len (by omega)
     have K4:∀r∈List.replicate len ei.zero,r.length=ei.size:=fun r hr=>by rw[Wf hr,c2]
     have Ob:∀u∈(List.replicate len z.cells.toList).flatten,u.oneCell'=true:=fun u hu=>by
      rw[Xa]at hu;obtain⟨l,hl,hu⟩:=hu;rw[Wf hl]at hu;exact k6.2 u hu
     obtain⟨Jf,f1,f2,f3,f4,f5⟩:=mX (w:=w) (T:=T) (B:=B) (I:=I) (qs:=qs.toList) e3 K4 (px (kA k6) len) JP c4 Ob
     have f2':ae w rows.flatten T (if ps.all (fun p=>cq p.2.cells) then T else B) (if ps.all (fun p=>cq p.2.cells) then aT else I) Jf.toList:=by
      split
      .rename_i JA
       have hp:dQ w T T aT ps qs.toList:=by
        have:=wb h.TB JP JA;simpa using this
       obtain⟨us2,g1,g2,_⟩:=mX (w:=w) (T:=T) (B:=T) (I:=aT) e3 K4 (px (kA k6) len) hp c4 Ob;rw[f1]at g1;injection g1 with g1;subst g1;exact g2
      .exact f2
     have IY:=dC f2;rw[fw f3,f4,Wq]at IY;simp only[Wq]at f4
     have I6:(Instr.buildSlice t len qs).run P w = .ok (.slice (some ⟨w.heap.size,0,none⟩) len len) (w.alloc (.cells Jf el)):=by
      have Pj:¬(2 ^ 24<len*ei.size):=by omega
      have Of:((Array.range (len*ei.size)).map fun j=>z.cells[j % z.cells.size]!)=((List.replicate len z.cells.toList).flatten).toArray:=by
       rw[<-zz]
      simp only[Instr.buildSlice,UY,r1,r2,UR,Sem.run_ite,Pj,gt_iff_lt,if_false,Vo];by_cases h0:len*ei.size=0
      .simp only[h0,if_true,UR]
       have OT:((List.replicate len z.cells.toList).flatten).toArray = #[]:=by
        rw[<-Of,h0];simp
       rw[OT]at f1;have K1:∀(f:Nat->Value),(Array.range 0).map f = #[]:=fun f=>by simp
       simp only[K1,f1,UY,Vo];simp[newRow]
      .simp only[h0,if_false,UY,r4,UR,Vo];rw[Of,f1];simp[newRow]
     split at hq
     .rename_i hz;rw[UT]at hz;injection hq with hq;injection hq with q1 q2;subst q1 q2;simp only[hz.2,if_true]at f2';have hb:Below w.heap.size w (w.alloc (.cells Jf el)):=(Vh _ w).alloc (UJ _) _;refine⟨fun g=>T g\/g=w.heap.size,fun g=>B g\/g=w.heap.size,I,_,_,I6,?_,?_,?_,fun _ _ _ h=> .inl h⟩
      .exact bu.quiet h hb (fun _ h=> .inl h) (fun _ h=> .inl h) (fun g hg=>hg.imp (fun h=>h) (fun h=>by omega)) (fun g hg=>hg.imp (fun h=>h) (fun h=>by omega))
      .exact h.quiet hb (fun _ h=> .inl h) (fun _ h=> .inl h) (fun g hg=>hg.imp (h.TB g) (fun h=>h)) (fun g hg=>hg.imp (fun h=>h) (fun h=>by simp;omega))
      .simp only[ap];refine⟨_,len,by rw[f4],by omega,?_,by simp,fun _=>⟨w.heap.size,0,rfl,by simp[pick],?_⟩⟩
       .unfold maxLen;have:=Nat.le_mul_of_pos_right len c3;omega
       .rw[cU];refine⟨f3,eT (bW (T':=fun g=>T g\/g=w.heap.size) (B':=fun g=>T g\/g=w.heap.size) (I':=aT) _ ⟨fun _ h=> .inl h,fun _ h=> .inl h,fun _ _ _ h=>h,fun g hg=>mc _ _ (h.Blt g (h.TB g hg))⟩ (fun _ h=>h) f2') f5 fun j u hj=>?_⟩;rw[cell_of_row _ _ _ _ _ _ (heap_alloc_new w (.cells Jf el)),UW];simpa using hj
     injection hq with hq;injection hq with q1 q2;subst q1 q2;have J1:=MU 0 _ rfl;obtain⟨m1,m2⟩:=h.made (b:=id) (c:=Jf) (us:=Jf.toList) el (IX _ _ (fG.one rfl (by simp[dY.len]))) J1 f3 f2' f5 (by rw[Vn]);rw[f4]at m1 m2;refine⟨T,B,_,_,_,I6,m2,m1,?_,mw (by simp[dY.len,f4])⟩;simp only[ap];refine .inr ⟨w.heap.size,Jf.size,len,dK.put_self,by simp,UJ _,?_,?_⟩
     .unfold maxLen;have:=Nat.le_mul_of_pos_right len c3;omega
     .simp only[VV]at IY;rw[UW,IY];exact UJ _
    .cases hq
   .cases hq
  .cases hq
 .cases hq
include hX in
theorem AI{id:Nat}{fr:List AV}{a:Act}{o:Oper}(h:cB base T B I S' w)(hS:kp S S')(I4:∀x,ap w (ak fr x) T B I (a.eval x))
  (hq:ff X dr S id fr o=some (v,nb)) (IX:∀b e,fG id nb b e->I b e=none) (MU:∀k blk,nb[k]? = some blk->Holds S' (id+k) blk) :
  ∃x:Sem Value,execOp a.eval o=(do let u <- x;pure (.value u))/\mj P base T B I S' w id nb v x:=by
 unfold ff at hq;split at hq
 .rename_i t p ho;refine⟨Instr.loadAt t (a.eval p),by simp only[execOp,ho],?_⟩;have hp:=I4 p;split at hq
  .rename_i i e1;split at hq
   .rename_i b e sz row off e2;rw[e2]at hp;simp only[ap]at hp;obtain⟨g,gs,hi,hu⟩:=hp;split at hq
    .rename_i r e3;rw[Vl]at hq;obtain⟨v',hv,JS⟩:=hq;injection JS with q1 q2;subst q1 q2;obtain⟨c1,c2⟩:=pH h hS e3 hi;exact mj.same h (by rw[hu];exact s8 hX e1 c1 hv)
    .cases hq
   .rename_i st r off e2;rw[e2]at hp;simp only[ap]at hp;obtain⟨g,o',hu,p1,p2⟩:=hp;rw[Vl]at hq;obtain⟨v',hv,JS⟩:=hq;injection JS with q1 q2;subst q1 q2;have:=gj (T':=T) (B':=B) (I':=I) r ⟨fun _ h=>h,jy h.TB,fun _ _ _ h=>(by cases h),fun _ _=>rfl⟩ (sG h.TB) (fun _=>rfl) p2;exact mj.same h (by rw[hu];exact s8 hX e1 this hv)
   .rename_i g e2;rw[e2]at hp;simp only[ap]at hp;split at hq
    .rename_i r e3;rw[Vl]at hq;obtain⟨v',hv,JS⟩:=hq;injection JS with q1 q2;subst q1 q2;obtain⟨ob,k1,k2⟩:=hX.glob _ _ e3;exact mj.same h (by rw[hp];exact s8 hX e1 (k2 w T B I (h.known _ _ k1).2) hv)
    .cases hq
   .cases hq
  .cases hq
 .rename_i t ho;refine⟨Instr.alloc t true (.tuple #[]),by simp only[execOp,ho],?_⟩;split at hq
  .rename_i i e1;obtain⟨ti,d,z,_,_,_,_,_,k6,_,k8,q1,q2,q3,q4,q5⟩:=bm (hX.ty _ _ e1);split at hq
   .rename_i hz;injection hq with hq;injection hq with q1 q2;subst q1 q2;have J1:=MU 0 _ rfl;rw[<-hz]at J1 IX ⊢;exact He h (us:=z.cells.toList) (c:=z.cells) t (IX _ _ (fG.one rfl (by simp[dY.len]))) J1 (kA k6) k6.2 rfl (by simp[Instr.alloc,q4,newVar,newRow])
   .cases hq
  .cases hq
 .rename_i t x ho;refine⟨Instr.box t (a.eval x),by simp only[execOp,ho],?_⟩;dsimp only at hq;split at hq
  .rename_i hc;injection hq with hq;injection hq with q1 q2;subst q1 q2;obtain⟨k1,k2⟩:=pZ hc (I4 x);refine He h (us:=(a.eval x).cells.toList) (c:=(a.eval x).cells) t (IX _ _ (fG.one rfl (by simp[dY.len]))) (MU 0 _ rfl) ?_ k2 rfl (by simp[Instr.box,newVar,newRow]);cases JA:cq (ak fr x).cells
   .exact k1
   .exact je h.TB _ JA k1
  .cases hq
 .rename_i t len parts ho;refine⟨Instr.buildSlice t len (parts.map fun (p:Nat×Operand)=>(p.1,a.eval p.2)),by simp only[execOp,ho],?_⟩;exact Ef hX h (by simpa using x8 I4 parts.toList) hq IX MU
 .rename_i t l c ho;split at hq
  .rename_i kl n kc m e1 e2;split at hq
   .rename_i el f1;obtain⟨_,d,_,_,p2,_,_,_,_,_,k8,r1,_⟩:=bm (hX.ty _ _ f1);simp only[cg]at k8;subst k8;split at hq
    .rename_i ei f2;obtain⟨ti,d2,z,p1,_,p3,p4,p5,k6,_,_,_,r2,_,r4,_⟩:=bm (hX.ty _ _ f2);split at hq
     .rename_i hc;obtain⟨rfl,h0,h1,h2,h3⟩:=hc;have hl:=I4 l;have K6:=I4 c;rw[e1]at hl;rw[e2]at K6;simp only[ap]at hl K6;refine⟨Instr.makeSlice t (a.eval l) (a.eval c),by simp only[execOp,ho],?_⟩;have hb:=Ef hX h (qs := #[]) (by simp only[dQ]) hq IX MU;obtain⟨T',B',I',w',u,k1,k2⟩:=hb;refine⟨T',B',I',w',u,?_,k2⟩;rw[hl,K6]
      have TM:(Instr.buildSlice t n.toNat #[]).run P w = .ok (.slice (some ⟨w.heap.size,0,none⟩) n.toNat n.toNat) (w.alloc (.cells (madeCells z.cells (n.toNat*ti.size)) el)):=by
       have Pj:¬(2 ^ 24<n.toNat*ei.size):=by omega
       simp only[Instr.buildSlice,UY,r1,r2,UR,Sem.run_ite,Pj,gt_iff_lt,if_false,Vo];by_cases R8:n.toNat*ei.size=0
       .have K1:∀f g:Nat->Value,(Array.range 0).map f=(Array.range 0).map g:=fun f g=>by simp
        simp[R8,Instr.fill,newRow,madeCells,p4];rw[K1]
       .simp[R8,r4,Instr.fill,newRow,madeCells,p4]
      rw[TM]at k1
      have Ph:(ti.bytes:Int)*n<=281474976710656:=by
       have e:(ti.bytes:Int)*n=((ei.bytes*n.toNat:Nat):Int):=by rw[p5,Int.natCast_mul,Int.toNat_of_nonneg h0]
       rw[e];omega
      rw[run_makeSlice w t el ti z p2 p1 p3 kl kc n n h0 (Int.le_refl _) (by rw[p4];exact h2) Ph (by omega)];exact k1
     .split at hq
      .rename_i hc;obtain⟨rfl,h0,h1,h5,h6,h2,h3⟩:=hc;injection hq with hq;injection hq with q1 q2;subst q1 q2;have hl:=I4 l;have K6:=I4 c;rw[e1]at hl;rw[e2]at K6;simp only[ap]at hl K6;refine⟨Instr.makeSlice t (a.eval l) (a.eval c),by simp only[execOp,ho],?_⟩;obtain⟨m1,m2⟩:=h.made (b:=id) (rows:=[]) (sz:=ei.size) (pr:=true) (c:=madeCells z.cells (m.toNat*ti.size)) (us:=[]) el (IX id 0 (fG.one rfl (U9 _))) (MU 0 _ rfl) (by simp) (by simp[ae]) (by simp) (by simp)
       have Ph:(ti.bytes:Int)*m<=281474976710656:=by
        have e:(ti.bytes:Int)*m=((ei.bytes*m.toNat:Nat):Int):=by rw[p5,Int.natCast_mul,Int.toNat_of_nonneg h0]
        rw[e];omega
       refine⟨T,B,_,_,.slice (some ⟨w.heap.size,0,none⟩) 0 m.toNat,?_,m2,m1,?_,mw (U9 _)⟩
       .rw[hl,K6];exact run_makeSlice w t el ti z p2 p1 p3 kl kc 0 m (Int.le_refl _) h0 (by rw[p4];exact h2) Ph (by omega)
       .simp only[ap];exact .inr ⟨w.heap.size,_,m.toNat,dK.put_self,by simp,U9 _,by unfold maxLen;omega,by simp[madeCells,p4]⟩
      .cases hq
    .cases hq
   .cases hq
  .cases hq
 .rename_i s d x ho;refine⟨convert s d (a.eval x),by simp only[execOp,ho],?_⟩;split at hq
  .rename_i el sv e1 e2 e3;obtain⟨_,d1,_,_,k2,_,_,_,_,_,k8,r1,_⟩:=bm (hX.ty _ _ e1);simp only[cg]at k8;subst k8;obtain⟨_,d2,_,_,k2',_,_,_,_,_,k8,r2,_⟩:=bm (hX.ty _ _ e2);simp only[cg]at k8;subst k8;split at hq
   .rename_i e4;obtain⟨_,d3,_,_,k2'',_,_,_,_,_,k8,r3,_⟩:=bm (hX.ty _ _ e4);simp only[cg]at k8;subst k8;split at hq
    .rename_i Jl;injection hq with hq;injection hq with q1 q2;subst q1 q2;have hx:=I4 x;rw[e3]at hx;simp only[ap]at hx;rw[hx];have I6:=run_bytes_of_string (P:=P) w s d el sv k2 k2' k2'';have hm:sv.size<=maxLen:=by unfold maxLen;omega
     have KB:=grownCap_ge w sv.size 0 el;have Oj:=grownCap_le_maxLen w sv.size 0 el hm;generalize grownCap w sv.size 0 el=aK at I6 KB Oj;have Nk:Below w.heap.size w (w.drew.alloc (.cells (bytesRow sv aK) el ((bytesRow sv aK).size,(bytesRow sv aK).size+1))):=(Vh _ _).drew.alloc (by simp) _;have hsize:(w.drew.alloc (.cells (bytesRow sv aK) el ((bytesRow sv aK).size,(bytesRow sv aK).size+1))).heap.size=w.heap.size+1:=by simp
     refine⟨fun g=>T g\/g=w.heap.size,fun g=>B g\/g=w.heap.size,I,_,_,I6,?_,?_,?_,fun _ _ _ h=> .inl h⟩
     .exact bu.quiet h Nk (fun _ h=> .inl h) (fun _ h=> .inl h) (fun g hg=>hg.imp (fun h=>h) (fun h=>by omega)) (fun g hg=>hg.imp (fun h=>h) (fun h=>by omega))
     .exact h.quiet Nk (fun _ h=> .inl h) (fun _ h=> .inl h) (fun g hg=>hg.imp (h.TB g) (fun h=>h)) (fun g hg=>hg.imp (fun h=>h) (fun h=>by omega))
     .simp only[ap,UI];have IY:sv.toList.length=sv.size:=by rw[Xf];simp
      refine⟨_,aK,by rw[IY],by omega,Oj,by simp,fun _=>⟨w.heap.size,0,rfl,by simp[pick],?_⟩⟩;rw[df];intro i r hi;rw[Vc,Vl]at hi;obtain⟨c,hc,rfl⟩:=hi;refine⟨rfl,?_⟩;simp only[aU,and_true];refine⟨.int .u8 c.toNat,?_,rfl,by simp only[ap]⟩;have Jj:(w.drew.alloc (.cells (bytesRow sv aK) el ((bytesRow sv aK).size,(bytesRow sv aK).size+1))).heap[w.heap.size]? = some (.cells (bytesRow sv aK) el ((bytesRow sv aK).size,(bytesRow sv aK).size+1)):=heap_alloc_new w.drew _;rw[cell_of_row _ _ _ _ _ _ Jj];rw[Xf]at hc;obtain⟨Nu,OU⟩:=UK.1 hc;rw[UW,Nat.mul_one,bytesRow_at sv aK i (by simpa using Nu)];rw[<-OU];simp
    .cases hq
   .cases hq
  .obtain⟨_,d1,_,_,k2,_,_,_,_,_,k8,r1,_⟩:=bm (hX.ty s _ (by assumption));simp only[cg]at k8;subst k8;obtain⟨_,d2,_,_,k2',_,_,_,_,_,k8,r2,_⟩:=bm (hX.ty d _ (by assumption));simp only[cg]at k8;subst k8;split at hq
   .rename_i rows pr e4 e5;obtain⟨_,d3,_,_,k2'',_,_,_,_,_,k8,r3,_⟩:=bm (hX.ty _ _ e4);simp only[cg]at k8;subst k8;rw[Vl]at hq;obtain⟨l,hl,JS⟩:=hq;injection JS with q1 q2;subst q1 q2;obtain⟨ao,aK,hu,_,_,_,I9⟩:=dO h hS e5 (I4 x);obtain⟨ns,rfl,rfl⟩:=rZ hl;refine mj.same h ⟨_,?_,by simp only[ap];rfl⟩;rw[hu,run_convert_bytes_string w s d _ _ _ _ k2 k2'' k2',UI];refine IE (T:=T) (B:=B) (I:=I) fun I8=>?_;obtain⟨g,off,h1,h2,_⟩:=I9 (by simpa using I8);exact⟨g,off,h1,kI h.TB h2⟩
   .cases hq
  .cases hq
 .rename_i t ho;refine⟨Instr.makeMap t ((none:Option Operand).map a.eval),by simp only[execOp,ho],?_⟩;injection hq with hq;injection hq with q1 q2;subst q1 q2;have J1:=(MU 0 _ rfl).map;have hA:=h.alloc (.map #[] 0);have Jj:=heap_alloc_new w (.map #[] 0);have hb:Below w.heap.size w (w.alloc (.map #[] 0)):=(Vh _ w).alloc (UJ _) _;have hn:=IX id 0 (fG.one rfl (U9 _));refine⟨T,B,dK.put I id 0 w.heap.size 0,w.alloc (.map #[] 0),.map (some w.heap.size),?_,?_,?_,?_,mw (U9 _)⟩
  .rfl
  .exact(bu.quiet h hb (fun _ h=>h) (fun _ h=>h) (fun _ h=> .inl h) (fun _ h=> .inl h)).trans (bu.inj hn)
  .refine hA.place hn h.base_le (fun hB=>absurd (h.Blt _ hB) (Xe _)) (by simp) (fun b' e gs hi=>absurd (h.lt hi) (Xe _)) ?_;rw[Wj]at J1;rw[J1];exact⟨rfl,#[],0,Jj,by simp[cf]⟩
  .simp only[ap];exact⟨_,_,dK.put_self,rfl⟩
 .rename_i t x k ok ho;refine⟨Instr.lookup t (a.eval x) (a.eval k) ok,by simp only[execOp,ho],?_⟩;split at hq
  .rename_i kt et e1;obtain⟨_,d,_,_,k2,_,_,_,_,_,k8,r1,_⟩:=bm (hX.ty _ _ e1);simp only[cg]at k8;subst k8;split at hq
   .rename_i es ki ei e3 e4 e5;split at hq
    .rename_i LP;obtain⟨g,ms,clock,hu,hm,J7⟩:=H5 h hS e3 (I4 x);have hk:=yD hX e4 LP (I4 k)
     have Ma:∀n v,(Instr.findKey kt (a.eval k) ms.toList).run P w = .ok (some (n,v)) w->(Instr.lookup t (a.eval x) (a.eval k) ok).run P w = .ok (if ok then .tuple #[v,.bool true] else v) w:=fun n v hr=>by
      simp only[Instr.lookup,UY,r1,UR,hu,fW hm,Vo,gT hX hk,hr]
     have OQ:∀z,(Instr.findKey kt (a.eval k) ms.toList).run P w = .ok none w->(zeroValue et).run P w = .ok z w->(Instr.lookup t (a.eval x) (a.eval k) ok).run P w = .ok (if ok then .tuple #[z,.bool false] else z) w:=fun z hr hz=>by
      simp only[Instr.lookup,UY,r1,UR,hu,fW hm,Vo,gT hX hk,hr,hz]
     have fin:∀{r:Value}{v:AV}{bb:Bool},(Instr.lookup t (a.eval x) (a.eval k) ok).run P w = .ok (if ok then .tuple #[r,.bool bb] else r) w->ap w v T B I r->mj P base T B I S' w id [] (if ok=true then .tup [v,.bool bb] else v) (Instr.lookup t (a.eval x) (a.eval k) ok):=fun {r v bb} hr hv=>by
      refine mj.same h ⟨_,hr,?_⟩;cases ok with
      | false=>exact hv
      | true=>
       simp only[if_true,ap];exact⟨[r,.bool bb],rfl,by simp only[ae];exact⟨_,_,rfl,hv,_,_,rfl,by simp only[ap],rfl⟩⟩
     split at hq
     .rename_i v _ e6;injection hq with hq;injection hq with q1 q2;subst q1 q2;rcases lK hX hk e6 J7 with ⟨q1,_⟩|⟨v',n,m,q1,q2,q3,q4,_⟩
      .cases q1
      .injection q1 with q1;subst q1;exact fin (Ma _ _ q2) q4
     .rename_i z e6 e7;injection hq with hq;injection hq with q1 q2;subst q1 q2;obtain⟨_,de,zv,z1,_,z3,_,_,z6,_,_,_,_,_,z4,_⟩:=bm (hX.ty _ _ e5);rcases lK hX hk e6 J7 with ⟨_,q2⟩|⟨v',n,m,q1,_⟩
      .exact fin (OQ _ q2 (z4 w)) (CE ((hX.ty _ _ e5).zagg _ _ z1 z3) z6 e7)
      .cases q1
     .cases hq
    .cases hq
   .cases hq
  .cases hq
 .rename_i args argTypes ho;split at hq
  .rename_i x t ea et;have LW:args = #[x]:=by rw[<-Vw];exact ea
   have LV:argTypes = #[t]:=by rw[<-Vw];exact et
   subst LW LV;split at hq
   .cases hq
   .refine⟨Builtin.len_ #[t] o.type #[a.eval x],by simp[execOp,ho,resolve,invoke,builtin],?_⟩;split at hq
    .rename_i kt et b e1 e2;obtain⟨_,d,_,_,k2,_,_,_,_,_,k8,r1,_⟩:=bm (hX.ty _ _ e1);simp only[cg]at k8;subst k8;split at hq
     .rename_i es e3;injection hq with hq;injection hq with q1 q2;subst q1 q2;have hx:=I4 x;rw[e2]at hx;simp only[ap]at hx;obtain⟨g,gs,hi,hu⟩:=hx;have hb:=h.blk _ _ _ _ hi;rw[(hS _ _ e3).map]at hb;obtain⟨_,ms,clock,hm,J7⟩:=hb;have hl:=za J7;refine mj.same h ⟨.int .i64 es.length,?_,by simp only[ap]⟩;simp[Builtin.len_,r1,hu,fW hm,goInt,<-hl,VV]
     .cases hq
    .cases hq
  .cases hq
 .cases hq
end
end Go.Eng
