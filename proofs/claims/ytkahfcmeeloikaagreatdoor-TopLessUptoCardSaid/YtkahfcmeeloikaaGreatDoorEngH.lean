/- Operations that write. -/
import Derived.Test.YtkahfcmeeloikaaGreatDoorEngG
import Derived.Laws.CopyOwn
set_option linter.all false
set_option maxHeartbeats 1000000
namespace Go.Eng
open Go.RowKit
variable [aw]
variable {b e g gs len off p row sz wep xc:Nat}{c c':Array Value}{cs:List AV}{ei:mN}{news rows rows':List (List AV)}{pr pr' prn:Bool}{u1:Value}{us vs:List Value}{xo:Option Addr}
section
variable {P:Program}{X:dV}(hX:eC P X){base:Nat}{T B:bV}{I:dK}{S S':zS}{w:World}
theorem FM{r:List AV}(hl:∀r∈rows,r.length=sz)(hr:rows[row]? = some r)(hf:off+cs.length<=sz) :
  (rows.set row (gE r off cs)).flatten=gE rows.flatten (row*sz+off) cs:=by
 have Ja:=(UK.1 hr).1;have J5:=hl r (Vs hr)
 have key:∀(rows:List (List AV)) (row:Nat),(∀r∈rows,r.length=sz)->rows[row]? = some r->(rows.set row (gE r off cs)).flatten=gE rows.flatten (row*sz+off) cs:=by
  intro rows
  induction rows with
  | nil=>intro row _ h;simp at h
  | cons x xs ih=>
   intro row hl h;have hx:=hl x (by simp);cases row with
   | zero=>
    simp at h;subst h;simp only[UC,V7,gE,Vg,UW];rw[Wg (by omega),List.drop_append_of_le_length (by omega)];simp
   | succ row=>
    have:=ih row (fun y hy=>hl y (by simp[hy])) (by simpa using h);simp only[UD,V7];rw[this];unfold gE;rw[show (row+1)*sz+off=x.length+(row*sz+off) by rw[hx,VJ];omega,List.take_length_add_append,VY x.length,List.drop_length_add_append];simp
 exact key rows row hl hr
omit [aw] in
def uI{fl:List AV}(h:ae w fl T B I us)(k:ae w cs T B I vs):ae w (gE fl p cs) T B I (us.take p++vs++us.drop (p+vs.length)):=by
 unfold gE;rw[<-dC k];exact cw (cw (gO _ h) k) (gP _ h)
omit [aw] in
def wd(hB:∀g,B g->g<w.heap.size)(hg:¬B g)(c:Array Value):jG w T B I (w.setRow g c) T B I :=
 ⟨fun _ h=>h,fun _ h=>h,fun _ _ _ h=>h,fun g' JN=>setRow_other w g g' c (fun e=>hg (e ▸ JN))⟩
def cB.write(h:cB base T B I S w){ty:TypeId}(hi:I b e=some (g,gs))(hS:S b=some (.arr rows sz wep pr))(he:rows.length=e)
  (IY:rows'.length=rows.length) (hc:w.heap[g]? = some (.cells c ty (0,0))) (hs:c'.size=c.size) (J1:S' b=some (.arr rows' sz e pr')) (KN:∀x,x≠b->S' x=S x)
  (Jj:bn (w.setRow g c') rows' T (if pr' then T else B) (if pr' then aT else I) g 0 sz):cB base T B I S' (w.setRow g c')/\bu base T B I w T B I (w.setRow g c'):=by
 obtain⟨o1,o2,c0,ty0,o3,o4⟩:=h.ownA hi hS;rw[hc]at o3;injection o3 with o3;injection o3 with q1 q2;subst q1 q2;have hm:jG w T B I (w.setRow g c') T B I:=wd h.Blt o2 c';refine⟨⟨by simp;exact h.base_le,h.TB,fun g' JN=>by simp;exact h.Blt g' JN,fun b' e' g' KW Jk=>?_,h.excl,fun b' e' g' KW Jk=>?_,fun g' o k=>⟨(h.known g' o k).1,by rw[setRow_other w g g' c' (fun e=>o2 (e ▸ (h.known g' o k).1))];exact(h.known g' o k).2⟩⟩,hm,below_setRow (Vh _ _) o1 c',fun _ h=> .inl h,fun _ h=> .inl h⟩
 .obtain⟨p1,p2,p3⟩:=h.own _ _ _ _ Jk;refine⟨p1,fun hB=>?_,by simpa using p3⟩;obtain⟨n,hn⟩:=p2 hB;by_cases hb:b'=b
  .subst hb;rw[hS]at hn;cases hn
  .exact⟨n,by rw[KN _ hb];exact hn⟩
 .by_cases hb:b'=b
  .subst hb;obtain⟨k2,k3,k4⟩:=h.blkA Jk hS;obtain⟨_,_,c1,ty1,p3,p4⟩:=h.ownA Jk hS;rw[J1];refine⟨by omega,k3,?_,fun hle=>?_⟩
   .by_cases hg:g'=g
    .subst hg;refine⟨c',ty,setRow_heap w g' c c' ty (0,0) hc,?_⟩;rw[hs];rw[hc]at p3;injection p3 with p3;injection p3 with q1 _;subst q1;exact p4
    .exact⟨c1,ty1,by rw[setRow_other w g g' c' hg];exact p3,p4⟩
   .obtain rfl:e'=e:=by omega
    rw[hi]at Jk;injection Jk with Jk;injection Jk with q1 q2;subst q1 q2;rw[<-he,<-IY,Vn];exact Jj
  .have hg:g'≠g:=fun hg=>hb (h.excl _ _ _ _ _ _ _ (hg ▸ Jk) hi);rw[KN _ hb];exact(h.blk _ _ _ _ Jk).mono hm h.TB (setRow_other w g g' c' hg)
def cB.beyond(h:cB base T B I S w){n:Nat}{ty:TypeId}(hi:I b e=some (g,gs))(hS:S b=some (.arr rows sz wep pr))(Ko:∀e,n<e->I b e=none)
  (hc:w.heap[g]? = some (.cells c ty (0,0))) (hs:c'.size=c.size) (Li:∀j,j<n*sz->c'[j]? = c[j]?):cB base T B I S (w.setRow g c')/\bu base T B I w T B I (w.setRow g c'):=by
 obtain⟨o1,o2,c0,ty0,o3,o4⟩:=h.ownA hi hS;have hm:jG w T B I (w.setRow g c') T B I:=wd h.Blt o2 c';refine⟨⟨by simp;exact h.base_le,h.TB,fun g' JN=>by simp;exact h.Blt g' JN,fun b' e' g' KW Jk=>?_,h.excl,fun b' e' g' KW Jk=>?_,fun g' o k=>⟨(h.known g' o k).1,by rw[setRow_other w g g' c' (fun e=>o2 (e ▸ (h.known g' o k).1))];exact(h.known g' o k).2⟩⟩,hm,below_setRow (Vh _ _) o1 c',fun _ h=> .inl h,fun _ h=> .inl h⟩
 .obtain⟨p1,p2,p3⟩:=h.own _ _ _ _ Jk;exact⟨p1,p2,by simpa using p3⟩
 .by_cases hg:g'=g
  .subst hg;have hb:=h.excl _ _ _ _ _ _ _ Jk hi;subst hb;obtain⟨k2,k3,k4⟩:=h.blkA Jk hS;obtain⟨_,_,c1,ty1,p3,p4⟩:=h.ownA Jk hS
   have hen:e'<=n:=by
    rcases Ws n e' with h1|h1
    .rw[Ko _ h1]at Jk;cases Jk
    .exact h1
   rw[hc]at p3;injection p3 with p3;injection p3 with q1 _;subst q1;rw[hS];refine⟨k2,k3,⟨c',ty,setRow_heap w g' c c' ty (0,0) hc,by rw[hs];exact p4⟩,fun hle=>?_⟩;have k5:=k4 hle;rw[cU]at k5 ⊢;refine⟨k5.1,?_⟩;have k6:=k5.2;rw[dG]at k6 ⊢;intro j d hj;obtain⟨u,m1,m2,m3⟩:=k6 j d hj;refine⟨u,?_,m2,cu d (lC _ hm h.TB) (wG _ h.TB) m3⟩;have Mb:=(UK.1 hj).1;rw[fw k5.1,Wh]at Mb;have MX:min e' rows.length*sz<=n*sz:=VC _ (by omega);rw[UW]at m1 ⊢;rw[cell_setRow_same w g' j c c' ty (0,0) hc,Li j (by omega),<-m1];simp[World.cell?,hc]
  .exact(h.blk _ _ _ _ Jk).mono hm h.TB (setRow_other w g g' c' hg)
theorem cB.longer(h:cB base T B I S w)(hS:S b=some (.arr rows sz wep pr))(LB:pr'=true->pr=true)(J1:S' b=some (.arr (rows++news) sz wep pr'))(KN:∀x,x≠b->S' x=S x) :
  cB base T B I S' w:=by
 refine⟨h.base_le,h.TB,h.Blt,fun b' e' g' KW Jk=>⟨(h.own b' e' g' KW Jk).1,fun hB=>by
  obtain⟨n,hn⟩:=(h.own b' e' g' KW Jk).2.1 hB;by_cases hb:b'=b
  .subst hb;rw[hS]at hn;cases hn
  .exact⟨n,by rw[KN _ hb];exact hn⟩,(h.own b' e' g' KW Jk).2.2⟩,h.excl,fun b' e' g' KW Jk=>?_,h.known⟩
 by_cases hb:b'=b
 .subst hb;obtain⟨k2,k3,k4⟩:=h.blkA Jk hS;obtain⟨_,_,k5⟩:=h.ownA Jk hS;rw[J1];refine⟨by simp;omega,k3,k5,fun hle=>?_⟩;rw[Wg k2];cases pr' with
  | true=>have:=LB rfl;subst this;exact k4 hle
  | false=>exact kI h.TB (k4 hle)
 .rw[KN _ hb];exact h.blk _ _ _ _ Jk
omit [aw] in
def lU(Jc:∀g,T g->B g)(h:ae w cs T (if pr then T else B) (if pr then aT else I) us):ae w cs T B I us:=by
 cases pr
 .exact h
 .exact bW _ ⟨fun _ h=>h,Jc,fun _ _ _ h=>(by simp[aT]at h),fun _ _=>rfl⟩ (fun _ h=>h) h
omit [aw] in
def uJ{α:Type}{l vs:List α}(h:p+vs.length<=l.length)(j:Nat):(l.take p++vs++l.drop (p+vs.length))[j]? = if j<p then l[j]? else if j<p+vs.length then vs[j-p]? else l[j]? := by
 have hp:(l.take p).length=p:=by simp;omega
 by_cases h1:j<p
 .rw[if_pos h1,UX,UN (by omega),VZ,if_pos h1]
 .rw[if_neg h1,UX,Vd (by omega),hp];by_cases h2:j<p+vs.length
  .rw[if_pos h2,UN (by omega)]
  .rw[if_neg h2,Vd (by omega),List.getElem?_drop]
   congr 1;omega
def EOut(P:Program)(base:Nat)(T B:bV)(I:dK)(S':zS)(w:World)(v:AV)(x:Sem Next):Prop :=
 ∃T' B' I' w' u n,x.run P w = .ok n w'/\((n = .value u)\/(n = .skip/\u=undef))/\bu base T B I w T' B' I' w'/\cB base T' B' I' S' w'/\ap w' v T' B' I' u
theorem og(h:cB base T B I S w)(hi:I b e=some (g,gs))(hS:S b=some (.arr rows sz wep pr))(he:rows.length=e)(hw:wep<=e)
  (J3:ae w cs T B I vs) (KL:∀u∈vs,u.oneCell'=true) (Mv:p+cs.length<=rows.length*sz) (IY:rows'.length=rows.length) (QK:rows'.flatten=gE rows.flatten p cs) (RI:(∀r∈rows,r.length=sz)->∀r∈rows',r.length=sz) (LB:pr'=true->pr=true/\cq cs=true)
  (J1:S' b=some (.arr rows' sz e pr')) (KN:∀x,x≠b->S' x=S x) :
  ∃w',(storeCells ⟨g,p,none⟩ vs).run P w = .ok () w'/\bu base T B I w T B I w'/\cB base T B I S' w':=by
 obtain⟨o1,o2,c,ty,o3,o4⟩:=h.ownA hi hS;obtain⟨k2,k3,k4⟩:=h.blkA hi hS;have hk:=k4 hw;rw[<-he,Vn]at hk;rw[cU]at hk;obtain⟨hl,Pd⟩:=hk;obtain⟨us,u1,u2,u3,u4⟩:=jr Pd;rw[fw hl]at u2;have Kc:rows.length*sz<=c.size:=by rw[o4,he];exact k3
 have Ly:∀j,j<us.length->us[j]? = c.toList[j]? := fun j hj=>by
  have:=u4 j us[j] (UL hj);rw[cell_of_row _ _ _ _ _ _ o3,UW]at this;rw[UL hj,W5,this]
 have hvl:vs.length=cs.length:=dC J3;have Kk:=run_storeCells_at P g p ty vs 0 c w o3 (by omega) KL;simp only[Wj]at Kk;refine⟨_,Kk,?_⟩;have Sr:(c.toList.take p++vs++c.toList.drop (p+vs.length)).toArray.size=c.size:=by simp;omega
 have fin:=h.write (S':=S') (rows':=rows') (pr':=pr') hi hS he IY o3 Sr J1 KN ?_
 .exact⟨fin.2,fin.1⟩
 .rw[cU]
  have SU:jG w T B I (w.setRow g (c.toList.take p++vs++c.toList.drop (p+vs.length)).toArray) T B I :=
   ⟨fun _ h=>h,fun _ h=>h,fun _ _ _ h=>h,fun g' JN=>setRow_other w g g' _ (fun e=>o2 (e ▸ JN))⟩
  refine⟨RI hl,?_⟩;rw[QK]
  have Qy:ae w (gE rows.flatten p cs) T (if pr' then T else B) (if pr' then aT else I) (us.take p++vs++us.drop (p+vs.length)):=by
   cases KK:pr' with
   | true=>
    obtain⟨NJ,Ql⟩:=LB KK;subst NJ;simp only[if_true]at u1 ⊢;exact uI u1 (je h.TB _ Ql J3)
   | false=>
    simp only[U3,if_false];cases pr with
    | false=>exact uI u1 J3
    | true=>exact uI (lU h.TB u1) J3
  refine eT (bW _ (lC _ SU h.TB) (wG _ h.TB) Qy) ?_ ?_
  .intro x hx;simp only[UU]at hx;rcases hx with (hx|hx)|hx
   .exact u3 x (Wi hx)
   .exact KL x hx
   .exact u3 x (WL hx)
  .intro j u hj;rw[cell_setRow_same w g _ c _ ty (0,0) o3,UW];have Mb:=(UK.1 hj).1;simp only[UG,Wh,VU]at Mb;rw[uJ (by omega)]at hj;rw[Wt,uJ (by simp;omega)];split at hj
   .rename_i q;rw[if_pos q,<-Ly j (by omega)];exact hj
   .rename_i q;rw[if_neg q];split at hj
    .rename_i q2;rw[if_pos q2];exact hj
    .rename_i q2;rw[if_neg q2,<-Ly j (by omega)];exact hj
include hX in
def CJ{t:TypeId}{i:mN}{xv:AV}{pu xu:Value}(h:cB base T B I S w)(ht:X.ty t=some i)(hp:ap w (.ptr b e sz row off) T B I pu)(hx:ap w xv T B I xu)
  (hS:S b=some (.arr rows sz wep pr)) (he:rows.length=e) (hw:wep<=e) (I9:row<e) (Mw:xv.cells.length=i.size) (Mv:off+xv.cells.length<=sz) (KU:xv.cells.all AV.cell=true)
  (J1:S' b=some (.arr (rows.set row (gE (rows.getD row []) off xv.cells)) sz e (pr && cq xv.cells))) (KN:∀x,x≠b->S' x=S x) :
  ∃w',(Instr.storeAt t pu xu).run P w = .ok () w'/\bu base T B I w T B I w'/\cB base T B I S' w':=by
 obtain⟨ti,d,z,_,_,_,_,_,_,_,_,_,r2,r3,_⟩:=bm (hX.ty _ _ ht);simp only[ap]at hp;obtain⟨g,gs,hi,rfl⟩:=hp;obtain⟨k2,k3,k4⟩:=h.blkA hi hS;have hk:=k4 hw;rw[<-he,Vn,cU]at hk
 have N8:rows[row]? = some (rows.getD row []):=by
  rw[Ve,UL (by omega)];rfl
 obtain⟨x1,x2⟩:=pZ KU hx;have xl:=dC x1;simp only[VV]at xl
 have hp:row*sz+off+xv.cells.length<=rows.length*sz:=by
  have:=VC sz (show row+1<=rows.length by omega);rw[VJ,Vp]at this;omega
 obtain⟨w',s1,s2,s3⟩:=og (P:=P) h hi hS he hw x1 x2 hp (rows':=rows.set row (gE (rows.getD row []) off xv.cells)) (pr':=pr && cq xv.cells) (by simp) (FM hk.1 N8 Mv) (fun hl r hr=>by
  rcases List.mem_or_eq_of_mem_set hr with h3|rfl
  .exact hl r h3
  .have J5:=hl _ (Vs N8);simp only[gE,UG,Wh,VU];omega) (fun hp=>by simpa using hp) J1 KN
 refine⟨w',?_,s2,s3⟩;have hz:¬(xu.cells.size≠i.size):=by rw[xl,Mw];simp
 simp only[Instr.storeAt,Instr.sureAddr,UY,Vo,UR,storeVar,r2,Sem.run_ite,hz,if_false,s1]
omit [aw] in
def uy{P:Program}(w:World)(t ty e:TypeId)(i:TypeInfo)(ht:P.underlying t=some (.slice e))(hi:P.info? e=some i)(te:TypeId)
  (g sLen sCap:Nat) (cur:Array Value) (hg:w.heap[g]? = some (.cells cur te (0,0)))
  (a:Addr) (m c:Nat) (news:List Value) (hl:news.length=m*i.size) (Qo:∀j u,news[j]? = some u->w.cell? (a.add j)=some u) (h1:∀u∈news,u.oneCell'=true)
  (Lj:sLen+m<=sCap) (Mv:sLen*i.size+news.length<=cur.size) :
  (Builtin.append_ #[t,t] ty #[.slice (some ⟨g,0,none⟩) sLen sCap,.slice (some a) m c]).run P w =
   .ok (.slice (some ⟨g,0,none⟩) (sLen+m) sCap) (w.setRow g (cur.toList.take (sLen*i.size)++news++cur.toList.drop (sLen*i.size+news.length)).toArray):=by
 have hf:=run_firstCells_some (P:=P) w i.size m a m c news hl Qo;have Kk:=run_storeCells_at P g (sLen*i.size) te news 0 cur w hg (by simpa using Mv) h1;simp only[Wj]at Kk;simp[Builtin.append_,run_underlying ht,sizeOf,typeInfo,hi,Builtin.lenOf,Lj,hf,Xt,Kk]
omit [aw] in
def jJ{P:Program}(w:World)(t ty e:TypeId)(i:TypeInfo)(ht:P.underlying t=some (.slice e))(hi:P.info? e=some i)(ao xo:Option Addr)(n aK c:Nat)(hn:n<=aK) :
  (Builtin.append_ #[t,t] ty #[.slice ao n aK,.slice xo 0 c]).run P w = .ok (.slice ao n aK) w:=by
 have hf:(Builtin.firstCells i.size 0 (.slice xo 0 c)).run P w = .ok #[] w:=by
  cases xo<;>simp[Builtin.firstCells,loadCells,loadCellsFrom]
 cases ao<;>simp[Builtin.append_,run_underlying ht,sizeOf,typeInfo,hi,Builtin.lenOf,hn,hf,storeCells]
omit [aw] in
def pG{J:dK}{B0:bV}(h:bn w rows T B0 J g off sz):∃us:List Value,ae w rows.flatten T B0 J us/\us.length=rows.length*sz/\(∀u∈us,u.oneCell'=true)/\(∀(j:Nat) (u:Value),us[j]? = some u->w.cell? ((⟨g,off,none⟩:Addr).add j)=some u)/\∀r∈rows,r.length=sz:=by
 rw[cU]at h;obtain⟨us,h1,h2,h3,h4⟩:=jr h.2;exact⟨us,h1,by rw[h2,fw h.1],h3,fun j u hj=>by rw[Xt];exact h4 j u hj,h.1⟩
def zJ(h:cB base T B I S w)(ty:TypeId)(hn:I b rows.length=none)(hS:Holds S b (.arr rows sz wep pr))
  (hl:∀r∈rows,r.length=sz) (JM:ae w rows.flatten T (if pr then T else B) (if pr then aT else I) us) (h1:∀u∈us,u.oneCell'=true) (hc:c.toList.take us.length=us) :
  cB base T B (dK.put I b rows.length w.heap.size c.size) S (w.drew.alloc (.cells c ty))/\bu base T B I w T B (dK.put I b rows.length w.heap.size c.size) (w.drew.alloc (.cells c ty)):=by
 have hd:cB base T B I S w.drew:=h.heap rfl;have hA:=hd.alloc (.cells c ty);have Jj:(w.drew.alloc (.cells c ty)).heap[w.heap.size]? = some (.cells c ty (0,0)):=heap_alloc_new w.drew (.cells c ty);have hm:jG w T B I (w.drew.alloc (.cells c ty)) T B I:=⟨fun _ h=>h,fun _ h=>h,fun _ _ _ h=>h,fun g hg=>mc (w:=w.drew) _ _ (h.Blt g hg)⟩;have IY:us.length=rows.length*sz:=by rw[dC JM,fw hl]
 have hle:us.length<=c.size:=by
  have:(c.toList.take us.length).length=us.length:=by rw[hc]
  simp at this;omega
 have hv:=hA.version (b:=b) (g:=w.heap.size) hn hS h.base_le (fun hB=>absurd (h.Blt _ hB) (Xe _)) (fun b e gs hi=>absurd (h.lt hi) (Xe _)) Jj (by omega) (by
  rw[cU];refine⟨hl,eT (bW _ (lC _ hm h.TB) (wG _ h.TB) JM) h1 fun j u hj=>?_⟩;rw[cell_of_row _ _ _ _ _ _ Jj,UW];rw[<-hc,VZ]at hj;split at hj
  .simpa using hj
  .cases hj)
 refine⟨hv.1,bu.trans ?_ hv.2⟩;exact bu.quiet h ((Vh _ w).drew.alloc (by simp) _) (fun _ h=>h) (fun _ h=>h) (fun _ h=> .inl h) (fun _ h=> .inl h)
include hX in
theorem Ci{t ty el:TypeId}{ao:Option Addr}(h:cB base T B I S w)(ht:P.underlying t=some (.slice el))(he:X.ty el=some ei)
  (I9:news≠[]->∃g off,xo=some ⟨g,off,none⟩/\bn w news T (if pr then T else B) (if pr then aT else I) g off ei.size) (hz:ei.zero.length=ei.size) (I8:news.length≠0) (KH:news.length*ei.bytes<=140737488355328) (Ka:news.length<=140737488355328)
  (IX:I b news.length=none) (J1:Holds S b (.arr news ei.size 0 pr)) :
  ∃I' w' u,(Builtin.append_ #[t,t] ty #[.slice ao 0 0,.slice xo news.length xc]).run P w = .ok u w'/\bu base T B I w T B I' w'/\cB base T B I' S w'/\ap w' (.sl b news.length 0 news.length ei.size) T B I' u/\∀b' e p,I' b' e=some p->I b' e=some p\/(b'=b/\e=news.length):=by
 obtain⟨ti,d,z,k1,k2,k3,k4,k5,k6,_⟩:=(hX.ty _ _ he).ok;have ON:news≠[]:=by intro h0;subst h0;simp at I8
 obtain⟨g,off,rfl,hr⟩:=I9 ON;obtain⟨us,l1,l2,l3,l4,l5⟩:=pG hr;have IY:us.length=news.length*ti.size:=by rw[l2,k4]
 have fin:∀(aK:Nat),news.length<=aK->aK<=maxLen->∀c:Array Value,c=us.toArray++Builtin.zeroCells z.cells (aK-news.length)->∀u w',(Builtin.append_ #[t,t] ty #[.slice ao 0 0,.slice (some ⟨g,off,none⟩) news.length xc]).run P w = .ok u w'->u = .slice (some ⟨w.heap.size,0,none⟩) news.length aK->w'=w.drew.alloc (.cells c el) ->
   ∃I' w' u,(Builtin.append_ #[t,t] ty #[.slice ao 0 0,.slice (some ⟨g,off,none⟩) news.length xc]).run P w = .ok u w'/\bu base T B I w T B I' w'/\cB base T B I' S w'/\ap w' (.sl b news.length 0 news.length ei.size) T B I' u/\∀b' e p,I' b' e=some p->I b' e=some p\/(b'=b/\e=news.length):=by
  intro aK c1 c2 c hc u w' I6 hu Lx;obtain⟨m1,m2⟩:=zJ h (us:=us) (c:=c) el IX J1 l5 l1 l3 (by rw[hc];simp);refine⟨_,_,_,I6,Lx ▸ m2,Lx ▸ m1,?_,fun b' e p hp=>?_⟩
  rotate_left
  .unfold dK.put at hp;split at hp
   .rename_i hc;exact .inr hc
   .exact .inl hp
  rw[hu];simp only[ap];refine .inr ⟨w.heap.size,c.size,aK,dK.put_self,by simp,c1,c2,?_⟩;have zl:z.cells.size=ei.size:=by have:=k6.1;rw[<-hz,this];simp
  rw[hc];simp only[Array.size_append,Vi,l2,size_zeroCells,zl];rw[<-VJ,UW,show news.length+(aK-news.length)=aK by omega];exact UJ _
 have Mq:news.length<=maxLen:=by unfold maxLen;omega
 cases ao with
 | none=>
  have I6:=run_append_nil (P:=P) w t ty el ti z ht k1 k3 ⟨g,off,none⟩ news.length xc us IY l4 (by omega) (by omega) (by rw[k5];omega);exact fin _ (grownCap_ge w news.length 0 el) (grownCap_le_maxLen w news.length 0 el Mq) _ rfl _ _ I6 rfl rfl
 | some a=>
  have I6:=run_append_grow (P:=P) w t ty el ti z ht k1 k3 a 0 0 [] (by simp) (by simp) ⟨g,off,none⟩ news.length xc us IY l4 (by omega) (by omega) (growslice_fits (by omega) (by rw[k5,UW];omega));simp only[UW]at I6;exact fin _ (grownCap_ge w news.length 0 el) (grownCap_le_maxLen w news.length 0 el Mq) _ (by simp) _ _ I6 rfl rfl
include hX in
theorem zI{t ty el:TypeId}(h:cB base T B I S w)(ht:P.underlying t=some (.slice el))(he:X.ty el=some ei)
  (I9:news≠[]->∃g off,xo=some ⟨g,off,none⟩/\bn w news T (if prn then T else B) (if prn then aT else I) g off ei.size) (hz:ei.zero.length=ei.size) (I8:news.length≠0) (KH:(rows.length+news.length)*ei.bytes<=140737488355328) (Ka:rows.length+news.length<=140737488355328)
  (hu:ap w (.sl b rows.length 0 rows.length ei.size) T B I u1) (hS:Holds S b (.arr (rows++news) ei.size wep pr)) (SD:pr=true->prn=true) (hw:wep<=rows.length) (Ko:∀e,rows.length<e->I b e=none) :
  ∃I' w' u,(Builtin.append_ #[t,t] ty #[u1,.slice xo news.length xc]).run P w = .ok u w'/\bu base T B I w T B I' w'/\cB base T B I' S w'/\ap w' (.sl b (rows.length+news.length) 0 (rows.length+news.length) ei.size) T B I' u/\(∀b' e p,I' b' e=some p->I b' e=some p\/(b'=b/\e=rows.length+news.length))/\(0<rows.length->I b rows.length≠none):=by
 obtain⟨ti,d,z,k1,k2,k3,k4,k5,k6,_⟩:=(hX.ty _ _ he).ok;have ON:news≠[]:=by intro h0;subst h0;simp at I8
 obtain⟨g,off,rfl,hr⟩:=I9 ON;obtain⟨us,l1,l2,l3,l4,l5⟩:=pG hr;have IY:us.length=news.length*ti.size:=by rw[l2,k4]
 have zl:z.cells.size=ei.size:=by have:=k6.1;rw[<-hz,this];simp
 have Mq:rows.length+news.length<=maxLen:=by unfold maxLen;omega
 have LZ:I b (rows.length+news.length)=none:=Ko _ (by omega);have Kn:(rows++news).length=rows.length+news.length:=by simp
 have HP:∀{g gs:Nat},∀b' e p,dK.put I b (rows.length+news.length) g gs b' e=some p->I b' e=some p\/(b'=b/\e=rows.length+news.length):=fun {g gs} b' e p hp=>by
  unfold dK.put at hp;split at hp
  .rename_i hc;exact .inr hc
  .exact .inl hp
 have N2:ae w news.flatten T (if pr then T else B) (if pr then aT else I) us:=by
  cases pr with
  | true=>have:=SD rfl;subst this;exact l1
  | false=>exact lU h.TB l1
 have fresh:∀(olds:List Value) (aK:Nat),ae w rows.flatten T (if pr then T else B) (if pr then aT else I) olds->olds.length=rows.length*ei.size->(∀u∈olds,u.oneCell'=true)->(∀r∈rows,r.length=ei.size)->rows.length+news.length<=aK->aK<=maxLen->∀c:Array Value,c=olds.toArray++us.toArray++Builtin.zeroCells z.cells (aK-(rows.length+news.length)) ->
   ∀u w',(Builtin.append_ #[t,t] ty #[u1,.slice (some ⟨g,off,none⟩) news.length xc]).run P w = .ok u w'->u = .slice (some ⟨w.heap.size,0,none⟩) (rows.length+news.length) aK->w'=w.drew.alloc (.cells c el) ->
   ∃I' w' u,(Builtin.append_ #[t,t] ty #[u1,.slice (some ⟨g,off,none⟩) news.length xc]).run P w = .ok u w'/\bu base T B I w T B I' w'/\cB base T B I' S w'/\ap w' (.sl b (rows.length+news.length) 0 (rows.length+news.length) ei.size) T B I' u/\(∀b' e p,I' b' e=some p->I b' e=some p\/(b'=b/\e=rows.length+news.length)):=by
  intro olds aK o1 o2 o3 o4 c1 c2 c hc u w' I6 hu Lx
  have Ji:ae w (rows++news).flatten T (if pr then T else B) (if pr then aT else I) (olds++us):=by
   rw[WD];exact cw o1 N2
  obtain⟨m1,m2⟩:=zJ h (us:=olds++us) (c:=c) el (by rw[Kn];exact LZ) hS (fun r hr=>by rcases UU.1 hr with h1|h1;exact o4 r h1;exact l5 r h1) Ji
   (fun u hu=>by rcases UU.1 hu with h1|h1;exact o3 u h1;exact l3 u h1) (by
    have:c.toList=(olds++us)++(Builtin.zeroCells z.cells (aK-(rows.length+news.length))).toList:=by rw[hc];simp
    rw[this,List.take_left'] ;rfl)
  rw[Kn]at m1 m2;refine⟨_,_,_,I6,Lx ▸ m2,Lx ▸ m1,?_,HP⟩;rw[hu];simp only[ap];refine .inr ⟨w.heap.size,c.size,aK,dK.put_self,by simp,c1,c2,?_⟩;rw[hc];simp only[Array.size_append,Vi,l2,o2,size_zeroCells,zl];rw[<-VJ,<-VJ,UW,show rows.length+news.length+(aK-(rows.length+news.length))=aK by omega];exact UJ _
 simp only[ap]at hu;rcases hu with ⟨h0,_,_,ao,rfl⟩|⟨g1,gs,aK,hi,rfl,c1,c2,c3⟩
 .have K1:rows = []:=UO h0;subst K1;have this:=fresh [] (grownCap w news.length 0 el) (by simp[ae]) (by simp) (by simp) (by simp) (by simpa using grownCap_ge w news.length 0 el) (grownCap_le_maxLen w news.length 0 el (by simpa using Mq)) _ rfl;cases ao with
  | none=>
   have I6:=run_append_nil (P:=P) w t ty el ti z ht k1 k3 ⟨g,off,none⟩ news.length xc us IY l4 (by omega) (by simp at Ka;omega) (by rw[k5];simp at KH;omega);obtain⟨I',w',u,a1,a2,a3,a4,a5⟩:=this _ _ I6 (by simp) (by simp);exact⟨I',w',u,a1,a2,a3,a4,a5,fun h0=>absurd h0 (by simp)⟩
  | some a=>
   have I6:=run_append_grow (P:=P) w t ty el ti z ht k1 k3 a 0 0 [] (by simp) (by simp) ⟨g,off,none⟩ news.length xc us IY l4 (by omega) (by simp at Ka;omega) (growslice_fits (by omega) (by rw[k5,UW];simp at KH;omega));simp only[UW]at I6;obtain⟨I',w',u,a1,a2,a3,a4,a5⟩:=this _ _ I6 (by simp) (by simp);exact⟨I',w',u,a1,a2,a3,a4,a5,fun h0=>absurd h0 (by simp)⟩
 .obtain⟨more,Ua⟩:=hS.arr;obtain⟨o1,o2,c,ty',o3,o4⟩:=h.ownA hi Ua;obtain⟨q2,q3,q4⟩:=h.blkA hi Ua;have hk:=q4 hw;rw[UX,Xl]at hk;obtain⟨olds,d1,d2,d3,d4,d5⟩:=pG hk;simp only[Vg]at d4 c3 ⊢;by_cases Lj:rows.length+news.length<=aK
  ·
   have KB:(rows.length+news.length)*ei.size<=c.size:=by
    rw[o4];exact UQ (VC _ Lj) (by simpa using c3)
   rw[VJ]at KB;have I6:=uy (P:=P) w t ty el ti ht k1 ty' g1 rows.length aK c o3 ⟨g,off,none⟩ news.length xc us IY l4 l3 Lj (by rw[k4,l2];exact KB);rw[k4]at I6;generalize J0:(c.toList.take (rows.length*ei.size)++us++c.toList.drop (rows.length*ei.size+us.length)).toArray=c' at I6;have Mw:c'.size=c.size:=by rw[<-J0];simp;omega
   have Jq:∀j:Nat,c'[j]? = if j<rows.length*ei.size then c[j]? else if j<rows.length*ei.size+us.length then us[j-rows.length*ei.size]? else c[j]? := fun j=>by
    rw[<-J0,Wt,uJ (by simp;omega)];simp only[W5]
   obtain⟨b3,b2⟩:=h.beyond (n:=rows.length) hi Ua Ko o3 Mw (fun j hj=>by rw[Jq,if_pos hj]);have Jj:=setRow_heap w g1 c c' ty' (0,0) o3;have SU:jG w T B I (w.setRow g1 c') T B I:=⟨fun _ h=>h,fun _ h=>h,fun _ _ _ h=>h,fun g' JN=>setRow_other w g1 g' _ (fun e=>o2 (e ▸ JN))⟩
   have hv:=b3.version (b:=b) (g:=g1) (c:=c') (by rw[Kn];exact LZ) hS o1 o2 (fun b' e KW Jk=>h.excl _ _ _ _ _ _ _ Jk hi) Jj (by rw[Kn,Mw,VJ];exact KB) (by
    rw[cU];refine⟨fun r hr=>by rcases UU.1 hr with h1|h1;exact d5 r h1;exact l5 r h1,?_⟩
    have Ji:ae w (rows++news).flatten T (if pr then T else B) (if pr then aT else I) (olds++us):=by
     rw[WD];exact cw d1 N2
    refine eT (bW _ (lC _ SU h.TB) (wG _ h.TB) Ji) (fun u hu=>by rcases UU.1 hu with h1|h1;exact d3 u h1;exact l3 u h1) fun j u hj=>?_;rw[cell_of_row _ _ _ _ _ _ Jj,UW,Jq];by_cases RM:j<rows.length*ei.size
    .rw[if_pos RM];rw[UN (by omega)]at hj;have:=d4 j u hj;rw[Xt,UW,cell_of_row _ _ _ _ _ _ o3]at this;exact this
    .rw[if_neg RM];rw[Vd (by omega),d2]at hj;have:=(UK.1 hj).1;rw[if_pos (by omega)];exact hj)
   rw[Kn]at hv;refine⟨_,_,_,I6,b2.trans hv.2,hv.1,?_,HP,fun _ h0=>by rw[hi]at h0;cases h0⟩;simp only[ap];refine .inr ⟨g1,c'.size,aK,dK.put_self,by simp,Lj,c2,?_⟩;rw[Mw,o4];simpa using c3
  .have I6:=run_append_grow (P:=P) w t ty el ti z ht k1 k3 ⟨g1,0,none⟩ rows.length aK olds (by rw[d2,k4]) d4 ⟨g,off,none⟩ news.length xc us IY l4 (by omega) (by omega) (growslice_fits (by omega) (by rw[k5];exact KH));have:=fresh olds (grownCap w (rows.length+news.length) aK el) d1 d2 d3 d5 (grownCap_ge w _ aK el) (grownCap_le_maxLen w _ aK el Mq) _ rfl;simp only[Vg]at this;obtain⟨I',w',u,a1,a2,a3,a4,a5⟩:=this _ _ I6 rfl rfl;exact⟨I',w',u,a1,a2,a3,a4,a5,fun _ h0=>by rw[hi]at h0;cases h0⟩
include hX in
theorem F9{t ty el:TypeId}(h:cB base T B I S w)(ht:P.underlying t=some (.slice el))(he:X.ty el=some ei)
  (I9:news≠[]->∃g off,xo=some ⟨g,off,none⟩/\bn w news T (if prn then T else B) (if prn then aT else I) g off ei.size) (hz:ei.zero.length=ei.size) (I8:news.length≠0) (KH:(rows.length+news.length)*ei.bytes<=140737488355328) (Ka:rows.length+news.length<=140737488355328)
  (hu:ap w (.sl b rows.length 0 rows.length ei.size) T B I u1) (hS:S b=some (.arr rows ei.size wep pr)) (hw:wep<=rows.length) (J1:S' b=some (.arr (rows++news) ei.size wep (pr && prn))) (KN:∀x,x≠b->S' x=S x) :
  ∃I' w' u,(Builtin.append_ #[t,t] ty #[u1,.slice xo news.length xc]).run P w = .ok u w'/\bu base T B I w T B I' w'/\cB base T B I' S' w'/\ap w' (.sl b (rows.length+news.length) 0 (rows.length+news.length) ei.size) T B I' u:=by
 have Qu:cB base T B I S' w:=h.longer hS (pr':=pr && prn) (by intro h0;simp at h0;exact h0.1) J1 KN
 obtain⟨I',w',u,a1,a2,a3,a4,_⟩:=zI hX (ty:=ty) (xc:=xc) Qu ht he I9 hz I8 KH Ka hu (Holds.of J1) (fun h0=>by simp at h0;exact h0.2) hw (fun e LS=>by
  cases hi:I b e with
  | none=>rfl
  | some p=>have:=(h.blkA (g:=p.1) (gs:=p.2) hi hS).1;omega)
 exact⟨I',w',u,a1,a2,a3,a4⟩
include hX in
theorem DZ{t el ty:TypeId}(h:cB base T B I S w)(ht:P.underlying t=some (.slice el))(he:X.ty el=some ei)(hu:ap w (.sl b e off len sz) T B I u1)
  (hS:S b=some (.arr rows sz wep pr)) (IY:rows.length=e) (hw:wep<=e) (Jl:sz=ei.size) (hz:ei.zero.length=sz) (Mv:off+len<=e) (I8:len≠0)
  (J1:S' b=some (.arr (rows.take off++List.replicate len ei.zero++rows.drop (off+len)) sz e pr)) (KN:∀x,x≠b->S' x=S x) :
  ∃w',(Builtin.clear_ #[t] ty #[u1]).run P w = .ok (.tuple #[]) w'/\bu base T B I w T B I w'/\cB base T B I S' w':=by
 obtain⟨ti,d,z,k1,k2,k3,k4,k5,k6,_,_,r1,r2,r3,r4,_⟩:=bm (hX.ty _ _ he);simp only[ap]at hu;rcases hu with ⟨_,_,h0,_⟩|⟨g,gs,aK,hi,rfl,c1,c2,c3⟩
 .omega
 have zl:z.cells.size=sz:=by have:=k6.1;rw[<-hz,this];simp
 have hzr:=px (w:=w) (T:=T) (B:=B) (I:=I) (kA k6) len;have K4:∀r∈List.replicate len ei.zero,r.length=sz:=fun r hr=>by rw[Wf hr,hz]
 have Pc:∀n,cq (List.replicate n ei.zero).flatten=true:=by
  have h1:∀l:List Value,cq (l.map IV)=true:=fun l=>by
   induction l with
   | nil=>rfl
   | cons x xs ih=>
    simp only[Vk,cq,ih,WC];cases x<;>rfl
  have h2:∀a b:List AV,cq (a++b)=(cq a && cq b):=fun a b=>by
   induction a with
   | nil=>simp[cq]
   | cons x xs ih=>simp[cq,ih,Bool.and_assoc]
  intro n
  induction n with
  | zero=>rfl
  | succ n ih=>rw[List.replicate_succ,V7,h2,ih,k6.1,h1];rfl
 obtain⟨q2,q3,q4⟩:=h.blkA hi hS;have hk:=q4 hw;rw[<-IY,Vn,cU]at hk;have Lr:((List.replicate len ei.zero).flatten).length=len*sz:=by rw[fw K4,Wq]
 have MV:(off+len)*sz<=rows.length*sz:=VC _ (by omega);rw[VJ]at MV
 have Kj:∀n,n<=rows.length->(rows.take n).flatten=rows.flatten.take (n*sz)/\(rows.drop n).flatten=rows.flatten.drop (n*sz):=by
  intro n hn;have e1:rows.flatten=(rows.take n).flatten++(rows.drop n).flatten:=by rw[<-WD,VW]
  have e2:(rows.take n).flatten.length=n*sz:=by rw[fw (fun r hr=>hk.1 r (Wi hr)),Wh,Nat.min_eq_left hn]
  rw[e1,<-e2,Xl,List.drop_left];exact⟨rfl,rfl⟩
 obtain⟨w',s1,s2,s3⟩:=og (P:=P) (p:=off*sz) h hi hS IY hw hzr (fun u hu=>by
   rw[Xa]at hu;obtain⟨l,hl,hu⟩:=hu;rw[Wf hl]at hu;exact k6.2 u hu) (by rw[Lr];exact MV) (rows':=rows.take off++List.replicate len ei.zero++rows.drop (off+len)) (pr':=pr) (by simp;omega) (by
   simp only[WD,gE,Lr];rw[(Kj off (by omega)).1,(Kj (off+len) (by omega)).2,VJ]) (fun hl r hr=>by
   simp only[UU]at hr;rcases hr with (hr|hr)|hr
   .exact hl r (Wi hr)
   .exact K4 r hr
   .exact hl r (WL hr)) (fun hp=>⟨hp,Pc len⟩) J1 KN
 refine⟨w',?_,s2,s3⟩
 have PQ:(Builtin.zeroCells z.cells len).toList=(List.replicate len z.cells.toList).flatten:=by
  rcases Nat.eq_zero_or_pos z.cells.size with h0|h0
  .have:z.cells.toList = []:=by simpa using h0
   simp[Builtin.zeroCells,h0,this]
  .exact xh z.cells len h0
 obtain⟨n,rfl⟩:∃n,len=n+1:=⟨len-1,by omega⟩;simp only[Builtin.clear_,Wt,VL,UY,run_underlying ht,UR,r4,PQ,s1,Vo]
omit [aw] in
def zV{P:Program}(w:World)(t u ty e:TypeId)(i:TypeInfo)(ht:P.underlying t=some (.slice e))(hi:P.info? e=some i)(ao xo:Option Addr)(n aK k c:Nat)(h0:min k n=0) :
  (Builtin.copy_ #[t,u] ty #[.slice ao n aK,.slice xo k c]).run P w = .ok (.int .i64 0) w:=by
 have hf:∀sz,(Builtin.firstCells sz 0 (.slice xo k c)).run P w = .ok #[] w:=fun sz=>by
  cases xo<;>simp[Builtin.firstCells,loadCells,loadCellsFrom]
 have Uz:Nat.min k n=0:=h0;cases ao<;>simp[Builtin.copy_,run_underlying ht,sizeOf,typeInfo,hi,Builtin.lenOf,Uz,hf,storeCells,goInt]
include hX in
theorem FT{t u el ty:TypeId}(h:cB base T B I S w)(ht:P.underlying t=some (.slice el))(he:X.ty el=some ei)(hu:ap w (.sl b e off len sz) T B I u1)
  (hS:S b=some (.arr rows sz wep pr)) (IY:rows.length=e) (hw:wep<=e) (Jl:sz=ei.size) (Mv:off+len<=e) (I8:min news.length len≠0)
  (I9:∃g off,xo=some ⟨g,off,none⟩/\bn w news T (if prn then T else B) (if prn then aT else I) g off ei.size)
  (J1:S' b=some (.arr (rows.take off++news.take (min news.length len)++rows.drop (off+min news.length len)) sz e (pr && cq (news.take (min news.length len)).flatten))) (KN:∀x,x≠b->S' x=S x) :
  ∃w',(Builtin.copy_ #[t,u] ty #[u1,.slice xo news.length xc]).run P w = .ok (.int .i64 (min news.length len:Nat)) w'/\bu base T B I w T B I w'/\cB base T B I S' w':=by
 obtain⟨ti,d,z,k1,k2,k3,k4,k5,k6,_,_,r1,r2,r3,r4,_⟩:=bm (hX.ty _ _ he);simp only[ap]at hu;rcases hu with ⟨_,_,h0,_⟩|⟨g,gs,aK,hi,rfl,c1,c2,c3⟩
 .omega
 obtain⟨g2,o2,rfl,J6⟩:=I9;have JX:min news.length len<=news.length:=Nat.min_le_left _ _;have MD:min news.length len<=len:=Nat.min_le_right _ _;generalize LC:min news.length len=n at*;obtain⟨us,n1,n2,n3,n4,n5⟩:=pG (jZ n J6);have hn:(news.take n).length=n:=by simp;omega
 have Ji:ae w (news.take n).flatten T B I us:=by
  cases prn with
  | true=>exact lU h.TB n1
  | false=>exact n1
 rw[<-Jl]at n5 n2;rw[hn]at n2;have Lr:((news.take n).flatten).length=n*sz:=by rw[fw n5,hn]
 obtain⟨q2,q3,q4⟩:=h.blkA hi hS;have hk:=q4 hw;rw[<-IY,Vn,cU]at hk;have MV:(off+n)*sz<=rows.length*sz:=VC _ (by omega);rw[VJ]at MV
 have Kj:∀n,n<=rows.length->(rows.take n).flatten=rows.flatten.take (n*sz)/\(rows.drop n).flatten=rows.flatten.drop (n*sz):=by
  intro n hn;have e1:rows.flatten=(rows.take n).flatten++(rows.drop n).flatten:=by rw[<-WD,VW]
  have e2:(rows.take n).flatten.length=n*sz:=by rw[fw (fun r hr=>hk.1 r (Wi hr)),Wh,Nat.min_eq_left hn]
  rw[e1,<-e2,Xl,List.drop_left];exact⟨rfl,rfl⟩
 obtain⟨w',s1,s2,s3⟩:=og (P:=P) (p:=off*sz) h hi hS IY hw Ji n3 (by rw[Lr];exact MV) (rows':=rows.take off++news.take n++rows.drop (off+n)) (pr':=pr && cq (news.take n).flatten) (by simp;omega) (by
   simp only[WD,gE,Lr];rw[(Kj off (by omega)).1,(Kj (off+n) (by omega)).2,VJ]) (fun hl r hr=>by
   simp only[UU]at hr;rcases hr with (hr|hr)|hr
   .exact hl r (Wi hr)
   .exact n5 r hr
   .exact hl r (WL hr)) (fun hp=>by simpa using hp) J1 KN
 refine⟨w',?_,s2,s3⟩;have hl:=run_loadCells_list (P:=P) w ⟨g2,o2,none⟩ us n4;rw[n2,Jl]at hl;have SO:Nat.min news.length len=n:=LC;simp[Builtin.copy_,run_underlying ht,Builtin.lenOf,Builtin.firstCells,r2,SO,hl,s1,goInt]
end
end Go.Eng
