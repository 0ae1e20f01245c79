/- ortho.Spell at the example's words, walked in the model. -/
import Derived.Test.YtkahfcmeeloikaaGreatDoorZ8
import Derived.Handy
import Derived.Shelf.RegionOpenPlain
set_option linter.all false
set_option maxHeartbeats 2000000
namespace Go.Eng
section
variable [aw]
variable {b:Nat}{bs:List Value}{w w':World}
open Go.RowKit Go.Shelf Go.Proofs
omit [aw] in
def Bc{T e:TypeId}{p:Value}(h:Lib.BuilderAt T e b b p bs w)(k:Below w.heap.size w w'):Lib.BuilderAt T e b b p bs w':=by
 have Ja:=h.lt;obtain⟨hB,v,hb,Jh,I8⟩:=h;exact⟨hB,v,(k.block b Ja).trans hb,Jh.kept (row:=none) ⟨k.os,k.tape,k.output,k.size,fun i hi _=>k.block i hi⟩ (by cases v.ownBlock<;>simp),I8⟩
omit [aw] in
def vc{T e:TypeId}(h:Lib.IsBuilder T e b b bs w)(k:Below w.heap.size w w'):Lib.IsBuilder T e b b bs w':=h.imp (Bc · k) (Bc · k)
set_option maxRecDepth 100000 in
omit [aw] in
def spl_walk{nm s1 s2:ByteArray}{g off ucap g2 o2 wcap:Nat}{a1 a2:Option Addr}{n1 n2:Nat}{i1 i2:Int}(h1:0<=i1)(k1:i1<4)(h2:0<=i2)(k2:i2<4)(J2:s1.size<=4)(KQ:s2.size<=4)(hwc:2<=wcap)(hg:g<w.heap.size)
  (c1:w.cell? ⟨g,off+i1.toNat*2,none⟩=some (.string s1)) (d1:w.cell? ⟨g,off+i1.toNat*2+1,none⟩=some (.slice a1 1 n1))
  (c2:w.cell? ⟨g,off+i2.toNat*2,none⟩=some (.string s2)) (d2:w.cell? ⟨g,off+i2.toNat*2+1,none⟩=some (.slice a2 1 n2))
  (u1:∀W,Below w.heap.size w W->Calls Tryz.prog 145 #[.agg #[.string nm,.slice (some ⟨g,off,none⟩) 4 ucap,.slice none 0 0],.slice (some ⟨g2,o2,none⟩) 2 wcap] W fun e W'=>e = .returned (.int .i64 i1)/\Below W.heap.size W W')
  (u2:∀W,Below w.heap.size w W->Calls Tryz.prog 145 #[.agg #[.string nm,.slice (some ⟨g,off,none⟩) 4 ucap,.slice none 0 0],.slice (some ⟨g2,o2+1,none⟩) 1 (wcap-1)] W fun e W'=>e = .returned (.int .i64 i2)/\Below W.heap.size W W') :
  Calls Tryz.prog 78 #[.agg #[.string nm,.slice (some ⟨g,off,none⟩) 4 ucap,.slice none 0 0],.slice (some ⟨g2,o2,none⟩) 2 wcap] w fun e W=>e = .returned (.tuple #[.string ⟨(s1.data.toList++s2.data.toList).toArray⟩,.int .i64 0,.int .i64 0])/\Below w.heap.size w W:=by
 go_enter Tryz.func78,Tryz.ntmps78
 go_wp2
 refine wp_loop_rounds 3 ?_;rw[rounds_succ]
 go_wp2
 obtain⟨W,hW⟩:∃W,(w.alloc (Obj.cells #[.string nm,.slice (some ⟨g,off,none⟩) 4 ucap,.slice none 0 0] 28)).alloc (Obj.cells #[.pointer none,.slice none 0 0] 254)=W:=⟨_,rfl⟩;have Ks:Below w.heap.size w W:=hW ▸ ((Vh _ w).alloc (UJ _) _).alloc (by simp) _;have Jl:W.heap.size=w.heap.size+1+1:=by rw[<-hW,VH,VH]
 have hn:W.heap[w.heap.size]? = some (Obj.cells #[.string nm,.slice (some ⟨g,off,none⟩) 4 ucap,.slice none 0 0] 28 (0,0)):=by
  rw[<-hW];exact(Lib.alloc_old _ _ _ (by rw[VH];exact UV _)).trans (World.alloc_heap_new w _)
 have RC:W.heap[w.heap.size+1]? = some (Obj.cells #[.pointer none,.slice none 0 0] 254 (0,0)):=by
  rw[<-hW,<-VH w (Obj.cells #[.string nm,.slice (some ⟨g,off,none⟩) 4 ucap,.slice none 0 0] 28 (0,0))];exact World.alloc_heap_new _ _
 rw[hW];have hB:Lib.IsBuilder 254 5 (w.heap.size+1) (w.heap.size+1) [] W := .inl ⟨UJ _,_,RC,WJ _ _ _ _,by simp[Value.ownBlock]⟩;have q0:=(Lib.cell_of_heap hn 0).trans (show _=some _ from rfl);have q1:=(Lib.cell_of_heap hn 1).trans (show _=some _ from rfl);have q2:=(Lib.cell_of_heap hn 2).trans (show _=some _ from rfl);clear hW
 go_region_with (go_at_call 145;refine(u1 _ ?hb).mono ?_;(case hb=>repeat (first|exact Ks|refine Below.drew ?_));rintro e w' ⟨rfl,JC⟩)
 replace JC:Below W.heap.size W w':=(Vh _ W).drew.trans JC;clear RC;have LH:=vc hB JC;have r1:w'.cell? ⟨w.heap.size,1,none⟩=some (.slice (some ⟨g,off,none⟩) 4 ucap):=(JC.cell (p:=⟨w.heap.size,1,none⟩) (by rw[Jl];exact Xq (UV _))).trans q1;have KG:Below w.heap.size w w':=Ks.trans (JC.mono (by omega));have c1':=(KG.cell (p:=⟨g,off+i1.toNat*2,none⟩) hg).trans c1;have d1':=(KG.cell (p:=⟨g,off+i1.toNat*2+1,none⟩) hg).trans d1;have hsw:w.heap.size+1+1<=w'.heap.size:=Jl ▸ JC.size;have m1:¬i1<0:=by omega
 have l1:¬wcap=1:=by omega
 have m2:¬i2<0:=by omega
 go_wp2_with (go_at_call 146;refine(Any.Builder_WriteString Tryz.laysBdW Tryz.bdExtra (w.heap.size+1) (w.heap.size+1) [] s1 _ ?hB ?hl ?hs).mono ?_;(case hB=>exact LH);(case hl=>simp;omega);(case hs=>omega);rintro e w3 ⟨rfl,Rg,Me⟩;have e1:=(Me.cell (p:=⟨w.heap.size,1,none⟩) (UV _)).trans r1;have Nh:=KG.trans (Me.mono (V2 _));have e2:=(Nh.cell (p:=⟨g,off+i1.toNat*2+1,none⟩) hg).trans d1)
 rw[rounds_succ]
 go_wp2
 have p0:=(Me.cell (p:=⟨w.heap.size,0,none⟩) (UV _)).trans ((JC.cell (p:=⟨w.heap.size,0,none⟩) (by rw[Jl];exact Xq (UV _))).trans q0);have p2:=(Me.cell (p:=⟨w.heap.size,2,none⟩) (UV _)).trans ((JC.cell (p:=⟨w.heap.size,2,none⟩) (by rw[Jl];exact Xq (UV _))).trans q2);have NF:w.heap.size+1+1<=w3.heap.size:=UQ hsw Me.size;clear q0 q1 q2 JC Me
 go_region_with (go_at_call 145;refine(u2 _ ?hb).mono ?_;(case hb=>repeat (first|exact Nh|refine Below.drew ?_));rintro e w' ⟨rfl,JC⟩)
 replace JC:Below w3.heap.size w3 w':=(Vh _ w3).drew.trans JC;have hB4:=vc (.inr Rg) JC;have r3:=(JC.cell (p:=⟨w.heap.size,1,none⟩) (We (Xq (UV _)) NF)).trans e1;have Lt:=Nh.trans (JC.mono (UQ (V2 _) (UQ (V2 _) NF)));have c2':=(Lt.cell (p:=⟨g,off+i2.toNat*2,none⟩) hg).trans c2;have d2':=(Lt.cell (p:=⟨g,off+i2.toNat*2+1,none⟩) hg).trans d2;have hs4:=UQ NF JC.size;have KX:([]++Lib.strCells s1).length+s2.size<=140737488355328:=by rw[UH,Lib.strCells_length];exact UQ (Nat.add_le_add J2 KQ) (by decide)
 go_wp2_with (go_at_call 146;refine(Any.Builder_WriteString Tryz.laysBdW Tryz.bdExtra (w.heap.size+1) (w.heap.size+1) ([]++Lib.strCells s1) s2 _ ?hB ?hl ?hs).mono ?_;(case hB=>exact hB4);(case hl=>exact KX);(case hs=>exact UQ (V2 _) hs4);rintro e w5 ⟨rfl,hB5,TO⟩;have e1:=(TO.cell (p:=⟨w.heap.size,1,none⟩) (UV _)).trans r3;have QV:=Lt.trans (TO.mono (V2 _));have e2:=(QV.cell (p:=⟨g,off+i2.toNat*2+1,none⟩) hg).trans d2)
 rw[rounds_succ]
 go_wp2_with (go_at_call 147;refine(Any.Builder_String_any Tryz.laysBdS Tryz.bdExtraS (w.heap.size+1) (w.heap.size+1) (s1.data.toList++s2.data.toList) _ ?hB ?hs).mono ?_;(case hB=>exact .inr (by rw[Lib.byteCells_append,<-Lib.strCells_eq,<-Lib.strCells_eq];exact hB5));(case hs=>exact UQ (V2 _) (UQ hs4 TO.size));rintro e w6 ⟨rfl,hb6⟩)
 go_ret3
 exact⟨rfl,QV.trans (hb6.mono (V2 _))⟩
def Ao(hT:lN){W:World}(hk:∀g o,aw.blk g=some o->W.heap[g]? = some o){a b:AV}{u v:Value}(ha:ap W a (sw W) (sw W) aT u)(hb:ap W b (sw W) (sw W) aT v){k:Int}(h:tg k (dj CXE 60 145 [a,b] [])=true) :
  Calls Tryz.prog 145 #[u,v] W fun e w'=>e = .returned (.int .i64 k)/\Below W.heap.size W w':=by
 obtain⟨S,h⟩:=of_int h;refine(zw zFS (FJ hT) hk (vs := #[u,v]) ?_ h).mono ?_
 .simp only[ae];exact⟨_,_,rfl,ha,_,_,rfl,hb,rfl⟩
 .rintro e w' ⟨u,T',B',I',rfl,h1,_,h2⟩;simp only[ap]at h2;subst h2;exact⟨rfl,h1⟩
abbrev exO(nm:ByteArray)(s t1 t2 t3 t4:Bool):AV := .agg [.str nm,.tsl s 2 [[.str (b1 98),.tsl t1 1 [[.int .i64 1]]],[.str (b1 97),.tsl t2 1 [[.int .i64 2]]],[.str (b1 112),.tsl t3 1 [[.int .i64 3]]],[.str (b1 105),.tsl t4 1 [[.int .i64 4]]]],.flat (.slice none 0 0)]
def unit1(nm:ByteArray)(s t1 t2 t3 t4 r:Bool):tg 0 (dj CXE 60 145 [exO nm s t1 t2 t3 t4,.tsl r 1 [[.int .i64 1],[.int .i64 2]]] [])=true:=by kernel_rfl
def unit2(nm:ByteArray)(s t1 t2 t3 t4 r:Bool):tg 1 (dj CXE 60 145 [exO nm s t1 t2 t3 t4,.tsl r 1 [[.int .i64 2]]] [])=true:=by kernel_rfl
def unit3(nm:ByteArray)(s t1 t2 t3 t4 r:Bool):tg 2 (dj CXE 60 145 [exO nm s t1 t2 t3 t4,.tsl r 1 [[.int .i64 3],[.int .i64 4]]] [])=true:=by kernel_rfl
def unit4(nm:ByteArray)(s t1 t2 t3 t4 r:Bool):tg 3 (dj CXE 60 145 [exO nm s t1 t2 t3 t4,.tsl r 1 [[.int .i64 4]]] [])=true:=by kernel_rfl
def splSound(hT:lN):bQ Tryz.prog 78 BH:=by
 refine⟨⟨Tryz.f78,Tryz.func78,by kernel_rfl,by kernel_rfl⟩,?_⟩;intro args S r S' hp base T B I w vs hrel I3;unfold BH at hp;split at hp
 .rename_i nm s g1 t1 n1 g2 t2 n2 g3 t3 n3 g4 t4 n4 r0 x1 x2;split at hp
  .rename_i hs;obtain⟨rfl,rfl,rfl,rfl,rfl,rfl,rfl,rfl⟩:=hs;have up:jG w T B aT w (sw w) (sw w) aT:=⟨fun g h=>hrel.Blt g (hrel.TB g h),fun g h=>hrel.Blt g h,fun _ _ _ h=>h,fun _ _=>rfl⟩;simp only[ae]at I3;obtain⟨ua,us,e1,ha,ub,us2,rfl,hb,rfl⟩:=I3;have ha:=cu _ up hrel.TB (gS _ rfl ha);have hb:=cu _ up hrel.TB (gS _ rfl hb);subst e1;have hk:∀W,Below w.heap.size w W->∀g o,aw.blk g=some o->W.heap[g]? = some o:=fun W h g o k=>(h.block g (UP.1 (hrel.known g o k).2).1).trans (hrel.known g o k).2;have mv:∀W,Below w.heap.size w W->jG w (sw w) (sw w) aT W (sw W) (sw W) aT:=fun W h=>⟨fun g k=>We k h.size,fun g k=>We k h.size,fun _ _ _ h=>h,fun g k=>h.block g k⟩;have ha0:=ha;have Ks:=hb;simp only[ap,ae,bn,aU,UB,UE,UW,Nat.reduceAdd]at ha0 Ks;obtain⟨us,rfl,_,_,rfl,rfl,_,_,rfl,⟨uao,ucap,rfl,-,-,-,hc⟩,_,_,rfl,rfl,rfl⟩:=ha0;obtain⟨g,off,rfl,hg,-,⟨⟨u0,c0,-,rfl⟩,⟨u1,c1,-,a1,m1,rfl,-⟩,-⟩,-,⟨⟨u2,c2,-,rfl⟩,⟨u3,c3,-,a2,m2,rfl,-⟩,-⟩,-,⟨⟨u4,c4,-,rfl⟩,⟨u5,c5,-,a3,m3,rfl,-⟩,-⟩,-,⟨⟨u6,c6,-,rfl⟩,⟨u7,c7,-,a4,m4,rfl,-⟩,-⟩,-⟩:=hc (by simp);obtain⟨wao,wcap,rfl,Ku,PZ,-,hwc⟩:=Ks;obtain⟨g2,o2,rfl,hg2,-,⟨⟨y0,d0,-,rfl⟩,-⟩,-,⟨⟨y1,d1,k1,rfl⟩,-⟩,-⟩:=hwc (by simp);replace hg:g<w.heap.size:=by cases s<;>exact hg
   have hbt:∀W,Below w.heap.size w W->ap W (.tsl r0 1 [[.int .i64 x2]]) (sw W) (sw W) aT (.slice (some ⟨g2,o2+1,none⟩) 1 (wcap-1)):=fun W h=>by
    refine cu _ (mv W h) (fun _ h=>h) ?_;simp only[ap,bn,aU,UB,UE,UW];exact⟨_,_,rfl,by omega,by omega,(fun h=>by cases h),fun _=>⟨g2,o2+1,rfl,hg2,trivial,⟨⟨_,d1,k1,rfl⟩,trivial⟩,trivial⟩⟩
   have go:∀(s1 s2:ByteArray) (i1 i2:Int) (a b:Option Addr) (n m:Nat),0<=i1->i1<4->0<=i2->i2<4->s1.size<=4->s2.size<=4 ->
     w.cell? ⟨g,off+i1.toNat*2,none⟩=some (.string s1)->w.cell? ⟨g,off+i1.toNat*2+1,none⟩=some (.slice a 1 n)->w.cell? ⟨g,off+i2.toNat*2,none⟩=some (.string s2)->w.cell? ⟨g,off+i2.toNat*2+1,none⟩=some (.slice b 1 m) ->
     tg i1 (dj CXE 60 145 [exO nm s t1 t2 t3 t4,.tsl r0 1 [[.int .i64 x1],[.int .i64 x2]]] [])=true->tg i2 (dj CXE 60 145 [exO nm s t1 t2 t3 t4,.tsl r0 1 [[.int .i64 x2]]] [])=true ->
     Calls Tryz.prog 78 #[.agg #[.string nm,.slice (some ⟨g,off,none⟩) 4 ucap,.slice none 0 0],.slice (some ⟨g2,o2,none⟩) 2 wcap] w fun e w'=>
      ∃u T' B' I',e=Ending.returned u/\bu base T B I w T' B' I' w'/\cB base T' B' I' (dN S) w'/\ap w' (.tup [.str ⟨(s1.data.toList++s2.data.toList).toArray⟩,.int .i64 0,.int .i64 0]) T' B' I' u:=by
    intro s1 s2 i1 i2 a b n m h1 h2 h3 h4 h5 h6 h7 h8 h9 R7 Ux PM;refine(spl_walk h1 h2 h3 h4 h5 h6 Ku hg h7 h8 h9 R7 (fun W h=>Ao hT (hk W h) (cu _ (mv W h) (fun _ h=>h) ha) (cu _ (mv W h) (fun _ h=>h) hb) Ux) (fun W h=>Ao hT (hk W h) (cu _ (mv W h) (fun _ h=>h) ha) (hbt W h) PM)).mono ?_;rintro e W ⟨rfl,JH⟩;refine⟨_,T,B,I,rfl,bu.quiet hrel JH (fun _ h=>h) (fun _ h=>h) (fun _ h=> .inl h) (fun _ h=> .inl h),hrel.quiet JH (fun _ h=>h) (fun _ h=>h) hrel.TB (fun _ h=> .inl h),?_⟩;simp only[ap,ae];exact⟨_,rfl,_,_,rfl,rfl,_,_,rfl,rfl,_,_,rfl,rfl,rfl⟩
   split at hp
   .rename_i h;obtain⟨rfl,rfl⟩:=h;injection hp with hp;injection hp with q1 q2;subst q1 q2;exact go (b1 98) (b1 97) 0 1 _ _ _ _ (by decide) (by decide) (by decide) (by decide) (by decide) (by decide) c0 c1 c2 c3 (unit1 ..) (unit2 ..)
   .split at hp
    .rename_i h;obtain⟨rfl,rfl⟩:=h;injection hp with hp;injection hp with q1 q2;subst q1 q2;exact go (b1 112) (b1 105) 2 3 _ _ _ _ (by decide) (by decide) (by decide) (by decide) (by decide) (by decide) c4 c5 c6 c7 (unit3 ..) (unit4 ..)
    .cases hp
  .cases hp
 .cases hp
end
section
variable [aw]
open Go.RowKit Go.Shelf Go.Proofs
set_option maxRecDepth 100000 in
omit [aw] in
theorem aln_walk{w:World}{g off aK g1 o1 c1:Nat}(hg:g<w.heap.size)(RT:g1<w.heap.size)
  (d0:w.cell? ⟨g,off,none⟩=some (.slice (some ⟨g1,o1,none⟩) 1 c1)) (d1:w.cell? ⟨g1,o1,none⟩=some (.string bE))
  (uC:Calls Tryz.prog 143 #[.slice (some ⟨g,off,none⟩) 1 aK] w fun e W=> ∃gc oc cc,e = .returned (.slice (some ⟨gc,oc,none⟩) 1 cc)/\W.cell? ⟨gc,oc,none⟩=some (.int .i64 4)/\Below w.heap.size w W)
  (uP:∀W,Below w.heap.size w W->Calls Tryz.prog 189 #[.string bE,.int .i64 4] W fun e W'=>e = .returned (.string bE)/\Below W.heap.size W W') :
  Calls Tryz.prog 144 #[.slice (some ⟨g,off,none⟩) 1 aK] w fun e W=> ∃v,e = .returned v/\Below w.heap.size w W/\W.ownsRow w.heap.size 9 1 v 1 [.string bE]:=by
 have cT:∀W,Calls Tryz.prog 190 #[.string bE,.string ⟨#[32]⟩] W fun e W'=>e = .returned (.string bE)/\W'=W:=fun W=>(Any.strings_TrimRight_one Tryz.laysTrR bE 32 (by decide) W (by decide)).mono fun e W' h=>⟨h.1.trans (congrArg (fun s=>Ending.returned (.string s)) (show (⟨(Lib.trimRightB bE.data.toList 32).toArray⟩:ByteArray)=bE by kernel_rfl)),h.2⟩;obtain⟨i0,hi,Nq,K0,LX⟩:=info_parts infoS
 go_enter Tryz.func144,Tryz.ntmps144
 go_wp2_with (go_at_call 143;refine uC.mono ?_;rintro e w1 ⟨gc,oc,cc,rfl,K6,KH⟩)
 have hgc:gc<w1.heap.size:=by
  cases hg:w1.heap[gc]? with
  | none=>simp[World.cell?,hg]at K6
  | some o'=>exact(UP.1 hg).1
 have r0:=(KH.cell (p:=⟨g,off,none⟩) hg).trans d0;have r1:=(KH.cell (p:=⟨g1,o1,none⟩) RT).trans d1;have J2:=KH.size;refine wp_loop_rounds 2 ?_;rw[rounds_succ]
 go_wp2
 obtain⟨W,hW⟩:∃W,w1.alloc (Obj.cells #[.pointer none,.slice none 0 0] 254)=W:=⟨_,rfl⟩;have Ks:Below w1.heap.size w1 W:=hW ▸ (Vh _ w1).alloc (UJ _) _;have Jl:W.heap.size=w1.heap.size+1:=by rw[<-hW,VH]
 have hn:W.heap[w1.heap.size]? = some (Obj.cells #[.pointer none,.slice none 0 0] 254 (0,0)):=by rw[<-hW];exact World.alloc_heap_new w1 _
 rw[hW];have hB:Lib.IsBuilder 254 5 w1.heap.size w1.heap.size [] W := .inl ⟨UJ _,_,hn,WJ _ _ _ _,by simp[Value.ownBlock]⟩;clear hW hn;have q0:=(Ks.cell (p:=⟨gc,oc,none⟩) hgc).trans K6;have q1:=(Ks.cell (p:=⟨g1,o1,none⟩) (We RT J2)).trans r1;have KG:Below w.heap.size w W:=KH.trans (Ks.mono J2);have N7:bE.size=4:=rfl;refine wp_loop_rounds 2 ?_;rw[rounds_succ]
 go_wp2_with (first
  |(go_at_call 189;refine(uP _ KG).mono ?_;rintro e w2 ⟨rfl,Ka⟩;have Rh:=vc hB Ka)
  |(go_at_call 146;refine(Any.Builder_WriteString Tryz.laysBdW Tryz.bdExtra w1.heap.size w1.heap.size [] bE _ ?hB ?hl ?hs).mono ?_;(case hB=>exact Rh);(case hl=>exact(show 0+4<=140737488355328 by decide));(case hs=>exact UQ Ks.size Ka.size);rintro e w3 ⟨rfl,Rg,Me⟩))
 rw[rounds_succ];have Nh:Below w.heap.size w w3:=KG.trans ((Ka.mono KG.size).trans (Me.mono J2));have NF:w1.heap.size<=w3.heap.size:=UQ (UQ Ks.size Ka.size) Me.size
 go_wp2_with (first
  |(go_at_call 147;refine(Any.Builder_String_any Tryz.laysBdS Tryz.bdExtraS w1.heap.size w1.heap.size bE.data.toList _ ?hB ?hs).mono ?_;(case hB=>exact .inr Rg);(case hs=>exact NF);rintro e w4 ⟨rfl,hb4⟩;have Lt:=Nh.trans (hb4.mono J2))
  |(go_at_call 190;refine(cT _).mono ?_;rintro e w5 ⟨rfl,rfl⟩)
  |(at_builtin;refine wpList_append_own _ rfl _ _ 91 rfl w.heap.size 9 i0 (.string ⟨#[]⟩) 1 16 Tryz.underlying91 hi Nq K0 LX rfl (by decide) (.slice none 0 0) 0 [] rfl (WJ _ _ _ _) ⟨w5.heap.size,0,none⟩ 1 1 [.string bE] rfl rfl ?a1 ?a2 ?a3 ?a4 ?a5 ?_;(case a1=>exact cell_one_new w5 _ _);(case a2=>simp[Value.oneCell']);(case a3=>exact(show 0+1<=maxLen by unfold maxLen;decide));(case a4=>decide);(case a5=>exact UQ Lt.size (by rw[VH];exact V2 _));rintro v' w6 Jh Jw -))
 rw[rounds_succ]
 go_wp2
 go_ret
 exact⟨_,rfl,(Lt.alloc Lt.size _).grown Jw (by rw[VH];exact UQ Lt.size (V2 _)) (fun k hk=>by cases hk),Jh⟩
def isCol:Option (AV×ab)->Bool
 | some (r,S)=>match rowsOf S 1 r with
  | some ([[.int .i64 n]],_)=>decide (n=4)
  | _=>false
 | none=>false
theorem of_col:∀{x:Option (AV×ab)},isCol x=true->∃r S pr,x=some (r,S)/\rowsOf S 1 r=some ([[.int .i64 4]],pr)
 | some (r,S),h=>by
  simp only[isCol]at h;split at h
  .rename_i n pr he;exact⟨r,S,pr,rfl,by rw[he,of_decide_eq_true h]⟩
  .cases h
def colRun(s t:Bool):isCol (dj CXE 60 143 [.tsl s 1 [[.tsl t 1 [[.str bE]]]]] [])=true:=by kernel_rfl
theorem alnSound(hT:lN):bQ Tryz.prog 144 BJ:=by
 refine⟨⟨Tryz.f144,Tryz.func144,by kernel_rfl,by kernel_rfl⟩,?_⟩;intro args S r S' hp base T B I w vs hrel I3;unfold BJ at hp;split at hp
 .rename_i p;split at hp
  .rename_i c pr1 KD;split at hp
   .rename_i x pr2 J6;split at hp
    .rename_i hs;subst hs;injection hp with hp;injection hp with q1 q2;subst q1 q2;simp only[ae]at I3;obtain⟨ua,us,e1,ha,rfl⟩:=I3;subst e1;obtain⟨ao,aK,rfl,-,k1,k2,hc⟩:=dO hrel kp.refl KD ha;obtain⟨g,off,rfl,hr,-⟩:=hc (by simp);simp only[bn,aU]at hr;obtain⟨-,⟨⟨u0,d0,-,hc0⟩,-⟩,-⟩:=hr;have JE:ap w c T B I u0:=cu _ ⟨fun _ h=>h,fun g h=>by cases pr1<;>first|exact h|exact hrel.TB g h,fun b e p h=>by cases pr1<;>first|exact h|exact(by cases h),fun _ _=>rfl⟩ (fun g h=>by cases pr1<;>first|exact hrel.TB g h|exact h) hc0;obtain⟨a1,c1,rfl,-,k3,k4,Kc⟩:=dO hrel kp.refl J6 JE;obtain⟨g1,o1,rfl,N9,-⟩:=Kc (by simp);simp only[bn,aU,ap]at N9;obtain⟨-,⟨⟨u1,d1,-,rfl⟩,-⟩,-⟩:=N9
     have lt:∀{g o:Nat}{v:Value},w.cell? ⟨g,o,none⟩=some v->g<w.heap.size:=fun {g o v} h=>by
      cases hg:w.heap[g]? with
      | none=>simp[World.cell?,hg]at h
      | some o'=>exact(UP.1 hg).1
     have hk:∀W,Below w.heap.size w W->∀g o,aw.blk g=some o->W.heap[g]? = some o:=fun W h g o k=>(h.block g (UP.1 (hrel.known g o k).2).1).trans (hrel.known g o k).2;obtain⟨r,S1,pr,h1,h2⟩:=of_col (colRun true true)
     have cC:=zw zFS (FJ hT) (hk w (Vh _ w)) (vs := #[.slice (some ⟨g,off,none⟩) 1 aK]) (by
      simp only[ae,ap,bn,aU];exact⟨_,_,rfl,⟨_,_,rfl,k1,k2,(fun h=>by cases h),fun _=>⟨g,off,rfl,lt d0,rfl,⟨⟨_,d0,rfl,_,_,rfl,k3,k4,(fun h=>by cases h),fun _=>⟨g1,o1,rfl,lt d1,rfl,⟨⟨_,d1,rfl,rfl⟩,trivial⟩,trivial⟩⟩,trivial⟩,trivial⟩⟩,rfl⟩) h1
     refine(aln_walk (lt d0) (lt d1) d0 d1 (cC.mono ?_) (fun W h=>pad_call hT (hk W h))).mono ?_
     .rintro e W ⟨u,T',B',I',rfl,k1,k2,k3⟩;obtain⟨ao,cc,rfl,-,-,-,I8⟩:=dO k2 kp.refl h2 k3;obtain⟨gc,oc,rfl,hr,-⟩:=I8 (by simp);simp only[bn,aU,ap]at hr;obtain⟨-,⟨⟨u2,k4,-,rfl⟩,-⟩,-⟩:=hr;exact⟨gc,oc,cc,rfl,k4,k1⟩
     .rintro e W ⟨v,rfl,JH,Jh⟩;exact CH (l:=[bE]) hrel (by simp) JH Jh
    .cases hp
   .cases hp
  .cases hp
 .cases hp
end
end Go.Eng
