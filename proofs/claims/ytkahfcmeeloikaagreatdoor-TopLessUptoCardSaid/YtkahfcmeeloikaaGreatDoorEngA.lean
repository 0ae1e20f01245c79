/- Texts behind this claim. -/
import Derived.WalkKit
import Derived.WalkSpells
import Derived.WalkLawsBesides
import Derived.Deep.QuietTactic
import Derived.BigQuiet
import Derived.Lib.Hide
import Derived.Laws.CopyRow
import Derived.Laws.AppendOwnNone
set_option linter.all false
set_option maxHeartbeats 1000000
namespace Go.Eng
open Go.RowKit
def UB:=@List.length_cons
def UC:=@List.set_cons_zero
def UD:=@List.set_cons_succ
def UE:=@List.length_nil
def UF:=@List.cons_append
def UG:=@List.length_append
def UH:=@List.nil_append
def UI:=@List.length_map
def UJ:=@Nat.le_refl
def UK:=@List.getElem?_eq_some_iff
def UL:=@List.getElem?_eq_getElem
def UM:=@List.append_nil
def UN:=@List.getElem?_append_left
def UO:=@List.eq_nil_of_length_eq_zero
def UP:=@Array.getElem?_eq_some_iff
def UQ:=@Nat.le_trans
def UR:=@Go.Result.andThen_ok
def UT:=@Bool.and_eq_true
def UU:=@List.mem_append
def UV:=@Nat.lt_succ_self
def UW:=@Nat.zero_add
def UX:=@List.append_assoc
def UY:=@Go.Sem.run_bind
def UZ:=@List.mem_map
def U0:=@List.length_filter_le
def U1:=@List.all_cons
def U2:=@List.mem_cons
def U3:=@Bool.false_eq_true
def U8:=@List.mem_of_find?_eq_some
def U9:=@Nat.zero_le
def Va:=@List.filter_append
def Vb:=@List.all_eq_true
def Vc:=@List.getElem?_map
def Vd:=@List.getElem?_append_right
def Ve:=@List.getD_eq_getElem?_getD
def Vf:=@Option.map_some
def Vg:=@Nat.zero_mul
def Vh:=@Go.RowKit.Below.refl
def Vi:=@List.size_toArray
def Vj:=@List.all_nil
def Vk:=@List.map_cons
def Vl:=@Option.map_eq_some_iff
def Vm:=@List.take_of_length_le
def Vn:=@List.take_length
def Vo:=@Go.Sem.run_pure
def Vp:=@Nat.one_mul
def Vq:=@Array.replicate_succ
def Vr:=@Array.replicate_zero
def Vs:=@List.mem_of_getElem?
def Vt:=@List.append_toArray
def Vu:=@Nat.lt_of_le_of_lt
def Vv:=@List.map_append
def Vw:=@Array.toList_inj
def Vx:=@List.getElem?_cons_succ
def Vy:=@List.filter_cons
def Vz:=@List.push_toArray
def VA:=@List.not_mem_nil
def VB:=@Bool.true_and
def VC:=@Nat.mul_le_mul_right
def VD:=@List.foldl_cons
def VE:=@List.mem_filter
def VF:=@List.getElem?_set_ne
def VG:=@Classical.byContradiction
def VH:=@Go.World.size_alloc
def VI:=@List.mem_singleton
def VJ:=@Nat.add_mul
def VK:=@Option.some.injEq
def VL:=@List.getElem?_cons_zero
def VM:=@Bool.false_and
def VN:=@List.find?_some
def VO:=@List.getElem?_eq_none
def VP:=@Nat.add_sub_cancel_left
def VQ:=@List.any_eq_true
def VS:=@Int.toNat_natCast
def VT:=@List.drop_eq_getElem_cons
def VU:=@List.length_drop
def VV:=@Array.length_toList
def VW:=@List.take_append_drop
def VX:=@List.flatMap_cons
def VY:=@Nat.add_assoc
def VZ:=@List.getElem?_take
def V0:=@List.length_eq_zero_iff
def V1:=@Bool.or_eq_true
def V2:=@Nat.le_succ
def V3:=@List.find?_cons
def V4:=@List.any_cons
def V5:=@List.mem_append_left
def V6:=@List.pairwise_append
def V7:=@List.flatten_cons
def V8:=@Bool.not_eq_true'
def V9:=@Bool.false_or
def Wb:=@List.map_nil
def We:=@Nat.lt_of_lt_of_le
def Wf:=@List.eq_of_mem_replicate
def Wg:=@List.take_append_of_le_length
def Wh:=@List.length_take
def Wi:=@List.mem_of_mem_take
def Wj:=@Nat.add_zero
def Wk:=@List.cons.injEq
def Wl:=@List.getD_cons_zero
def Wm:=@Go.Oper.semAt_some
def Wn:=@List.getElem?_set_self
def Wo:=@Array.toList_setIfInBounds
def Wp:=@List.mem_flatMap
def Wq:=@List.length_replicate
def Ws:=@Nat.lt_or_ge
def Wt:=@List.getElem?_toArray
def Wu:=@Bool.true_or
def Wv:=@Bool.not_true
def Ww:=@Int.natCast_nonneg
def Wx:=@List.pairwise_cons
def Wy:=@Option.isSome_some
def Wz:=@List.mem_range
def WA:=@List.set_append_left
def WB:=@List.take_add_one
def WC:=@Bool.and_true
def WD:=@List.flatten_append
def WE:=@List.getD_cons_succ
def WF:=@Bool.and_false
def WG:=@List.drop_of_length_le
def WH:=@Bool.not_eq_false'
def WI:=@List.find?_eq_none
def WJ:=@Go.World.ownsRow_nil
def WK:=@Array.toArray_toList
def WL:=@List.mem_of_mem_drop
def WM:=@Array.getElem?_eq_getElem
def WN:=@List.drop_zero
def WO:=@Bool.not_false
def WP:=@Nat.le_max_right
def WQ:=@List.take_succ_cons
def WR:=@List.mem_map_of_mem
def WS:=@Option.isSome_iff_exists
def WT:=@List.getElem?_take_of_lt
def WU:=@Nat.le_max_left
def WV:=@List.length_set
def WW:=@Go.RowKit.Below.heap_setCell
def WX:=@List.filter_nil
def WY:=@List.Sublist.refl
def WZ:=@List.drop_drop
def W4:=@List.tail_drop
def W5:=@Array.getElem?_toList
def W6:=@List.contains_iff_mem
def W7:=@Nat.sub_self
def W8:=@List.length_singleton
def W9:=@Array.toList_map
def Xa:=@List.mem_flatten
def Xb:=@Option.bind_some
def Xc:=@List.mem_cons_of_mem
def Xd:=@Nat.pow_le_pow_right
def Xe:=@Nat.lt_irrefl
def Xf:=@Go.ByteArray.toList_eq
def Xg:=@Option.map_none
def Xh:=@List.flatMap_append
def Xi:=@List.filter_sublist
def Xj:=@Nat.mul_comm
def Xk:=@List.contains_cons
def Xl:=@List.take_left
def Xm:=@List.take_zero
def Xn:=@List.foldl_nil
def Xo:=@List.nodup_append
def Xp:=@List.foldl_append
def Xq:=@Nat.lt_succ_of_lt
def Xr:=@List.map_take
def Xs:=@List.countP_cons
def Xt:=@Go.Addr.add_lit
def Xu:=@Bool.eq_iff_iff
def Xv:=@List.any_append
inductive AV where
 | int (k:IntKind) (n:Int)
 | bool (b:Bool)
 | str (s:ByteArray)
 | flat (v:Value)
 | agg (cs:List AV)
 | tup (cs:List AV)
 | tsl (st:Bool) (sz:Nat) (rows:List (List AV))
 | tptr (st:Bool) (row:List AV) (off:Nat)
 | esl
 | sl (b e off len sz:Nat)
 | ptr (b e sz row off:Nat)
 | osl (sz:Nat) (rows:List (List AV))
 | fn (f:FuncId) (caps:List AV)
 | iface (t:TypeId) (x:AV)
 | mp (b:Nat)
 | tmap (ks vs:List AV)
 | junk
instance:Inhabited AV:=⟨.junk⟩
inductive dY where
 | arr (rows:List (List AV)) (sz:Nat) (wep:Nat) (pr:Bool)
 | map (es:List (AV×AV))
 | dead (n:Nat)
abbrev ab:=List dY
structure St where
 fr:List AV
 S:ab
inductive TD where
 | int (k:IntKind)
 | str
 | bool
 | slice (e:TypeId)
 | struct (fs:List (Nat×TypeId))
 | array (n:Nat) (e:TypeId)
 | map (k e:TypeId)
 | other
def TD.solid:TD->Bool
 | .other=>false
 | _=>true
structure mN where
 size:Nat
 agg:Bool
 bytes:Nat
 zero:List AV
 desc:TD
inductive EK|int|bool|str
structure dV where
 ty:TypeId->Option mN
 fn:FuncId->Option Func
 byRef:FuncId->Bool
 prim:FuncId->Option (List AV->ab->Option (AV×ab))
 eqT:TypeId->Option (List EK)
 frz:String->Bool
 meth:TypeId->String->Option FuncId
 refM:String->Bool
 nest:FuncId->Bool
 glob:Nat->Option (List AV)
 late:String->List Nat
 own:String->TypeId->Bool
 deco:FuncId->Code->Code
def AV.cell:AV->Bool
 | .agg _ | .tup _ | .junk | .osl .. =>false
 | .flat v=>v.oneCell'
 | _=>true
mutual
def AV.clean:AV->Bool
 | .agg cs | .tup cs | .fn _ cs=>jP cs
 | .iface _ x=>x.clean
 | .sl .. | .ptr .. | .osl .. | .mp _ | .junk=>false
 | _=>true
def jP:List AV->Bool
 | []=>true
 | c::cs=>c.clean && jP cs
end
mutual
def AV.stab:AV->Bool
 | .agg cs | .tup cs | .fn _ cs=>cq cs
 | .iface _ x=>x.stab
 | .tsl st _ _=>st
 | .tptr st _ _=>st
 | .sl .. | .ptr .. | .osl .. | .mp _ | .tmap .. | .junk=>false
 | _=>true
def cq:List AV->Bool
 | []=>true
 | c::cs=>c.stab && cq cs
end
def AV.cells:AV->List AV
 | .agg cs=>cs
 | v=>[v]
def IV:Value->AV
 | .int k n=> .int k n
 | .bool b=> .bool b
 | .string s=> .str s
 | v=> .flat v
def sS:Value->AV
 | .agg cs=> .agg (cs.toList.map IV)
 | v=>IV v
def eS(fr:List AV)(t:Nat):AV:=fr.getD t .junk
def ak(fr:List AV):Operand->AV
 | .tmp t=>eS fr t
 | .const v=>sS v
 | .global g=> .flat (.pointer (some ⟨g,0,none⟩))
 | .func f=> .fn f []
def cj(fr:List AV)(dst:Option Tmp)(v:AV):List AV :=
 match dst with
 | some d=>fr.set d v
 | none=>fr
def gU(i:mN)(row:List AV)(off:Nat):Option AV :=
 if i.agg then (if off+i.size<=row.length then some (.agg ((row.drop off).take i.size)) else none) else row[off]?
def gE(row:List AV)(off:Nat)(cs:List AV):List AV:=row.take off++cs++row.drop (off+cs.length)
def ve(op:BinOp)(k:IntKind)(a b:Int):Option AV :=
 match op with
 | .add=>some (.int k (k.wrap (a+b)))
 | .sub=>some (.int k (k.wrap (a-b)))
 | .mul=>some (.int k (k.wrap (a*b)))
 | .quo=>if b=0 then none else some (.int k (k.wrap (a.tdiv b)))
 | .rem=>if b=0 then none else some (.int k (a.tmod b))
 | .and=>some (.int k (k.wrap (BitVec.ofInt k.bits a &&& BitVec.ofInt k.bits b).toNat))
 | .or=>some (.int k (k.wrap (BitVec.ofInt k.bits a ||| BitVec.ofInt k.bits b).toNat))
 | .xor=>some (.int k (k.wrap (BitVec.ofInt k.bits a ^^^ BitVec.ofInt k.bits b).toNat))
 | .andNot=>some (.int k (k.wrap (BitVec.ofInt k.bits a &&& ~~~ BitVec.ofInt k.bits b).toNat))
 | .eql=>some (.bool (a == b))
 | .neq=>some (.bool (a != b))
 | .lss=>some (.bool (decide (a<b)))
 | .leq=>some (.bool (decide (a<=b)))
 | .gtr=>some (.bool (decide (b<a)))
 | .geq=>some (.bool (decide (b<=a)))
 | _=>none
def iS(op:BinOp)(k:IntKind)(a y:Int):Option AV :=
 if y<0 then none else
 match op with
 | .shl=>some (.int k (k.wrap (a*2 ^ (min y.toNat k.bits))))
 | .shr=>some (.int k (a.fdiv (2 ^ (min y.toNat k.bits))))
 | _=>none
def ik(op:BinOp)(x y:ByteArray):Option AV :=
 match op with
 | .add=>if ((x.size+y.size:Nat):Int) > 9223372036854775807 then none else some (.str (x++y))
 | .eql=>some (.bool (x.toList == y.toList))
 | .neq=>some (.bool (!(x.toList == y.toList)))
 | .lss=>some (.bool (Op.bytesLess x.toList y.toList))
 | .leq=>some (.bool (Op.bytesLess x.toList y.toList || x.toList == y.toList))
 | .gtr=>some (.bool (!(Op.bytesLess x.toList y.toList || x.toList == y.toList)))
 | .geq=>some (.bool (!Op.bytesLess x.toList y.toList))
 | _=>none
def kV:EK->AV->AV->Option Bool
 | .int,.int k a,.int k' b=>if k=k' then some (a == b) else none
 | .bool,.bool a,.bool b=>some (a == b)
 | .str,.str a,.str b=>some (a == b)
 | _,_,_=>none
def cn:List EK->List AV->List AV->Option Bool
 | [],[],[]=>some true
 | k::ks,x::xs,y::ys=>match kV k x y,cn ks xs ys with
  | some a,some b=>some (a && b)
  | _,_=>none
 | _,_,_=>none
def kW(X:dV)(t:TypeId):AV->AV->Option Bool
 | .bool a,.bool b=>match X.ty t with
  | some ⟨_,_,_,_,.bool⟩=>some (a == b)
  | _=>none
 | .agg xs,.agg ys=>match X.eqT t with
  | some ks=>cn ks xs ys
  | none=>none
 | x,.flat (.slice none 0 0)=>match X.ty t,x with
  | some ⟨_,_,_,_,.slice _⟩,.tsl _ _ (_::_)=>some false
  | some ⟨_,_,_,_,.slice _⟩,.sl _ _ _ (_+1) _=>some false
  | some ⟨_,_,_,_,.slice _⟩,.flat (.slice none 0 0)=>some true
  | some ⟨_,_,_,_,.slice _⟩,.flat (.slice (some _) _ _)=>some false
  | _,_=>none
 | _,_=>none
def zE(X:dV)(op:BinOp)(t:TypeId)(x y:AV):Option AV :=
 match op,x,y with
 | .shl,.int k a,.int _ b | .shr,.int k a,.int _ b=>iS op k a b
 | op,.int k a,.int k' b=>if k=k' then ve op k a b else none
 | op,.str a,.str b=>ik op a b
 | .eql,x,y=>(kW X t x y).map .bool
 | .neq,x,y=>(kW X t x y).map fun b=> .bool (!b)
 | _,_,_=>none
def unA(op:UnOp)(x:AV):Option AV :=
 match op,x with
 | .neg,.int k n=>some (.int k (k.wrap (0-n)))
 | .xor,.int k n=>some (.int k (k.wrap (BitVec.ofInt k.bits (if k.signed then -1 else k.max) ^^^ BitVec.ofInt k.bits n).toNat))
 | .not,.bool b=>some (.bool !b)
 | _,_=>none
def zh(X:dV)(src dst:TypeId)(x:AV):Option AV :=
 match X.ty src,X.ty dst,x with
 | some _,some ⟨_,_,_,_,.int k⟩,.int _ n=>some (.int k (k.wrap n))
 | some _,some ⟨_,_,_,_,.str⟩,.str s=>some (.str s)
 | _,_,_=>none
def tH(X:dV)(fs:List (Nat×TypeId)):List AV->List (Nat×AV)->Option (List AV)
 | cells,[]=>some cells
 | cells,(i,v)::rest=>
  match fs[i]? with
  | none=>none
  | some (off,t)=>
   match X.ty t with
   | none=>none
   | some ti=>if v.cells.length=ti.size/\off+v.cells.length<=cells.length/\v.cells.all AV.cell=true then tH X fs (gE cells off v.cells) rest else none
def sd(X:dV)(t:TypeId)(parts:List (Nat×AV)):Option AV :=
 match X.ty t with
 | some ⟨_,_,_,z,.struct fs⟩=>(tH X fs z parts).map .agg
 | some ⟨_,_,_,z,.array len el⟩=>match X.ty el with
  | some ei=>(tH X ((List.range len).map fun i=>(i*ei.size,el)) z parts).map .agg
  | none=>none
 | _=>none
def rN(X:dV)(t:TypeId)(x:AV)(f:Nat):Option AV :=
 match X.ty t,x with
 | some ⟨_,_,_,_,.struct fs⟩,.agg cs=>
  match fs[f]? with
  | some (off,ft)=>match X.ty ft with
   | some i=>gU i cs off
   | none=>none
  | none=>none
 | _,_=>none
def iv(X:dV)(t:TypeId)(x:AV)(f:Nat):Option AV :=
 match X.ty t with
 | some ⟨_,_,_,_,.struct fs⟩=>
  match fs[f]? with
  | some (off,ft)=>match X.ty ft with
   | some i=>if i.size=0 then none else match x with
    | .ptr b e sz row o=>some (.ptr b e sz row (o+off))
    | .tptr st row o=>some (.tptr st row (o+off))
    | _=>none
   | none=>none
  | none=>none
 | _=>none
def aD(X:dV)(t:TypeId)(x i:AV):Option AV :=
 match X.ty t,i with
 | some ⟨_,_,_,_,.slice el⟩,.int _ n=>
  match X.ty el with
  | some ei=>match x with
   | .sl b e off len sz=>if 0<=n/\n<(len:Int)/\sz=ei.size then some (.ptr b e sz (off+n.toNat) 0) else none
   | .tsl st sz rows=>if 0<=n/\sz=ei.size then (match rows[n.toNat]? with|some row=>some (.tptr st row 0)|none=>none) else none
   | _=>none
  | none=>none
 | some ⟨_,_,_,_,.array len el⟩,.int _ n=>
  match X.ty el,x with
  | some ei,.ptr b e sz row off=>if 0<=n/\n<(len:Int) then some (.ptr b e sz row (off+n.toNat*ei.size)) else none
  | _,_=>none
 | _,_=>none
def vg(X:dV)(t:TypeId)(x i:AV):Option AV :=
 match X.ty t,x,i with
 | some ⟨_,_,_,_,.str⟩,.str s,.int _ n=>if 0<=n then (match s[n.toNat]? with|some b=>some (.int .u8 b.toNat)|none=>none) else none
 | some ⟨_,_,_,_,.array len el⟩,.agg cs,.int _ n=>match X.ty el with
  | some ei=>if 0<=n/\n<(len:Int) then gU ei cs (n.toNat*ei.size) else none
  | none=>none
 | _,_,_=>none
def dM:Option AV->Nat->Option Nat
 | none,d=>some d
 | some (.int _ n),_=>if 0<=n then some n.toNat else none
 | some _,_=>none
def dW(X:dV)(t:TypeId)(x:AV)(lo hi mx:Option AV):Option AV :=
 match X.ty t,x,mx with
 | some ⟨_,_,_,_,.str⟩,.str s,none=>
  match dM lo 0,dM hi s.size with
  | some l,some h=>if l<=h/\h<=s.size then some (.str (s.extract l h)) else none
  | _,_=>none
 | some ⟨_,_,_,_,.slice el⟩,.sl b e off len sz,none=>
  match dM lo 0,dM hi len,X.ty el with
  | some l,some h,some ei=>if l<=h/\h<=len/\sz=ei.size then (if l=0 then some (.sl b e off h sz) else if l=h then some (.tsl true sz []) else some (.sl b e (off+l) (h-l) sz)) else none
  | _,_,_=>none
 | some ⟨_,_,_,_,.slice el⟩,.tsl st sz rows,none=>
  match dM lo 0,dM hi rows.length,X.ty el with
  | some l,some h,some ei=>if l<=h/\h<=rows.length/\sz=ei.size then some (.tsl st sz ((rows.drop l).take (h-l))) else none
  | _,_,_=>none
 | some ⟨_,_,_,_,.slice el⟩,.flat (.slice none 0 0),none=>
  match dM lo 0,dM hi 0,X.ty el with
  | some 0,some 0,some ei=>some (.tsl true ei.size [])
  | _,_,_=>none
 | some ⟨_,_,_,_,.slice el⟩,.sl ..,some (.int _ 0)|some ⟨_,_,_,_,.slice el⟩,.tsl ..,some (.int _ 0)|some ⟨_,_,_,_,.slice el⟩,.esl,some (.int _ 0)
 | some ⟨_,_,_,_,.slice el⟩,.flat (.slice none 0 0),some (.int _ 0)=>
  match dM lo 0,dM hi 1,X.ty el with
  | some 0,some 0,some _=>some .esl
  | _,_,_=>none
 | some ⟨_,_,_,_,.slice el⟩,.tsl st sz rows,some (.int _ m)=>
  match dM lo 0,dM hi (m.toNat+1),X.ty el with
  | some l,some h,some ei=>if l<=h/\h<=m.toNat/\m.toNat<=rows.length/\0<=m/\sz=ei.size then some (.tsl st sz ((rows.drop l).take (h-l))) else none
  | _,_,_=>none
 | some ⟨_,_,_,_,.slice el⟩,.sl b e off len sz,some (.int _ m)=>
  match dM lo 0,dM hi (m.toNat+1),X.ty el with
  | some 0,some h,some ei=>if h<=m.toNat/\m.toNat<=len/\0<=m/\sz=ei.size then some (.sl b e off h sz) else none
  | _,_,_=>none
 | _,_,_=>none
def lenA:AV->Option Nat
 | .str s=>some s.size
 | .sl _ _ _ len _=>some len
 | .tsl _ _ rows=>some rows.length
 | .esl=>some 0
 | .flat (.slice none 0 0)=>some 0
 | _=>none
def kJ(mx:Bool):AV->List AV->Option AV
 | x,[]=>some x
 | .int k a,.int _ b::rest=>kJ mx (.int k (if mx then (if b > a then b else a) else (if b<a then b else a))) rest
 | _,_=>none
def kj(mx:Bool):List AV->Option AV
 | []=>none
 | x::rest=>kJ mx x rest
def eJ(X:dV)(fr:List AV)(o:Oper):Option AV :=
 match o.op with
 | .move x | .assign x=>match x with
  | .const (.slice none 0 0)=>none
  | x=>some (ak fr x)
 | .pick c a b=>match ak fr c with
  | .bool t=>some (if t then ak fr a else ak fr b)
  | _=>none
 | .nilCheck x=>match ak fr x with
  | .ptr b e sz row off=>some (.ptr b e sz row off)
  | .tptr st row off=>some (.tptr st row off)
  | .iface t x=>some (.iface t x)
  | _=>none
 | .makeInterface t x=>match X.ty t with
  | some i=>if i.desc.solid then some (.iface t (ak fr x)) else none
  | none=>none
 | .binOp op t x y _=>zE X op t (ak fr x) (ak fr y)
 | .unOp op _ x=>unA op (ak fr x)
 | .convert s d x=>zh X s d (ak fr x)
 | .build t parts=>sd X t (parts.toList.map fun p=>(p.1,ak fr p.2))
 | .field t x f=>rN X t (ak fr x) f
 | .fieldAddr t x f=>iv X t (ak fr x) f
 | .indexAddr t x i=>aD X t (ak fr x) (ak fr i)
 | .index t x i=>vg X t (ak fr x) (ak fr i)
 | .slice t x lo hi mx=>dW X t (ak fr x) (lo.map (ak fr)) (hi.map (ak fr)) (mx.map (ak fr))
 | .makeFunc (.func f) first captured=>if first.size=0 then some (.fn f (captured.toList.map (ak fr))) else none
 | .extract x i=>match ak fr x with
  | .tup vs=>vs[i]?
  | _=>none
 | .call { callee := .builtin .len,args,argTypes }=>match args.toList,argTypes.toList with
  | [x],[t]=>match X.ty t,lenA (ak fr x) with
   | some ⟨_,_,_,_,.slice _⟩,some n=>(match ak fr x with | .str _=>none|_=>some (.int .i64 n))
   | some ⟨_,_,_,_,.str⟩,some n=>(match ak fr x with | .str _=>some (.int .i64 n)|_=>none)
   | _,_=>none
  | _,_=>none
 | .call { callee := .builtin .max,args,.. }=>kj true (args.toList.map (ak fr))
 | .call { callee := .builtin .min,args,.. }=>kj false (args.toList.map (ak fr))
 | _=>none
def g9(S:ab)(b e sz row:Nat):Option (List AV) :=
 match S[b]? with
 | some (.arr rows Je wep _)=>if Je=sz/\wep<=e/\row<e then rows[row]? else none
 | _=>none
def rowsOf(S:ab)(sz:Nat):AV->Option (List (List AV)×Bool)
 | .tsl _ Je rows=>if Je=sz then some (rows,true) else none
 | .sl b e off len Je=>match S[b]? with
  | some (.arr rows sz'' wep pr)=>if Je=sz/\sz''=sz/\wep<=e/\off+len<=e/\e<=rows.length then some ((rows.drop off).take len,pr) else none
  | _=>none
 | .esl=>some ([],true)
 | .flat (.slice none 0 0)=>some ([],true)
 | .flat (.slice (some _) 0 aK)=>if aK<=maxLen then some ([],true) else none
 | _=>none
def ba(sz:Nat):List (List AV)->List (Nat×AV)->Option (List (List AV))
 | rows,[]=>some rows
 | rows,(i,v)::rest=>if v.cells.length=sz/\i<rows.length then ba sz (rows.set i v.cells) rest else none
def eM:List (List AV)->Option (List UInt8)
 | []=>some []
 | [.int .u8 n]::rest=>(eM rest).map (UInt8.ofNat n.toNat :: ·)
 | _=>none
def jN:List AV->List AV->Option Bool
 | [],[]=>some true
 | .int k a::xs,.int k' b::ys=>if k=k' then (match jN xs ys with
  | some c=>some (a == b && c)
  | none=>none) else none
 | _,_=>none
def iK:AV->AV->Option Bool
 | .int k a,.int k' b=>if k=k' then some (a == b) else none
 | .str a,.str b=>some (a == b)
 | .agg xs,.agg ys=>jN xs ys
 | _,_=>none
def ef(k:AV):List (AV×AV)->Option (Option AV)
 | []=>some none
 | e::es=>match iK k e.1 with
  | some true=>some (some e.2)
  | some false=>ef k es
  | none=>none
def jc(k v:AV):List (AV×AV)->List (AV×AV)
 | []=>[(k,v)]
 | e::es=>match iK k e.1 with
  | some true=>(k,v)::es
  | _=>e::jc k v es
def nZ(k:AV):List (AV×AV)->List (AV×AV)
 | []=>[]
 | e::es=>match iK k e.1 with
  | some true=>es
  | _=>e::nZ k es
def ep:List EK->List AV->Bool
 | [],[]=>true
 | .int::ks,.int _ _::xs=>ep ks xs
 | _,_=>false
def nY(X:dV)(t:TypeId)(d:TD)(k:AV):Bool :=
 match d,k with
 | .int j,.int j' _=>decide (j=j')
 | .str,.str _=>true
 | .struct _,.agg xs=>match X.eqT t with
  | some ks=>ep ks xs
  | none=>false
 | _,_=>false
def wh(S:ab):AV->Option (List (AV×AV))
 | .mp b=>match S[b]? with
  | some (.map es)=>some es
  | _=>none
 | .tmap ks vs=>some (ks.zip vs)
 | _=>none
def gp(i:mN)(cs:List AV):Option AV:=if i.agg then some (.agg cs) else cs[0]?
def bsA(X:dV)(d:Bool)(id:Nat)(t:TypeId)(len:Nat)(pos:String)(ps:List (Nat×AV)):Option (AV×List dY) :=
 match X.ty t with
 | some ⟨_,_,_,_,.slice el⟩=>match X.ty el with
  | some ei=>
   if d=true/\len=0 then (if ps.length=0/\ei.zero.length=ei.size then some (.esl,[]) else none) else
   if len*ei.size<=16777216/\ei.zero.length=ei.size/\0<ei.size/\(ps.all fun p=>p.2.cells.all AV.cell) then
    match ba ei.size (List.replicate len ei.zero) ps with
    | some rows=>if (X.frz pos && !X.own pos t && ps.all fun p=>cq p.2.cells)=true then some (.tsl true ei.size rows,[]) else some (.sl id len 0 len ei.size,[.arr rows ei.size 0 (ps.all fun p=>cq p.2.cells)])
    | none=>none
   else none
  | none=>none
 | _=>none
def ff(X:dV)(d:Bool)(S:ab)(id:Nat)(fr:List AV)(o:Oper):Option (AV×List dY) :=
 match o.op with
 | .load t p=>match X.ty t with
  | some i=>match ak fr p with
   | .ptr b e sz row off=>match g9 S b e sz row with
    | some r=>(gU i r off).map fun v=>(v,[])
    | none=>none
   | .tptr _ r off=>(gU i r off).map fun v=>(v,[])
   | .flat (.pointer (some ⟨g,0,none⟩))=>match X.glob g with
    | some r=>(gU i r 0).map fun v=>(v,[])
    | none=>none
   | _=>none
  | none=>none
 | .alloc t=>match X.ty t with
  | some i=>if i.zero.length=i.size then some (.ptr id 1 i.size 0 0,[.arr [i.zero] i.size 0 true]) else none
  | none=>none
 | .box t x=>
  let cs:=(ak fr x).cells
  if cs.all AV.cell then some (.ptr id 1 cs.length 0 0,[.arr [cs] cs.length 0 (cq cs)]) else none
 | .buildSlice t len parts=>bsA X d id t len o.pos (parts.toList.map fun p=>(p.1,ak fr p.2))
 | .makeSlice t l c=>match ak fr l,ak fr c with
  | .int _ n,.int _ m=>match X.ty t with
   | some ⟨_,_,_,_,.slice el⟩=>match X.ty el with
    | some ei=>if n=m/\0<=n/\n<=16777216/\n.toNat*ei.size<=16777216/\ei.bytes*n.toNat<=140737488355328 then bsA X d id t n.toNat o.pos [] else
     if n=0/\0<=m/\m<=16777216/\0<ei.size/\ei.zero.length=ei.size/\m.toNat*ei.size<=16777216/\ei.bytes*m.toNat<=140737488355328 then some (.sl id 0 0 0 ei.size,[.arr [] ei.size 0 true]) else none
    | none=>none
   | _=>none
  | _,_=>none
 | .convert s d x=>match X.ty s,X.ty d,ak fr x with
  | some ⟨_,_,_,_,.str⟩,some ⟨_,_,_,_,.slice el⟩,.str v=>match X.ty el with
   | some ⟨_,_,_,_,.int .u8⟩=>if v.size<=140737488355328 then some (.tsl true 1 (v.toList.map fun c=>[.int .u8 (c.toNat:Int)]),[]) else none
   | _=>none
  | some ⟨_,_,_,_,.slice el⟩,some ⟨_,_,_,_,.str⟩,y=>match X.ty el,rowsOf S 1 y with
   | some ⟨_,_,_,_,.int .u8⟩,some (rows,_)=>(eM rows).map fun l=>(.str ⟨l.toArray⟩,[])
   | _,_=>none
  | _,_,_=>none
 | .makeMap _ none=>some (.mp id,[.map []])
 | .lookup t x k ok=>match X.ty t with
  | some ⟨_,_,_,_,.map kt et⟩=>match wh S (ak fr x),X.ty kt,X.ty et with
   | some es,some ki,some ei=>if nY X kt ki.desc (ak fr k)=true then
    match ef (ak fr k) es,gp ei ei.zero with
    | some (some v),_=>some (if ok then .tup [v,.bool true] else v,[])
    | some none,some z=>some (if ok then .tup [z,.bool false] else z,[])
    | _,_=>none
    else none
   | _,_,_=>none
  | _=>none
 | .call { callee := .builtin .len,args,argTypes }=>match args.toList,argTypes.toList with
  | [x],[t]=>if d then none else match X.ty t,ak fr x with
   | some ⟨_,_,_,_,.map _ _⟩,.mp b=>match S[b]? with
    | some (.map es)=>some (.int .i64 es.length,[])
    | _=>none
   | _,_=>none
  | _,_=>none
 | _=>none
def iq(X:dV)(d:Bool)(S:ab)(id:Nat)(fr:List AV)(o:Oper):Option (AV×List dY) :=
 match o.op with
 | .move (.const (.slice none 0 0)) | .assign (.const (.slice none 0 0))=>
  if d then some (.flat (.slice none 0 0),[]) else
  match X.ty o.type with
  | some ⟨_,_,_,_,.slice el⟩=>match X.ty el with
   | some ei=>some (.sl id 0 0 0 ei.size,[.arr [] ei.size 0 true])
   | none=>none
  | _=>none
 | .call { callee := .builtin .append,args,argTypes }=>match args.toList,argTypes.toList with
  | [s,x],[t,u]=>match X.ty t with
   | some ⟨_,_,_,_,.slice el⟩=>match X.ty el with
    | some ei=>if t=u/\0<ei.size/\ei.zero.length=ei.size then
     match rowsOf S ei.size (ak fr x) with
     | some (news,prn)=>
      match ak fr s with
      | .esl=>if news.length=0 then some (.esl,[]) else
       if news.length*ei.bytes<=140737488355328/\news.length<=140737488355328 then some (.sl id news.length 0 news.length ei.size,[.arr news ei.size 0 prn]) else none
      | .flat (.slice none 0 0)=>if news.length=0 then some (.flat (.slice none 0 0),[]) else
       if news.length*ei.bytes<=140737488355328/\news.length<=140737488355328 then some (.sl id news.length 0 news.length ei.size,[.arr news ei.size 0 prn]) else none
      | _=>none
     | none=>none
     else none
    | none=>none
   | _=>none
  | _,_=>none
 | _=>none
def iz(X:dV)(S:ab)(fr:List AV)(o:Oper):Option (AV×ab) :=
 match o.op with
 | .store t p x=>match X.ty t,ak fr p with
  | some i,.ptr b e sz row off=>match S[b]? with
   | some (.arr rows Je wep pr)=>
    let cs:=(ak fr x).cells
    if Je=sz/\rows.length=e/\wep<=e/\row<e/\cs.length=i.size/\off+cs.length<=sz/\cs.all AV.cell then
     some (.flat undef,S.set b (.arr (rows.set row (gE (rows.getD row []) off cs)) sz e (pr && cq cs)))
    else none
   | _=>none
  | _,_=>none
 | .mapUpdate t m k x=>match X.ty t,ak fr m with
  | some ⟨_,_,_,_,.map kt _⟩,.mp b=>match S[b]?,X.ty kt with
   | some (.map es),some ki=>if nY X kt ki.desc (ak fr k)=true/\(ef (ak fr k) es).isSome=true then some (.flat undef,S.set b (.map (jc (ak fr k) (ak fr x) es))) else none
   | _,_=>none
  | _,_=>none
 | .call { callee := .builtin .append,args,argTypes }=>match args.toList,argTypes.toList with
  | [s,x],[t,u]=>match X.ty t with
   | some ⟨_,_,_,_,.slice el⟩=>match X.ty el with
    | some ei=>if t=u/\0<ei.size/\ei.zero.length=ei.size then
     match rowsOf S ei.size (ak fr x) with
     | some (news,prn)=>
      match ak fr s with
      | .sl b e off len sz=>match S[b]? with
       | some (.arr rows Je wep pr)=>
        if off=0/\len=e/\rows.length=e/\wep<=e/\sz=ei.size/\Je=sz/\(e+news.length)*ei.bytes<=140737488355328/\e+news.length<=140737488355328 then
         (if news.length=0 then some (.sl b e off len sz,S) else some (.sl b (e+news.length) 0 (e+news.length) sz,S.set b (.arr (rows++news) sz wep (pr && prn))))
        else none
       | _=>none
      | _=>none
     | none=>none
     else none
    | none=>none
   | _=>none
  | _,_=>none
 | .call { callee := .builtin .delete,args,argTypes }=>match args.toList,argTypes.toList with
  | [m,k],[t,_]=>match X.ty t,ak fr m with
   | some ⟨_,_,_,_,.map kt _⟩,.mp b=>match S[b]?,X.ty kt with
    | some (.map es),some ki=>if nY X kt ki.desc (ak fr k)=true/\(ef (ak fr k) es).isSome=true then some (.tup [],S.set b (.map (nZ (ak fr k) es))) else none
    | _,_=>none
   | _,_=>none
  | _,_=>none
 | .call { callee := .builtin .clear,args,argTypes }=>match args.toList,argTypes.toList with
  | [s],[t]=>match X.ty t,ak fr s with
   | some ⟨_,_,_,_,.slice el⟩,.sl b e off len sz=>match X.ty el,S[b]? with
    | some ei,some (.arr rows Je wep pr)=>
     if rows.length=e/\wep<=e/\sz=ei.size/\Je=sz/\ei.zero.length=sz/\off+len<=e then
      (if len=0 then some (.tup [],S) else some (.tup [],S.set b (.arr (rows.take off++List.replicate len ei.zero++rows.drop (off+len)) sz e pr)))
     else none
    | _,_=>none
   | some ⟨_,_,_,_,.slice _⟩,.tsl _ _ []=>some (.tup [],S)
   | _,_=>none
  | _,_=>none
 | .call { callee := .builtin .copy,args,argTypes }=>match args.toList,argTypes.toList with
  | [s,x],[t,_]=>match X.ty t with
   | some ⟨_,_,_,_,.slice el⟩=>match X.ty el with
    | some ei=>match rowsOf S ei.size (ak fr x) with
     | some (news,_)=>match ak fr s with
      | .sl b e off len sz=>match S[b]? with
       | some (.arr rows Je wep pr)=>
        if rows.length=e/\wep<=e/\sz=ei.size/\Je=sz/\off+len<=e then
         (if min news.length len=0 then some (.int .i64 0,S) else some (.int .i64 (min news.length len:Nat),S.set b (.arr (rows.take off++news.take (min news.length len)++rows.drop (off+min news.length len)) sz e (pr && cq (news.take (min news.length len)).flatten))))
        else none
       | _=>none
      | .tsl _ _ []=>some (.int .i64 0,S)
      | _=>none
     | none=>none
    | none=>none
   | _=>none
  | _,_=>none
 | _=>none
def jh(sz:Nat)(args:List AV)(S:ab):Option (AV×ab) :=
 match args with
 | [x]=>match rowsOf S sz x with
  | some (rows,pr)=>if rows.length<=1073741824 then some (.sl (S.length+1) rows.length 0 rows.length sz,S++[.arr [] sz 0 true,.arr rows sz 0 (pr || rows.isEmpty)]) else none
  | none=>none
 | _=>none
def Gv(S:ab)(c:AV):AV :=
 if c.clean then c else
 match c with
 | .sl b e off len sz=>match rowsOf S sz (.sl b e off len sz) with
  | some (rows,pr)=>if pr || rows.all cq then .tsl false sz rows else .junk
  | none=> .junk
 | _=> .junk
mutual
def snap(S:ab):AV->Option AV
 | .agg cs=>match dU S cs with|some l=>some (.agg l)|none=>none
 | .tup cs=>match dU S cs with|some l=>some (.tup l)|none=>none
 | .fn f cs=>match dU S cs with|some l=>some (.fn f l)|none=>none
 | .iface t x=>match snap S x with|some l=>some (.iface t l)|none=>none
 | .sl b e off len sz=>match rowsOf S sz (.sl b e off len sz) with
  | some (rows,pr)=>if pr || rows.all cq then some (.tsl false sz rows) else none
  | none=>none
 | .ptr b e sz row off=>match g9 S b e sz row with
  | some r=>if jP r then some (.tptr false r off) else some (.tptr false (r.map (Gv S)) off)
  | none=>none
 | .osl .. =>none
 | .mp b=>match S[b]? with
  | some (.map es)=>if cq (es.map (·.2))=true then some (.tmap (es.map (·.1)) (es.map (·.2))) else none
  | _=>none
 | .junk=>some .junk
 | v=>some v
def dU(S:ab):List AV->Option (List AV)
 | []=>some []
 | c::cs=>match snap S c with
  | some c'=>match dU S cs with
   | some cs'=>some (c'::cs')
   | none=>none
  | none=>none
end
def aW(S:ab):AV->Option AV
 | .sl b e off len sz=>match rowsOf S sz (.sl b e off len sz) with
  | some (rows,pr)=>if pr || rows.all cq then some (.tsl true sz rows) else none
  | none=>none
 | v=>if v.stab then some v else none
def dq(S:ab):List AV->Option (List AV)
 | []=>some []
 | c::cs=>match aW S c with
  | some c'=>match dq S cs with
   | some cs'=>some (c'::cs')
   | none=>none
  | none=>none
def bI(S:ab):AV->Option AV
 | .sl b e off len sz=>
  if off=0/\len=e then
   match S[b]? with
   | some (.arr rows Je wep pr)=>if Je=sz/\rows.length=e/\wep<=e/\(pr || rows.all cq)=true then some (.osl sz rows) else none
   | _=>none
  else aW S (.sl b e off len sz)
 | .agg cs=>match dq S cs with
  | some cs'=>some (.agg cs')
  | none=>none
 | v=>if v.stab then some v else none
def dm(S:ab):List AV->Option (List AV)
 | []=>some []
 | c::cs=>match bI S c with
  | some c'=>match dm S cs with
   | some cs'=>some (c'::cs')
   | none=>none
  | none=>none
def nF:List AV->List Nat
 | []=>[]
 | .sl b _ _ _ _::cs=>b::nF cs
 | _::cs=>nF cs
def ce:List AV->List Nat
 | []=>[]
 | .sl b e off len _::cs=>if off=0/\len=e then b::ce cs else ce cs
 | _::cs=>ce cs
def bT:List AV->List Nat
 | []=>[]
 | .sl b e off len _::cs=>if off=0/\len=e then bT cs else b::bT cs
 | .agg ds::cs=>nF ds++bT cs
 | _::cs=>bT cs
def dR(cs:List AV):Bool :=
 match ce cs with
 | []=>true
 | os=>decide os.Nodup && os.all fun b=> !(bT cs).contains b
def da(S:ab):AV->Option AV
 | .tup cs=>if dR cs then (match dm S cs with|some l=>some (.tup l)|none=>none) else none
 | v=>if dR [v] then bI S v else none
def pU(S:ab):AV->Option AV
 | .agg cs=>if dR cs then (match dm S cs with|some l=>some (.agg l)|none=>none) else none
 | _=>none
def bp(id:Nat):AV->AV×List dY
 | .osl sz rows=>(.sl id rows.length 0 rows.length sz,[.arr rows sz 0 true])
 | v=>(v,[])
def bC(id:Nat):List AV->List AV×List dY
 | []=>([],[])
 | c::cs=>
  let r:=bp id c
  let r':=bC (id+r.2.length) cs
  (r.1::r'.1,r.2++r'.2)
def dJ(id:Nat):AV->AV×List dY
 | .tup cs=>let r:=bC id cs;(.tup r.1,r.2)
 | v=>bp id v
def fD(id:Nat):AV->AV×List dY
 | .agg cs=>let r:=bC id cs;(.agg r.1,r.2)
 | v=>(v,[])
def tz:AV->AV
 | .osl sz rows=> .tsl true sz rows
 | v=>v
def gQ:AV->AV
 | .tup cs=> .tup (cs.map tz)
 | v=>tz v
def i8(z:Bool)(id:Nat)(r:AV):AV×List dY:=if z=true then (gQ r,[]) else dJ id r
abbrev gX:=FuncId->List AV->ab->Option (AV×ab)
def iL(call:gX)(f:FuncId)(args:List AV):Option AV :=
 match call f args [] with
 | some (r,S)=>da S r
 | none=>none
def jQ(call:gX)(f:FuncId)(args:List AV):Option AV :=
 match call f args [] with
 | some (r,S)=>pU S r
 | none=>none
def cL(X:dV)(fr:List AV)(o:Oper):Option (FuncId×List AV) :=
 match o.op with
 | .call { callee := .value f,args,.. }=>match ak fr f with
  | .fn g caps=>some (g,args.toList.map (ak fr)++caps)
  | _=>none
 | .call { callee := .invoke r m,args,.. }=>match ak fr r with
  | .iface t x=>match X.meth t m with
   | some g=>some (g,x::args.toList.map (ak fr))
   | none=>none
  | _=>none
 | _=>none
def iF(X:dV)(o:Oper):Bool :=
 match o.op with
 | .call { callee := .value (.func f),.. }=>X.byRef f
 | .call { callee := .invoke _ m,.. }=>X.refM m
 | _=>false
def mM(S:ab)(fr:List AV)(o:Oper):Bool :=
 match o.op with
 | .call { callee := .builtin .append,args,.. }=>match args.toList with
  | [s,x]=>match ak fr s with
   | .sl _ _ _ _ sz=>match rowsOf S sz (ak fr x) with
    | some (_,prn)=>prn
    | none=>false
   | _=>false
  | _=>false
 | _=>true
def dH(X:dV)(d:Bool)(call:gX)(st:St)(o:Oper):Option (AV×ab) :=
 match eJ X st.fr o with
 | some v=>some (v,st.S)
 | none=>match ff X d st.S st.S.length st.fr o with
  | some (v,nb)=>some (v,st.S++nb)
  | none=>match iq X d st.S st.S.length st.fr o with
   | some (v,nb)=>some (v,st.S++nb)
   | none=>match cL X st.fr o with
   | some (f,args)=>
    if X.byRef f then (if d && !iF X o then none else call f args st.S)
    else match dU st.S args with
     | some Jb=>if X.nest f then (match jQ call f Jb with
      | some r=>let a:=fD st.S.length r;some (a.1,st.S++a.2)
      | none=>none) else match iL call f Jb with
      | some r=>let a:=i8 (X.frz o.pos) st.S.length r;some (a.1,st.S++a.2)
      | none=>none
     | none=>none
   | none=>if d && !mM st.S st.fr o then none else iz X st.S st.fr o
def eL(ops:Array Oper)(fr:List AV)(o:Oper):Option Bool :=
 match o.guard with
 | none=>some true
 | some (j,want)=>match (ops[j]?).bind (·.dst) with
  | none=>none
  | some d=>match eS fr d with
   | .bool b=>some (b == want)
   | .flat (.tuple _)=>some false
   | _=>none
def pi:AV->AV->Bool
 | .ptr b _ _ _ _,.ptr b' _ _ _ _=>decide (b≠b')
 | .tptr ..,.ptr .. =>true
 | .tsl ..,.ptr .. =>true
 | _,_=>false
def kL(X:dV)(fr:List AV)(o:Oper):Bool :=
 match o.op with
 | .store _ p _=>(X.late o.pos).all fun t=>pi (eS fr t) (ak fr p)
 | _=>true
def nX(X:dV)(d:Bool)(call:gX)(ops:Array Oper):List Oper->St->Option St
 | [],st=>some st
 | o::rest,st=>match eL ops st.fr o with
  | some true=>if (d && !kL X st.fr o)=true then none else match dH X d call st o with
   | some (v,S')=>nX X d call ops rest ⟨cj st.fr o.dst v,S'⟩
   | none=>none
  | some false=>nX X d call ops rest ⟨cj st.fr o.dst (.flat undef),st.S⟩
  | none=>none
def pS(S:ab)(b row j:Nat):ab :=
 match S[b]? with
 | some (.arr rows sz wep pr)=>match (rows.getD row [])[j]? with
  | some (.sl c e off len Je)=>match S[c]? with
   | some (.arr rs sz'' LI pr')=>if c≠b/\off=0/\len=e/\sz''=Je/\rs.length=e/\LI<=e/\(pr' || rs.all cq)=true then
     (S.set c (.dead e)).set b (.arr (rows.set row ((rows.getD row []).set j (.tsl true Je rs))) sz wep pr) else S
   | _=>S
  | _=>S
 | _=>S
def rG(b row:Nat):Nat->ab->ab
 | 0,S=>S
 | n+1,S=>rG b row n (pS S b row n)
def oR(v:AV)(S:ab):ab :=
 match v with
 | .ptr b _ sz row _=>rG b row sz S
 | _=>S
def cW(l:List (Nat×Nat)):Code->Code
 | .region i ops d=>(l.filter fun p=>p.1 == i).foldr (fun p c=> .seq (.label p.2) c) (.region i ops d)
 | .seq a b=> .seq (cW l a) (cW l b)
 | .cond c a b=> .cond c (cW l a) (cW l b)
 | .block i c=> .block i (cW l c)
 | .loop c=> .loop (cW l c)
 | .scope c=> .scope (cW l c)
 | c=>c
inductive Ex where
 | normal
 | exit (id:Nat)
 | ret
def mA(body:St->Option (Ex×St)):Nat->St->Option (Ex×St)
 | 0,_=>none
 | n+1,st=>match body st with
  | some (.normal,I5)=>mA body n I5
  | r=>r
def cJ(X:dV)(call:gX)(n:Nat):Code->St->Option (Ex×St)
 | .skip,st=>some (.normal,st)
 | .label t,st=>some (.normal,⟨st.fr,oR (eS st.fr t) st.S⟩)
 | .region _ ops d,st=>match nX X d call ops ops.toList st with
  | some I5=>some (.normal,I5)
  | none=>none
 | .seq a b,st=>match cJ X call n a st with
  | some (.normal,I5)=>cJ X call n b I5
  | r=>r
 | .cond c a b,st=>match ak st.fr c with
  | .bool t=>if t then cJ X call n a st else cJ X call n b st
  | _=>none
 | .block id c,st=>match cJ X call n c st with
  | some (.exit Ki,I5)=>if Ki=id then some (.normal,I5) else some (.exit Ki,I5)
  | r=>r
 | .scope c,st=>cJ X call n c st
 | .loop c,st=>mA (cJ X call n c) n st
 | .exit id,st=>some (.exit id,st)
 | .ret,st=>some (.ret,st)
 | _,_=>none
def bg(X:dV)(st:St):ResultVar->Option AV
 | .tmp t=>some (eS st.fr t)
 | .cell a t=>match X.ty t with
  | some i=>match eS st.fr a with
   | .ptr b e sz row off=>match g9 st.S b e sz row with
    | some r=>gU i r off
    | none=>none
   | _=>none
  | none=>none
def aP(X:dV)(st:St):List ResultVar->Option (List AV)
 | []=>some []
 | r::rs=>match bg X st r with
  | some v=>match aP X st rs with
   | some vs=>some (v::vs)
   | none=>none
  | none=>none
def jx(X:dV)(fn:Func)(st:St):Option AV :=
 match aP X st fn.results.toList with
 | some [v]=>some v
 | some vs=>some (.tup vs)
 | none=>none
def dj(X:dV):Nat->gX
 | 0,_,_,_=>none
 | n+1,f,args,S=>match X.prim f with
  | some p=>p args S
  | none=>match X.fn f with
   | none=>none
   | some fn=>match fn.body with
    | none=>none
    | some c=>match cJ X (dj X n) n (X.deco f c) ⟨args++List.replicate (fn.ntmps-args.length) (.flat undef),S⟩ with
     | some (.normal,st)|some (.ret,st)=>match jx X fn st with
      | some v=>some (v,st.S)
      | none=>none
     | _=>none
end Go.Eng
