/- From a run of the small machine to what a statement asks. -/
import Derived.Test.YtkahfcmeeloikaaGreatDoorEngR
set_option linter.all false
set_option maxHeartbeats 1000000
namespace Go.Eng
open Go.RowKit Go.ChangeShapes Go.WideShapes
section
variable {H:Type}{enc:TypeId×Value->H}{P:Program}{X:dV}
theorem DL{S:ab}{r:AV}{b:Bool}(h:da S r=some (.bool b)):r = .bool b:=by
 cases r with
 | bool c=>simpa[da,dR,ce,bI,AV.stab]using h
 | tup cs=>
  simp only[da]at h;split at h
  .split at h<;>simp at h
  .cases h
 | agg cs=>
  simp only[da,bI]at h;split at h
  .split at h<;>simp at h
  .cases h
 | sl b e off len sz=>
  simp only[da,bI,aW]at h;split at h
  .split at h
   .split at h
    .split at h<;>simp at h
    .cases h
   .split at h
    .split at h<;>simp at h
    .cases h
  .cases h
 | _=>
  simp only[da,bI]at h;split at h
  .split at h<;>simp at h
  .cases h
def tR[aw](hX:eC P X)(hF:mP P X){W:World}(hk:∀g o,aw.blk g=some o->W.heap[g]? = some o){f:FuncId}{as:List AV}{vs:Array Value}(OD:ae W as (sw W) (sw W) aT vs.toList)(h:aB X f as (· = .bool true)) :
  Calls P f vs W fun e w'=>e = .returned (.bool true)/\Below W.heap.size W w':=by
 obtain⟨n,r,h1,rfl⟩:=h;unfold iL at h1;split at h1
 .rename_i r' S e1;have e2:=DL h1;subst e2;have:=iM hX hF n f as [] _ S e1 W.heap.size (sw W) (sw W) aT W vs.toList (mu (fun _ h=>h) hk) OD;refine this.mono fun e w' ⟨u,T',B',I',k1,k2,_,k4⟩=>?_;simp only[ap]at k4;subst k4;exact⟨k1,k2.below⟩
 .cases h1
theorem qD{W W':World}(hl:laidOutB P=true)(hb:Below W.heap.size W W'){sp':Nat->Bool}:∀{ts:List TypeId}{vs:List Value}{ds:List (DataW H)}{ps:List MemPlace},(∀t∈ts,P.readableRec t=true/\t<P.types.size) ->
  DataW.TrodAll enc P W 0 (fun _=>true) true ts vs ds ps->(∀p∈ps,p.block<W.heap.size)->(∀p∈ps,sp' p.block=true)->DataW.TrodAll enc P W' 0 sp' true ts vs ds ps
 | [],_,_,_,_,h,_,_=>by
  obtain⟨rfl,rfl,rfl⟩:=trodAll_nil h;exact rfl
 | t::ts,_,_,_,ht,h,Ja,Lz=>by
  obtain⟨v,vs,d,ds,p,q,rfl,rfl,rfl,h1,h2⟩:=trodAll_cons h;obtain⟨k1,k2⟩:=ht t (by simp)
  exact⟨p,q,WideElems.Trod_stays hl k1 k2 h1 (fun x hx=>hb.same (Ja x (by simp[hx]))) (fun x hx=>Lz x (by simp[hx])),
   qD hl hb (fun t h=>ht t (by simp[h])) h2 (fun x hx=>Ja x (by simp[hx])) (fun x hx=>Lz x (by simp[hx])),rfl⟩
theorem Ab(hl:laidOutB P=true){b:DataW H->Nat}{bA:List (DataW H)->Nat}(hB:Ge b bA){f:FuncId}{fn:Func}{s:ChangeSpec}{k:Nat}{τs:List (Bool×List vM)}{tb:TypeId}{apart fresh NU:Bool}
  (So:fn.params.toList.all (fun t=>P.readableRec t && decide (t<P.types.size))=true) (hτ:fn.params.toList.map (Ch P k)=τs.map some) (LL:fn.resultTypes = #[tb]) (htb:P.underlying tb=some .bool) (N5:s.vars = [])
  (hs:∀ds:List (DataW H),ds.length=fn.params.toList.length->s.fn H ds = { results:=[.lit (.bool true)],args:=ds })
  {Bd:Nat->Prop}(law:∀as m,BM τs as->fy as<=m->Bd m->aB X f as (· = .bool true))
  (W:World) (hX:@eC ⟨fun g=>W.heap[g]?⟩ P X) (hF:@mP ⟨fun g=>W.heap[g]?⟩ P X) (base:Nat) (args:Array Value) (ds gs:List (DataW H)) (before:List MemPlace)
  (hval:∀(j:Nat) t v,fn.params[j]? = some t->args[j]? = some v->Value.okWide P W .any base t v)
  (hW:DataW.Whole enc P fn.params.toList s.vars apart W args.toList ds gs before) (hbd:Bd (bA ds)) :
  Calls P f args W fun e W'=> ∃v,e = .returned v/\s.post enc P fn apart fresh NU false W args v W':=by
 have TZ:=hW;have Ja:∀p∈before,p.block<W.heap.size:=fun p hp=>hW.lt p hp;obtain⟨p,q,hA,hV,hpq,RU,hnd⟩:=hW;rw[N5]at hV;obtain⟨rfl,rfl⟩:=trodVars_none hV;rw[UM]at hpq;subst hpq;obtain⟨as,k1,k2,k3⟩:=Be hB hτ (fun j t v h1 h2=>hval j t v (by simpa using h1) (by simpa using h2)) hA
 have LU:ds.length=fn.params.toList.length:=by
  have go:∀{ts:List TypeId}{vs:List Value}{ds:List (DataW H)}{ps:List MemPlace},DataW.TrodAll enc P W 0 (fun _=>true) true ts vs ds ps->ds.length=ts.length:=by
   intro ts
   induction ts with
   | nil=>intro vs ds ps h;obtain⟨_,rfl,_⟩:=trodAll_nil h;rfl
   | cons t ts ih=>
    intro vs ds ps h;obtain⟨v,vs,d,ds,p,q,rfl,rfl,rfl,h1,h2⟩:=trodAll_cons h;simp[ih h2]
  exact go hA
 refine(@tR P X ⟨fun g=>W.heap[g]?⟩ hX hF W (fun _ _ h=>h) _ _ _ k2 (law as _ k1 k3 hbd)).mono fun e W' ⟨he,hb⟩=>⟨_,he,ds,[],before,[],before,[],TZ,?_,?_,?_,hb.frame _,fun h=>by cases h⟩
 .rw[UM,hs ds LU,LL];exact trodAll_cons_mk (shut_bool htb _) trodAll_mk0
 .rw[UM,hs ds LU];refine qD hl hb (fun t ht=>?_) hA Ja (fun x hx=>by simpa using Ja x hx);have:=Vb.1 So t ht;simpa using this
 .rw[N5,UM,hs ds LU];rfl
end
end Go.Eng
