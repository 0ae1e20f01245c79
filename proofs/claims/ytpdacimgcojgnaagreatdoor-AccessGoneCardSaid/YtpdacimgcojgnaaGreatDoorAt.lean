/- consent.At as a primitive: the kind of the last consent that counts. -/
import Derived.Test.YtpdacimgcojgnaaGreatDoorEngU
set_option linter.all false
namespace Go.Eng
variable [Known]
open Go.RowKit

structure Con where
 person:Int
 rc:Int
 day:Int
 kind:Int
def encCn (c:Con):List AV:=[.int .i64 c.person,.int .i64 c.rc,.int .i64 c.day,.int .i64 c.kind]
def isCn (p r:Int) (c:Con):Bool:=(c.person == p) && ((c.rc == 0) || (c.rc == r))
def hitC (p r d:Int) (c:Con):Bool:=isCn p r c && decide (c.day≤d)
def atF (cs:List Con) (p r d:Int):Int:=cs.foldl (fun out c=>if hitC p r d c=true then c.kind else out) 0
omit [Known] in
theorem atF_snoc (cs:List Con) (c:Con) (p r d:Int):atF (cs++[c]) p r d=if hitC p r d c=true then c.kind else atF cs p r d:=by simp [atF,List.foldl_append]
def fstC (d:Int):List Con→Int
 | []=>0
 | c::l=>if c.day≤d then c.kind else fstC d l
omit [Known] in
theorem fstC_app (d:Int) (b:List Con):∀ a:List Con,fstC d (a++b)=if (a.any fun c=>decide (c.day≤d))=true then fstC d a else fstC d b
 | []=>rfl
 | c::a=>by
  rw [List.cons_append,fstC,fstC_app d b a,List.any_cons,fstC]
  by_cases h:c.day≤d
  ·simp [h]
  ·simp [h]
omit [Known] in
theorem fstC_none (d:Int):∀ a:List Con,(∀ c∈a,d<c.day)→fstC d a=0
 | [],_=>rfl
 | c::a,h=>by
  have:=h c (by simp)
  rw [fstC,if_neg (by omega)]
  exact fstC_none d a fun x hx=>h x (by simp [hx])
omit [Known] in
theorem atF_eq (p r d:Int):∀ (n:Nat) (cs:List Con),cs.length=n→fstC d (cs.reverse.filter (isCn p r))=atF cs p r d
 | 0,cs,h=>by rw [List.eq_nil_of_length_eq_zero h];rfl
 | n+1,cs,h=>by
  obtain⟨a,c,rfl⟩:∃ a c,cs=a++[c]:=by
   refine⟨cs.dropLast,cs.getLast (by intro e;rw [e] at h;simp at h),(List.dropLast_concat_getLast _).symm⟩
  have ih:=atF_eq p r d n a (by simpa using h)
  rw [atF_snoc,List.reverse_append,List.reverse_singleton,List.singleton_append,List.filter_cons,hitC]
  cases h1:isCn p r c with
  | false=>simpa using ih
  | true=>
   simp only [if_true,fstC,Bool.true_and,decide_eq_true_eq]
   by_cases h2:c.day≤d
   ·rw [if_pos h2,if_pos h2]
   ·rw [if_neg h2,if_neg h2];exact ih

def conOf:List AV→Option Con
 | [.int .i64 a,.int .i64 b,.int .i64 c,.int .i64 d]=>some ⟨a,b,c,d⟩
 | _=>none
def consOf:List (List AV)→Option (List Con)
 | []=>some []
 | r::rs=>match conOf r with
  | some c=>match consOf rs with
   | some cs=>some (c::cs)
   | none=>none
  | none=>none
omit [Known] in
theorem conOf_eq {r:List AV}{c:Con}(h:conOf r=some c):r=encCn c:=by
 unfold conOf at h
 split at h
 ·injection h with h;subst h;rfl
 ·cases h
omit [Known] in
theorem consOf_eq:∀ {rows:List (List AV)}{cs:List Con},consOf rows=some cs→rows=cs.map encCn
 | [],cs,h=>by simp [consOf] at h;subst h;rfl
 | r::rs,cs,h=>by
  rw [consOf] at h
  split at h
  ·rename_i c e1
   split at h
   ·rename_i cs' e2
    injection h with h;subst h
    rw [conOf_eq e1,consOf_eq e2];rfl
   ·cases h
  ·cases h
omit [Known] in
theorem consOf_map:∀ cs:List Con,consOf (cs.map encCn)=some cs
 | []=>rfl
 | c::cs=>by
  rw [List.map_cons,consOf]
  have:conOf (encCn c)=some c:=rfl
  rw [this,consOf_map cs]

def consAV:AV→Option (List Con)
 | .tsl _ 4 rows=>consOf rows
 | .flat (.slice none 0 0)=>some []
 | _=>none

def primAt (args:List AV) (S:Store):Option (AV×Store) :=
 match args with
 | [x,.int .i64 p,.int .i64 r,.int .i64 d]=>match consAV x with
  | some cs=>if cs.length≤1000000 then some (.int .i64 (atF cs p r d),S) else none
  | none=>none
 | _=>none

def ConsIn (n₀:Nat) (W:World) (sv:Value) (cs:List Con):Prop :=
 (∃ ao cap,sv = .slice ao 0 cap∧cs = [])∨∃ b off cap,sv = .slice (some ⟨b,off,none⟩) cs.length cap∧b<n₀∧∀ j c,cs[j]? = some c →
  W.cell? ⟨b,off+j*4,none⟩=some (.int .i64 c.person)∧W.cell? ⟨b,off+j*4+1,none⟩=some (.int .i64 c.rc)∧W.cell? ⟨b,off+j*4+2,none⟩=some (.int .i64 c.day)∧W.cell? ⟨b,off+j*4+3,none⟩=some (.int .i64 c.kind)

theorem primAt_sound {P:Program}{f:FuncId}{fn:Func}(hf:P.funcs[f]? = some fn) (hnm:(fn.name == "runtime.NumGoroutine")=false) (hb:fn.body.isNone=false)
  (hc:∀ (sv:Value) (cs:List Con) (p r d:Int),cs.length≤1000000→∀ w:World,ConsIn w.heap.size w sv cs →
   Calls P f #[sv,.int .i64 p,.int .i64 r,.int .i64 d] w fun e W'=>e = .returned (.int .i64 (atF cs p r d))∧Below w.heap.size w W') :
  PrimSound P f primAt:=by
 refine⟨⟨fn,hf,hnm,hb⟩,?_⟩
 intro args S rr S' hp base T B I w vs hrel hargs
 unfold primAt at hp
 split at hp
 ·rename_i x p r d
  split at hp
  ·rename_i cs el
   split at hp
   ·rename_i hlen
    simp only [listRep,vrep] at hargs
    obtain⟨u,_,rfl,hu,_,_,rfl,rfl,_,_,rfl,rfl,_,_,rfl,rfl,rfl⟩:=hargs
    have hI:ConsIn w.heap.size w u cs:=by
     unfold consAV at el
     split at el
     ·rename_i st rows
      have er:=consOf_eq el
      simp only [vrep] at hu
      obtain⟨ao,cap,rfl,_,_,h4,h5⟩:=hu
      cases cs with
      | nil=>subst er;exact .inl ⟨ao,cap,rfl,rfl⟩
      | cons c cs=>
       obtain⟨g',off',rfl,hpk',hrr⟩:=h5 (by rw [er];simp)
       refine .inr ⟨g',off',cap,by rw [er];simp,?_,?_⟩
       ·exact hrel.Blt _ (pick_sub (st:=st) hrel.TB _ hpk')
       ·intro j c' hj
        obtain⟨_,hcj⟩:=zb4.1 hrr j (encCn c') (by rw [er,List.getElem?_map,hj];rfl)
        simp only [encCn,cellsRep,vrep] at hcj
        obtain⟨⟨u1,k1,_,rfl⟩,⟨u2,k2,_,rfl⟩,⟨u3,k3,_,rfl⟩,⟨u4,k4,_,rfl⟩,_⟩:=hcj
        exact⟨k1,k2,k3,k4⟩
     ·injection el with el;subst el
      simp only [vrep] at hu;subst hu
      exact .inl ⟨none,0,rfl,rfl⟩
     ·cases el
    injection hp with hp;injection hp with q1 q2;subst q1 q2
    have hc':=hc u cs p r d hlen w hI
    refine hc'.mono ?_
    rintro e W' ⟨rfl,hbel⟩
    have hr1:Rel base T B I (sig S) W':=hrel.quiet hbel (fun _ h=>h) (fun _ h=>h) hrel.TB (fun _ h=> .inl h)
    have hs1:Step base T B I w T B I W':=Step.quiet hrel hbel (fun _ h=>h) (fun _ h=>h) (fun _ h=> .inl h) (fun _ h=> .inl h)
    exact⟨_,T,B,I,rfl,hs1,hr1,by simp only [vrep]⟩
   ·cases hp
  ·cases hp
 ·cases hp
end Go.Eng
