/- The run's own blocks, and the operations that read them or make one. -/
import Derived.Test.YtpdacimgcojgnaaGreatDoorEngE
import Derived.Laws.IdiomStrings
import Derived.Laws.BytesString
set_option linter.all false
namespace Go.Eng
open Go.RowKit

abbrev Sig:=Nat→Option Blk

class Known where
 blk:Nat→Option Obj

structure Rel [Known] (base:Nat) (T B:Area) (I:Inj) (S:Sig) (w:World):Prop where
 base_le:base≤w.heap.size
 TB:∀ g,T g→B g
 Blt:∀ g,B g→g<w.heap.size
 own:∀ b e g gs,I b e=some (g,gs)→base≤g∧¬B g∧∃ c ty,w.heap[g]? = some (.cells c ty (0,0))∧c.size=gs
 excl:∀ b e b' e' g gs gs',I b e=some (g,gs)→I b' e'=some (g,gs')→b=b'
 blk:∀ b e g gs,I b e=some (g,gs)→∃ rows sz wep pr,S b=some (.arr rows sz wep pr)∧e≤rows.length∧e*sz≤gs ∧
  (wep≤e→rowsRep w (rows.take e) T (if pr then T else B) (if pr then noInj else I) g 0 sz)
 known:∀ g o,Known.blk g=some o→B g∧w.heap[g]? = some o

structure Step (base:Nat) (T B:Area) (I:Inj) (w:World) (T' B':Area) (I':Inj) (w':World):Prop where
 mono:Mono w T B I w' T' B' I'
 below:Below base w w'
 newT:∀ g,T' g→T g∨w.heap.size≤g
 newB:∀ g,B' g→B g∨w.heap.size≤g

section
variable [Known] {base:Nat}{T B:Area}{I:Inj}{S:Sig}{w w':World}

omit [Known] in
theorem Step.refl:Step base T B I w T B I w:=⟨⟨fun _ h=>h,fun _ h=>h,fun _ _ _ h=>h,fun _ _=>rfl⟩,Below.refl _ _,fun _ h=> .inl h,fun _ h=> .inl h⟩

omit [Known] in
theorem Step.trans {T1 B1 T2 B2:Area}{I1 I2:Inj}{w1 w2:World}(h:Step base T B I w T1 B1 I1 w1) (k:Step base T1 B1 I1 w1 T2 B2 I2 w2):Step base T B I w T2 B2 I2 w2:=by
 have hs:=h.below.size
 refine⟨⟨fun g hg=>k.mono.tT g (h.mono.tT g hg),fun g hg=>k.mono.tB g (h.mono.tB g hg),fun b e p hp=>k.mono.tI b e p (h.mono.tI b e p hp),fun g hg=>(k.mono.tw g (h.mono.tB g hg)).trans (h.mono.tw g hg)⟩,h.below.trans k.below,?_,?_⟩
 ·intro g hg
  rcases k.newT g hg with h1|h1
  ·exact h.newT g h1
  ·exact .inr (Nat.le_trans hs h1)
 ·intro g hg
  rcases k.newB g hg with h1|h1
  ·exact h.newB g h1
  ·exact .inr (Nat.le_trans hs h1)

omit [Known] in
theorem mono_pr {w w':World}{T B T' B':Area}{I I':Inj}(pr:Bool) (m:Mono w T B I w' T' B' I') (hTB:∀ g,T g→B g) :
  Mono w T (if pr then T else B) (if pr then noInj else I) w' T' (if pr then T' else B') (if pr then noInj else I'):=by
 cases pr
 ·exact m
 ·exact⟨m.tT,m.tT,fun _ _ _ h=>h,fun g hg=>m.tw g (hTB g hg)⟩

omit [Known] in
theorem TB_pr {T B:Area}(pr:Bool) (hTB:∀ g,T g→B g):∀ g,T g→(if pr then T else B) g:=by
 cases pr
 ·exact hTB
 ·exact fun _ h=>h

omit [Known] in
theorem cell?_heap {w w':World}(hw:w'.heap=w.heap) (a:Addr):w'.cell? a=w.cell? a:=by simp [World.cell?,hw]

theorem Rel.heap (h:Rel base T B I S w) (hw:w'.heap=w.heap):Rel base T B I S w':=by
 refine⟨by rw [hw];exact h.base_le,h.TB,fun g hg=>by rw [hw];exact h.Blt g hg,fun b e g gs hi=>by rw [hw];exact h.own b e g gs hi,h.excl,fun b e g gs hi=>?_,fun g o k=>by rw [hw];exact h.known g o k⟩
 obtain⟨rows,sz,wep,pr,h1,h2,h3,h5⟩:=h.blk b e g gs hi
 refine⟨rows,sz,wep,pr,h1,h2,h3,fun hw'=>zbX _ (mono_pr pr ⟨fun _ h=>h,fun _ h=>h,fun _ _ _ h=>h,fun g _=>by rw [hw]⟩ h.TB) (TB_pr pr h.TB) (fun o=>cell?_heap hw _) (h5 hw')⟩

theorem Rel.view {S':Sig}(h:Rel base T B I S w) (hS:∀ b e p,I b e=some p→S' b=S b):Rel base T B I S' w :=
 ⟨h.base_le,h.TB,h.Blt,h.own,h.excl,fun b e g gs hi=>by rw [hS b e _ hi];exact h.blk b e g gs hi,h.known⟩

theorem Rel.quiet {T' B':Area}(h:Rel base T B I S w) (hb:Below w.heap.size w w') (hT:∀ g,T g→T' g) (hB:∀ g,B g→B' g) (nT:∀ g,T' g→B' g) (nB:∀ g,B' g→B g∨(w.heap.size≤g∧g<w'.heap.size)) :
  Rel base T' B' I S w':=by
 have hlt:∀ b e g gs,I b e=some (g,gs)→g<w.heap.size:=fun b e g gs hi=>by
  obtain⟨_,_,c,ty,hc,_⟩:=h.own b e g gs hi
  rcases Nat.lt_or_ge g w.heap.size with h1|h1
  ·exact h1
  ·rw [Array.getElem?_eq_none h1] at hc;cases hc
 refine⟨Nat.le_trans h.base_le hb.size,nT,fun g hg=>?_,fun b e g gs hi=>?_,h.excl,fun b e g gs hi=>?_,fun g o k=>⟨hB g (h.known g o k).1,by rw [hb.block g (h.Blt g (h.known g o k).1)];exact (h.known g o k).2⟩⟩
 ·rcases nB g hg with h1|h1
  ·exact Nat.lt_of_lt_of_le (h.Blt g h1) hb.size
  ·exact h1.2
 ·obtain⟨h1,h2,c,ty,hc,hs⟩:=h.own b e g gs hi
  refine⟨h1,fun hg=>?_,c,ty,by rw [hb.block g (hlt b e g gs hi)];exact hc,hs⟩
  rcases nB g hg with h3|h3
  ·exact h2 h3
  ·have:=hlt b e g gs hi;omega
 ·obtain⟨rows,sz,wep,pr,h1,h2,h3,h5⟩:=h.blk b e g gs hi
  refine⟨rows,sz,wep,pr,h1,h2,h3,fun hw'=>?_⟩
  exact zbX _ (mono_pr pr ⟨hT,hB,fun _ _ _ h=>h,fun g hg=>hb.block g (h.Blt g hg)⟩ h.TB) (TB_pr pr h.TB) (fun o=>cell?_of_heap (hb.block g (hlt b e g gs hi))) (h5 hw')

theorem Rel.lt (h:Rel base T B I S w){b e g gs:Nat}(hi:I b e=some (g,gs)):g<w.heap.size:=by
 obtain⟨_,_,c,ty,hc,_⟩:=h.own b e g gs hi
 rcases Nat.lt_or_ge g w.heap.size with h1|h1
 ·exact h1
 ·rw [Array.getElem?_eq_none h1] at hc;cases hc

def Inj.put (I:Inj) (b e g gs:Nat):Inj:=fun b' e'=>if b'=b∧e'=e then some (g,gs) else I b' e'

omit [Known] in
theorem Inj.put_self {I:Inj}{b e g gs:Nat}:Inj.put I b e g gs b e=some (g,gs):=by simp [Inj.put]

omit [Known] in
theorem Inj.put_old {I:Inj}{b e g gs:Nat}(hn:I b e=none):∀ b' e' p,I b' e'=some p→Inj.put I b e g gs b' e'=some p:=by
 intro b' e' p h
 unfold Inj.put
 split
 ·rename_i hc;obtain⟨rfl,rfl⟩:=hc;rw [hn] at h;cases h
 ·exact h

theorem Rel.newBlk (h:Rel base T B I S w){b g:Nat}{rows:List (List AV)}{sz:Nat}{pr:Bool}{c:Array Value}{ty:TypeId}(hfresh:∀ e,I b e=none) (hS:S b=some (.arr rows sz 0 pr))
  (hg:base≤g) (hnB:¬B g) (hown:∀ b e gs,I b e≠some (g,gs)) (hc:w.heap[g]? = some (.cells c ty (0,0))) (hsz:rows.length*sz≤c.size) (hrows:rowsRep w rows T (if pr then T else B) (if pr then noInj else I) g 0 sz) :
  Rel base T B (Inj.put I b rows.length g c.size) S w:=by
 have hm:Mono w T B I w T B (Inj.put I b rows.length g c.size):=⟨fun _ h=>h,fun _ h=>h,Inj.put_old (hfresh _),fun _ _=>rfl⟩
 have up:∀ {rs:List (List AV)}{pr:Bool}{g0 sz:Nat},rowsRep w rs T (if pr then T else B) (if pr then noInj else I) g0 0 sz→rowsRep w rs T (if pr then T else B) (if pr then noInj else Inj.put I b rows.length g c.size) g0 0 sz:=fun {rs pr g0 sz} hr=>
  zbX rs (mono_pr pr hm h.TB) (TB_pr pr h.TB) (fun _=>rfl) hr
 refine⟨h.base_le,h.TB,h.Blt,fun b' e' g' gs' hi=>?_,fun b1 e1 b2 e2 g' s1 s2 h1 h2=>?_,fun b' e' g' gs' hi=>?_,h.known⟩
 ·unfold Inj.put at hi
  split at hi
  ·injection hi with hi;injection hi with q1 q2;subst q1 q2
   exact⟨hg,hnB,c,ty,hc,rfl⟩
  ·exact h.own _ _ _ _ hi
 ·unfold Inj.put at h1 h2
  split at h1<;>split at h2
  ·rename_i c1 c2;rw [c1.1,c2.1]
  ·injection h1 with h1;injection h1 with q1 _;subst q1
   exact absurd h2 (hown _ _ _)
  ·injection h2 with h2;injection h2 with q1 _;subst q1
   exact absurd h1 (hown _ _ _)
  ·exact h.excl _ _ _ _ _ _ _ h1 h2
 ·unfold Inj.put at hi
  split at hi
  ·rename_i hc'
   obtain⟨rfl,rfl⟩:=hc'
   injection hi with hi;injection hi with q1 q2;subst q1 q2
   exact⟨rows,sz,0,pr,hS,Nat.le_refl _,hsz,fun _=>by rw [List.take_length];exact up hrows⟩
  ·obtain⟨rows',sz',wep',pr',k1,k2,k3,k5⟩:=h.blk _ _ _ _ hi
   exact⟨rows',sz',wep',pr',k1,k2,k3,fun hw=>up (k5 hw)⟩

omit [Known] in
theorem heap_alloc_ne (o:Obj) (g:Nat) (h:g<w.heap.size):(w.alloc o).heap[g]? = w.heap[g]? := Below.heap_alloc w o g h

theorem Rel.alloc (h:Rel base T B I S w) (o:Obj):Rel base T B I S (w.alloc o) :=
 h.quiet ((Below.refl _ w).alloc (Nat.le_refl _) o) (fun _ h=>h) (fun _ h=>h) h.TB (fun _ h=> .inl h)

theorem Step.quiet {T' B':Area}(h:Rel base T B I S w) (hb:Below w.heap.size w w') (hT:∀ g,T g→T' g) (hB:∀ g,B g→B' g) (nT:∀ g,T' g→T g∨w.heap.size≤g) (nB:∀ g,B' g→B g∨w.heap.size≤g):Step base T B I w T' B' I w' :=
 ⟨⟨hT,hB,fun _ _ _ h=>h,fun g hg=>hb.block g (h.Blt g hg)⟩,hb.mono h.base_le,nT,nB⟩

omit [Known] in
theorem Step.inj {b e g gs:Nat}(hn:I b e=none):Step base T B I w T B (Inj.put I b e g gs) w :=
 ⟨⟨fun _ h=>h,fun _ h=>h,Inj.put_old hn,fun _ _=>rfl⟩,Below.refl _ _,fun _ h=> .inl h,fun _ h=> .inl h⟩

theorem Rel.made (h:Rel base T B I S w){b:Nat}{rows:List (List AV)}{sz:Nat}{pr:Bool}{c:Array Value}{us:List Value}(ty:TypeId) (hfresh:∀ e,I b e=none) (hS:S b=some (.arr rows sz 0 pr))
  (hl:∀ r∈rows,r.length=sz) (hus:listRep w rows.flatten T (if pr then T else B) (if pr then noInj else I) us) (h1:∀ u∈us,u.oneCell'=true) (hc:c.toList.take us.length=us) :
  Rel base T B (Inj.put I b rows.length w.heap.size c.size) S (w.alloc (.cells c ty))∧Step base T B I w T B (Inj.put I b rows.length w.heap.size c.size) (w.alloc (.cells c ty)):=by
 have hA:=h.alloc (.cells c ty)
 have hnew:=heap_alloc_new w (.cells c ty)
 have hmono:Mono w T B I (w.alloc (.cells c ty)) T B I:=⟨fun _ h=>h,fun _ h=>h,fun _ _ _ h=>h,fun g hg=>heap_alloc_ne _ _ (h.Blt g hg)⟩
 have hmono':=mono_pr pr hmono h.TB
 have hlen:us.length=rows.length*sz:=by rw [zbW hus,zco hl]
 have hle:us.length≤c.size:=by
  have:(c.toList.take us.length).length=us.length:=by rw [hc]
  simp at this;omega
 refine⟨hA.newBlk hfresh hS h.base_le (fun hB=>absurd (h.Blt _ hB) (Nat.lt_irrefl _)) (fun b e gs hi=>absurd (h.lt hi) (Nat.lt_irrefl _)) hnew (by omega) ?_,?_⟩
 ·rw [zb4]
  refine⟨hl,zcj (zbT _ hmono' (TB_pr pr h.TB) hus) h1 fun j u hj=>?_⟩
  rw [cell_of_row _ _ _ _ _ _ hnew,Nat.zero_add]
  rw [←hc,List.getElem?_take] at hj
  split at hj
  ·simpa using hj
  ·cases hj
 ·exact (Step.quiet h ((Below.refl _ w).alloc (Nat.le_refl _) _) (fun _ h=>h) (fun _ h=>h) (fun _ h=> .inl h) (fun _ h=> .inl h)).trans (Step.inj (hfresh _))
end
end Go.Eng
