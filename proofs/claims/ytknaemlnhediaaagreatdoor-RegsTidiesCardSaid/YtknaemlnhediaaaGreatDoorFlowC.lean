/- Regions that draw their order and hold one call that makes memory, and a store of its result behind it: laws. No condition. Rows of records: a list of records in a block, one field changed, lists that a call has laid itself. No condition. -/
import Derived.Test.YtknaemlnhediaaaGreatDoorFlow
import Derived.Test.YtknaemlnhediaaaGreatDoorRgD
import Derived.OwnWalk
namespace Go.Proofs.YtknaemlnhediaaaGreatDoor.c
open Go.RowKit
set_option linter.unusedVariables false
set_option linter.unusedSimpArgs false
theorem put_ne (b:Act) {k t:Nat} (v:Value) (h:k ≠ t):(b.put (some k) v).tmps[t]?=b.tmps[t]?:=by
 show (b.tmps.setIfInBounds k v)[t]?=_
 rw [Array.getElem?_setIfInBounds,if_neg h]
theorem put_get (b:Act) {k n:Nat} (v:Value) (h:k < n) (hn:n=b.tmps.size):(b.put (some k) v).tmps[k]?=some v:=by
 show (b.tmps.setIfInBounds k v)[k]?=_
 rw [Array.getElem?_setIfInBounds,if_pos rfl,if_pos (by omega)]
section
variable {P:Program} {ops:Array Oper} {Q:Exit → Act → World → Prop} {md:Region.Mode} {F:Array Bool → Act → World → Prop}
def F1 (p:World → Prop) (c s t:Nat) (R1 R3:World → Prop) (R2:Value → World → Prop) (l:Array Bool) (b:Act) (w:World):Prop :=
 p w∧(if l.getD s false=true then R3 w else if l.getD c false=true then ∃ v,b.tmps[t]?=some v∧R2 v w else R1 w)
theorem F1.same {p:World → Prop} {c s t:Nat} {R1 R3:World → Prop} {R2:Value → World → Prop} {i k:Nat} (h1:i ≠ c) (h2:i ≠ s) (h3:k ≠ t) (v:Value) (l:Array Bool) (b:Act) (w:World) :
  F1 p c s t R1 R3 R2 (l.setIfInBounds i true) (b.put (some k) v) w ↔ F1 p c s t R1 R3 R2 l b w:=by
 unfold F1
 rw [getD_set_ne false h2,getD_set_ne false h1,put_ne b v h3]
section
variable {p:World → Prop} {c s t:Nat} {R1 R3:World → Prop} {R2:Value → World → Prop} {l:Array Bool} {b:Act} {w:World}
theorem F1.mk1 (hs:l.getD s false=false) (hc:l.getD c false=false) (hp:p w) (h:R1 w):F1 p c s t R1 R3 R2 l b w:=⟨hp,by rw [hs,hc]; exact h⟩
theorem F1.mk2 {v:Value} (hs:l.getD s false=false) (hc:l.getD c false=true) (hv:b.tmps[t]?=some v) (hp:p w) (h:R2 v w):F1 p c s t R1 R3 R2 l b w:=⟨hp,by rw [hs,hc]; exact ⟨v,hv,h⟩⟩
theorem F1.mk3 (hs:l.getD s false=true) (hp:p w) (h:R3 w):F1 p c s t R1 R3 R2 l b w:=⟨hp,by rw [hs]; exact h⟩
theorem F1.get1 (h:F1 p c s t R1 R3 R2 l b w) (hs:l.getD s false=false) (hc:l.getD c false=false):p w∧R1 w:=by
 have h2:=h.2
 rw [hs,hc] at h2
 exact ⟨h.1,h2⟩
theorem F1.get2 {v:Value} (h:F1 p c s t R1 R3 R2 l b w) (hs:l.getD s false=false) (hc:l.getD c false=true) (hv:b.tmps[t]?=some v):p w∧R2 v w:=by
 have h2:=h.2
 rw [hs,hc] at h2
 obtain ⟨v',h3,h4⟩:=(show ∃ v,b.tmps[t]?=some v∧R2 v w from h2)
 rw [hv] at h3
 cases h3
 exact ⟨h.1,h4⟩
theorem F1.get3 (h:F1 p c s t R1 R3 R2 l b w) (hs:l.getD s false=true):p w∧R3 w:=by
 have h2:=h.2
 rw [hs] at h2
 exact ⟨h.1,h2⟩
end
theorem step_callV {i t fuel:Nat} {oi:Oper} {listed:Array Bool} {a:Act} (hi:ops[i]?=some oi) (hd:oi.dst=some t) (hw:Region.wanted oi (yielded ops a.tmps)=true) (K:Nat) (args:Array Value)
  (hv:∀ w,F listed a w → (execOp a.eval oi).run P w=.ok (.enter K args) w) (hc:∀ w,F listed a w → Calls P K args w (fun e w'=>∃ v,e=.returned v∧F (listed.setIfInBounds i true) (a.put (some t) v) w'))
  (h:∀ v,wpAnyU P md ops Q F fuel (listed.setIfInBounds i true) (a.put (some t) v)):StepF P md ops Q F fuel i listed a:=by
 intro w hF
 unfold wpOp
 simp only [hi,hw,if_true,Oper.wp,hv w hF,Oper.upon,hd]
 refine .inl (Calls.mono (hc w hF) fun e w' he=>?_)
 obtain ⟨v,rfl,h2⟩:=he
 exact ⟨h2,h v⟩
theorem step_putV {i fuel:Nat} {oi:Oper} {listed:Array Bool} {a:Act} (hi:ops[i]?=some oi) (di:oi.dst=none) (hw:Region.wanted oi (yielded ops a.tmps)=true)
  (hv:∀ w,F listed a w → ∃ r w',(execOp a.eval oi).run P w=.ok r w'∧(r=.value undef ∨ r=.skip)∧F (listed.setIfInBounds i true) a w')
  (h:wpAnyU P md ops Q F fuel (listed.setIfInBounds i true) a):StepF P md ops Q F fuel i listed a:=by
 intro w hF
 obtain ⟨r,w',hr,hrr,h2⟩:=hv w hF
 unfold wpOp
 simp only [hi]
 rcases hrr with rfl | rfl
 ·simp only [hw,if_true,Oper.wp,hr,Oper.upon,di]
  exact .inl ⟨h2,h⟩
 ·simp only [hw,if_true,Oper.wp,hr,Oper.upon,di]
  exact .inl ⟨h2,h⟩
theorem put_comm (a:Act) {t u:Nat} (h:t ≠ u) (v x:Value):(a.put (some t) v).put (some u) x=(a.put (some u) x).put (some t) v:=by
 show Act.mk ((a.tmps.setIfInBounds t v).setIfInBounds u x) a.defers=Act.mk ((a.tmps.setIfInBounds u x).setIfInBounds t v) a.defers
 rw [Array.setIfInBounds_comm _ _ h]
theorem flow2_allocs {i k t u fuel:Nat} {oi ok:Oper} {ob pb:Obj} {listed:Array Bool} {a:Act} (hr:Region.ready md ops listed=[i,k]) (hr1:Region.ready md ops (listed.setIfInBounds i true)=[k]) (hr2:Region.ready md ops (listed.setIfInBounds k true)=[i]) (hik:i ≠ k) (htu:t ≠ u)
  (hi:ops[i]?=some oi) (hd:oi.dst=some t) (hw:Region.wanted oi (yielded ops a.tmps)=true) (hw2:∀ g,Region.wanted oi (yielded ops (a.put (some u) (.pointer (some ⟨g,0,none⟩))).tmps)=true)
  (hk:ops[k]?=some ok) (hdk:ok.dst=some u) (hwk:Region.wanted ok (yielded ops a.tmps)=true) (hwk2:∀ g,Region.wanted ok (yielded ops (a.put (some t) (.pointer (some ⟨g,0,none⟩))).tmps)=true)
  (hv:∀ b w,(execOp (Act.eval b) oi).run P w=.ok (.value (.pointer (some ⟨w.heap.size,0,none⟩))) (w.alloc ob)) (hvk:∀ b w,(execOp (Act.eval b) ok).run P w=.ok (.value (.pointer (some ⟨w.heap.size,0,none⟩))) (w.alloc pb))
  (hF1:∀ w,F listed a w → F (listed.setIfInBounds i true) (a.put (some t) (.pointer (some ⟨w.heap.size,0,none⟩))) (w.alloc ob))
  (hF2:∀ g w,F (listed.setIfInBounds i true) (a.put (some t) (.pointer (some ⟨g,0,none⟩))) w → F ((listed.setIfInBounds i true).setIfInBounds k true) ((a.put (some t) (.pointer (some ⟨g,0,none⟩))).put (some u) (.pointer (some ⟨w.heap.size,0,none⟩))) (w.alloc pb))
  (hG1:∀ w,F listed a w → F (listed.setIfInBounds k true) (a.put (some u) (.pointer (some ⟨w.heap.size,0,none⟩))) (w.alloc pb))
  (hG2:∀ g w,F (listed.setIfInBounds k true) (a.put (some u) (.pointer (some ⟨g,0,none⟩))) w → F ((listed.setIfInBounds k true).setIfInBounds i true) ((a.put (some u) (.pointer (some ⟨g,0,none⟩))).put (some t) (.pointer (some ⟨w.heap.size,0,none⟩))) (w.alloc ob))
  (h:∀ g g':Nat,wpAnyU P md ops Q F fuel ((listed.setIfInBounds i true).setIfInBounds k true) ((a.put (some t) (.pointer (some ⟨g,0,none⟩))).put (some u) (.pointer (some ⟨g',0,none⟩)))):wpAnyU P md ops Q F (fuel + 2) listed a:=by
 refine flow2_two hr ?_ ?_
 ·exact step_alloc hi hd hw (fun w _=>hv a w) hF1 fun g=>flow2_one hr1 (step_alloc hk hdk (hwk2 g) (fun w _=>hvk _ w) (hF2 g) fun g'=>h g g')
 ·refine step_alloc hk hdk hwk (fun w _=>hvk a w) hG1 fun g=>flow2_one hr2 (step_alloc hi hd (hw2 g) (fun w _=>hv _ w) (fun w hF=>hG2 g w hF) fun g'=>?_)
  ·rw [Array.setIfInBounds_comm _ _ (Ne.symm hik),put_comm _ (Ne.symm htu)]
   exact h g' g
end
def A2 (w0:World) (ty:TypeId) (Z X Y:Array Value) (i k s r t u:Nat) (l:Array Bool) (b:Act) (w:World):Prop :=
 Ext w0 w∧(l.getD i false=true → ∃ g,b.tmps[t]?=some (.pointer (some ⟨g,0,none⟩))∧w0.heap.size ≤ g∧Blk w g ty (if l.getD s false=true then X else Z)) ∧
  (l.getD k false=true → ∃ g,b.tmps[u]?=some (.pointer (some ⟨g,0,none⟩))∧w0.heap.size ≤ g∧Blk w g ty (if l.getD r false=true then Y else Z)) ∧
  (l.getD i false=true → l.getD k false=true → b.tmps[t]? ≠ b.tmps[u]?)
section
variable {w0:World} {ty:TypeId} {Z X Y:Array Value} {i k s r t u:Nat} {l:Array Bool} {b:Act} {w:World}
theorem A2.same {j q:Nat} (h1:j ≠ i) (h2:j ≠ k) (h3:j ≠ s) (h4:j ≠ r) (h5:q ≠ t) (h6:q ≠ u) (v:Value) (l:Array Bool) (b:Act) (w:World):A2 w0 ty Z X Y i k s r t u (l.setIfInBounds j true) (b.put (some q) v) w ↔ A2 w0 ty Z X Y i k s r t u l b w:=by
 unfold A2
 rw [getD_set_ne false h1,getD_set_ne false h2,getD_set_ne false h3,getD_set_ne false h4,put_ne b v h5,put_ne b v h6]
theorem getD_set_eq {l:Array Bool} {j:Nat} (h:j < l.size):(l.setIfInBounds j true).getD j false=true:=by simp [Array.getD,h]
theorem A2.start (h:Ext w0 w) (h1:l.getD i false=false) (h2:l.getD k false=false):A2 w0 ty Z X Y i k s r t u l b w:=⟨h,fun e=>(by rw [h1] at e; cases e),fun e=>(by rw [h2] at e; cases e),fun e=>(by rw [h1] at e; cases e)⟩
theorem A2.one (h:A2 w0 ty Z X Y i k s r t u l b w) (hi:l.getD i false=false) (hs:l.getD s false=false) (hik:i ≠ k) (his:i ≠ s) (hir:i ≠ r) (htu:t ≠ u) {n:Nat} (ht:t < n) (hn:n=b.tmps.size) :
  A2 w0 ty Z X Y i k s r t u (l.setIfInBounds i true) (b.put (some t) (.pointer (some ⟨w.heap.size,0,none⟩))) (w.alloc (.cells Z ty)):=by
 obtain ⟨h1,_,h3,_⟩:=h
 unfold A2
 rw [getD_set_ne false hik,getD_set_ne false his,getD_set_ne false hir,put_ne b _ htu,put_get b _ ht hn,hs]
 refine ⟨h1.alloc _,fun _=>⟨_,rfl,h1.size,Blk.new _ _ _⟩,fun e=>?_,fun _ e=>?_⟩
 ·obtain ⟨g,a1,a2,a3⟩:=h3 e
  exact ⟨g,a1,a2,a3.alloc _⟩
 ·obtain ⟨g,a1,a2,a3⟩:=h3 e
  rw [a1]
  intro e2
  cases e2
  exact absurd a3.lt (Nat.lt_irrefl _)
theorem A2.two (h:A2 w0 ty Z X Y i k s r t u l b w) (hk:l.getD k false=false) (hr:l.getD r false=false) (hik:k ≠ i) (hks:k ≠ s) (hkr:k ≠ r) (htu:u ≠ t) {n:Nat} (ht:u < n) (hn:n=b.tmps.size) :
  A2 w0 ty Z X Y i k s r t u (l.setIfInBounds k true) (b.put (some u) (.pointer (some ⟨w.heap.size,0,none⟩))) (w.alloc (.cells Z ty)):=by
 obtain ⟨h1,h2,_,_⟩:=h
 unfold A2
 rw [getD_set_ne false hik,getD_set_ne false hks,getD_set_ne false hkr,put_ne b _ htu,put_get b _ ht hn,hr]
 refine ⟨h1.alloc _,fun e=>?_,fun _=>⟨_,rfl,h1.size,Blk.new _ _ _⟩,fun e _=>?_⟩
 ·obtain ⟨g,a1,a2,a3⟩:=h2 e
  exact ⟨g,a1,a2,a3.alloc _⟩
 ·obtain ⟨g,a1,a2,a3⟩:=h2 e
  rw [a1]
  intro e2
  cases e2
  exact absurd a3.lt (Nat.lt_irrefl _)
theorem A2.get (h:A2 w0 ty Z X Y i k s r t u l b w) {g g':Nat} (hi:l.getD i false=true) (hk:l.getD k false=true) (ht:b.tmps[t]?=some (.pointer (some ⟨g,0,none⟩))) (hu:b.tmps[u]?=some (.pointer (some ⟨g',0,none⟩))) :
  Ext w0 w∧g ≠ g'∧w0.heap.size ≤ g∧w0.heap.size ≤ g'∧Blk w g ty (if l.getD s false=true then X else Z)∧Blk w g' ty (if l.getD r false=true then Y else Z):=by
 obtain ⟨h1,h2,h3,h4⟩:=h
 obtain ⟨q,a1,a2,a3⟩:=h2 hi
 obtain ⟨q',b1,b2,b3⟩:=h3 hk
 have hne:=h4 hi hk
 rw [ht] at a1 hne
 rw [hu] at b1 hne
 cases a1
 cases b1
 exact ⟨h1,fun e=>hne (by rw [e]),a2,b2,a3,b3⟩
theorem A2.there1 (h:A2 w0 ty Z X Y i k s r t u l b w) {g g':Nat} (hi:l.getD i false=true) (hk:l.getD k false=true) (ht:b.tmps[t]?=some (.pointer (some ⟨g,0,none⟩))) (hu:b.tmps[u]?=some (.pointer (some ⟨g',0,none⟩))) (hX:X.size=Z.size):w.there g 0 X.size:=by
 obtain ⟨_,_,_,_,a3,_⟩:=h.get hi hk ht hu
 intro j hj
 rw [Nat.zero_add]
 refine ⟨?_,a3.frozen j⟩
 rw [a3.cell]
 split
 ·rw [Array.getElem?_eq_getElem hj]; rfl
 ·rw [Array.getElem?_eq_getElem (by omega)]; rfl
theorem A2.there2 (h:A2 w0 ty Z X Y i k s r t u l b w) {g g':Nat} (hi:l.getD i false=true) (hk:l.getD k false=true) (ht:b.tmps[t]?=some (.pointer (some ⟨g,0,none⟩))) (hu:b.tmps[u]?=some (.pointer (some ⟨g',0,none⟩))) (hX:Y.size=Z.size):w.there g' 0 Y.size:=by
 obtain ⟨_,_,_,_,_,a3⟩:=h.get hi hk ht hu
 intro j hj
 rw [Nat.zero_add]
 refine ⟨?_,a3.frozen j⟩
 rw [a3.cell]
 split
 ·rw [Array.getElem?_eq_getElem hj]; rfl
 ·rw [Array.getElem?_eq_getElem (by omega)]; rfl
theorem A2.put1 (h:A2 w0 ty Z X Y i k s r t u l b w) {g g':Nat} (hi:l.getD i false=true) (hk:l.getD k false=true) (ht:b.tmps[t]?=some (.pointer (some ⟨g,0,none⟩))) (hu:b.tmps[u]?=some (.pointer (some ⟨g',0,none⟩))) (hs:l.getD s false=false) (hsl:s < l.size) (hsi:s ≠ i) (hsk:s ≠ k) (hsr:s ≠ r) (hX:X.size=Z.size) :
  A2 w0 ty Z X Y i k s r t u (l.setIfInBounds s true) b (w.setCells g 0 X.toList):=by
 obtain ⟨h1,hne,a2,b2,a3,b3⟩:=h.get hi hk ht hu
 rw [hs] at a3
 unfold A2
 rw [getD_set_ne false hsi,getD_set_ne false hsk,getD_set_ne false hsr,getD_set_eq hsl,ht,hu]
 refine ⟨h1.setCells a2 _ _,fun _=>⟨g,rfl,a2,?_⟩,fun _=>⟨g',rfl,b2,b3.setCells_far (Ne.symm hne) _ _⟩,fun _ _ e=>hne (by cases e; rfl)⟩
 have h9:=Blk.over a3 X.toList (by simpa using hX.symm)
 rw [Array.toArray_toList] at h9
 exact h9
theorem A2.put2 (h:A2 w0 ty Z X Y i k s r t u l b w) {g g':Nat} (hi:l.getD i false=true) (hk:l.getD k false=true) (ht:b.tmps[t]?=some (.pointer (some ⟨g,0,none⟩))) (hu:b.tmps[u]?=some (.pointer (some ⟨g',0,none⟩))) (hs:l.getD r false=false) (hsl:r < l.size) (hsi:r ≠ i) (hsk:r ≠ k) (hsr:r ≠ s) (hX:Y.size=Z.size) :
  A2 w0 ty Z X Y i k s r t u (l.setIfInBounds r true) b (w.setCells g' 0 Y.toList):=by
 obtain ⟨h1,hne,a2,b2,a3,b3⟩:=h.get hi hk ht hu
 rw [hs] at b3
 unfold A2
 rw [getD_set_ne false hsi,getD_set_ne false hsk,getD_set_ne false hsr,getD_set_eq hsl,ht,hu]
 refine ⟨h1.setCells b2 _ _,fun _=>⟨g,rfl,a2,a3.setCells_far hne _ _⟩,fun _=>⟨g',rfl,b2,?_⟩,fun _ _ e=>hne (by cases e; rfl)⟩
 have h9:=Blk.over b3 Y.toList (by simpa using hX.symm)
 rw [Array.toArray_toList] at h9
 exact h9
end
section
variable {P:Program} {ops:Array Oper} {F:Array Bool → Act → World → Prop}
theorem doesF_load {o:Oper} {a:Act} (hw:Region.wanted o (yielded ops a.tmps)=true) (ty:TypeId) (x:Operand) (ho:o.op=.load ty x) (b off:Nat) (hx:a.eval x=.pointer (some ⟨b,off,none⟩)) (cs:List Value) (d:TypeDesc)
  (hc:∀ l b' w,F l b' w → w.rangeAt b off cs) (hu:P.underlying ty=some d) (hd:d.isRow=true) (hi:(P.info? ty).map (·.size)=some cs.length):DoesF P ops F o (.agg cs.toArray) a :=
 .inl ⟨hw,fun l b' w hF=>by
  unfold execOp
  simp only [ho,hx,Instr.loadAt,Instr.sureAddr,Sem.run_bind,Sem.run_pure,Result.andThen_ok,run_loadVar_mid w b off ty cs d (hc l b' w hF) hu hd hi]⟩
end
theorem RgAt.range {w:World} {b off:Nat} {c:List Rg} (h:RgAt w (some ⟨b,off,none⟩) c) {k:Nat} (hk:k < c.length) {x:Rg} (hx:x=c.getD k default):w.rangeAt b (off + k * 11) [.int .i64 x.op,.int .i64 x.d,.int .i64 x.a,.int .i64 x.b,.int .i64 x.ty.base,.int .i64 x.ty.bits,.string x.ty.name,.bool x.ty.opt,.bool x.ty.err,.string x.name,.slice x.A x.args.length x.cap]:=by
 subst hx
 intro j v hv
 obtain ⟨b',off',he,hb,hc⟩:=h.top (by omega)
 cases he
 have hj:j < 11:=(List.getElem?_eq_some_iff.1 hv).1
 have h2:=hc k j hk hj
 rw [Nat.add_assoc]
 rw [h2,← hv]
 match j,hj with
 | 0,_ | 1,_ | 2,_ | 3,_ | 4,_ | 5,_ | 6,_ | 7,_ | 8,_ | 9,_ | 10,_=>rfl
theorem idx_inj {sz i k j j0:Nat} (hj:j < sz) (hj0:j0 < sz) (h:k * sz + j0=i * sz + j):i=k∧j=j0:=by
 rcases Nat.lt_trichotomy i k with e | e | e
 ·have:=Nat.mul_le_mul_right sz (show i + 1 ≤ k from e)
  rw [Nat.succ_mul] at this
  omega
 ·subst e
  exact ⟨rfl,by omega⟩
 ·have:=Nat.mul_le_mul_right sz (show k + 1 ≤ i from e)
  rw [Nat.succ_mul] at this
  omega
section
variable {α:Type}
def recCells (sz:Nat) (C:α → Nat → Value) (c:List α):List Value:=c.flatMap fun x=>(List.range sz).map (C x)
theorem recCells_cons (sz:Nat) (C:α → Nat → Value) (x:α) (c:List α):recCells sz C (x :: c)=(List.range sz).map (C x) ++ recCells sz C c:=by unfold recCells; rw [List.flatMap_cons]
theorem recCells_append (sz:Nat) (C:α → Nat → Value) (c d:List α):recCells sz C (c ++ d)=recCells sz C c ++ recCells sz C d:=by unfold recCells; rw [List.flatMap_append]
theorem recCells_one (sz:Nat) (C:α → Nat → Value) (x:α):recCells sz C [x]=(List.range sz).map (C x):=by unfold recCells; simp
theorem recCells_len (sz:Nat) (C:α → Nat → Value) (c:List α):(recCells sz C c).length=c.length * sz:=by
 induction c with
 | nil=>simp [recCells]
 | cons x c ih=>rw [recCells_cons,List.length_append,ih,List.length_cons,Nat.succ_mul]; simp; omega
theorem recCells_ones {sz:Nat} {C:α → Nat → Value} (h:∀ x j,(C x j).oneCell'=true) (c:List α):∀ u ∈ recCells sz C c,u.oneCell'=true:=by
 intro u hu
 unfold recCells at hu
 obtain ⟨x,_,hu⟩:=List.mem_flatMap.1 hu
 obtain ⟨j,_,rfl⟩:=List.mem_map.1 hu
 exact h x j
variable [Inhabited α]
theorem recCells_get {sz:Nat} {C:α → Nat → Value} (c:List α) (k j:Nat) (hk:k < c.length) (hj:j < sz):(recCells sz C c)[k * sz + j]?=some (C (c.getD k default) j):=by
 induction c generalizing k with
 | nil=>simp at hk
 | cons x c ih =>
  rw [recCells_cons]
  cases k with
  | zero =>
   rw [List.getElem?_append_left (by simp; omega)]
   simp [hj]
  | succ k =>
   rw [Nat.succ_mul,List.getElem?_append_right (by simp; omega)]
   have:=ih k (by simpa using hk)
   rw [show k * sz + sz + j - ((List.range sz).map (C x)).length=k * sz + j by simp; omega,this]
   simp
def RecRow (w:World) (g:Nat) (t:TypeId) (sz:Nat) (C:α → Nat → Value) (c:List α):Prop:=∃ cur:Array Value,Blk w g t cur∧c.length * sz ≤ cur.size∧∀ k j,k < c.length → j < sz → cur[k * sz + j]?=some (C (c.getD k default) j)
variable {w w':World} {g:Nat} {t:TypeId} {sz:Nat} {C:α → Nat → Value} {c:List α}
theorem RecRow.lt (h:RecRow w g t sz C c):g < w.heap.size:=by
 obtain ⟨cur,hb,_⟩:=h
 exact hb.lt
theorem RecRow.ext (h:RecRow w g t sz C c) (x:Ext w w'):RecRow w' g t sz C c:=by
 obtain ⟨cur,hb,r⟩:=h
 exact ⟨cur,hb.ext x,r⟩
theorem RecRow.grown {row:Option Nat} (h:RecRow w g t sz C c) (x:w.grownBy w' row) (hne:some g ≠ row):RecRow w' g t sz C c:=by
 obtain ⟨cur,hb,r⟩:=h
 exact ⟨cur,(x.block g hb.lt hne).trans hb,r⟩
theorem RecRow.far (h:RecRow w g t sz C c) {p:Addr} (hp:g ≠ p.block) (u:Value):RecRow (w.setCell p u) g t sz C c:=by
 obtain ⟨cur,hb,r⟩:=h
 exact ⟨cur,hb.far hp u,r⟩
theorem RecRow.keep (h:RecRow w g t sz C c) (e:w'.heap[g]?=w.heap[g]?):RecRow w' g t sz C c:=by
 obtain ⟨cur,hb,r⟩:=h
 exact ⟨cur,e.trans hb,r⟩
theorem RecRow.cell (h:RecRow w g t sz C c) {k j:Nat} (hk:k < c.length) (hj:j < sz):w.cell? ⟨g,k * sz + j,none⟩=some (C (c.getD k default) j):=by
 obtain ⟨cur,hb,hs,hc⟩:=h
 rw [hb.cell,hc k j hk hj]
theorem RecRow.at_ (h:RecRow w g t sz C c):At w (some ⟨g,0,none⟩) c.length sz (fun i j=>C (c.getD i default) j):=by
 refine fun hpos=>⟨g,0,rfl,h.lt,fun i j hi hj=>?_⟩
 rw [Nat.zero_add]
 exact h.cell hi hj
theorem RecRow.frozen (h:RecRow w g t sz C c) (i:Nat):w.frozen? ⟨g,i,none⟩=false:=by
 obtain ⟨cur,hb,_⟩:=h
 exact hb.frozen i
theorem RecRow.set_ (h:RecRow w g t sz C c) {k j0:Nat} (hk:k < c.length) (hj0:j0 < sz) {u:Value} {x':α} (hx:∀ j,j < sz → C x' j=if j=j0 then u else C (c.getD k default) j):RecRow (w.setCell ⟨g,k * sz + j0,none⟩ u) g t sz C (c.set k x'):=by
 obtain ⟨cur,hb,hs,hc⟩:=h
 refine ⟨_,hb.set_ (k * sz + j0) _,by simpa using hs,fun i j hi hj=>?_⟩
 have hi':i < c.length:=by simpa using hi
 rw [Array.getElem?_setIfInBounds]
 by_cases e:i=k
 ·subst e
  have e2:(c.set i x').getD i default=x':=by simp [List.getD,hk]
  rw [e2,hx j hj]
  by_cases e3:j=j0
  ·subst e3
   have:=Nat.mul_le_mul_right sz (show i + 1 ≤ c.length from hk)
   rw [Nat.succ_mul] at this
   rw [if_pos rfl,if_pos (by omega),if_pos rfl]
  ·rw [if_neg (by omega),if_neg e3,hc i j hi' hj]
 ·have e2:(c.set k x').getD i default=c.getD i default:=by
   simp only [List.getD,List.getElem?_set_ne (fun e4=>e e4.symm)]
  rw [e2,if_neg (fun e3=>e (idx_inj hj hj0 e3).1),hc i j hi' hj]
omit [Inhabited α] in
theorem recOne_get {x:α} {j:Nat} (hj:j < sz):((List.range sz).map (C x))[j]?=some (C x j):=by simp [hj]
theorem RecRow.there (h:RecRow w g t sz C c) {k:Nat} (hk:k < c.length):w.there g (k * sz) sz:=by
 intro j hj
 exact ⟨by rw [h.cell hk hj]; rfl,h.frozen _⟩
theorem RecRow.put (h:RecRow w g t sz C c) {k:Nat} (hk:k < c.length) (x':α):RecRow (w.setCells g (k * sz) ((List.range sz).map (C x'))) g t sz C (c.set k x'):=by
 obtain ⟨cs,hb,hs,hc⟩:=h
 have hkk:k * sz + sz ≤ cs.size:=by
  have:=Nat.mul_le_mul_right sz (show k + 1 ≤ c.length from hk)
  rw [Nat.succ_mul] at this
  omega
 obtain ⟨cs',h1,h2,h3,h4⟩:=Blk.setCells ((List.range sz).map (C x')) (k * sz) w cs hb (by simp; omega)
 refine ⟨cs',h1,by rw [h2]; simpa using hs,fun i j hi hj=>?_⟩
 have hi':i < c.length:=by simpa using hi
 by_cases e:i=k
 ·subst e
  have e2:(c.set i x').getD i default=x':=by simp [List.getD,hk]
  rw [e2,h4 j (by simp; omega),recOne_get hj]
 ·have e2:(c.set k x').getD i default=c.getD i default:=by
   simp only [List.getD,List.getElem?_set_ne (fun e4=>e e4.symm)]
  rw [e2,h3 _ ?_,hc i j hi' hj]
  rw [List.length_map,List.length_range]
  rcases Nat.lt_or_gt_of_ne e with h5 | h5
  ·have:=Nat.mul_le_mul_right sz (show i + 1 ≤ k from h5)
   rw [Nat.succ_mul] at this
   omega
  ·have:=Nat.mul_le_mul_right sz (show k + 1 ≤ i from h5)
   rw [Nat.succ_mul] at this
   omega
theorem RecRow.cells_far (h:RecRow w g t sz C c) {k:Nat} (hk:g ≠ k) (o:Nat) (vs:List Value):RecRow (w.setCells k o vs) g t sz C c:=h.keep (setCells_out k vs o w g hk)
theorem RecRow.same {β:Type} [Inhabited β] {D:β → Nat → Value} {d:List β} (h:RecRow w g t sz C c) (hl:d.length=c.length) (hd:∀ k j,k < c.length → j < sz → D (d.getD k default) j=C (c.getD k default) j):RecRow w g t sz D d:=by
 obtain ⟨cur,hb,hs,hc⟩:=h
 exact ⟨cur,hb,by rw [hl]; exact hs,fun k j hk hj=>by rw [hd k j (by omega) hj]; exact hc k j (by omega) hj⟩
theorem own_rec {base:Nat} {v:Value} (h:w.ownsRow base t sz v c.length (recCells sz C c)) (hpos:0 < c.length):∃ g cap,v=.slice (some ⟨g,0,none⟩) c.length cap∧base ≤ g∧RecRow w g t sz C c:=by
 rcases h.2 with ⟨_,e⟩ | ⟨g,cap,cur,rfl,hb,hg,hn,hc,hs,ht⟩
 ·omega
 ·refine ⟨g,cap,rfl,hb,cur,hg,by rw [hs]; exact Nat.mul_le_mul_right _ hn,fun k j hk hj=>?_⟩
  have h1:=recCells_get (C:=C) c k j hk hj
  have h2:k * sz + j < c.length * sz:=by
   have:=Nat.mul_le_mul_right sz (show k + 1 ≤ c.length from hk)
   rw [Nat.succ_mul] at this
   omega
  rw [← ht,List.getElem?_take_of_lt h2] at h1
  simpa using h1
theorem own_rec_at {base:Nat} {v:Value} (h:w.ownsRow base t sz v c.length (recCells sz C c)):∃ A cap,v=.slice A c.length cap∧At w A c.length sz (fun i j=>C (c.getD i default) j):=by
 rcases Nat.eq_zero_or_pos c.length with h0 | hpos
 ·rcases h.2 with ⟨rfl,_⟩ | ⟨g,cap,cur,rfl,_⟩
  ·exact ⟨none,0,by rw [h0],fun h=>by omega⟩
  ·exact ⟨_,cap,rfl,fun h=>by omega⟩
 ·obtain ⟨g,cap,hv,_,hr⟩:=own_rec h hpos
  exact ⟨_,cap,hv,hr.at_⟩
theorem news_rec {b o:Nat} (h:∀ i j,i < c.length → j < sz → w.cell? ⟨b,o + (i * sz + j),none⟩=some (C (c.getD i default) j)):∀ j u,(recCells sz C c)[j]?=some u → w.cell? ((⟨b,o,none⟩:Addr).add j)=some u:=by
 intro j u hu
 have hj:j < c.length * sz:=by rw [← recCells_len sz C]; exact (List.getElem?_eq_some_iff.1 hu).1
 have hsz:0 < sz:=by
  rcases Nat.eq_zero_or_pos sz with h0 | h0
  ·subst h0; omega
  ·exact h0
 have e:j=j / sz * sz + j % sz:=by rw [Nat.mul_comm]; exact (Nat.div_add_mod j sz).symm
 have hd:j / sz < c.length:=by rw [Nat.div_lt_iff_lt_mul hsz]; exact hj
 have h1:=recCells_get (C:=C) c (j / sz) (j % sz) hd (Nat.mod_lt _ hsz)
 rw [← e,hu] at h1
 have h2:=h (j / sz) (j % sz) hd (Nat.mod_lt _ hsz)
 rw [← e] at h2
 rw [Addr.add_lit,h2,← h1]
end
theorem rgC_one (x:Rg) (j:Nat):(rgC x j).oneCell'=true:=by
 match j with
 | 0 | 1 | 2 | 3 | 4 | 5 | 6 | 7 | 8 | 9=>rfl
 | _ + 10=>rfl
theorem rfC_one (f:Rf) (j:Nat):(rfC f j).oneCell'=true:=by
 match j with
 | 0 | 1 | 2 | 3 | 4 | 5 | 6 | 7=>rfl
 | _ + 8=>rfl
end Go.Proofs.YtknaemlnhediaaaGreatDoor.c
