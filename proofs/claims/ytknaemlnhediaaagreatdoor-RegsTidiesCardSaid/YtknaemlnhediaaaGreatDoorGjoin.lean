/- The closure of regs.live: it joins a set of six registers into another. Nothing else of the memory changes. A region that makes two slices in either order: its law, and what it keeps. Conditions: each makes a new block. Memory of a step of regs.live: its tables, its instruction, and a set of registers. No condition. -/
import Derived.Test.YtknaemlnhediaaaGreatDoorGm
import Derived.Test.YtknaemlnhediaaaGreatDoorFlowC
import Derived.Test.YtknaemlnhediaaaGreatDoorLiveP
import Derived.Test.YtknaemlnhediaaaGreatDoorHval
import Derived.Test.YtknaemlnhediaaaGreatDoorIq
import Derived.OwnWalk
namespace Go.Proofs.YtknaemlnhediaaaGreatDoor.c
open Go.RowKit
set_option linter.unusedVariables false
set_option maxRecDepth 100000
set_option maxHeartbeats 1600000
set_option linter.unusedSimpArgs false
def setV (s:Nat → Bool):Array Value:=#[.bool (s 0),.bool (s 1),.bool (s 2),.bool (s 3),.bool (s 4),.bool (s 5)]
theorem setV_get {s:Nat → Bool} {j:Nat} (h:j < 6):(setV s)[j]?=some (.bool (s j)):=by
 rcases (show j=0 ∨ j=1 ∨ j=2 ∨ j=3 ∨ j=4 ∨ j=5 by omega) with rfl | rfl | rfl | rfl | rfl | rfl <;> rfl
def updB (s:Nat → Bool) (j:Nat) (b:Bool):Nat → Bool:=fun r=>if r=j then b else s r
theorem setV_set {s:Nat → Bool} {j:Nat} (h:j < 6) (b:Bool):(setV s).setIfInBounds j (.bool b)=setV (updB s j b):=by
 rcases (show j=0 ∨ j=1 ∨ j=2 ∨ j=3 ∨ j=4 ∨ j=5 by omega) with rfl | rfl | rfl | rfl | rfl | rfl <;> rfl
theorem setV_eq {s t:Nat → Bool} (h:∀ r,r < 6 → s r=t r):setV s=setV t:=by
 unfold setV
 rw [h 0 (by omega),h 1 (by omega),h 2 (by omega),h 3 (by omega),h 4 (by omega),h 5 (by omega)]
def joinS (o s:Nat → Bool) (q:Nat):Nat → Bool:=fun r=>if r < q then (o r || s r) else o r
theorem grown_trans' {a b c:World} {r:Option Nat} (h:a.grownBy b r) (k:b.grownBy c r):a.grownBy c r :=
 ⟨k.os.trans h.os,k.tape.trans h.tape,k.output.trans h.output,Nat.le_trans h.size k.size,fun i hi hne=>(k.block i (Nat.lt_of_lt_of_le hi h.size) hne).trans (h.block i hi hne)⟩
theorem Ext.grown' {a b:World} (h:Ext a b) (r:Option Nat):a.grownBy b r:=⟨h.out.os,h.out.tape,h.out.output,h.out.size,fun i hi _=>h.out.block i hi⟩
theorem join_any (s o:Nat → Bool) (bo:Nat) (w:World) (hb:Blk w bo 175 (setV o)) :
  Calls Tryz.prog 184 #[.agg (setV s),.pointer (some ⟨bo,0,none⟩)] w fun e w'=>e=.returned (.tuple #[])∧Blk w' bo 175 (setV fun r=>o r || s r)∧w.grownBy w' (some bo):=by
 have HB:=Lib.hid hb
 have zb:=hb.lt
 have HS:Hid (Blk (w.alloc (.cells (setV s) 175)) w.heap.size 175 (setV s)):=Blk.new w _ _
 have HO:Hid (Blk (w.alloc (.cells (setV s) 175)) bo 175 (setV (joinS o s 0))):=by
  have h:=hb.alloc (.cells (setV s) 175)
  rwa [setV_eq (s:=o) (t:=joinS o s 0) (fun r _=>by unfold joinS; rw [if_neg (by omega)])] at h
 clear hb
 obtain ⟨V,hV⟩:∃ V,setV s=V:=⟨_,rfl⟩
 rw [hV] at HS HO ⊢
 go_enter Tryz.func184,Tryz.ntmps184
 go_wp2_with fail
 go_loopw [4] (fun i wq=>∃ q:Nat,q ≤ 6∧i=.int .i64 q∧Blk wq w.heap.size 175 V∧Blk wq bo 175 (setV (joinS o s q))∧w.grownBy wq (some bo)) (fun i _=>6 - (intOf i).toNat)
 case atStart =>
  refine ⟨0,by omega,rfl,HS.out,HO.out,?_⟩
  exact ((Ext.refl w).alloc _).grown' (some bo)
 case round =>
  obtain ⟨q,hq,rfl,h1,h2,h3⟩:=hrel
  have H1:=Lib.hid h1
  have H2:=Lib.hid h2
  have H3:=Lib.hid h3
  by_cases hlt:q < 6
  ·have c1:=h1.cell q
   rw [← hV,setV_get hlt] at c1
   have c2:=h2.cell q
   rw [setV_get hlt] at c2
   have z1:=h1.lt
   have z2:=h2.lt
   have f2:=h2.frozen q
   have zn:w.heap.size ≠ bo:=by omega
   obtain ⟨x,hx⟩:∃ x,joinS o s q q=x:=⟨_,rfl⟩
   obtain ⟨y,hy⟩:∃ y,s q=y:=⟨_,rfl⟩
   rw [hx] at c2
   rw [hy] at c1
   have HN:Hid (∀ (z:Bool),z=(x || y) → setV (updB (joinS o s q) q z)=setV (joinS o s (q + 1))):=fun z hz=>by
    refine setV_eq fun r hr=>?_
    unfold updB
    by_cases hrq:r=q
    ·subst hrq
     rw [if_pos rfl,hz,← hx,← hy]
     unfold joinS
     rw [if_neg (by omega),if_pos (by omega)]
    ·rw [if_neg hrq]
     unfold joinS
     by_cases h9:r < q
     ·rw [if_pos h9,if_pos (by omega)]
     ·rw [if_neg h9,if_neg (by omega)]
   clear h1 h2 h3
   cases x
   ·go_wp2_with fail
    go_roundw
    case rel =>
     refine ⟨q + 1,by omega,by go_num,H1.out.far zn _,?_,grown_trans' H3.out (cell_grown wr bo q _)⟩
     have h:=H2.out.set_ q (.bool y)
     rwa [setV_set hlt,HN.out y (by simp)] at h
    case measure=>simp [intOf]; omega
   ·go_wp2_with fail
    go_roundw
    case rel =>
     refine ⟨q + 1,by omega,by go_num,H1.out.far zn _,?_,grown_trans' H3.out (cell_grown wr bo q _)⟩
     have h:=H2.out.set_ q (.bool true)
     rwa [setV_set hlt,HN.out true (by simp)] at h
    case measure=>simp [intOf]; omega
  ·obtain rfl:q=6:=by omega
   clear h1 h2 h3
   go_wp2_with fail
   refine bodyPost_end (results_none rfl _ _ _) rfl ⟨rfl,?_,H3.out⟩
   have h:=H2.out
   rwa [setV_eq (s:=joinS o s 6) (t:=fun r=>o r || s r) (fun r hr=>by unfold joinS; rw [if_pos hr])] at h
section
variable {P:Program} {ops:Array Oper} {Q:Exit → Act → World → Prop} {md:Region.Mode} {F:Array Bool → Act → World → Prop}
theorem step_make {i t fuel:Nat} {oi:Oper} {V:Nat → Value} {ob:Obj} {listed:Array Bool} {a:Act} (hi:ops[i]?=some oi) (hd:oi.dst=some t) (hw:Region.wanted oi (yielded ops a.tmps)=true)
  (hv:∀ w,F listed a w → (execOp a.eval oi).run P w=.ok (.value (V w.heap.size)) (w.alloc ob)) (hc:∀ w,F listed a w → F (listed.setIfInBounds i true) (a.put (some t) (V w.heap.size)) (w.alloc ob))
  (h:∀ g:Nat,wpAnyU P md ops Q F fuel (listed.setIfInBounds i true) (a.put (some t) (V g))):StepF P md ops Q F fuel i listed a:=by
 intro w hF
 unfold wpOp
 simp only [hi,hw,if_true,Oper.wp,hv w hF,Oper.upon,hd]
 exact .inl ⟨hc w hF,h _⟩
theorem put_four (a:Act) {t u c:Nat} (h1:u ≠ t) (h3:u ≠ c) (v y z:Value):((a.put (some u) v).put (some t) y).put (some c) z=((a.put (some t) y).put (some c) z).put (some u) v:=by
 rw [put_comm a h1,put_comm _ h3]
theorem set_four (l:Array Bool) {i k s:Nat} (h1:k ≠ i) (h3:k ≠ s):((l.setIfInBounds k true).setIfInBounds i true).setIfInBounds s true=((l.setIfInBounds i true).setIfInBounds s true).setIfInBounds k true:=by
 rw [Array.setIfInBounds_comm (xs:=l) _ _ h1,Array.setIfInBounds_comm _ _ h3]
theorem flow2_makes {i k s r t u c d fuel:Nat} {oi ok:Oper} {V U:Nat → Value} {ob pb:Obj} {listed:Array Bool} {a:Act} (hr:Region.ready md ops listed=[i,k]) (hr1:Region.ready md ops ((listed.setIfInBounds i true).setIfInBounds s true)=[k]) (hr2:Region.ready md ops (listed.setIfInBounds k true)=[i])
  (n1:k ≠ i∧k ≠ s) (n2:u ≠ t∧u ≠ c)
  (hi:ops[i]?=some oi) (hd:oi.dst=some t) (hk:ops[k]?=some ok) (hdk:ok.dst=some u)
  (hw:Region.wanted oi (yielded ops a.tmps)=true) (hw2:∀ g,Region.wanted oi (yielded ops (a.put (some u) (U g)).tmps)=true)
  (hwk:Region.wanted ok (yielded ops a.tmps)=true) (hwk2:∀ g,Region.wanted ok (yielded ops ((a.put (some t) (V g)).put (some c) (V g)).tmps)=true)
  (hv:∀ w,(execOp a.eval oi).run P w=.ok (.value (V w.heap.size)) (w.alloc ob)) (hv2:∀ g w,(execOp (a.put (some u) (U g)).eval oi).run P w=.ok (.value (V w.heap.size)) (w.alloc ob))
  (hvk:∀ w,(execOp a.eval ok).run P w=.ok (.value (U w.heap.size)) (w.alloc pb)) (hvk2:∀ g w,(execOp ((a.put (some t) (V g)).put (some c) (V g)).eval ok).run P w=.ok (.value (U w.heap.size)) (w.alloc pb))
  (hF1:∀ w,F listed a w → F (listed.setIfInBounds i true) (a.put (some t) (V w.heap.size)) (w.alloc ob))
  (hF2:∀ g w,F ((listed.setIfInBounds i true).setIfInBounds s true) ((a.put (some t) (V g)).put (some c) (V g)) w → F (((listed.setIfInBounds i true).setIfInBounds s true).setIfInBounds k true) (((a.put (some t) (V g)).put (some c) (V g)).put (some u) (U w.heap.size)) (w.alloc pb))
  (hG1:∀ w,F listed a w → F (listed.setIfInBounds k true) (a.put (some u) (U w.heap.size)) (w.alloc pb))
  (hG2:∀ g w,F (listed.setIfInBounds k true) (a.put (some u) (U g)) w → F ((listed.setIfInBounds k true).setIfInBounds i true) ((a.put (some u) (U g)).put (some t) (V w.heap.size)) (w.alloc ob))
  (p1:∀ g,wpAnyU P md ops Q F (fuel + 2) ((listed.setIfInBounds i true).setIfInBounds s true) ((a.put (some t) (V g)).put (some c) (V g)) → wpAnyU P md ops Q F (fuel + 3) (listed.setIfInBounds i true) (a.put (some t) (V g)))
  (p2:∀ g g',wpAnyU P md ops Q F fuel ((((listed.setIfInBounds i true).setIfInBounds s true).setIfInBounds k true).setIfInBounds r true) ((((a.put (some t) (V g)).put (some c) (V g)).put (some u) (U g')).put (some d) (U g')) → wpAnyU P md ops Q F (fuel + 1) (((listed.setIfInBounds i true).setIfInBounds s true).setIfInBounds k true) (((a.put (some t) (V g)).put (some c) (V g)).put (some u) (U g')))
  (p3:∀ g g',wpAnyU P md ops Q F (fuel + 1) (((listed.setIfInBounds k true).setIfInBounds i true).setIfInBounds s true) (((a.put (some u) (U g')).put (some t) (V g)).put (some c) (V g)) → wpAnyU P md ops Q F (fuel + 2) ((listed.setIfInBounds k true).setIfInBounds i true) ((a.put (some u) (U g')).put (some t) (V g)))
  (h:∀ g g':Nat,wpAnyU P md ops Q F fuel ((((listed.setIfInBounds i true).setIfInBounds s true).setIfInBounds k true).setIfInBounds r true) ((((a.put (some t) (V g)).put (some c) (V g)).put (some u) (U g')).put (some d) (U g'))):wpAnyU P md ops Q F (fuel + 4) listed a:=by
 refine flow2_two hr ?_ ?_
 ·exact step_make hi hd hw (fun w _=>hv w) hF1 fun g=>p1 g (flow2_one hr1 (step_make hk hdk (hwk2 g) (fun w _=>hvk2 g w) (hF2 g) fun g'=>p2 g g' (h g g')))
 ·refine step_make hk hdk hwk (fun w _=>hvk w) hG1 fun g'=>flow2_one hr2 (step_make hi hd (hw2 g') (fun w _=>hv2 g' w) (hG2 g') fun g=>p3 g g' ?_)
  rw [set_four _ n1.1 n1.2,put_four _ n2.1 n2.2]
  exact p2 g g' (h g g')
end
def M2 (w0:World) (ty:TypeId) (X Y:Array Value) (V U:Nat → Value) (i k t u:Nat) (l:Array Bool) (b:Act) (w:World):Prop :=
 Ext w0 w∧(l.getD i false=true → ∃ g,b.tmps[t]?=some (V g)∧w0.heap.size ≤ g∧Blk w g ty X) ∧
  (l.getD k false=true → ∃ g,b.tmps[u]?=some (U g)∧w0.heap.size ≤ g∧Blk w g ty Y) ∧
  (l.getD i false=true → l.getD k false=true → ∀ g g',b.tmps[t]?=some (V g) → b.tmps[u]?=some (U g') → g ≠ g')
section
variable {w0:World} {ty:TypeId} {X Y:Array Value} {V U:Nat → Value} {i k t u:Nat} {l:Array Bool} {b:Act} {w:World}
theorem M2.same {j q:Nat} (h1:j ≠ i) (h2:j ≠ k) (h5:q ≠ t) (h6:q ≠ u) (v:Value) (l:Array Bool) (b:Act) (w:World):M2 w0 ty X Y V U i k t u (l.setIfInBounds j true) (b.put (some q) v) w ↔ M2 w0 ty X Y V U i k t u l b w:=by
 unfold M2
 rw [getD_set_ne false h1,getD_set_ne false h2,put_ne b v h5,put_ne b v h6]
theorem M2.start (h:Ext w0 w) (h1:l.getD i false=false) (h2:l.getD k false=false):M2 w0 ty X Y V U i k t u l b w:=⟨h,fun e=>(by rw [h1] at e; cases e),fun e=>(by rw [h2] at e; cases e),fun e=>(by rw [h1] at e; cases e)⟩
theorem M2.one (hV:∀ g g',V g=V g' → g=g') (hU:∀ g g',U g=U g' → g=g') (h:M2 w0 ty X Y V U i k t u l b w) (hi:l.getD i false=false) (hik:i ≠ k) (htu:t ≠ u) {n:Nat} (ht:t < n) (hn:n=b.tmps.size) :
  M2 w0 ty X Y V U i k t u (l.setIfInBounds i true) (b.put (some t) (V w.heap.size)) (w.alloc (.cells X ty)):=by
 obtain ⟨h1,_,h3,_⟩:=h
 unfold M2
 rw [getD_set_ne false hik,put_ne b _ htu,put_get b _ ht hn]
 refine ⟨h1.alloc _,fun _=>⟨_,rfl,h1.size,Blk.new _ _ _⟩,fun e=>?_,fun _ e g g' e1 e2=>?_⟩
 ·obtain ⟨g,a1,a2,a3⟩:=h3 e
  exact ⟨g,a1,a2,a3.alloc _⟩
 ·obtain ⟨q,a1,a2,a3⟩:=h3 e
  rw [a1] at e2
  have e3:=hV _ _ (Option.some.inj e1)
  have e4:=hU _ _ (Option.some.inj e2)
  have:=a3.lt
  omega
theorem M2.two (hV:∀ g g',V g=V g' → g=g') (hU:∀ g g',U g=U g' → g=g') (h:M2 w0 ty X Y V U i k t u l b w) (hk:l.getD k false=false) (hik:k ≠ i) (htu:u ≠ t) {n:Nat} (ht:u < n) (hn:n=b.tmps.size) :
  M2 w0 ty X Y V U i k t u (l.setIfInBounds k true) (b.put (some u) (U w.heap.size)) (w.alloc (.cells Y ty)):=by
 obtain ⟨h1,h2,_,_⟩:=h
 unfold M2
 rw [getD_set_ne false hik,put_ne b _ htu,put_get b _ ht hn]
 refine ⟨h1.alloc _,fun e=>?_,fun _=>⟨_,rfl,h1.size,Blk.new _ _ _⟩,fun e _ g g' e1 e2=>?_⟩
 ·obtain ⟨g,a1,a2,a3⟩:=h2 e
  exact ⟨g,a1,a2,a3.alloc _⟩
 ·obtain ⟨q,a1,a2,a3⟩:=h2 e
  rw [a1] at e1
  have e3:=hV _ _ (Option.some.inj e1)
  have e4:=hU _ _ (Option.some.inj e2)
  have:=a3.lt
  omega
theorem M2.get (hV:∀ g g',V g=V g' → g=g') (hU:∀ g g',U g=U g' → g=g') (h:M2 w0 ty X Y V U i k t u l b w) {g g':Nat} (hi:l.getD i false=true) (hk:l.getD k false=true) (ht:b.tmps[t]?=some (V g)) (hu:b.tmps[u]?=some (U g')) :
  Ext w0 w∧g ≠ g'∧w0.heap.size ≤ g∧w0.heap.size ≤ g'∧Blk w g ty X∧Blk w g' ty Y:=by
 obtain ⟨h1,h2,h3,h4⟩:=h
 obtain ⟨q,a1,a2,a3⟩:=h2 hi
 obtain ⟨q',b1,b2,b3⟩:=h3 hk
 have hne:=h4 hi hk g g' ht hu
 rw [ht] at a1
 rw [hu] at b1
 have e1:=hV _ _ (Option.some.inj a1)
 have e2:=hU _ _ (Option.some.inj b1)
 subst e1 e2
 exact ⟨h1,hne,a2,b2,a3,b3⟩
end
def setC (s:Nat → Bool) (j:Nat):Value:=.bool (s j)
structure LvSt (w:World) (bf gB gH:Nat) (F:Array Value) (T H:List (Nat → Bool)) (wq:World):Prop where
 ext:Ext w wq
 box:Blk wq bf 59 F
 before:RecRow wq gB 175 6 setC T
 behind:RecRow wq gH 175 6 setC H
 ne:gB ≠ gH∧bf ≠ gB∧bf ≠ gH
 lo:w.heap.size ≤ bf∧w.heap.size ≤ gB∧w.heap.size ≤ gH
structure InSt (w:World) (bf gB gH bx bo:Nat) (F:Array Value) (T H:List (Nat → Bool)) (x:Rg) (o:Nat → Bool) (wq:World):Prop where
 st:LvSt w bf gB gH F T H wq
 inst:Blk wq bx 67 (rgA x)
 set:Blk wq bo 175 (setV o)
 off:bo ≠ bf∧bo ≠ gB∧bo ≠ gH∧bo ≠ bx∧bx ≠ gB∧bx ≠ gH
 low:w.heap.size ≤ bo
section
variable {w wq wr:World} {bf gB gH bx bo:Nat} {F:Array Value} {T H:List (Nat → Bool)} {x:Rg} {o:Nat → Bool}
theorem LvSt.ext' (s:LvSt w bf gB gH F T H wq) (e:Ext wq wr):LvSt w bf gB gH F T H wr:=⟨s.ext.trans e,s.box.ext e,s.before.ext e,s.behind.ext e,s.ne,s.lo⟩
theorem InSt.ext' (s:InSt w bf gB gH bx bo F T H x o wq) (e:Ext wq wr):InSt w bf gB gH bx bo F T H x o wr:=⟨s.st.ext' e,s.inst.ext e,s.set.ext e,s.off,s.low⟩
theorem InSt.grown (s:InSt w bf gB gH bx bo F T H x o wq) {o':Nat → Bool} (b:Blk wr bo 175 (setV o')) (g:wq.grownBy wr (some bo)):InSt w bf gB gH bx bo F T H x o' wr:=by
 obtain ⟨h1,h2,h3,h4,h5,h6⟩:=s.off
 have ne:∀ k,bo ≠ k → some k ≠ some bo:=fun k h e=>h (Option.some.inj e).symm
 exact ⟨⟨s.st.ext.grown g fun k e=>by cases e; exact s.low,(g.block bf s.st.box.lt (ne _ h1)).trans s.st.box,s.st.before.grown g (ne _ h2),s.st.behind.grown g (ne _ h3),s.st.ne,s.st.lo⟩,
  (g.block bx s.inst.lt (ne _ h4)).trans s.inst,b,s.off,s.low⟩
theorem InSt.one (s:InSt w bf gB gH bx bo F T H x o wq) {j:Nat} (hj:j < 6) (b:Bool):InSt w bf gB gH bx bo F T H x (updB o j b) (wq.setCell ⟨bo,j,none⟩ (.bool b)):=by
 refine s.grown ?_ (cell_grown wq bo j _)
 have h:=s.set.set_ j (.bool b)
 rwa [setV_set hj] at h
theorem InSt.same (s:InSt w bf gB gH bx bo F T H x o wq) {o':Nat → Bool} (h:∀ r,r < 6 → o r=o' r):InSt w bf gB gH bx bo F T H x o' wq :=
 ⟨s.st,s.inst,by rw [← setV_eq h]; exact s.set,s.off,s.low⟩
theorem InSt.putH (s:InSt w bf gB gH bx bo F T H x o wq) {p:Nat} (hp:p < H.length) (v:Nat → Bool):InSt w bf gB gH bx bo F T (H.set p v) x o (wq.setCells gH (p * 6) (setV v).toList):=by
 obtain ⟨h1,h2,h3,h4,h5,h6⟩:=s.off
 obtain ⟨n1,n2,n3⟩:=s.st.ne
 have e:(setV v).toList=(List.range 6).map (setC v):=rfl
 rw [e]
 exact ⟨⟨s.st.ext.setCells s.st.lo.2.2 _ _,s.st.box.setCells_far n3 _ _,s.st.before.cells_far n1 _ _,s.st.behind.put hp v,s.st.ne,s.st.lo⟩,s.inst.setCells_far h6 _ _,s.set.setCells_far h3 _ _,s.off,s.low⟩
theorem InSt.putB (s:InSt w bf gB gH bx bo F T H x o wq) {p:Nat} (hp:p < T.length) (v:Nat → Bool):InSt w bf gB gH bx bo F (T.set p v) H x o (wq.setCells gB (p * 6) (setV v).toList):=by
 obtain ⟨h1,h2,h3,h4,h5,h6⟩:=s.off
 obtain ⟨n1,n2,n3⟩:=s.st.ne
 have e:(setV v).toList=(List.range 6).map (setC v):=rfl
 rw [e]
 exact ⟨⟨s.st.ext.setCells s.st.lo.2.1 _ _,s.st.box.setCells_far n2 _ _,s.st.before.put hp v,s.st.behind.cells_far (fun h=>n1 h.symm) _ _,s.st.ne,s.st.lo⟩,s.inst.setCells_far h5 _ _,s.set.setCells_far h2 _ _,s.off,s.low⟩
theorem RecRow.six {t:TypeId} {g:Nat} (h:RecRow w g t 6 setC T) {k:Nat} (hk:k < T.length) {s:Nat → Bool} (hs:s=T.getD k default) :
  w.cell? ⟨g,k * 6,none⟩=some (.bool (s 0))∧w.cell? ⟨g,k * 6 + 1,none⟩=some (.bool (s 1))∧w.cell? ⟨g,k * 6 + 2,none⟩=some (.bool (s 2))∧w.cell? ⟨g,k * 6 + 3,none⟩=some (.bool (s 3))∧w.cell? ⟨g,k * 6 + 4,none⟩=some (.bool (s 4))∧w.cell? ⟨g,k * 6 + 5,none⟩=some (.bool (s 5)):=by
 subst hs
 exact ⟨h.cell hk (j:=0) (by decide),h.cell hk (j:=1) (by decide),h.cell hk (j:=2) (by decide),h.cell hk (j:=3) (by decide),h.cell hk (j:=4) (by decide),h.cell hk (j:=5) (by decide)⟩
theorem Blk.six {t:TypeId} {g:Nat} (h:Blk w g t (setV o)) :
  w.cell? ⟨g,0,none⟩=some (.bool (o 0))∧w.cell? ⟨g,1,none⟩=some (.bool (o 1))∧w.cell? ⟨g,2,none⟩=some (.bool (o 2))∧w.cell? ⟨g,3,none⟩=some (.bool (o 3))∧w.cell? ⟨g,4,none⟩=some (.bool (o 4))∧w.cell? ⟨g,5,none⟩=some (.bool (o 5)) :=
 ⟨h.cell 0,h.cell 1,h.cell 2,h.cell 3,h.cell 4,h.cell 5⟩
theorem setV_one (o:Nat → Bool):(setV o).all (·.oneCell')=true:=by simp [setV,Value.oneCell']
end
theorem usesL_in {x:Rg} {r:Int} (h:r ∈ usesL x):0 ≤ r∧r < 6∧readsB x r=true:=by
 unfold usesL at h
 rw [List.mem_filter] at h
 obtain ⟨h1,h2⟩:=h
 simp at h1
 exact ⟨by omega,by omega,h2⟩
theorem usesL_iff {x:Rg} {r:Nat} (hr:r < 6):decide ((r:Int) ∈ usesL x)=readsB x (r:Nat):=by
 rw [Bool.eq_iff_iff,decide_eq_true_iff]
 refine ⟨fun h=>(usesL_in h).2.2,fun h=>?_⟩
 unfold usesL
 rw [List.mem_filter]
 refine ⟨?_,h⟩
 simp
 omega
theorem usesL_len (x:Rg):(usesL x).length ≤ 6:=by
 unfold usesL
 exact List.length_filter_le ..
def sameS (a b:Nat → Bool):Bool:=a 0 == b 0 && (a 1 == b 1 && (a 2 == b 2 && (a 3 == b 3 && (a 4 == b 4 && a 5 == b 5))))
theorem sameS_iff {a b:Nat → Bool}:sameS a b=true ↔ ∀ r,r < 6 → a r=b r:=by
 unfold sameS
 simp only [Bool.and_eq_true,beq_iff_eq]
 refine ⟨fun ⟨h0,h1,h2,h3,h4,h5⟩ r hr=>?_,fun h=>⟨h 0 (by omega),h 1 (by omega),h 2 (by omega),h 3 (by omega),h 4 (by omega),h 5 (by omega)⟩⟩
 rcases (show r=0 ∨ r=1 ∨ r=2 ∨ r=3 ∨ r=4 ∨ r=5 by omega) with rfl | rfl | rfl | rfl | rfl | rfl <;> assumption
theorem NumsAt.apart {w w':World} {A:Option Addr} {L:List Int} {bo:Nat} {t:TypeId} {o:Nat → Bool} (h:NumsAt w A L) (b:Blk w bo t (setV o)) (g:w.grownBy w' (some bo)):NumsAt w' A L:=by
 intro hn
 obtain ⟨k,off,hA,hk,hc⟩:=h hn
 have hne:k ≠ bo:=by
  intro e
  subst e
  have h1:=hc 0 0 hn (by omega)
  rw [b.cell] at h1
  rcases Nat.lt_or_ge (off + (0 * 1 + 0)) 6 with h6 | h6
  ·rw [setV_get h6] at h1
   cases h1
  ·rw [Array.getElem?_eq_none (by simpa [setV] using h6)] at h1
   cases h1
 have hh:=g.block k hk (fun e=>hne (Option.some.inj e))
 refine ⟨k,off,hA,Nat.lt_of_lt_of_le hk g.size,fun i j hi hj=>?_⟩
 rw [← hc i j hi hj]
 unfold World.cell?
 simp only [hh]
theorem run_set_eq (a b:Nat → Bool) (w:World):(Op.equalIn 10000 175 (.agg #[.bool (a 0),.bool (a 1),.bool (a 2),.bool (a 3),.bool (a 4),.bool (a 5)]) (.agg #[.bool (b 0),.bool (b 1),.bool (b 2),.bool (b 3),.bool (b 4),.bool (b 5)])).run Tryz.prog w=.ok (sameS a b) w:=by
 have u3:=Tryz.underlying4
 have a3:=Tryz.isAgg4
 have z3:=Tryz.sizeOf4
 rw [show (10000:Nat)=9999 + 1 from rfl,Op.equalIn]
 simp only [Sem.run_bind,run_underlying Tryz.underlying175,Result.andThen_ok]
 simp only [Std.Legacy.Range.forIn_eq_forIn_range',Std.Legacy.Range.size,Nat.sub_zero,Nat.add_sub_cancel,Nat.div_one,List.range'_succ,List.range'_zero,List.forIn_cons,List.forIn_nil]
 unfold sameS
 go_simp
 cases h0:(a 0 == b 0) <;> cases h1:(a 1 == b 1) <;> cases h2:(a 2 == b 2) <;> cases h3:(a 3 == b 3) <;> cases h4:(a 4 == b 4) <;> cases h5:(a 5 == b 5) <;> simp_all
end Go.Proofs.YtknaemlnhediaaaGreatDoor.c
