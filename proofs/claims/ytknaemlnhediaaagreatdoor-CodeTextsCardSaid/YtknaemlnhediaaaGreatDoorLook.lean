/- Contracts of code.look's closures: bad, reach. Conditions: lengths. -/
import Derived.Test.YtknaemlnhediaaaGreatDoorMap
import Derived.Test.YtknaemlnhediaaaGreatDoorQue
import Derived.Test.YtknaemlnhediaaaGreatDoorStep
import Derived.Test.YtknaemlnhediaaaGreatDoorShapeE
namespace Go.Proofs.YtknaemlnhediaaaGreatDoor.c
open Go.RowKit
set_option linter.unusedVariables false
set_option linter.unusedSimpArgs false

def ptv (p:Int × Int):Value:=.agg #[.int .i64 p.1,.int .i64 p.2]
open Classical in
noncomputable def seenV (S:List (Int × Int)):Value → Option Value:=fun x=>if ∃ p ∈ S,x=ptv p then some (.bool true) else none
theorem ptv_inj {p q:Int × Int} (h:ptv p=ptv q):p=q:=by
 unfold ptv at h
 simp at h
 exact Prod.ext h.1 h.2
theorem seenV_in {S:List (Int × Int)} {p:Int × Int} (h:p ∈ S):seenV S (ptv p)=some (.bool true):=by
 unfold seenV
 rw [if_pos ⟨p,h,rfl⟩]
theorem seenV_out {S:List (Int × Int)} {p:Int × Int} (h:p ∉ S):seenV S (ptv p)=none:=by
 unfold seenV
 rw [if_neg]
 rintro ⟨q,hq,e⟩
 rw [ptv_inj e] at h
 exact h hq
theorem seenV_cons {S:List (Int × Int)} {p:Int × Int} {x:Value} (h:x ≠ ptv p):seenV (p :: S) x=seenV S x:=by
 unfold seenV
 congr 1
 rw [eq_iff_iff]
 constructor
 ·rintro ⟨q,hq,e⟩
  rcases List.mem_cons.1 hq with rfl | hq
  ·exact absurd e h
  ·exact ⟨q,hq,e⟩
 ·rintro ⟨q,hq,e⟩
  exact ⟨q,List.mem_cons_of_mem _ hq,e⟩
def hV (H:Int → Option Int):Value → Option Value
 | .int .i64 i=>(H i).map (fun h=>.int .i64 h)
 | _=>none
def updH (H:Int → Option Int) (a h:Int):Int → Option Int:=fun i=>if i=a then some h else H i
theorem hV_upd (H:Int → Option Int) (a h:Int) (x:Value) (hx:x ≠ .int .i64 a):hV (updH H a h) x=hV H x:=by
 unfold hV
 split
 ·rename_i i
  unfold updH
  rw [if_neg (fun e=>hx (by rw [e]))]
 ·rfl
theorem hV_same (H:Int → Option Int) (a h:Int):hV (updH H a h) (.int .i64 a)=some (.int .i64 h):=by
 simp [hV,updH]
open Classical in
noncomputable def addS (S:List (Int × Int)) (p:Int × Int):List (Int × Int):=if p ∈ S then S else p :: S
open Classical in
noncomputable def addT (S T:List (Int × Int)) (p:Int × Int):List (Int × Int):=if p ∈ S then T else T ++ [p]
theorem addS_in {S:List (Int × Int)} {p:Int × Int} (h:p ∈ S):addS S p=S:=if_pos h
theorem addS_out {S:List (Int × Int)} {p:Int × Int} (h:p ∉ S):addS S p=p :: S:=if_neg h
theorem addT_in {S T:List (Int × Int)} {p:Int × Int} (h:p ∈ S):addT S T p=T:=if_pos h
theorem addT_out {S T:List (Int × Int)} {p:Int × Int} (h:p ∉ S):addT S T p=T ++ [p]:=if_neg h
def minS (wr at':Int):Int:=bif decide (wr < 0) || decide (at' < wr) then at' else wr
structure LkSt (w0 w:World) (f:Fc) (v:Value) (S T:List (Int × Int)) (H:Int → Option Int) (wr:Int):Prop where
 ext:Ext w0 w
 sz:w0.heap.size + 7 ≤ w.heap.size
 fbox:FcBox w w0.heap.size f
 seen:∃ n,MapAt w 210 (w0.heap.size + 1) n (seenV S)
 scell:Blk w (w0.heap.size + 2) 184 #[.map (some (w0.heap.size + 1))]
 hts:∃ n,MapAt w 3 (w0.heap.size + 3) n (hV H)
 tcell:Blk w (w0.heap.size + 5) 234 #[v]
 que:Que w (w0.heap.size + 4) v T
 qne:v.ownBlock ≠ some (w0.heap.size + 5)∧v.ownBlock ≠ some (w0.heap.size + 6)
 wcell:Blk w (w0.heap.size + 6) 3 #[.int .i64 wr]
def LkKeep (w0 w w':World) (v v':Value):Prop:=∀ k t cs,w0.heap.size + 7 ≤ k → v.ownBlock ≠ some k → Blk w k t cs → Blk w' k t cs∧v'.ownBlock ≠ some k
theorem LkKeep.trans {w0 a b c:World} {u v x:Value} (h:LkKeep w0 a b u v) (k:LkKeep w0 b c v x):LkKeep w0 a c u x:=fun i t cs hi hu hb=>by
 obtain ⟨h1,h2⟩:=h i t cs hi hu hb
 exact k i t cs hi h2 h1
theorem Que.block {w:World} {base:Nat} {v:Value} {l:List (Int × Int)} (h:Que w base v l) {k:Nat} (hk:v.ownBlock=some k):base ≤ k∧k < w.heap.size:=by
 obtain ⟨g,off,cap,rfl,hb,hg,ho⟩:=h.slice
 rw [ho] at hk
 cases hk
 exact ⟨hb,hg⟩
theorem LkSt.alloc {w0 w:World} {f:Fc} {v:Value} {S T:List (Int × Int)} {H:Int → Option Int} {wr:Int} (s:LkSt w0 w f v S T H wr) (o:Obj):LkSt w0 (w.alloc o) f v S T H wr:=by
 have x:Ext w (w.alloc o):=(Ext.refl _).alloc o
 obtain ⟨n,hn⟩:=s.seen
 obtain ⟨m,hm⟩:=s.hts
 exact ⟨s.ext.alloc o,by rw [size_alloc]; have:=s.sz; omega,s.fbox.ext x,⟨n,hn.ext x⟩,s.scell.ext x,⟨m,hm.ext x⟩,s.tcell.ext x,s.que.ext x,s.qne,s.wcell.ext x⟩
theorem LkKeep.alloc {w0 w:World} {v:Value} (o:Obj):LkKeep w0 w (w.alloc o) v v:=fun k t cs _ hv hb=>⟨hb.alloc o,hv⟩
theorem LkSt.ext' {w0 w w':World} {f:Fc} {v:Value} {S T:List (Int × Int)} {H:Int → Option Int} {wr:Int} (s:LkSt w0 w f v S T H wr) (x:Ext w w'):LkSt w0 w' f v S T H wr:=by
 obtain ⟨n,hn⟩:=s.seen
 obtain ⟨m,hm⟩:=s.hts
 exact ⟨s.ext.trans x,by have:=s.sz; have:=x.size; omega,s.fbox.ext x,⟨n,hn.ext x⟩,s.scell.ext x,⟨m,hm.ext x⟩,s.tcell.ext x,s.que.ext x,s.qne,s.wcell.ext x⟩
theorem LkKeep.ext {w0 w w':World} {v:Value} (x:Ext w w'):LkKeep w0 w w' v v:=fun k t cs _ hv hb=>⟨hb.ext x,hv⟩
theorem LkSt.wrong {w0 w:World} {f:Fc} {v:Value} {S T:List (Int × Int)} {H:Int → Option Int} {wr:Int} (s:LkSt w0 w f v S T H wr) (wr':Int):LkSt w0 (w.setCell ⟨w0.heap.size + 6,0,none⟩ (.int .i64 wr')) f v S T H wr':=by
 obtain ⟨n,hn⟩:=s.seen
 obtain ⟨m,hm⟩:=s.hts
 refine ⟨s.ext.setCell (by simp) _,by simp; exact s.sz,⟨s.fbox.out.far (by simp) _⟩,⟨n,hn.setCell (by simp) _⟩,s.scell.far (by simp) _,⟨m,hm.setCell (by simp) _⟩,s.tcell.far (by simp) _,s.que.setCell s.qne.2 _,s.qne,?_⟩
 have:=s.wcell.set_ 0 (.int .i64 wr')
 simpa using this
theorem LkKeep.wrong {w0 w:World} {v:Value} (u:Value):LkKeep w0 w (w.setCell ⟨w0.heap.size + 6,0,none⟩ u) v v:=fun k t cs hk hv hb=>⟨hb.far (by simp; omega) u,hv⟩
theorem LkSt.pop {w0 w:World} {f:Fc} {v v':Value} {S T T':List (Int × Int)} {H:Int → Option Int} {wr:Int} (s:LkSt w0 w f v S T H wr) (q:Que w (w0.heap.size + 4) v' T') (ho:v'.ownBlock=v.ownBlock):LkSt w0 (w.setCell ⟨w0.heap.size + 5,0,none⟩ v') f v' S T' H wr:=by
 obtain ⟨n,hn⟩:=s.seen
 obtain ⟨m,hm⟩:=s.hts
 refine ⟨s.ext.setCell (by simp) _,by simp; exact s.sz,⟨s.fbox.out.far (by simp) _⟩,⟨n,hn.setCell (by simp) _⟩,s.scell.far (by simp) _,⟨m,hm.setCell (by simp) _⟩,?_,q.setCell (by rw [ho]; exact s.qne.1) _,by rw [ho]; exact s.qne,s.wcell.far (by simp) _⟩
 have:=s.tcell.set_ 0 v'
 simpa using this
theorem LkKeep.pop {w0 w:World} {v v':Value} (u:Value) (ho:v'.ownBlock=v.ownBlock):LkKeep w0 w (w.setCell ⟨w0.heap.size + 5,0,none⟩ u) v v':=fun k t cs hk hv hb=>⟨hb.far (by simp; omega) u,by rw [ho]; exact hv⟩
theorem Blk.grown {w w':World} {row:Option Nat} {k:Nat} {t:TypeId} {cs:Array Value} (h:Blk w k t cs) (g:w.grownBy w' row) (hne:some k ≠ row):Blk w' k t cs:=(g.block k h.lt hne).trans h
theorem LkSt.mapped {w0 w w':World} {f:Fc} {v:Value} {S S' T:List (Int × Int)} {H H':Int → Option Int} {wr:Int} {b:Nat} (s:LkSt w0 w f v S T H wr) (g:w.grownBy w' (some b)) (hb:b=w0.heap.size + 1 ∨ b=w0.heap.size + 3)
  (hs:∃ n,MapAt w' 210 (w0.heap.size + 1) n (seenV S')) (hh:∃ n,MapAt w' 3 (w0.heap.size + 3) n (hV H')):LkSt w0 w' f v S' T H' wr:=by
 have hq:v.ownBlock ≠ some b:=fun e=>by have:=(s.que.block e).1; omega
 refine ⟨s.ext.grown g (fun k e=>by cases e; omega),Nat.le_trans s.sz g.size,⟨s.fbox.out.grown g ?_⟩,hs,s.scell.grown g ?_,hh,s.tcell.grown g ?_,s.que.grown g hq,s.qne,s.wcell.grown g ?_⟩ <;>
 ·intro e; cases e; omega
theorem LkKeep.mapped {w0 w w':World} {v:Value} {b:Nat} (g:w.grownBy w' (some b)) (hb:b=w0.heap.size + 1 ∨ b=w0.heap.size + 3):LkKeep w0 w w' v v:=fun k t cs hk hv hB=>⟨hB.grown g (fun e=>by cases e; omega),hv⟩
theorem LkSt.pushed {w0 w w':World} {f:Fc} {v v':Value} {S T T':List (Int × Int)} {H:Int → Option Int} {wr:Int} (s:LkSt w0 w f v S T H wr) (g:w.grownBy w' v.ownBlock) (q:Que w' (w0.heap.size + 4) v' T') (ho:v'.ownBlock=v.ownBlock ∨ ∃ g,v'.ownBlock=some g∧w.heap.size ≤ g) :
  LkSt w0 (w'.setCell ⟨w0.heap.size + 5,0,none⟩ v') f v' S T' H wr:=by
 obtain ⟨gq,off,cap,hv,hb,hlt,hob⟩:=s.que.slice
 obtain ⟨n,hn⟩:=s.seen
 obtain ⟨m,hm⟩:=s.hts
 rw [hob] at g
 have hsz:=s.sz
 have q5:gq ≠ w0.heap.size + 5:=fun e=>s.qne.1 (by rw [hob,e])
 have q6:gq ≠ w0.heap.size + 6:=fun e=>s.qne.2 (by rw [hob,e])
 have hq5:v'.ownBlock ≠ some (w0.heap.size + 5):=by
  rcases ho with ho | ⟨g',ho,hg'⟩
  ·rw [ho]; exact s.qne.1
  ·rw [ho]; intro e; cases e; omega
 have hq6:v'.ownBlock ≠ some (w0.heap.size + 6):=by
  rcases ho with ho | ⟨g',ho,hg'⟩
  ·rw [ho]; exact s.qne.2
  ·rw [ho]; intro e; cases e; omega
 have ne:∀ k,k ≠ gq → some k ≠ some gq:=fun k hk e=>hk (by cases e; rfl)
 refine ⟨(s.ext.grown g (fun k e=>by cases e; omega)).setCell (by simp) _,by have:=g.size; simp; omega,⟨(s.fbox.out.grown g (ne _ (by omega))).far (by simp) _⟩,⟨n,(hn.grown g (ne _ (by omega))).setCell (by simp) _⟩,
  (s.scell.grown g (ne _ (by omega))).far (by simp) _,⟨m,(hm.grown g (ne _ (by omega))).setCell (by simp) _⟩,?_,q.setCell hq5 _,⟨hq5,hq6⟩,(s.wcell.grown g (ne _ (by omega))).far (by simp) _⟩
 have:=(s.tcell.grown g (ne _ (by omega))).set_ 0 v'
 simpa using this
theorem LkKeep.pushed {w0 w w':World} {v v':Value} {u:Value} (g:w.grownBy w' v.ownBlock) (ho:v'.ownBlock=v.ownBlock ∨ ∃ g,v'.ownBlock=some g∧w.heap.size ≤ g):LkKeep w0 w (w'.setCell ⟨w0.heap.size + 5,0,none⟩ u) v v':=fun k t cs hk hv hb=>by
 refine ⟨(hb.grown g (fun e=>hv e.symm)).far (by simp; omega) u,?_⟩
 rcases ho with ho | ⟨g',ho,hg'⟩
 ·rw [ho]; exact hv
 ·rw [ho]; intro e; cases e; have:=hb.lt; omega
end Go.Proofs.YtknaemlnhediaaaGreatDoor.c
