/- A queue of pairs of numbers: what lies in it, the first is taken, one is put behind. Conditions: lengths. Contracts of code.look's closures: bad, reach. Conditions: lengths. Contracts of code.look's closures: bad, reach. Conditions: lengths. -/
import Derived.Test.YtcoookehfhhhdaaGreatDoorLib
import Derived.ArgAppend
import Derived.Deep.AppendLies
import Derived.Test.YtcoookehfhhhdaaGreatDoorMap
import Derived.Test.YtcoookehfhhhdaaGreatDoorRcode
import Derived.Test.YtcoookehfhhhdaaGreatDoorShapeB
namespace Go.Proofs.YtcoookehfhhhdaaGreatDoor.c
open Go.RowKit
set_option linter.unusedVariables false
set_option maxRecDepth 100000
set_option maxHeartbeats 1600000
set_option linter.unusedSimpArgs false

def qcells:List (Int × Int) → List Value
 | []=>[]
 | p :: l=>.int .i64 p.1 :: .int .i64 p.2 :: qcells l
theorem qcells_length (l:List (Int × Int)):(qcells l).length=l.length * 2:=by
 induction l with
 | nil=>rfl
 | cons p l ih=>simp [qcells,ih]; omega
theorem qcells_append (l m:List (Int × Int)):qcells (l ++ m)=qcells l ++ qcells m:=by
 induction l with
 | nil=>rfl
 | cons p l ih=>simp [qcells,ih]
theorem qcells_get (l:List (Int × Int)) (j:Nat) (hj:j < l.length):(qcells l)[j * 2]?=some (.int .i64 (l.getD j (0,0)).1)∧(qcells l)[j * 2 + 1]?=some (.int .i64 (l.getD j (0,0)).2):=by
 induction l generalizing j with
 | nil=>simp at hj
 | cons p l ih =>
  cases j with
  | zero=>simp [qcells]
  | succ j =>
   have:=ih j (by simpa using hj)
   rw [show (j + 1) * 2=j * 2 + 2 by omega]
   first | (simp [qcells]; done) | (simpa [qcells] using this)
structure Que (w:World) (base:Nat) (v:Value) (l:List (Int × Int)):Prop where
 out:∃ g off cap,v=.slice (some ⟨g,off,none⟩) l.length cap∧base ≤ g∧g < w.heap.size∧l.length ≤ cap∧cap ≤ maxLen ∧
  (∀ j,j < l.length * 2 → w.cell? ⟨g,off + j,none⟩=(qcells l)[j]?)∧(∀ j,j < cap * 2 → (w.cell? ⟨g,off + j,none⟩).isSome=true∧w.frozen? ⟨g,off + j,none⟩=false)
theorem Que.slice {w:World} {base:Nat} {v:Value} {l:List (Int × Int)} (h:Que w base v l):∃ g off cap,v=.slice (some ⟨g,off,none⟩) l.length cap∧base ≤ g∧g < w.heap.size∧v.ownBlock=some g:=by
 obtain ⟨g,off,cap,rfl,hb,hg,_⟩:=h
 exact ⟨g,off,cap,rfl,hb,hg,rfl⟩
theorem Que.keep {w w':World} {base:Nat} {v:Value} {l:List (Int × Int)} (h:Que w base v l) (hk:∀ g,v.ownBlock=some g → w'.heap[g]?=w.heap[g]?) (hs:w.heap.size ≤ w'.heap.size):Que w' base v l:=by
 obtain ⟨g,off,cap,rfl,hb,hg,r1,r2,r3,r4⟩:=h
 have e:=hk g rfl
 refine ⟨g,off,cap,rfl,hb,by omega,r1,r2,fun j hj=>?_,fun j hj=>?_⟩
 ·rw [World.cell?_of_block (a:=⟨g,off + j,none⟩) e]; exact r3 j hj
 ·rw [World.cell?_of_block (a:=⟨g,off + j,none⟩) e,World.frozen?_of_block (a:=⟨g,off + j,none⟩) e]; exact r4 j hj
theorem Que.ext {w w':World} {base:Nat} {v:Value} {l:List (Int × Int)} (h:Que w base v l) (x:Ext w w'):Que w' base v l:=by
 obtain ⟨g,off,cap,hv,_,hg,ho⟩:=h.slice
 refine h.keep (fun g' e=>x.out.block g' ?_) x.size
 rw [ho] at e
 cases e
 exact hg
theorem Que.setCell {w:World} {base:Nat} {v:Value} {l:List (Int × Int)} (h:Que w base v l) {a:Addr} (ha:v.ownBlock ≠ some a.block) (u:Value):Que (w.setCell a u) base v l :=
 h.keep (fun g e=>Below.heap_setCell w a u g (fun e2=>ha (by rw [e,e2]))) (by simp [World.setCell])
theorem Que.grown {w w':World} {row:Option Nat} {base:Nat} {v:Value} {l:List (Int × Int)} (h:Que w base v l) (hg:w.grownBy w' row) (hne:v.ownBlock ≠ row):Que w' base v l:=by
 obtain ⟨g,off,cap,hv,_,hlt,ho⟩:=h.slice
 refine h.keep (fun g' e=>hg.block g' ?_ (fun e2=>hne (by rw [e,e2]))) hg.size
 rw [ho] at e
 cases e
 exact hlt
theorem Que.head {w:World} {base:Nat} {v:Value} {p:Int × Int} {l:List (Int × Int)} (h:Que w base v (p :: l)):∃ g off cap,v=.slice (some ⟨g,off,none⟩) (l.length + 1) cap∧base ≤ g∧g < w.heap.size∧v.ownBlock=some g∧l.length + 1 ≤ cap∧cap ≤ maxLen ∧
  w.cell? ⟨g,off,none⟩=some (.int .i64 p.1)∧w.cell? ⟨g,off + 1,none⟩=some (.int .i64 p.2)∧Que w base (.slice (if cap - 1=0 then some ⟨g,off,none⟩ else some ⟨g,off + 2,none⟩) l.length (cap - 1)) l:=by
 obtain ⟨g,off,cap,rfl,hb,hg,h1,h2,h3,h4⟩:=h
 simp only [List.length_cons] at h1 h3 ⊢
 refine ⟨g,off,cap,rfl,hb,hg,rfl,h1,h2,?_,?_,?_⟩
 ·have:=h3 0 (by omega)
  first | (simp [qcells]; done) | (simpa [qcells] using this)
 ·have:=h3 1 (by omega)
  first | (simp [qcells]; done) | (simpa [qcells] using this)
 ·by_cases hc:cap - 1=0
  ·have hl:l=[]:=List.eq_nil_of_length_eq_zero (by omega)
   subst hl
   rw [if_pos hc]
   refine ⟨g,off,cap - 1,rfl,hb,hg,by omega,by omega,fun j hj=>by simp at hj,fun j hj=>?_⟩
   rw [hc] at hj
   omega
  ·rw [if_neg hc]
   refine ⟨g,off + 2,cap - 1,rfl,hb,hg,by omega,by omega,fun j hj=>?_,fun j hj=>?_⟩
   ·have:=h3 (j + 2) (by omega)
    rw [show off + 2 + j=off + (j + 2) by omega,this]
    simp [qcells]
   ·rw [show off + 2 + j=off + (j + 2) by omega]
    exact h4 (j + 2) (by omega)
theorem Que.new {w:World} {base g e:Nat} (hb:base ≤ g) {a h:Int} (hg:w.heap[g]?=some (.cells #[.int .i64 a,.int .i64 h] e (0,0))):Que w base (.slice (some ⟨g,0,none⟩) 1 1) [(a,h)]:=by
 have hlt:g < w.heap.size:=by
  rcases Nat.lt_or_ge g w.heap.size with h1 | h1
  ·exact h1
  ·rw [Array.getElem?_eq_none h1] at hg; cases hg
 refine ⟨g,0,1,rfl,hb,hlt,by simp,by simp [maxLen],fun j hj=>?_,fun j hj=>?_⟩
 ·rw [Nat.zero_add,cell_of_row w g j _ e (0,0) hg]
  simp [qcells]
 ·rw [Nat.zero_add,cell_of_row w g j _ e (0,0) hg]
  refine ⟨?_,by simp [World.frozen?,hg]⟩
  match j,hj with
  | 0,_=>rfl
  | 1,_=>rfl
theorem Que.push {w:World} {base:Nat} {v:Value} {l:List (Int × Int)} (q:Que w base v l) (t ty e:TypeId) (i:TypeInfo) (z:Value) (ht:Tryz.prog.underlying t=some (.slice e)) (hi:Tryz.prog.info? e=some i) (hz:i.zero=some z)
  (hsize:i.size=2) (hby:i.bytes=16) (hzs:z.cells.size=2) (hl:l.length ≤ 1000000) (ad:Addr) (c:Nat) (a h:Int) (hnews:∀ j u,[Value.int .i64 a,.int .i64 h][j]?=some u → w.cell? (ad.add j)=some u) (hbase:base ≤ w.heap.size) :
  ∃ v' w',(Builtin.append_ #[t,t] ty #[v,.slice (some ad) 1 c]).run Tryz.prog w=.ok v' w'∧Que w' base v' (l ++ [(a,h)])∧w.grownBy w' v.ownBlock∧(v'.ownBlock=v.ownBlock ∨ ∃ g,v'.ownBlock=some g∧w.heap.size ≤ g):=by
 obtain ⟨g,off,cap,rfl,hb,hg,h1,h2,h3,h4⟩:=q
 by_cases hroom:l.length + 1 ≤ cap
 ·have hsome:∀ j,j < [Value.int .i64 a,.int .i64 h].length → (w.cell? ⟨g,off + l.length * 2 + j,none⟩).isSome=true:=fun j hj=>by
   rw [Nat.add_assoc]; exact (h4 _ (by simp at hj; omega)).1
  have hrun:=run_append_room_cells (P:=Tryz.prog) w t ty e i ht hi g off l.length cap ad 1 c [.int .i64 a,.int .i64 h] (by simp [hsize]) hnews (by intro u hu; simp at hu; rcases hu with rfl | rfl <;> rfl) hroom
   (by rw [hsize]; exact hsome) (fun j hj=>by rw [hsize,Nat.add_assoc]; exact (h4 _ (by simp at hj; omega)).2)
  rw [hsize] at hrun
  refine ⟨_,_,hrun,⟨g,off,cap,by simp,hb,?_,by simpa using hroom,h2,fun j hj=>?_,fun j hj=>?_⟩,?_,.inl rfl⟩
  ·simp only [World.setCells,World.setCell]; simpa using hg
  ·rw [qcells_append]
   rcases Nat.lt_or_ge j (l.length * 2) with hj2 | hj2
   ·rw [List.getElem?_append_left (by rw [qcells_length]; exact hj2),← h3 j hj2]
    exact World.cell?_setCells_out g _ _ _ _ (fun _ _=>.inl (by show off + j < off + l.length * 2; omega))
   ·rw [List.getElem?_append_right (by rw [qcells_length]; exact hj2),qcells_length]
    have hj3:j < l.length * 2 + 2:=by simp at hj; omega
    obtain ⟨k,rfl⟩:∃ k,j=l.length * 2 + k:=⟨j - l.length * 2,by omega⟩
    have:=World.cell?_setCells_in g [Value.int .i64 a,.int .i64 h] (off + l.length * 2) w hsome k (by simp; omega)
    rw [← Nat.add_assoc,this,Nat.add_sub_cancel_left,List.getElem?_eq_getElem (by simp [qcells]; omega)]
    rfl
  ·rw [World.frozen?_setCells]
   refine ⟨?_,(h4 j hj).2⟩
   simp only [World.setCells]
   have:=(h4 j hj).1
   obtain ⟨x,hx⟩:=Option.isSome_iff_exists.1 this
   obtain ⟨y,hy⟩:=cell?_setCell_some (p:=⟨g,off + l.length * 2,none⟩) (x:=.int .i64 a) hx
   obtain ⟨y2,hy2⟩:=cell?_setCell_some (p:=⟨g,off + l.length * 2 + 1,none⟩) (x:=.int .i64 h) hy
   rw [hy2]; rfl
  ·refine ⟨rfl,rfl,rfl,by simp [World.setCells,World.setCell],fun k hk hne=>?_⟩
   have hkg:k ≠ g:=fun e=>hne (by rw [e]; rfl)
   simp only [World.setCells]
   rw [Below.heap_setCell _ _ _ _ hkg,Below.heap_setCell _ _ _ _ hkg]
 ·obtain ⟨v',w',hrun,ho,hgr⟩:=run_append_arg_grows (P:=Tryz.prog) w t ty e i z 2 16 ht hi hz hsize hby hzs (by omega) ⟨g,off,none⟩ l.length cap (qcells l) (qcells_length l)
   (fun j u hu=>by
    have hj:j < l.length * 2:=by rw [← qcells_length]; exact (List.getElem?_eq_some_iff.1 hu).1
    rw [Addr.add_lit,h3 j hj]; exact hu) ad 1 c [.int .i64 a,.int .i64 h] rfl hnews (by omega) (by simp only [maxLen]; omega) (by omega)
  have ho2:=ho
  obtain ⟨hlen,hn | ⟨g',cap',cur,rfl,hb',hg',hn',hc',hs',htk⟩⟩:=ho
  ·omega
  refine ⟨_,w',hrun,⟨g',0,cap',by simp,by omega,?_,by simpa using hn',hc',fun j hj=>?_,fun j hj=>?_⟩,?_,.inr ⟨g',rfl,hb'⟩⟩
  ·rcases Nat.lt_or_ge g' w'.heap.size with hx | hx
   ·exact hx
   ·rw [Array.getElem?_eq_none hx] at hg'; cases hg'
  ·rw [Nat.zero_add,ho2.cellAt j (by simpa using hj),qcells_append]
   rfl
  ·rw [Nat.zero_add]
   refine ⟨?_,ho2.frozenAt j⟩
   rw [cell_of_row w' g' j cur e (0,0) hg',Array.getElem?_eq_getElem (by omega)]
   rfl
  ·exact ⟨hgr.os,hgr.tape,hgr.output,hgr.size,fun k hk _=>hgr.block k hk (by simp)⟩
theorem wpList_push {w:World} {ops:Array Oper} {rest:List Oper} {o:Oper} {a:Act} {Q:Exit → Act → World → Prop} (hgd:o.guard=none) (s x:Operand) (t:TypeId)
  (ho:o.op=.call { callee:=.builtin .append,args:=#[s,x],argTypes:=#[t,t] }) {base:Nat} {v:Value} {l:List (Int × Int)} (e:TypeId) (i:TypeInfo) (z:Value) (ht:Tryz.prog.underlying t=some (.slice e)) (hi:Tryz.prog.info? e=some i) (hz:i.zero=some z)
  (hsize:i.size=2) (hby:i.bytes=16) (hzs:z.cells.size=2) (q:Que w base v l) (hs:a.eval s=v) (hl:l.length ≤ 1000000) (ad:Addr) (c:Nat) (pa ph:Int) (hx:a.eval x=.slice (some ad) 1 c) (hnews:∀ j u,[Value.int .i64 pa,.int .i64 ph][j]?=some u → w.cell? (ad.add j)=some u) (hbase:base ≤ w.heap.size)
  (hK:∀ v' w',Que w' base v' (l ++ [(pa,ph)]) → w.grownBy w' v.ownBlock → (v'.ownBlock=v.ownBlock ∨ ∃ g,v'.ownBlock=some g∧w.heap.size ≤ g) → wpList Tryz.prog ops Q rest (a.put o.dst v') w'):wpList Tryz.prog ops Q (o :: rest) a w:=by
 refine wpList_plain hgd fun K hK'=>?_
 obtain ⟨v',w',hrun,r1,r2,r3⟩:=q.push t o.type e i z ht hi hz hsize hby hzs hl ad c pa ph hnews hbase
 unfold Oper.wp
 simp [execOp,ho,resolve,invoke,builtin,hs,hx,hrun,Result.andThen]
 exact hK' _ _ (hK v' w' r1 r2 r3)

def ptv (p:Int × Int):Value:=.agg #[.int .i64 p.1,.int .i64 p.2]
open Classical in
noncomputable def seenV (S:List (Int × Int)):Value → Option Value:=fun x=>if ∃ p ∈ S,x=ptv p then some (.bool true) else none
theorem ptv_inj {p q:Int × Int} (h:ptv p=ptv q):p=q:=by
 unfold ptv at h
 simp at h
 exact Prod.ext h.1 h.2
theorem seenV_in {S:List (Int × Int)} {p:Int × Int} (h:p ∈ S):seenV S (ptv p)=some (.bool true):=by
 unfold seenV
 rw [if_pos ⟨p,h,rfl⟩]
theorem seenV_out {S:List (Int × Int)} {p:Int × Int} (h:p ∉ S):seenV S (ptv p)=none:=by
 unfold seenV
 rw [if_neg]
 rintro ⟨q,hq,e⟩
 rw [ptv_inj e] at h
 exact h hq
theorem seenV_cons {S:List (Int × Int)} {p:Int × Int} {x:Value} (h:x ≠ ptv p):seenV (p :: S) x=seenV S x:=by
 unfold seenV
 congr 1
 rw [eq_iff_iff]
 constructor
 ·rintro ⟨q,hq,e⟩
  rcases List.mem_cons.1 hq with rfl | hq
  ·exact absurd e h
  ·exact ⟨q,hq,e⟩
 ·rintro ⟨q,hq,e⟩
  exact ⟨q,List.mem_cons_of_mem _ hq,e⟩
def hV (H:Int → Option Int):Value → Option Value
 | .int .i64 i=>(H i).map (fun h=>.int .i64 h)
 | _=>none
def updH (H:Int → Option Int) (a h:Int):Int → Option Int:=fun i=>if i=a then some h else H i
theorem hV_upd (H:Int → Option Int) (a h:Int) (x:Value) (hx:x ≠ .int .i64 a):hV (updH H a h) x=hV H x:=by
 unfold hV
 split
 ·rename_i i
  unfold updH
  rw [if_neg (fun e=>hx (by rw [e]))]
 ·rfl
theorem hV_same (H:Int → Option Int) (a h:Int):hV (updH H a h) (.int .i64 a)=some (.int .i64 h):=by
 simp [hV,updH]
open Classical in
noncomputable def addS (S:List (Int × Int)) (p:Int × Int):List (Int × Int):=if p ∈ S then S else p :: S
open Classical in
noncomputable def addT (S T:List (Int × Int)) (p:Int × Int):List (Int × Int):=if p ∈ S then T else T ++ [p]
theorem addS_in {S:List (Int × Int)} {p:Int × Int} (h:p ∈ S):addS S p=S:=if_pos h
theorem addS_out {S:List (Int × Int)} {p:Int × Int} (h:p ∉ S):addS S p=p :: S:=if_neg h
theorem addT_in {S T:List (Int × Int)} {p:Int × Int} (h:p ∈ S):addT S T p=T:=if_pos h
theorem addT_out {S T:List (Int × Int)} {p:Int × Int} (h:p ∉ S):addT S T p=T ++ [p]:=if_neg h
def minS (wr at':Int):Int:=bif decide (wr < 0) || decide (at' < wr) then at' else wr
structure LkSt (w0 w:World) (f:Fc) (v:Value) (S T:List (Int × Int)) (H:Int → Option Int) (wr:Int):Prop where
 ext:Ext w0 w
 sz:w0.heap.size + 7 ≤ w.heap.size
 fbox:FcBox w w0.heap.size f
 seen:∃ n,MapAt w 109 (w0.heap.size + 1) n (seenV S)
 scell:Blk w (w0.heap.size + 2) 102 #[.map (some (w0.heap.size + 1))]
 hts:∃ n,MapAt w 3 (w0.heap.size + 3) n (hV H)
 tcell:Blk w (w0.heap.size + 5) 143 #[v]
 que:Que w (w0.heap.size + 4) v T
 qne:v.ownBlock ≠ some (w0.heap.size + 5)∧v.ownBlock ≠ some (w0.heap.size + 6)
 wcell:Blk w (w0.heap.size + 6) 3 #[.int .i64 wr]
def LkKeep (w0 w w':World) (v v':Value):Prop:=∀ k t cs,w0.heap.size + 7 ≤ k → v.ownBlock ≠ some k → Blk w k t cs → Blk w' k t cs∧v'.ownBlock ≠ some k
theorem LkKeep.trans {w0 a b c:World} {u v x:Value} (h:LkKeep w0 a b u v) (k:LkKeep w0 b c v x):LkKeep w0 a c u x:=fun i t cs hi hu hb=>by
 obtain ⟨h1,h2⟩:=h i t cs hi hu hb
 exact k i t cs hi h2 h1
theorem Que.block {w:World} {base:Nat} {v:Value} {l:List (Int × Int)} (h:Que w base v l) {k:Nat} (hk:v.ownBlock=some k):base ≤ k∧k < w.heap.size:=by
 obtain ⟨g,off,cap,rfl,hb,hg,ho⟩:=h.slice
 rw [ho] at hk
 cases hk
 exact ⟨hb,hg⟩
theorem LkSt.alloc {w0 w:World} {f:Fc} {v:Value} {S T:List (Int × Int)} {H:Int → Option Int} {wr:Int} (s:LkSt w0 w f v S T H wr) (o:Obj):LkSt w0 (w.alloc o) f v S T H wr:=by
 have x:Ext w (w.alloc o):=(Ext.refl _).alloc o
 obtain ⟨n,hn⟩:=s.seen
 obtain ⟨m,hm⟩:=s.hts
 exact ⟨s.ext.alloc o,by rw [size_alloc]; have:=s.sz; omega,s.fbox.ext x,⟨n,hn.ext x⟩,s.scell.ext x,⟨m,hm.ext x⟩,s.tcell.ext x,s.que.ext x,s.qne,s.wcell.ext x⟩
theorem LkKeep.alloc {w0 w:World} {v:Value} (o:Obj):LkKeep w0 w (w.alloc o) v v:=fun k t cs _ hv hb=>⟨hb.alloc o,hv⟩
theorem LkSt.ext' {w0 w w':World} {f:Fc} {v:Value} {S T:List (Int × Int)} {H:Int → Option Int} {wr:Int} (s:LkSt w0 w f v S T H wr) (x:Ext w w'):LkSt w0 w' f v S T H wr:=by
 obtain ⟨n,hn⟩:=s.seen
 obtain ⟨m,hm⟩:=s.hts
 exact ⟨s.ext.trans x,by have:=s.sz; have:=x.size; omega,s.fbox.ext x,⟨n,hn.ext x⟩,s.scell.ext x,⟨m,hm.ext x⟩,s.tcell.ext x,s.que.ext x,s.qne,s.wcell.ext x⟩
theorem LkKeep.ext {w0 w w':World} {v:Value} (x:Ext w w'):LkKeep w0 w w' v v:=fun k t cs _ hv hb=>⟨hb.ext x,hv⟩
theorem LkSt.wrong {w0 w:World} {f:Fc} {v:Value} {S T:List (Int × Int)} {H:Int → Option Int} {wr:Int} (s:LkSt w0 w f v S T H wr) (wr':Int):LkSt w0 (w.setCell ⟨w0.heap.size + 6,0,none⟩ (.int .i64 wr')) f v S T H wr':=by
 obtain ⟨n,hn⟩:=s.seen
 obtain ⟨m,hm⟩:=s.hts
 refine ⟨s.ext.setCell (by simp) _,by simp; exact s.sz,⟨s.fbox.out.far (by simp) _⟩,⟨n,hn.setCell (by simp) _⟩,s.scell.far (by simp) _,⟨m,hm.setCell (by simp) _⟩,s.tcell.far (by simp) _,s.que.setCell s.qne.2 _,s.qne,?_⟩
 have:=s.wcell.set_ 0 (.int .i64 wr')
 simpa using this
theorem LkKeep.wrong {w0 w:World} {v:Value} (u:Value):LkKeep w0 w (w.setCell ⟨w0.heap.size + 6,0,none⟩ u) v v:=fun k t cs hk hv hb=>⟨hb.far (by simp; omega) u,hv⟩
theorem LkSt.pop {w0 w:World} {f:Fc} {v v':Value} {S T T':List (Int × Int)} {H:Int → Option Int} {wr:Int} (s:LkSt w0 w f v S T H wr) (q:Que w (w0.heap.size + 4) v' T') (ho:v'.ownBlock=v.ownBlock):LkSt w0 (w.setCell ⟨w0.heap.size + 5,0,none⟩ v') f v' S T' H wr:=by
 obtain ⟨n,hn⟩:=s.seen
 obtain ⟨m,hm⟩:=s.hts
 refine ⟨s.ext.setCell (by simp) _,by simp; exact s.sz,⟨s.fbox.out.far (by simp) _⟩,⟨n,hn.setCell (by simp) _⟩,s.scell.far (by simp) _,⟨m,hm.setCell (by simp) _⟩,?_,q.setCell (by rw [ho]; exact s.qne.1) _,by rw [ho]; exact s.qne,s.wcell.far (by simp) _⟩
 have:=s.tcell.set_ 0 v'
 simpa using this
theorem LkKeep.pop {w0 w:World} {v v':Value} (u:Value) (ho:v'.ownBlock=v.ownBlock):LkKeep w0 w (w.setCell ⟨w0.heap.size + 5,0,none⟩ u) v v':=fun k t cs hk hv hb=>⟨hb.far (by simp; omega) u,by rw [ho]; exact hv⟩
theorem Blk.grown {w w':World} {row:Option Nat} {k:Nat} {t:TypeId} {cs:Array Value} (h:Blk w k t cs) (g:w.grownBy w' row) (hne:some k ≠ row):Blk w' k t cs:=(g.block k h.lt hne).trans h
theorem LkSt.mapped {w0 w w':World} {f:Fc} {v:Value} {S S' T:List (Int × Int)} {H H':Int → Option Int} {wr:Int} {b:Nat} (s:LkSt w0 w f v S T H wr) (g:w.grownBy w' (some b)) (hb:b=w0.heap.size + 1 ∨ b=w0.heap.size + 3)
  (hs:∃ n,MapAt w' 109 (w0.heap.size + 1) n (seenV S')) (hh:∃ n,MapAt w' 3 (w0.heap.size + 3) n (hV H')):LkSt w0 w' f v S' T H' wr:=by
 have hq:v.ownBlock ≠ some b:=fun e=>by have:=(s.que.block e).1; omega
 refine ⟨s.ext.grown g (fun k e=>by cases e; omega),Nat.le_trans s.sz g.size,⟨s.fbox.out.grown g ?_⟩,hs,s.scell.grown g ?_,hh,s.tcell.grown g ?_,s.que.grown g hq,s.qne,s.wcell.grown g ?_⟩ <;>
 ·intro e; cases e; omega
theorem LkKeep.mapped {w0 w w':World} {v:Value} {b:Nat} (g:w.grownBy w' (some b)) (hb:b=w0.heap.size + 1 ∨ b=w0.heap.size + 3):LkKeep w0 w w' v v:=fun k t cs hk hv hB=>⟨hB.grown g (fun e=>by cases e; omega),hv⟩
theorem LkSt.pushed {w0 w w':World} {f:Fc} {v v':Value} {S T T':List (Int × Int)} {H:Int → Option Int} {wr:Int} (s:LkSt w0 w f v S T H wr) (g:w.grownBy w' v.ownBlock) (q:Que w' (w0.heap.size + 4) v' T') (ho:v'.ownBlock=v.ownBlock ∨ ∃ g,v'.ownBlock=some g∧w.heap.size ≤ g) :
  LkSt w0 (w'.setCell ⟨w0.heap.size + 5,0,none⟩ v') f v' S T' H wr:=by
 obtain ⟨gq,off,cap,hv,hb,hlt,hob⟩:=s.que.slice
 obtain ⟨n,hn⟩:=s.seen
 obtain ⟨m,hm⟩:=s.hts
 rw [hob] at g
 have hsz:=s.sz
 have q5:gq ≠ w0.heap.size + 5:=fun e=>s.qne.1 (by rw [hob,e])
 have q6:gq ≠ w0.heap.size + 6:=fun e=>s.qne.2 (by rw [hob,e])
 have hq5:v'.ownBlock ≠ some (w0.heap.size + 5):=by
  rcases ho with ho | ⟨g',ho,hg'⟩
  ·rw [ho]; exact s.qne.1
  ·rw [ho]; intro e; cases e; omega
 have hq6:v'.ownBlock ≠ some (w0.heap.size + 6):=by
  rcases ho with ho | ⟨g',ho,hg'⟩
  ·rw [ho]; exact s.qne.2
  ·rw [ho]; intro e; cases e; omega
 have ne:∀ k,k ≠ gq → some k ≠ some gq:=fun k hk e=>hk (by cases e; rfl)
 refine ⟨(s.ext.grown g (fun k e=>by cases e; omega)).setCell (by simp) _,by have:=g.size; simp; omega,⟨(s.fbox.out.grown g (ne _ (by omega))).far (by simp) _⟩,⟨n,(hn.grown g (ne _ (by omega))).setCell (by simp) _⟩,
  (s.scell.grown g (ne _ (by omega))).far (by simp) _,⟨m,(hm.grown g (ne _ (by omega))).setCell (by simp) _⟩,?_,q.setCell hq5 _,⟨hq5,hq6⟩,(s.wcell.grown g (ne _ (by omega))).far (by simp) _⟩
 have:=(s.tcell.grown g (ne _ (by omega))).set_ 0 v'
 simpa using this
theorem LkKeep.pushed {w0 w w':World} {v v':Value} {u:Value} (g:w.grownBy w' v.ownBlock) (ho:v'.ownBlock=v.ownBlock ∨ ∃ g,v'.ownBlock=some g∧w.heap.size ≤ g):LkKeep w0 w (w'.setCell ⟨w0.heap.size + 5,0,none⟩ u) v v':=fun k t cs hk hv hb=>by
 refine ⟨(hb.grown g (fun e=>hv e.symm)).far (by simp; omega) u,?_⟩
 rcases ho with ho | ⟨g',ho,hg'⟩
 ·rw [ho]; exact hv
 ·rw [ho]; intro e; cases e; have:=hb.lt; omega
theorem info_point:(Tryz.prog.info? 109).map (fun i=>(i.zero,i.size,i.bytes))=some (some (.agg #[.int .i64 0,.int .i64 0]),2,16):=by kernel_rfl
theorem zero_bool (w:World):(zeroValue 4).run Tryz.prog w=.ok (.bool false) w:=by kernel_rfl
theorem zero_int (w:World):(zeroValue 3).run Tryz.prog w=.ok (.int .i64 0) w:=by kernel_rfl
theorem bad_any (w0 w:World) (f:Fc) (v:Value) (S T:List (Int × Int)) (H:Int → Option Int) (wr at':Int) (s:LkSt w0 w f v S T H wr) :
  Calls Tryz.prog 84 #[.int .i64 at',.pointer (some ⟨w0.heap.size + 6,0,none⟩)] w fun e w'=>e=.returned (.tuple #[])∧LkSt w0 w' f v S T H (minS wr at')∧LkKeep w0 w w' v v∧w.heap.size ≤ w'.heap.size:=by
 have c6:=s.wcell.cell 0
 have f6:=s.wcell.frozen 0
 have sz:=s.sz
 have HS:=Lib.hid s
 clear s
 simp only [List.getElem?_toArray,List.getElem?_cons_zero] at c6
 go_enter Tryz.func84,Tryz.ntmps84
 go_wp2
 all_goals
  go_end0
  first
   | exact ⟨rfl,(by rw [show minS wr at'=at' from by simp [minS, *]]; exact HS.out.wrong at'),LkKeep.wrong _,by simp⟩
   | exact ⟨rfl,(by rw [show minS wr at'=wr from by (unfold minS; rw [decide_eq_false (by omega),decide_eq_false (by omega)]; rfl)]; exact HS.out),LkKeep.ext (Ext.refl _),Nat.le_refl _⟩
theorem reach_any (w0 w:World) (f:Fc) (v:Value) (S T:List (Int × Int)) (H:Int → Option Int) (wr a ht:Int) (s:LkSt w0 w f v S T H wr) (hT:T.length ≤ 1000000) (ha0:0 ≤ a) (ha1:a ≤ 1000000) (hh0:0 ≤ ht) (hh1:ht ≤ 1000000) :
  Calls Tryz.prog 85 #[.agg #[.int .i64 a,.int .i64 ht],.pointer (some ⟨w0.heap.size + 2,0,none⟩),.pointer (some ⟨w0.heap.size + 5,0,none⟩)] w fun e w'=>e=.returned (.tuple #[]) ∧
   ∃ v',LkSt w0 w' f v' (addS S (a,ht)) (addT S T (a,ht)) H wr∧LkKeep w0 w w' v v'∧w.heap.size ≤ w'.heap.size:=by
 have c2:=s.scell.cell 0
 have c5:=s.tcell.cell 0
 have f5:=s.tcell.frozen 0
 have sz:=s.sz
 obtain ⟨lk,hkey⟩:=keyOf_pt (a:=a) (h:=ht) (by omega) (by omega) (by omega) (by omega)
 have z2:w0.heap.size + 2 < w.heap.size:=by omega
 have z5:w0.heap.size + 5 < w.heap.size:=by omega
 have HK:=Lib.hid hkey
 have HS:=Lib.hid s
 clear s hkey
 simp only [List.getElem?_toArray,List.getElem?_cons_zero] at c2 c5
 by_cases hm:(a,ht) ∈ S
 ·have hrun:(Instr.lookup 102 (.map (some (w0.heap.size + 1))) (.agg #[.int .i64 a,.int .i64 ht]) false).run Tryz.prog (w.alloc (.cells #[.int .i64 a,.int .i64 ht] 109))=.ok (.bool true) (w.alloc (.cells #[.int .i64 a,.int .i64 ht] 109)):=by
   obtain ⟨n,hn⟩:=(HS.out.alloc (.cells #[.int .i64 a,.int .i64 ht] 109)).seen
   rw [hn.look key_point Tryz.underlying102 zero_bool HK.out false,show seenV S (.agg #[.int .i64 a,.int .i64 ht])=some (.bool true) from seenV_in hm]
   rfl
  have HM:=Lib.hid hm
  clear hm
  go_enter Tryz.func85,Tryz.ntmps85
  go_wp2_with fail
  go_end0
  rw [addS_in HM.out,addT_in HM.out]
  exact ⟨rfl,v,HS.out.alloc _,LkKeep.alloc _,by simp⟩
 ·have hrun:(Instr.lookup 102 (.map (some (w0.heap.size + 1))) (.agg #[.int .i64 a,.int .i64 ht]) false).run Tryz.prog (w.alloc (.cells #[.int .i64 a,.int .i64 ht] 109))=.ok (.bool false) (w.alloc (.cells #[.int .i64 a,.int .i64 ht] 109)):=by
   obtain ⟨n,hn⟩:=(HS.out.alloc (.cells #[.int .i64 a,.int .i64 ht] 109)).seen
   rw [hn.look key_point Tryz.underlying102 zero_bool HK.out false,show seenV S (.agg #[.int .i64 a,.int .i64 ht])=none from seenV_out hm]
   rfl
  obtain ⟨i0,hi0,hz0,hz1,hz2⟩:=info_parts info_point
  have HI:=Lib.hid hi0; have HZ0:=Lib.hid hz0; have HZ1:=Lib.hid hz1; have HZ2:=Lib.hid hz2
  clear hi0 hz0 hz1 hz2
  have HM:=Lib.hid hm
  clear hm
  obtain ⟨n,hn⟩:=(HS.out.alloc (.cells #[.int .i64 a,.int .i64 ht] 109)).seen
  have HN:=Lib.hid hn
  clear hn
  have HPB:=Lib.hid (Blk.new w 109 #[.int .i64 a,.int .i64 ht])
  have zp:w.heap.size ≠ w0.heap.size + 1:=by omega
  go_enter Tryz.func85,Tryz.ntmps85
  go_wp2_with (first
   | (at_mapUpdate; refine wpList_store_map rfl _ _ _ 102 (.inl rfl) (V':=seenV ((a,ht) :: S)) key_point Tryz.underlying102 HN.out rfl (key:=.agg #[.int .i64 a,.int .i64 ht]) rfl rfl HK.out (seenV_in (List.mem_cons_self ..)) (fun x hx=>seenV_cons hx) ?_
      intro w1 m1 g1 s1
      have ST:Hid (LkSt w0 w1 f v ((a,ht) :: S) T H wr):=(HS.out.alloc _).mapped g1 (.inl rfl) ⟨_,m1⟩ (let ⟨m,hm⟩:=(HS.out.alloc _).hts; ⟨m,hm.grown g1 (by simp)⟩)
      have e5:=ST.out.tcell.cell 0
      have pb:=HPB.out.grown g1 (by simp; omega)
      have d0:=pb.cell 0
      have d1:=pb.cell 1
      have z9:w.heap.size < w1.heap.size:=pb.lt
      have z8:w0.heap.size + 5 < w1.heap.size:=ST.out.tcell.lt
      have HG1:=Lib.hid g1
      have HKP:=Lib.hid ((LkKeep.alloc (w0:=w0) (w:=w) (v:=v) (.cells #[.int .i64 a,.int .i64 ht] 109)).trans (LkKeep.mapped g1 (.inl rfl)))
      clear m1 g1 pb s1
      simp only [List.getElem?_toArray,List.getElem?_cons_zero,List.getElem?_cons_succ] at e5 d0 d1)
   | (at_builtin; refine wpList_push rfl _ _ 143 rfl 109 i0 _ Tryz.underlying143 HI.out HZ0.out HZ1.out HZ2.out rfl (ST.out.alloc _).que rfl hT ⟨w1.heap.size,0,none⟩ 1 a ht rfl (World.news_of_block (cs:=#[.int .i64 a,.int .i64 ht]) (heap_alloc_new w1 _)) (by simp; omega) ?_
      intro v2 w2 q2 g2 o2
      have S2:Hid (LkSt w0 (w2.setCell ⟨w0.heap.size + 5,0,none⟩ v2) f v2 ((a,ht) :: S) (T ++ [(a,ht)]) H wr):=(ST.out.alloc _).pushed g2 q2 o2
      have K2:Hid (LkKeep w0 (w1.alloc (.cells #[.int .i64 a,.int .i64 ht] 109)) (w2.setCell ⟨w0.heap.size + 5,0,none⟩ v2) v v2):=LkKeep.pushed g2 o2
      have bb:=(ST.out.alloc (.cells #[.int .i64 a,.int .i64 ht] 109)).tcell.grown g2 (fun e=>(ST.out.alloc (.cells #[.int .i64 a,.int .i64 ht] 109)).qne.1 e.symm)
      have b0:=bb.cell 0
      have b1:=bb.frozen 0
      have b2:=g2.size
      obtain ⟨gq,oq,cq,hv2,_,_,_⟩:=q2.slice
      clear bb q2 g2 o2
      generalize (T ++ [(a,ht)]).length=nq at hv2
      subst hv2
      simp only [List.getElem?_toArray,List.getElem?_cons_zero,List.getElem?_cons_succ] at b0))
  go_end0
  rw [addS_out HM.out,addT_out HM.out]
  exact ⟨rfl,_,S2.out,HKP.out.trans ((LkKeep.alloc _).trans K2.out),by have:=HG1.out.size; simp at *; omega⟩
end Go.Proofs.YtcoookehfhhhdaaGreatDoor.c
