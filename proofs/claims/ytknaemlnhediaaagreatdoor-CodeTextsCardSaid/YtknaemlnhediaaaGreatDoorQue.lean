/- A queue of pairs of numbers: what lies in it, the first is taken, one is put behind. Conditions: lengths. -/
import Derived.Test.YtknaemlnhediaaaGreatDoorLib
import Derived.ArgAppend
import Derived.Deep.AppendLies
namespace Go.Proofs.YtknaemlnhediaaaGreatDoor.c
open Go.RowKit
set_option linter.unusedVariables false
set_option linter.unusedSimpArgs false

def qcells:List (Int × Int) → List Value
 | []=>[]
 | p :: l=>.int .i64 p.1 :: .int .i64 p.2 :: qcells l
theorem qcells_length (l:List (Int × Int)):(qcells l).length=l.length * 2:=by
 induction l with
 | nil=>rfl
 | cons p l ih=>simp [qcells,ih]; omega
theorem qcells_append (l m:List (Int × Int)):qcells (l ++ m)=qcells l ++ qcells m:=by
 induction l with
 | nil=>rfl
 | cons p l ih=>simp [qcells,ih]
theorem qcells_get (l:List (Int × Int)) (j:Nat) (hj:j < l.length):(qcells l)[j * 2]?=some (.int .i64 (l.getD j (0,0)).1)∧(qcells l)[j * 2 + 1]?=some (.int .i64 (l.getD j (0,0)).2):=by
 induction l generalizing j with
 | nil=>simp at hj
 | cons p l ih =>
  cases j with
  | zero=>simp [qcells]
  | succ j =>
   have:=ih j (by simpa using hj)
   rw [show (j + 1) * 2=j * 2 + 2 by omega]
   simpa [qcells] using this
structure Que (w:World) (base:Nat) (v:Value) (l:List (Int × Int)):Prop where
 out:∃ g off cap,v=.slice (some ⟨g,off,none⟩) l.length cap∧base ≤ g∧g < w.heap.size∧l.length ≤ cap∧cap ≤ maxLen ∧
  (∀ j,j < l.length * 2 → w.cell? ⟨g,off + j,none⟩=(qcells l)[j]?)∧(∀ j,j < cap * 2 → (w.cell? ⟨g,off + j,none⟩).isSome=true∧w.frozen? ⟨g,off + j,none⟩=false)
theorem Que.slice {w:World} {base:Nat} {v:Value} {l:List (Int × Int)} (h:Que w base v l):∃ g off cap,v=.slice (some ⟨g,off,none⟩) l.length cap∧base ≤ g∧g < w.heap.size∧v.ownBlock=some g:=by
 obtain ⟨g,off,cap,rfl,hb,hg,_⟩:=h
 exact ⟨g,off,cap,rfl,hb,hg,rfl⟩
theorem Que.keep {w w':World} {base:Nat} {v:Value} {l:List (Int × Int)} (h:Que w base v l) (hk:∀ g,v.ownBlock=some g → w'.heap[g]?=w.heap[g]?) (hs:w.heap.size ≤ w'.heap.size):Que w' base v l:=by
 obtain ⟨g,off,cap,rfl,hb,hg,r1,r2,r3,r4⟩:=h
 have e:=hk g rfl
 refine ⟨g,off,cap,rfl,hb,by omega,r1,r2,fun j hj=>?_,fun j hj=>?_⟩
 ·rw [World.cell?_of_block (a:=⟨g,off + j,none⟩) e]; exact r3 j hj
 ·rw [World.cell?_of_block (a:=⟨g,off + j,none⟩) e,World.frozen?_of_block (a:=⟨g,off + j,none⟩) e]; exact r4 j hj
theorem Que.ext {w w':World} {base:Nat} {v:Value} {l:List (Int × Int)} (h:Que w base v l) (x:Ext w w'):Que w' base v l:=by
 obtain ⟨g,off,cap,hv,_,hg,ho⟩:=h.slice
 refine h.keep (fun g' e=>x.out.block g' ?_) x.size
 rw [ho] at e
 cases e
 exact hg
theorem Que.setCell {w:World} {base:Nat} {v:Value} {l:List (Int × Int)} (h:Que w base v l) {a:Addr} (ha:v.ownBlock ≠ some a.block) (u:Value):Que (w.setCell a u) base v l :=
 h.keep (fun g e=>Below.heap_setCell w a u g (fun e2=>ha (by rw [e,e2]))) (by simp [World.setCell])
theorem Que.grown {w w':World} {row:Option Nat} {base:Nat} {v:Value} {l:List (Int × Int)} (h:Que w base v l) (hg:w.grownBy w' row) (hne:v.ownBlock ≠ row):Que w' base v l:=by
 obtain ⟨g,off,cap,hv,_,hlt,ho⟩:=h.slice
 refine h.keep (fun g' e=>hg.block g' ?_ (fun e2=>hne (by rw [e,e2]))) hg.size
 rw [ho] at e
 cases e
 exact hlt
theorem Que.head {w:World} {base:Nat} {v:Value} {p:Int × Int} {l:List (Int × Int)} (h:Que w base v (p :: l)):∃ g off cap,v=.slice (some ⟨g,off,none⟩) (l.length + 1) cap∧base ≤ g∧g < w.heap.size∧v.ownBlock=some g∧l.length + 1 ≤ cap∧cap ≤ maxLen ∧
  w.cell? ⟨g,off,none⟩=some (.int .i64 p.1)∧w.cell? ⟨g,off + 1,none⟩=some (.int .i64 p.2)∧Que w base (.slice (if cap - 1=0 then some ⟨g,off,none⟩ else some ⟨g,off + 2,none⟩) l.length (cap - 1)) l:=by
 obtain ⟨g,off,cap,rfl,hb,hg,h1,h2,h3,h4⟩:=h
 simp only [List.length_cons] at h1 h3 ⊢
 refine ⟨g,off,cap,rfl,hb,hg,rfl,h1,h2,?_,?_,?_⟩
 ·have:=h3 0 (by omega)
  simpa [qcells] using this
 ·have:=h3 1 (by omega)
  simpa [qcells] using this
 ·by_cases hc:cap - 1=0
  ·have hl:l=[]:=List.eq_nil_of_length_eq_zero (by omega)
   subst hl
   rw [if_pos hc]
   refine ⟨g,off,cap - 1,rfl,hb,hg,by omega,by omega,fun j hj=>by simp at hj,fun j hj=>?_⟩
   rw [hc] at hj
   omega
  ·rw [if_neg hc]
   refine ⟨g,off + 2,cap - 1,rfl,hb,hg,by omega,by omega,fun j hj=>?_,fun j hj=>?_⟩
   ·have:=h3 (j + 2) (by omega)
    rw [show off + 2 + j=off + (j + 2) by omega,this]
    simp [qcells]
   ·rw [show off + 2 + j=off + (j + 2) by omega]
    exact h4 (j + 2) (by omega)
theorem Que.new {w:World} {base g e:Nat} (hb:base ≤ g) {a h:Int} (hg:w.heap[g]?=some (.cells #[.int .i64 a,.int .i64 h] e (0,0))):Que w base (.slice (some ⟨g,0,none⟩) 1 1) [(a,h)]:=by
 have hlt:g < w.heap.size:=by
  rcases Nat.lt_or_ge g w.heap.size with h1 | h1
  ·exact h1
  ·rw [Array.getElem?_eq_none h1] at hg; cases hg
 refine ⟨g,0,1,rfl,hb,hlt,by simp,by simp [maxLen],fun j hj=>?_,fun j hj=>?_⟩
 ·rw [Nat.zero_add,cell_of_row w g j _ e (0,0) hg]
  simp [qcells]
 ·rw [Nat.zero_add,cell_of_row w g j _ e (0,0) hg]
  refine ⟨?_,by simp [World.frozen?,hg]⟩
  match j,hj with
  | 0,_=>rfl
  | 1,_=>rfl
theorem Que.push {w:World} {base:Nat} {v:Value} {l:List (Int × Int)} (q:Que w base v l) (t ty e:TypeId) (i:TypeInfo) (z:Value) (ht:Tryz.prog.underlying t=some (.slice e)) (hi:Tryz.prog.info? e=some i) (hz:i.zero=some z)
  (hsize:i.size=2) (hby:i.bytes=16) (hzs:z.cells.size=2) (hl:l.length ≤ 1000000) (ad:Addr) (c:Nat) (a h:Int) (hnews:∀ j u,[Value.int .i64 a,.int .i64 h][j]?=some u → w.cell? (ad.add j)=some u) (hbase:base ≤ w.heap.size) :
  ∃ v' w',(Builtin.append_ #[t,t] ty #[v,.slice (some ad) 1 c]).run Tryz.prog w=.ok v' w'∧Que w' base v' (l ++ [(a,h)])∧w.grownBy w' v.ownBlock∧(v'.ownBlock=v.ownBlock ∨ ∃ g,v'.ownBlock=some g∧w.heap.size ≤ g):=by
 obtain ⟨g,off,cap,rfl,hb,hg,h1,h2,h3,h4⟩:=q
 by_cases hroom:l.length + 1 ≤ cap
 ·have hsome:∀ j,j < [Value.int .i64 a,.int .i64 h].length → (w.cell? ⟨g,off + l.length * 2 + j,none⟩).isSome=true:=fun j hj=>by
   rw [Nat.add_assoc]; exact (h4 _ (by simp at hj; omega)).1
  have hrun:=run_append_room_cells (P:=Tryz.prog) w t ty e i ht hi g off l.length cap ad 1 c [.int .i64 a,.int .i64 h] (by simp [hsize]) hnews (by intro u hu; simp at hu; rcases hu with rfl | rfl <;> rfl) hroom
   (by rw [hsize]; exact hsome) (fun j hj=>by rw [hsize,Nat.add_assoc]; exact (h4 _ (by simp at hj; omega)).2)
  rw [hsize] at hrun
  refine ⟨_,_,hrun,⟨g,off,cap,by simp,hb,?_,by simpa using hroom,h2,fun j hj=>?_,fun j hj=>?_⟩,?_,.inl rfl⟩
  ·simp only [World.setCells,World.setCell]; simpa using hg
  ·rw [qcells_append]
   rcases Nat.lt_or_ge j (l.length * 2) with hj2 | hj2
   ·rw [List.getElem?_append_left (by rw [qcells_length]; exact hj2),← h3 j hj2]
    exact World.cell?_setCells_out g _ _ _ _ (fun _ _=>.inl (by show off + j < off + l.length * 2; omega))
   ·rw [List.getElem?_append_right (by rw [qcells_length]; exact hj2),qcells_length]
    have hj3:j < l.length * 2 + 2:=by simp at hj; omega
    obtain ⟨k,rfl⟩:∃ k,j=l.length * 2 + k:=⟨j - l.length * 2,by omega⟩
    have:=World.cell?_setCells_in g [Value.int .i64 a,.int .i64 h] (off + l.length * 2) w hsome k (by simp; omega)
    rw [← Nat.add_assoc,this,Nat.add_sub_cancel_left,List.getElem?_eq_getElem (by simp [qcells]; omega)]
    rfl
  ·rw [World.frozen?_setCells]
   refine ⟨?_,(h4 j hj).2⟩
   simp only [World.setCells]
   have:=(h4 j hj).1
   obtain ⟨x,hx⟩:=Option.isSome_iff_exists.1 this
   obtain ⟨y,hy⟩:=cell?_setCell_some (p:=⟨g,off + l.length * 2,none⟩) (x:=.int .i64 a) hx
   obtain ⟨y2,hy2⟩:=cell?_setCell_some (p:=⟨g,off + l.length * 2 + 1,none⟩) (x:=.int .i64 h) hy
   rw [hy2]; rfl
  ·refine ⟨rfl,rfl,rfl,by simp [World.setCells,World.setCell],fun k hk hne=>?_⟩
   have hkg:k ≠ g:=fun e=>hne (by rw [e]; rfl)
   simp only [World.setCells]
   rw [Below.heap_setCell _ _ _ _ hkg,Below.heap_setCell _ _ _ _ hkg]
 ·obtain ⟨v',w',hrun,ho,hgr⟩:=run_append_arg_grows (P:=Tryz.prog) w t ty e i z 2 16 ht hi hz hsize hby hzs (by omega) ⟨g,off,none⟩ l.length cap (qcells l) (qcells_length l)
   (fun j u hu=>by
    have hj:j < l.length * 2:=by rw [← qcells_length]; exact (List.getElem?_eq_some_iff.1 hu).1
    rw [Addr.add_lit,h3 j hj]; exact hu) ad 1 c [.int .i64 a,.int .i64 h] rfl hnews (by omega) (by simp only [maxLen]; omega) (by omega)
  have ho2:=ho
  obtain ⟨hlen,hn | ⟨g',cap',cur,rfl,hb',hg',hn',hc',hs',htk⟩⟩:=ho
  ·omega
  refine ⟨_,w',hrun,⟨g',0,cap',by simp,by omega,?_,by simpa using hn',hc',fun j hj=>?_,fun j hj=>?_⟩,?_,.inr ⟨g',rfl,hb'⟩⟩
  ·rcases Nat.lt_or_ge g' w'.heap.size with hx | hx
   ·exact hx
   ·rw [Array.getElem?_eq_none hx] at hg'; cases hg'
  ·rw [Nat.zero_add,ho2.cellAt j (by simpa using hj),qcells_append]
   rfl
  ·rw [Nat.zero_add]
   refine ⟨?_,ho2.frozenAt j⟩
   rw [cell_of_row w' g' j cur e (0,0) hg',Array.getElem?_eq_getElem (by omega)]
   rfl
  ·exact ⟨hgr.os,hgr.tape,hgr.output,hgr.size,fun k hk _=>hgr.block k hk (by simp)⟩
theorem wpList_push {w:World} {ops:Array Oper} {rest:List Oper} {o:Oper} {a:Act} {Q:Exit → Act → World → Prop} (hgd:o.guard=none) (s x:Operand) (t:TypeId)
  (ho:o.op=.call { callee:=.builtin .append,args:=#[s,x],argTypes:=#[t,t] }) {base:Nat} {v:Value} {l:List (Int × Int)} (e:TypeId) (i:TypeInfo) (z:Value) (ht:Tryz.prog.underlying t=some (.slice e)) (hi:Tryz.prog.info? e=some i) (hz:i.zero=some z)
  (hsize:i.size=2) (hby:i.bytes=16) (hzs:z.cells.size=2) (q:Que w base v l) (hs:a.eval s=v) (hl:l.length ≤ 1000000) (ad:Addr) (c:Nat) (pa ph:Int) (hx:a.eval x=.slice (some ad) 1 c) (hnews:∀ j u,[Value.int .i64 pa,.int .i64 ph][j]?=some u → w.cell? (ad.add j)=some u) (hbase:base ≤ w.heap.size)
  (hK:∀ v' w',Que w' base v' (l ++ [(pa,ph)]) → w.grownBy w' v.ownBlock → (v'.ownBlock=v.ownBlock ∨ ∃ g,v'.ownBlock=some g∧w.heap.size ≤ g) → wpList Tryz.prog ops Q rest (a.put o.dst v') w'):wpList Tryz.prog ops Q (o :: rest) a w:=by
 refine wpList_plain hgd fun K hK'=>?_
 obtain ⟨v',w',hrun,r1,r2,r3⟩:=q.push t o.type e i z ht hi hz hsize hby hzs hl ad c pa ph hnews hbase
 unfold Oper.wp
 simp [execOp,ho,resolve,invoke,builtin,hs,hx,hrun,Result.andThen]
 exact hK' _ _ (hK v' w' r1 r2 r3)
end Go.Proofs.YtknaemlnhediaaaGreatDoor.c
