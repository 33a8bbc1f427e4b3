/- A queue of numbers: the first is taken, one is put behind, or a list. Conditions: lengths. Lists of lists of numbers that a call lays itself. Conditions: lengths. Cells of functions and instructions in memory, at a known address. No condition. -/
import Derived.Test.YtknaemlnhediaaaGreatDoorFlowC
import Derived.ArgAppend
import Derived.Deep.AppendLies
import Derived.Deep.Upon
import Derived.Laws.AppendOwn
import Derived.Test.YtknaemlnhediaaaGreatDoorRgD
namespace Go.Proofs.YtknaemlnhediaaaGreatDoor.c
open Go.RowKit
set_option linter.unusedVariables false
set_option linter.unusedSimpArgs false
theorem setCells_keepR (g:Nat):∀ (vs:List Value) (o:Nat) (w:World),(w.setCells g o vs).os=w.os∧(w.setCells g o vs).tape=w.tape∧(w.setCells g o vs).output=w.output
 | [],_,_=>⟨rfl,rfl,rfl⟩
 | v :: r,o,w=>by
  rw [World.setCells]
  exact setCells_keepR g r (o + 1) _
def IQue (w:World) (base:Nat) (v:Value) (l:List Nat):Prop :=
 (v=.slice none 0 0∧l=[]) ∨ ∃ g off cap cur,v=.slice (some ⟨g,off,none⟩) l.length cap∧base ≤ g∧Blk w g 3 cur∧l.length ≤ cap∧cap ≤ maxLen∧off + cap ≤ cur.size∧∀ j,j < l.length → cur[off + j]?=some (.int .i64 (l.getD j 0))
section
variable {w w':World} {base:Nat} {v:Value} {l:List Nat}
theorem IQue.nil (w:World) (base:Nat):IQue w base (.slice none 0 0) []:=.inl ⟨rfl,rfl⟩
theorem IQue.block (h:IQue w base v l) {k:Nat} (hk:v.ownBlock=some k):base ≤ k∧k < w.heap.size:=by
 rcases h with ⟨rfl,_⟩ | ⟨g,off,cap,cur,rfl,hb,hB,_⟩
 ·cases hk
 ·obtain rfl:g=k:=Option.some.inj hk
  exact ⟨hb,hB.lt⟩
theorem IQue.keep (h:IQue w base v l) (hk:∀ g,v.ownBlock=some g → w'.heap[g]?=w.heap[g]?):IQue w' base v l:=by
 rcases h with h | ⟨g,off,cap,cur,rfl,hb,hB,r⟩
 ·exact .inl h
 ·exact .inr ⟨g,off,cap,cur,rfl,hb,(hk g rfl).trans hB,r⟩
theorem IQue.ext (h:IQue w base v l) (x:Ext w w'):IQue w' base v l:=h.keep fun g e=>x.out.block g (h.block e).2
theorem IQue.far (h:IQue w base v l) {p:Addr} (hp:v.ownBlock ≠ some p.block) (u:Value):IQue (w.setCell p u) base v l :=
 h.keep fun g e=>Below.heap_setCell w p u g fun e2=>hp (by rw [e,e2])
theorem IQue.slice (h:IQue w base v l):∃ A cap,v=.slice A l.length cap:=by
 rcases h with ⟨rfl,rfl⟩ | ⟨g,off,cap,cur,rfl,_⟩
 ·exact ⟨_,_,rfl⟩
 ·exact ⟨_,_,rfl⟩
theorem IQue.own (h:w.ownsRow base 3 1 v l.length (l.map fun (i:Nat)=>.int .i64 (i:Int))):IQue w base v l:=by
 have h0:=h
 obtain ⟨hl,⟨rfl,h2⟩ | ⟨g,cap,cur,rfl,hb,hg,hc,hm,hs,ht⟩⟩:=h
 ·exact .inl ⟨rfl,List.eq_nil_of_length_eq_zero h2⟩
 ·refine .inr ⟨g,0,cap,cur,rfl,hb,hg,hc,hm,by omega,fun j hj=>?_⟩
  have h3:=h0.cellAt j (by omega)
  rw [cell_of_row w g j cur _ _ hg] at h3
  rw [Nat.zero_add,h3]
  simp [List.getD,hj]
theorem IQue.pop {k:Nat} (h:IQue w base v (k :: l)):∃ g off cap a2 c2,v=.slice (some ⟨g,off,none⟩) (l.length + 1) cap∧base ≤ g∧g < w.heap.size ∧
  w.cell? ⟨g,off,none⟩=some (.int .i64 k)∧(∀ w',(Instr.slice 65 v (some (.int .i64 1)) none none).run Tryz.prog w'=.ok (.slice a2 l.length c2) w') ∧
  IQue w base (.slice a2 l.length c2) l∧(Value.slice a2 l.length c2).ownBlock=some g:=by
 rcases h with ⟨_,h2⟩ | ⟨g,off,cap,cur,rfl,hb,hB,hc,hm,hs,hj⟩
 ·cases h2
 ·simp only [List.length_cons] at hc hj ⊢
  refine ⟨g,off,cap,if cap - 1=0 then some ⟨g,off,none⟩ else some ⟨g,off + 1,none⟩,cap - 1,rfl,hb,hB.lt,?_,fun w'=>?_,.inr ?_,?_⟩
  ·rw [hB.cell]
   exact hj 0 (by omega)
  ·have hz:(Tryz.prog.info? 3).map (·.size)=some 1:=by kernel_rfl
   obtain ⟨i,hi,hs2⟩:=Option.map_eq_some_iff.1 hz
   have e1:(cap=1)=(cap - 1=0):=by rw [eq_iff_iff]; omega
   have hn:(1:Int) ≤ (l.length:Int) + 1:=by omega
   by_cases hc1:cap=1
   ·subst hc1
    simp [Instr.slice,run_underlying Tryz.underlying65,Instr.sliceBounds,Instr.sliceBound,sizeOf,typeInfo,hi,hs2,Result.andThen,asIntOf,hn]
   ·have hc':¬ cap - 1=0:=by omega
    simp [Instr.slice,run_underlying Tryz.underlying65,Instr.sliceBounds,Instr.sliceBound,sizeOf,typeInfo,hi,hs2,Result.andThen,asIntOf,hn,hc,hc',Addr.add_lit]
    exact hc1
  ·by_cases hc1:cap - 1=0
   ·rw [if_pos hc1]
    have hl:l=[]:=List.eq_nil_of_length_eq_zero (by omega)
    subst hl
    exact ⟨g,off,cap - 1,cur,rfl,hb,hB,by simp,by omega,by omega,fun j hj=>by simp at hj⟩
   ·rw [if_neg hc1]
    refine ⟨g,off + 1,cap - 1,cur,rfl,hb,hB,by omega,by omega,by omega,fun j hj2=>?_⟩
    have:=hj (j + 1) (by omega)
    rw [show off + 1 + j=off + (j + 1) by omega,this]
    rfl
  ·by_cases hc1:cap - 1=0
   ·rw [if_pos hc1]; rfl
   ·rw [if_neg hc1]; rfl
theorem IQue.pushes {ks:List Nat} (q:IQue w base v l) (t ty:TypeId) (i:TypeInfo) (ht:Tryz.prog.underlying t=some (.slice 3)) (hi:Tryz.prog.info? 3 = some i) (hz:i.zero=some (.int .i64 0))
  (hsize:i.size=1) (hby:i.bytes=8) (hl:l.length + ks.length ≤ 1000000) (A:Option Addr) (c:Nat) (hks:At w A ks.length 1 (fun i _=>.int .i64 (ks.getD i 0:Nat))) (hbase:base ≤ w.heap.size) :
  ∃ v' w',(Builtin.append_ #[t,t] ty #[v,.slice A ks.length c]).run Tryz.prog w=.ok v' w'∧IQue w' base v' (l ++ ks)∧w.grownBy w' v.ownBlock∧(v'.ownBlock=v.ownBlock ∨ ∃ g,v'.ownBlock=some g∧w.heap.size ≤ g):=by
 rcases Nat.eq_zero_or_pos ks.length with h0 | hpos
 ·have hk0:ks=[]:=List.length_eq_zero_iff.1 h0
  subst hk0
  have hsrc:Src Tryz.prog i.size t (.slice A 0 c) 0 [] w:=by
   cases A with
   | none=>exact Src.ofNil w ht c
   | some ad=>exact Src.ofSlice w ht ad 0 c [] (by simp) (fun j u hj=>by simp at hj) (fun u hu=>by cases hu)
  refine ⟨v,w,?_,by simpa using q,⟨rfl,rfl,rfl,Nat.le_refl _,fun _ _ _=>rfl⟩,.inl rfl⟩
  rcases q with ⟨rfl,rfl⟩ | ⟨g,off,cap,cur,rfl,hb,hB,hc,hm,hs,hj⟩
  ·exact run_append_nothing w _ _ _ _ i ht hi none 0 0 (Nat.le_refl _) _ hsrc
  ·exact run_append_nothing w _ _ _ _ i ht hi _ _ _ hc _ hsrc
 ·obtain ⟨b,o,rfl,hbl,hcell⟩:=hks hpos
  have hnl:(ks.map fun (k:Nat)=>Value.int .i64 (k:Int)).length=ks.length:=List.length_map ..
  have hnews:∀ j u,(ks.map fun (k:Nat)=>Value.int .i64 (k:Int))[j]?=some u → w.cell? ((⟨b,o,none⟩:Addr).add j)=some u:=fun j u h=>by
   have hj:j < ks.length:=by have:=(List.getElem?_eq_some_iff.1 h).1; simpa using this
   have h2:=hcell j 0 hj (by omega)
   simp only [Nat.mul_one,Nat.add_zero] at h2
   rw [Addr.add_lit,h2,← h]
   simp [List.getD,hj]
  have hone:∀ u ∈ (ks.map fun (k:Nat)=>Value.int .i64 (k:Int)),u.oneCell'=true:=fun u hu=>by
   obtain ⟨k,_,rfl⟩:=List.mem_map.1 hu
   rfl
  rcases q with ⟨rfl,rfl⟩ | ⟨g,off,cap,cur,rfl,hb,hB,hc,hm,hs,hj⟩
  ·obtain ⟨v',w',hr,ho,hg,_⟩:=run_append_own (P:=Tryz.prog) w w.heap.size t ty 3 i _ 1 8 ht hi hz hsize hby rfl (by decide) (.slice none 0 0) 0 [] (World.ownsRow_nil _ _ _ _) ⟨b,o,none⟩ ks.length c _ (by simp) hnews hone (by unfold maxLen; omega) (by omega) (Nat.le_refl _)
   have hq:IQue w' w.heap.size v' ks:=IQue.own (by simpa using ho)
   refine ⟨v',w',hr,?_,hg,?_⟩
   ·rcases hq with ⟨_,h2⟩ | ⟨g,off,cap,cur,e,hb,r⟩
    ·rw [h2] at hpos; cases hpos
    ·exact .inr ⟨g,off,cap,cur,by simpa using e,by omega,by simpa using r⟩
   ·rcases hq with ⟨_,h2⟩ | ⟨g,off,cap,cur,rfl,hb,r⟩
    ·rw [h2] at hpos; cases hpos
    ·exact .inr ⟨g,rfl,hb⟩
  ·by_cases hroom:l.length + ks.length ≤ cap
   ·have hrun:=run_append_room_cells (P:=Tryz.prog) w t ty 3 i ht hi g off l.length cap ⟨b,o,none⟩ ks.length c _ (by simp [hsize]) hnews hone hroom
     (fun j hj2=>by
      rw [hsize,hB.cell]
      rw [hnl] at hj2
      rw [Array.getElem?_eq_getElem (by omega)]; rfl) (fun j hj2=>hB.frozen _)
    rw [hsize,Nat.mul_one] at hrun
    obtain ⟨cs',h1,h2,h3,h4⟩:=Blk.setCells (ks.map fun (k:Nat)=>Value.int .i64 (k:Int)) (off + l.length) w cur hB (by rw [hnl]; omega)
    refine ⟨_,_,hrun,.inr ⟨g,off,cap,cs',by simp,hb,h1,by simpa using hroom,hm,by omega,fun j hj2=>?_⟩,⟨(setCells_keepR _ _ _ _).1,(setCells_keepR _ _ _ _).2.1,(setCells_keepR _ _ _ _).2.2,Nat.le_of_eq (setCells_size _ _ _ _).symm,fun k2 _ hne=>setCells_out _ _ _ _ _ (fun e=>hne (by rw [e]; rfl))⟩,.inl rfl⟩
    rcases Nat.lt_or_ge j l.length with hj3 | hj3
    ·rw [h3 _ (by omega),hj j hj3]
     simp only [List.getD]
     rw [List.getElem?_append_left hj3]
    ·obtain ⟨q,rfl⟩:∃ q,j=l.length + q:=⟨j - l.length,by omega⟩
     have hqk:q < ks.length:=by simp at hj2; omega
     rw [← Nat.add_assoc,h4 q (by rw [hnl]; exact hqk)]
     simp only [List.getD]
     rw [List.getElem?_append_right (by omega)]
     simp [hqk]
   ·obtain ⟨v',w',hr,ho,hg⟩:=run_append_arg_grows (P:=Tryz.prog) w t ty 3 i _ 1 8 ht hi hz hsize hby rfl (by decide) ⟨g,off,none⟩ l.length cap (l.map fun (i:Nat)=>.int .i64 (i:Int)) (by simp)
     (fun j u hu=>by
      have hj2:j < l.length:=by have:=(List.getElem?_eq_some_iff.1 hu).1; simpa using this
      rw [Addr.add_lit,hB.cell,hj j hj2,← hu]
      simp [List.getD,hj2]) ⟨b,o,none⟩ ks.length c _ (by simp) hnews (by omega) (by simp only [maxLen]; omega) (by omega)
    have hq:IQue w' w.heap.size v' (l ++ ks):=IQue.own (by simpa using ho)
    refine ⟨v',w',hr,?_,⟨hg.os,hg.tape,hg.output,hg.size,fun k hk _=>hg.block k hk (by simp)⟩,?_⟩
    ·rcases hq with ⟨_,h2⟩ | ⟨g,off,cap,cur,e,hb,r⟩
     ·rw [List.append_eq_nil_iff.1 h2 |>.2] at hpos; cases hpos
     ·exact .inr ⟨g,off,cap,cur,e,by omega,r⟩
    ·rcases hq with ⟨_,h2⟩ | ⟨g,off,cap,cur,rfl,hb,r⟩
     ·rw [List.append_eq_nil_iff.1 h2 |>.2] at hpos; cases hpos
     ·exact .inr ⟨g,rfl,hb⟩
theorem wpList_ipushes {ks:List Nat} {ops:Array Oper} {rest:List Oper} {o:Oper} {a:Act} {Q:Exit → Act → World → Prop} (hgd:o.guard=none) (s x:Operand) (t:TypeId)
  (ho:o.op=.call { callee:=.builtin .append,args:=#[s,x],argTypes:=#[t,t] }) (i:TypeInfo) (ht:Tryz.prog.underlying t=some (.slice 3)) (hi:Tryz.prog.info? 3 = some i) (hz:i.zero=some (.int .i64 0))
  (hsize:i.size=1) (hby:i.bytes=8) (q:IQue w base v l) (hs:a.eval s=v) (hl:l.length + ks.length ≤ 1000000) (A:Option Addr) (c:Nat) (hx:a.eval x=.slice A ks.length c) (hks:At w A ks.length 1 (fun i _=>.int .i64 (ks.getD i 0:Nat))) (hbase:base ≤ w.heap.size)
  (hK:∀ v' w',IQue w' base v' (l ++ ks) → w.grownBy w' v.ownBlock → (v'.ownBlock=v.ownBlock ∨ ∃ g,v'.ownBlock=some g∧w.heap.size ≤ g) → wpList Tryz.prog ops Q rest (a.put o.dst v') w'):wpList Tryz.prog ops Q (o :: rest) a w:=by
 refine wpList_plain hgd fun K hK'=>?_
 obtain ⟨v',w',hrun,r1,r2,r3⟩:=q.pushes t o.type i ht hi hz hsize hby hl A c hks hbase
 unfold Oper.wp
 simp [execOp,ho,resolve,invoke,builtin,hs,hx,hrun,Result.andThen]
 exact hK' _ _ (hK v' w' r1 r2 r3)
end
def OwnI (w:World) (base:Nat) (v:Value) (L:List Int):Prop:=w.ownsRow base 3 1 v L.length (L.map fun i=>.int .i64 i)
theorem OwnI.nil (w:World) (base:Nat):OwnI w base (.slice none 0 0) []:=World.ownsRow_nil _ _ _ _
theorem OwnI.ext {w w':World} {base:Nat} {v:Value} {L:List Int} (h:OwnI w base v L) (x:Ext w w'):OwnI w' base v L:=own_ext h x
theorem OwnI.apart {w w':World} {base base2 n:Nat} {u v:Value} {L:List Int} {xs:List Value} (h:OwnI w base u L) (s:w.ownsRow base2 65 1 v n xs) (g:w.grownBy w' v.ownBlock):OwnI w' base u L:=by
 obtain ⟨hl,h2⟩:=h
 refine ⟨hl,?_⟩
 rcases h2 with h2 | ⟨gg,cap,cur,rfl,hb,hg,r⟩
 ·exact .inl h2
 ·refine .inr ⟨gg,cap,cur,rfl,hb,?_,r⟩
  have hB:Blk w gg 3 cur:=hg
  refine (g.block gg hB.lt fun e=>?_).trans hg
  rcases s.2 with ⟨rfl,_⟩ | ⟨g',cap',cur',rfl,_,hg',_⟩
  ·cases e
  ·have e2:gg=g':=Option.some.inj e
   subst e2
   rw [hg] at hg'
   exact absurd (Obj.cells.inj (Option.some.inj hg')).2.1 (by decide)
structure LsSt (w0 w:World) (v:Value) (S:List Value) (Ls:List (List Int)):Prop where
 ext:Ext w0 w
 own:w.ownsRow w0.heap.size 65 1 v S.length S
 len:S.length=Ls.length
 row:∀ i,i < Ls.length → ∃ base,OwnI w base (S.getD i undef) (Ls.getD i [])
theorem LsSt.ext' {w0 w w':World} {v:Value} {S:List Value} {Ls:List (List Int)} (s:LsSt w0 w v S Ls) (x:Ext w w'):LsSt w0 w' v S Ls :=
 ⟨s.ext.trans x,own_ext s.own x,s.len,fun i hi=>let ⟨b,h⟩:=s.row i hi; ⟨b,h.ext x⟩⟩
theorem LsSt.start (w0:World):LsSt w0 w0 (.slice none 0 0) [] []:=⟨Ext.refl _,World.ownsRow_nil _ _ _ _,rfl,fun i hi=>by cases hi⟩
theorem LsSt.push {w0 w w':World} {v v' u:Value} {S:List Value} {Ls:List (List Int)} {L:List Int} {base:Nat} (s:LsSt w0 w v S Ls) (hu:OwnI w base u L) (g:w.grownBy w' v.ownBlock) (ow:w'.ownsRow w0.heap.size 65 1 v' (S.length + 1) (S ++ [u])):LsSt w0 w' v' (S ++ [u]) (Ls ++ [L]):=by
 refine ⟨s.ext.grown g (own_row s.own),by rw [List.length_append]; exact ow,by simp [s.len],fun i hi=>?_⟩
 rcases Nat.lt_or_ge i Ls.length with h | h
 ·obtain ⟨b,hb⟩:=s.row i h
  have e1:(S ++ [u]).getD i undef=S.getD i undef:=by simp only [List.getD]; rw [List.getElem?_append_left (by rw [s.len]; exact h)]
  have e2:(Ls ++ [L]).getD i []=Ls.getD i []:=by simp only [List.getD]; rw [List.getElem?_append_left h]
  rw [e1,e2]
  exact ⟨b,hb.apart s.own g⟩
 ·have hi2:i=Ls.length:=by simp at hi; omega
  subst hi2
  have e1:(S ++ [u]).getD Ls.length undef=u:=by rw [← s.len]; simp [List.getD]
  have e2:(Ls ++ [L]).getD Ls.length []=L:=by simp [List.getD]
  rw [e1,e2]
  exact ⟨base,hu.apart s.own g⟩
def LsAt (w:World) (v:Value) (Ls:List (List Int)):Prop:=∃ (A:Option Addr) (cap:Nat) (S:List Value),v=.slice A Ls.length cap∧At w A Ls.length 1 (fun i _=>S.getD i undef)∧∀ i,i < Ls.length → IntsAt w (S.getD i undef) (Ls.getD i [])
theorem LsAt.ext {w w':World} {v:Value} {Ls:List (List Int)} (h:LsAt w v Ls) (x:Ext w w'):LsAt w' v Ls:=by
 obtain ⟨A,cap,S,hv,ha,hr⟩:=h
 exact ⟨A,cap,S,hv,ha.ext x,fun i hi=>(hr i hi).ext x⟩
theorem LsAt.nil (w:World):LsAt w (.slice none 0 0) []:=⟨none,0,[],rfl,At.nil _ _ _ _,fun i hi=>by cases hi⟩
theorem LsSt.out {w0 w:World} {v:Value} {S:List Value} {Ls:List (List Int)} (s:LsSt w0 w v S Ls):LsAt w v Ls:=by
 obtain ⟨A,c,hv,ha⟩:=own_slice s.own
 rw [s.len] at hv ha
 refine ⟨A,c,S,hv,fun hp=>?_,fun i hi=>let ⟨b,h⟩:=s.row i hi; own_ints h⟩
 obtain ⟨b,off,h1,h2,h3⟩:=ha hp
 refine ⟨b,off,h1,h2,fun i j hi hj=>?_⟩
 obtain rfl:j=0:=by omega
 rw [h3 i 0 hi hj]
 simp
theorem RgAt.cells {w:World} {b off:Nat} {c:List Rg} (h:RgAt w (some ⟨b,off,none⟩) c) {k:Nat} (hk:k < c.length) {x:Rg} (hx:x=c.getD k default) :
  b < w.heap.size∧w.cell? ⟨b,off + k * 11,none⟩=some (.int .i64 x.op)∧w.cell? ⟨b,off + k * 11 + 1,none⟩=some (.int .i64 x.d)∧w.cell? ⟨b,off + k * 11 + 2,none⟩=some (.int .i64 x.a)∧w.cell? ⟨b,off + k * 11 + 3,none⟩=some (.int .i64 x.b) ∧
   w.cell? ⟨b,off + k * 11 + 4,none⟩=some (.int .i64 x.ty.base)∧w.cell? ⟨b,off + k * 11 + 5,none⟩=some (.int .i64 x.ty.bits)∧w.cell? ⟨b,off + k * 11 + 6,none⟩=some (.string x.ty.name)∧w.cell? ⟨b,off + k * 11 + 7,none⟩=some (.bool x.ty.opt) ∧
   w.cell? ⟨b,off + k * 11 + 8,none⟩=some (.bool x.ty.err)∧w.cell? ⟨b,off + k * 11 + 9,none⟩=some (.string x.name)∧w.cell? ⟨b,off + k * 11 + 10,none⟩=some (.slice x.A x.args.length x.cap):=by
 obtain ⟨b',off',he,hb,d0,d1,d2,d3,d4,d5,d6,d7,d8,d9,d10,_⟩:=h.at_ hk hx
 cases he
 exact ⟨hb,d0,d1,d2,d3,d4,d5,d6,d7,d8,d9,d10⟩
theorem RfAt.cells {w:World} {b off:Nat} {l:List Rf} (h:RfAt w (some ⟨b,off,none⟩) l) {k:Nat} (hk:k < l.length) {f:Rf} (hf:f=l.getD k default) {n:Nat} (hn:n=f.code.length) :
  b < w.heap.size∧w.cell? ⟨b,off + k * 9,none⟩=some (.string f.name)∧w.cell? ⟨b,off + k * 9 + 1,none⟩=some (.int .i64 f.params)∧w.cell? ⟨b,off + k * 9 + 2,none⟩=some (.int .i64 f.regs)∧w.cell? ⟨b,off + k * 9 + 3,none⟩=some (.int .i64 f.ty.base) ∧
   w.cell? ⟨b,off + k * 9 + 4,none⟩=some (.int .i64 f.ty.bits)∧w.cell? ⟨b,off + k * 9 + 5,none⟩=some (.string f.ty.name)∧w.cell? ⟨b,off + k * 9 + 6,none⟩=some (.bool f.ty.opt)∧w.cell? ⟨b,off + k * 9 + 7,none⟩=some (.bool f.ty.err)∧w.cell? ⟨b,off + k * 9 + 8,none⟩=some (.slice f.A n f.cap):=by
 subst hn
 obtain ⟨b',off',he,hb,c0,c1,c2,c3,c4,c5,c6,c7,c8,_⟩:=h.at_ hk hf
 cases he
 exact ⟨hb,c0,c1,c2,c3,c4,c5,c6,c7,c8⟩
end Go.Proofs.YtknaemlnhediaaaGreatDoor.c
