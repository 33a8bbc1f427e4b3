/- Laws at the operations that build programs, and what the parser's functions come to. No condition. -/
import Derived.Test.YtmmnhbhnjiajhaaGreatDoorSTm
import Derived.Test.YtmmnhbhnjiajhaaGreatDoorSTh
import Derived.Laws.OwnMore
import Derived.Great.BuildSlice
import Derived.Laws.Tables
import Derived.Deep.MidRow
import Derived.Laws.Rows
namespace Go.Proofs.YtmmnhbhnjiajhaaGreatDoor.c
open Go.RowKit
set_option linter.unusedVariables false
set_option linter.unusedSimpArgs false
def sl0:Value:=.slice none 0 0
def zEx:Array Value:=#[.int .i64 0,.int .i64 0,.int .i64 0,.string ⟨#[]⟩,.bool false,.bool false,.string ⟨#[]⟩,.int .i64 0,.slice none 0 0,.slice none 0 0]
def zSt:Array Value:=#[.int .i64 0,.string ⟨#[]⟩,.int .i64 0,.int .i64 0,.string ⟨#[]⟩,.bool false,.bool false,.slice none 0 0,.slice none 0 0,.slice none 0 0]
theorem infoEx:(Tryz.prog.info? 36).map (fun i=>(i.zero,i.size,i.bytes))=some (some (.agg zEx),10,120):=by kernel_rfl
theorem infoSt:(Tryz.prog.info? 44).map (fun i=>(i.zero,i.size,i.bytes))=some (some (.agg zSt),10,136):=by kernel_rfl
theorem infoCa:(Tryz.prog.info? 101).map (fun i=>(i.zero,i.size,i.bytes))=some (some (.agg #[.int .i64 0,.int .i64 0,.slice none 0 0]),3,40):=by kernel_rfl
theorem infoPa:(Tryz.prog.info? 40).map (fun i=>(i.zero,i.size,i.bytes))=some (some (.agg #[.string ⟨#[]⟩,.int .i64 0,.int .i64 0,.string ⟨#[]⟩,.bool false,.bool false,.bool false]),7,64):=by kernel_rfl
theorem infoBl:(Tryz.prog.info? 34).map (fun i=>(i.zero,i.size,i.bytes))=some (some (.slice none 0 0),1,24):=by kernel_rfl
def Nv (V:Vw) (k:Nat) (x:Nd) (cs:Array Value):Prop:=Elems V x k cs.toList∧x.len=1
theorem Nv.mono {V V':Vw} (h:V.le V') {k:Nat} {x:Nd} {cs:Array Value} (n:Nv V k x cs):Nv V' k x cs:=⟨Elems.mono h x k _ n.1,n.2⟩
theorem Nv.size {V:Vw} {k:Nat} {x:Nd} {cs:Array Value} (n:Nv V k x cs):cs.size=szK k:=by
 have:=Elems.length x k _ n.1
 rw [n.2,Nat.one_mul] at this
 simpa using this
theorem SlW.one {V:Vw} {v:Value} {n:Nat} {E:List Value → Prop} (s:SlW V v n E):v.oneCell'=true:=by
 obtain ⟨A,c,xs,rfl,_⟩:=s
 rfl
theorem Elems.ones {V:Vw}:∀ (x:Nd) (k:Nat) (xs:List Value),Elems V x k xs → ∀ u ∈ xs,u.oneCell'=true
 | .nil,k,xs,e=>by rw [show xs=[] from e]; intro u hu; cases hu
 | .ex op ty nm n a b tl,k,xs,⟨hk,va,vb,r,e,h1,h2,h3⟩=>by
  intro u hu
  rw [e] at hu
  simp only [List.mem_append,List.mem_cons,List.not_mem_nil,or_false] at hu
  rcases hu with (rfl | rfl | rfl | rfl | rfl | rfl | rfl | rfl | rfl | rfl) | hu <;> first | rfl | exact h1.one | exact h2.one | exact Elems.ones tl 0 r h3 u hu
 | .st op nm ty es bs cs tl,k,xs,⟨hk,va,vb,vc,r,e,h1,h2,h4,h3⟩=>by
  intro u hu
  rw [e] at hu
  simp only [List.mem_append,List.mem_cons,List.not_mem_nil,or_false] at hu
  rcases hu with (rfl | rfl | rfl | rfl | rfl | rfl | rfl | rfl | rfl | rfl) | hu <;> first | rfl | exact h1.one | exact h2.one | exact h4.one | exact Elems.ones tl 1 r h3 u hu
 | .bl b tl,k,xs,⟨hk,vb,r,e,h1,h3⟩=>by
  intro u hu
  rw [e] at hu
  simp only [List.mem_append,List.mem_cons,List.not_mem_nil,or_false] at hu
  rcases hu with rfl | hu <;> first | exact h1.one | exact Elems.ones tl 2 r h3 u hu
 | .ca lo hi b tl,k,xs,⟨hk,vb,r,e,h1,h3⟩=>by
  intro u hu
  rw [e] at hu
  simp only [List.mem_append,List.mem_cons,List.not_mem_nil,or_false] at hu
  rcases hu with (rfl | rfl | rfl) | hu <;> first | rfl | exact h1.one | exact Elems.ones tl 3 r h3 u hu
 | .pa nm ty kn tl,k,xs,⟨hk,r,e,h3⟩=>by
  intro u hu
  rw [e] at hu
  simp only [List.mem_append,List.mem_cons,List.not_mem_nil,or_false] at hu
  rcases hu with (rfl | rfl | rfl | rfl | rfl | rfl | rfl) | hu <;> first | rfl | exact Elems.ones tl 4 r h3 u hu
 | .de fn nm ps ty val b tl,k,xs,⟨hk,vp,ys,vb,r,e,h1,h0,h2,h4,h3⟩=>by
  intro u hu
  rw [e] at hu
  simp only [List.mem_append,List.mem_cons,List.not_mem_nil,or_false] at hu
  rcases hu with (((rfl | rfl | rfl | rfl | rfl | rfl | rfl | rfl) | hu) | rfl) | hu <;> first | rfl | exact h1.one | exact h4.one | exact Elems.ones val 0 ys h2 u hu | exact Elems.ones tl 5 r h3 u hu
theorem Nv.one {V:Vw} {k:Nat} {x:Nd} {cs:Array Value} (n:Nv V k x cs):∀ u ∈ cs.toList,u.oneCell'=true:=Elems.ones x k _ n.1
theorem Nv.sl {p:Nat → Prop} {w:World} {g c:Nat} {t:TypeId} {k:Nat} {x:Nd} {cs:Array Value} (n:Nv (vp p w) k x cs) (hb:Blk w g t cs) (hg:p g):Sl (vp p w) (.slice (some ⟨g,0,none⟩) 1 c) x k :=
 Sl.new n.1 (fun i=>by rw [vp_new hb hg]; simp) n.2.symm
theorem Blk.px {m:Nat} {w w':World} {g:Nat} {t:TypeId} {cs:Array Value} (h:Blk w g t cs) (x:Px m w w') (hg:g ≠ m):Blk w' g t cs:=(x.block g h.lt hg).trans h
theorem Nv.px {m:Nat} {p q:Nat → Prop} {w w':World} {k:Nat} {x:Nd} {cs:Array Value} (n:Nv (vp p w) k x cs) (h:Px m w w') (hp:∀ b,p b → b < w.heap.size → b ≠ m∧q b):Nv (vp q w') k x cs:=n.mono (vp_le fun b hb hl=>⟨(hp b hb hl).2,h.block b hl (hp b hb hl).1⟩)
theorem Sl.px {m:Nat} {p q:Nat → Prop} {w w':World} {k:Nat} {x:Nd} {v:Value} (n:Sl (vp p w) v x k) (h:Px m w w') (hp:∀ b,p b → b < w.heap.size → b ≠ m∧q b):Sl (vp q w') v x k:=n.mono (vp_le fun b hb hl=>⟨(hp b hb hl).2,h.block b hl (hp b hb hl).1⟩)
theorem Nv.row {p q:Nat → Prop} {w:World} {k g:Nat} {x:Nd} {cs:Array Value} (n:Nv (vp p w) k x cs) (ds:Array Value) (hp:∀ b,p b → b < w.heap.size → b ≠ g∧q b):Nv (vp q (w.setRow g ds)) k x cs:=n.mono (vp_le fun b hb hl=>⟨(hp b hb hl).2,setRow_other w g b ds (hp b hb hl).1⟩)
theorem Sl.row {p q:Nat → Prop} {w:World} {k g:Nat} {x:Nd} {v:Value} (n:Sl (vp p w) v x k) (ds:Array Value) (hp:∀ b,p b → b < w.heap.size → b ≠ g∧q b):Sl (vp q (w.setRow g ds)) v x k:=n.mono (vp_le fun b hb hl=>⟨(hp b hb hl).2,setRow_other w g b ds (hp b hb hl).1⟩)
theorem Nv.ext {p q:Nat → Prop} {w w':World} {k:Nat} {x:Nd} {cs:Array Value} (n:Nv (vp p w) k x cs) (h:Ext w w') (hp:∀ b,p b → b < w.heap.size → q b):Nv (vp q w') k x cs:=n.mono (vp_le fun b hb hl=>⟨hp b hb hl,h.out.block b hl⟩)
theorem Sl.ext {p q:Nat → Prop} {w w':World} {k:Nat} {x:Nd} {v:Value} (n:Sl (vp p w) v x k) (h:Ext w w') (hp:∀ b,p b → b < w.heap.size → q b):Sl (vp q w') v x k:=n.mono (vp_le fun b hb hl=>⟨hp b hb hl,h.out.block b hl⟩)
theorem own_px {m:Nat} {w w':World} {base:Nat} {e:TypeId} {size:Nat} {v:Value} {n:Nat} {xs:List Value} (h:w.ownsRow base e size v n xs) (x:Px m w w') (hm:m < base):w'.ownsRow base e size v n xs:=by
 refine ⟨h.1,h.2.imp id ?_⟩
 rintro ⟨g,cap,cur,e,hb,hg,r⟩
 refine ⟨g,cap,cur,e,hb,?_,r⟩
 have hlt:g < w.heap.size:=by
  rcases Nat.lt_or_ge g w.heap.size with h1 | h1
  ·exact h1
  ·rw [Array.getElem?_eq_none h1] at hg; cases hg
 exact (x.block g hlt (by omega)).trans hg
theorem arr10 {cs:Array Value} (h:cs.size=10):∃ a b c d e f g i j k,cs=#[a,b,c,d,e,f,g,i,j,k]:=by
 obtain ⟨l⟩:=cs
 match l,h with
 | [a,b,c,d,e,f,g,i,j,k],_=>exact ⟨a,b,c,d,e,f,g,i,j,k,rfl⟩
section
variable {ops:Array Oper} {rest:List Oper} {o:Oper} {a:Act} {Q:Exit → Act → World → Prop} {w:World} {K:Act → World → Prop}
theorem wp_app1 {T E:TypeId} {sz b:Nat} {z:Value} (ht:Tryz.prog.underlying T=some (.slice E)) (hi:(Tryz.prog.info? E).map (fun i=>(i.zero,i.size,i.bytes))=some (some z,sz,b)) (hz:z.cells.size=sz) (hsz:0 < sz) (hb:b ≤ 1000)
  (s x:Operand) (ho:o.op=.call { callee:=.builtin .append,args:=#[s,x],argTypes:=#[T,T] }) (base:Nat) (v:Value) (n:Nat) (xs:List Value) (hs:a.eval s=v) (hown:w.ownsRow base E sz v n xs)
  (g c:Nat) (cs:Array Value) (hx:a.eval x=.slice (some ⟨g,0,none⟩) 1 c) (hB:Blk w g E cs) (hcs:cs.size=sz) (h1:∀ u ∈ cs.toList,u.oneCell'=true) (hn:n ≤ 100000000) (hbase:base ≤ w.heap.size)
  (h:∀ v' w',w'.ownsRow base E sz v' (n + 1) (xs ++ cs.toList) → w.grownBy w' v.ownBlock → (v'.ownBlock=v.ownBlock ∨ v'.ownBlock=some w.heap.size) → K (a.put o.dst v') w'):o.wp Tryz.prog a w K Q:=by
 obtain ⟨i0,hi0,hz0,hz1,hz2⟩:=info_parts hi
 have hnew:∀ j u,cs.toList[j]?=some u → w.cell? ((⟨g,0,none⟩:Addr).add j)=some u:=fun j u hj=>by
  rw [Addr.add_mid,Nat.zero_add,hB.cell]; simpa using hj
 have hby:(n + 1) * b ≤ 140737488355328:=by
  have:=Nat.mul_le_mul (show n + 1 ≤ 100000001 by omega) hb
  omega
 obtain ⟨v',w',hrun,r1,r2,_⟩:=run_append_own w base T o.type E i0 z sz b ht hi0 hz0 hz1 hz2 hz hsz v n xs hown ⟨g,0,none⟩ 1 c cs.toList (by simpa using hcs) hnew h1 (by unfold maxLen; omega) hby hbase
 have hbk:v'.ownBlock=v.ownBlock ∨ v'.ownBlock=some w.heap.size:=by
  rcases hown.2 with ⟨rfl,rfl⟩ | ⟨k,cap,cur,rfl,hbg,hg,hnc,hcm,hcs2,htake⟩
  ·have hx:xs=[]:=List.eq_nil_of_length_eq_zero (by simpa using hown.1)
   subst hx
   have hr:=run_append_nil (P:=Tryz.prog) w T o.type E i0 z ht hi0 hz0 ⟨g,0,none⟩ 1 c cs.toList (by simp [hcs,hz1]) hnew (by omega) (by omega) (by omega)
   rw [hrun] at hr
   cases hr
   exact .inr rfl
  ·by_cases hroom:n + 1 ≤ cap
   ·have hr:=run_append_room (P:=Tryz.prog) w T o.type E i0 ht hi0 k n cap cur hg ⟨g,0,none⟩ 1 c cs.toList (by simp [hcs,hz1]) hnew h1 hroom (by have:=Nat.mul_le_mul_right sz hroom; simp [hcs,hz1,hcs2,Nat.add_mul] at this ⊢; omega)
    rw [hrun] at hr
    cases hr
    exact .inl rfl
   ·have hr:=run_append_grow (P:=Tryz.prog) w T o.type E i0 z ht hi0 hz0 ⟨k,0,none⟩ n cap xs (by rw [hz1]; exact hown.1) (hown.cells (g:=k) rfl) ⟨g,0,none⟩ 1 c cs.toList (by simp [hcs,hz1]) hnew (by omega) (by omega) (growslice_fits (by omega) (by rw [hz2]; exact hby))
    rw [hrun] at hr
    cases hr
    exact .inr rfl
 have h2:(execOp a.eval o).run Tryz.prog w=.ok (.value v') w':=by simp [execOp,ho,resolve,invoke,builtin,hs,hx,hrun,Result.andThen]
 simp only [Oper.wp,h2,Oper.upon]
 exact h v' w' r1 r2 hbk
theorem wpList_app1 {T E:TypeId} {sz b:Nat} {z:Value} (ht:Tryz.prog.underlying T=some (.slice E)) (hi:(Tryz.prog.info? E).map (fun i=>(i.zero,i.size,i.bytes))=some (some z,sz,b)) (hz:z.cells.size=sz) (hsz:0 < sz) (hb:b ≤ 1000) (hgd:o.guard=none)
  (s x:Operand) (ho:o.op=.call { callee:=.builtin .append,args:=#[s,x],argTypes:=#[T,T] }) (base:Nat) (v:Value) (n:Nat) (xs:List Value) (hs:a.eval s=v) (hown:w.ownsRow base E sz v n xs)
  (g c:Nat) (cs:Array Value) (hx:a.eval x=.slice (some ⟨g,0,none⟩) 1 c) (hB:Blk w g E cs) (hcs:cs.size=sz) (h1:∀ u ∈ cs.toList,u.oneCell'=true) (hn:n ≤ 100000000) (hbase:base ≤ w.heap.size)
  (h:∀ v' w',w'.ownsRow base E sz v' (n + 1) (xs ++ cs.toList) → w.grownBy w' v.ownBlock → (v'.ownBlock=v.ownBlock ∨ v'.ownBlock=some w.heap.size) → wpList Tryz.prog ops Q rest (a.put o.dst v') w'):wpList Tryz.prog ops Q (o :: rest) a w :=
 wpList_plain hgd fun _ hK=>wp_app1 ht hi hz hsz hb s x ho base v n xs hs hown g c cs hx hB hcs h1 hn hbase fun v' w' r1 r2 r3=>hK _ _ (h v' w' r1 r2 r3)
theorem fill_ten (z a b c d e f g i j k:Value):Instr.fill (fun i=>some (i * 10,10)) ((Array.range (1 * 10)).map ((Value.agg zEx).cells[· % (Value.agg zEx).cells.size]!)) [(0,.agg #[a,b,c,d,e,f,g,i,j,k])]=some #[a,b,c,d,e,f,g,i,j,k]:=by kernel_rfl
theorem fill_tens (z a b c d e f g i j k:Value):Instr.fill (fun i=>some (i * 10,10)) ((Array.range (1 * 10)).map ((Value.agg zSt).cells[· % (Value.agg zSt).cells.size]!)) [(0,.agg #[a,b,c,d,e,f,g,i,j,k])]=some #[a,b,c,d,e,f,g,i,j,k]:=by kernel_rfl
theorem wp_bsE (x:Operand) (ho:o.op=.buildSlice 33 1 #[(0,x)]) (cs:Array Value) (hx:a.eval x=.agg cs) (hs:cs.size=10) (h:K (a.put o.dst (.slice (some ⟨w.heap.size,0,none⟩) 1 1)) (w.alloc (.cells cs 36))):o.wp Tryz.prog a w K Q:=by
 obtain ⟨i0,hi0,hz0,hz1,hz2⟩:=info_parts infoEx
 obtain ⟨a0,b0,c0,d0,e0,f0,g0,i1,j0,k0,rfl⟩:=arr10 hs
 refine wp_buildSlice _ 36 1 _ ho _ i0 _ Tryz.underlying33 hi0 hz0 (by rw [hz1]; decide) (by rw [hz1]; decide) ?_ h
 rw [hz1,show (#[(0,x)].map fun (i,x)=>(i,a.eval x)).toList=[(0,.agg #[a0,b0,c0,d0,e0,f0,g0,i1,j0,k0])] by simp [hx]]
 exact fill_ten sl0 ..
theorem wpList_bsE (hgd:o.guard=none) (x:Operand) (ho:o.op=.buildSlice 33 1 #[(0,x)]) (cs:Array Value) (hx:a.eval x=.agg cs) (hs:cs.size=10) (h:wpList Tryz.prog ops Q rest (a.put o.dst (.slice (some ⟨w.heap.size,0,none⟩) 1 1)) (w.alloc (.cells cs 36))):wpList Tryz.prog ops Q (o :: rest) a w :=
 wpList_plain hgd fun _ hK=>wp_bsE x ho cs hx hs (hK _ _ h)
theorem wp_bsS (x:Operand) (ho:o.op=.buildSlice 34 1 #[(0,x)]) (cs:Array Value) (hx:a.eval x=.agg cs) (hs:cs.size=10) (h:K (a.put o.dst (.slice (some ⟨w.heap.size,0,none⟩) 1 1)) (w.alloc (.cells cs 44))):o.wp Tryz.prog a w K Q:=by
 obtain ⟨i0,hi0,hz0,hz1,hz2⟩:=info_parts infoSt
 obtain ⟨a0,b0,c0,d0,e0,f0,g0,i1,j0,k0,rfl⟩:=arr10 hs
 refine wp_buildSlice _ 44 1 _ ho _ i0 _ Tryz.underlying34 hi0 hz0 (by rw [hz1]; decide) (by rw [hz1]; decide) ?_ h
 rw [hz1,show (#[(0,x)].map fun (i,x)=>(i,a.eval x)).toList=[(0,.agg #[a0,b0,c0,d0,e0,f0,g0,i1,j0,k0])] by simp [hx]]
 exact fill_tens sl0 ..
theorem wpList_bsS (hgd:o.guard=none) (x:Operand) (ho:o.op=.buildSlice 34 1 #[(0,x)]) (cs:Array Value) (hx:a.eval x=.agg cs) (hs:cs.size=10) (h:wpList Tryz.prog ops Q rest (a.put o.dst (.slice (some ⟨w.heap.size,0,none⟩) 1 1)) (w.alloc (.cells cs 44))):wpList Tryz.prog ops Q (o :: rest) a w :=
 wpList_plain hgd fun _ hK=>wp_bsS x ho cs hx hs (hK _ _ h)
theorem wp_str (ty:TypeId) (x y:Operand) (ho:o.op=.store ty x y) (g:Nat) (hx:a.eval x=.pointer (some ⟨g,0,none⟩)) (t:TypeId) (cur cs:Array Value) (hg:Blk w g t cur) (hy:a.eval y=.agg cs) (hs:cs.size=cur.size)
  (h1:∀ v ∈ cs.toList,v.oneCell'=true) (hi:(Tryz.prog.info? ty).map (·.size)=some cs.size) (h:K (a.put o.dst undef) (w.setRow g cs)):o.wp Tryz.prog a w K Q:=by
 have hst:=run_storeCells_from (P:=Tryz.prog) g t cs.toList 0 cur w hg (by simp [hs]) h1
 simp only [List.take_zero,List.nil_append,Array.toArray_toList] at hst
 cases hq:Tryz.prog.info? ty with
 | none=>simp [hq] at hi
 | some i =>
  have hz:i.size=cs.size:=by simpa [hq] using hi
  unfold Oper.wp execOp
  simp only [ho,hx,hy]
  have:(Instr.storeAt ty (.pointer (some ⟨g,0,none⟩)) (.agg cs)).run Tryz.prog w=.ok () (w.setRow g cs):=by
   simp [Instr.storeAt,Instr.sureAddr,storeVar,Value.cells,sizeOf,typeInfo,hq,hz,hst]
  simp [this]
  exact h
theorem fill_two (a b c d e f g i j k a2 b2 c2 d2 e2 f2 g2 i2 j2 k2:Value):Instr.fill (fun i=>some (i * 10,10)) ((Array.range (2 * 10)).map ((Value.agg zEx).cells[· % (Value.agg zEx).cells.size]!)) [(0,.agg #[a,b,c,d,e,f,g,i,j,k]),(1,.agg #[a2,b2,c2,d2,e2,f2,g2,i2,j2,k2])]=some (#[a,b,c,d,e,f,g,i,j,k] ++ #[a2,b2,c2,d2,e2,f2,g2,i2,j2,k2]):=by kernel_rfl
theorem wp_bsE2 (x y:Operand) (ho:o.op=.buildSlice 33 2 #[(0,x),(1,y)]) (cs ds:Array Value) (hx:a.eval x=.agg cs) (hy:a.eval y=.agg ds) (hs:cs.size=10) (hd:ds.size=10) (h:K (a.put o.dst (.slice (some ⟨w.heap.size,0,none⟩) 2 2)) (w.alloc (.cells (cs ++ ds) 36))):o.wp Tryz.prog a w K Q:=by
 obtain ⟨i0,hi0,hz0,hz1,hz2⟩:=info_parts infoEx
 obtain ⟨a0,b0,c0,d0,e0,f0,g0,i1,j0,k0,rfl⟩:=arr10 hs
 obtain ⟨a2,b2,c2,d2,e2,f2,g2,i2,j2,k2,rfl⟩:=arr10 hd
 refine wp_buildSlice _ 36 2 _ ho _ i0 _ Tryz.underlying33 hi0 hz0 (by rw [hz1]; decide) (by rw [hz1]; decide) ?_ h
 rw [hz1,show (#[(0,x),(1,y)].map fun (i,x)=>(i,a.eval x)).toList=[(0,.agg #[a0,b0,c0,d0,e0,f0,g0,i1,j0,k0]),(1,.agg #[a2,b2,c2,d2,e2,f2,g2,i2,j2,k2])] by simp [hx,hy]]
 exact fill_two ..
theorem wp_bld (t:TypeId) (parts:Array (Nat × Operand)) (ho:o.op=.build t parts) (L:List (Nat × Value)) (hL:(parts.map fun (i,x)=>(i,a.eval x)).toList=L) {cells:Array Value} (hb:Tryz.prog.built t L=some cells) (h:K (a.put o.dst (.agg cells)) w):o.wp Tryz.prog a w K Q:=by
 subst hL
 exact wp_build t parts ho (by rw [hb]; rfl) (by rw [hb]; exact h)
theorem exec_ldb {ty:TypeId} {x:Operand} (ho:o.op=.load ty x) {g:Nat} {t:TypeId} {cs:Array Value} (hx:a.eval x=.pointer (some ⟨g,0,none⟩)) (hB:Blk w g t cs) {d:TypeDesc} (hu:Tryz.prog.underlying ty=some d) (hd:d.isRow=true) (hi:(Tryz.prog.info? ty).map (·.size)=some cs.size):(execOp a.eval o).run Tryz.prog w=.ok (.value (.agg cs)) w:=by
 have h:=run_loadVar_mid (P:=Tryz.prog) w g 0 ty cs.toList d (fun j v hv=>by rw [Nat.zero_add,hB.cell]; simpa using hv) hu hd (by simpa using hi)
 unfold execOp
 simp only [ho,hx,Instr.loadAt,Instr.sureAddr,Sem.run_bind,Sem.run_pure,Result.andThen_ok,h]
theorem wpList_ldb (hgd:o.guard=none) (ty:TypeId) (x:Operand) (ho:o.op=.load ty x) (g:Nat) (t:TypeId) (cs:Array Value) (hx:a.eval x=.pointer (some ⟨g,0,none⟩)) (hB:Blk w g t cs) (d:TypeDesc) (hu:Tryz.prog.underlying ty=some d) (hd:d.isRow=true) (hi:(Tryz.prog.info? ty).map (·.size)=some cs.size)
  (h:wpList Tryz.prog ops Q rest (a.put o.dst (.agg cs)) w):wpList Tryz.prog ops Q (o :: rest) a w :=
 wpList_load_mid hgd ty x ho g 0 hx cs.toList d (fun j v hv=>by rw [Nat.zero_add,hB.cell]; simpa using hv) hu hd (by simpa using hi) h
theorem wpList_bld (hg:o.guard=none) (t:TypeId) (parts:Array (Nat × Operand)) (ho:o.op=.build t parts) (L:List (Nat × Value)) (hL:(parts.map fun (i,x)=>(i,a.eval x)).toList=L) {cells:Array Value}
  (hb:Tryz.prog.built t L=some cells) (h:wpList Tryz.prog ops Q rest (a.put o.dst (.agg cells)) w):wpList Tryz.prog ops Q (o :: rest) a w:=by
 subst hL
 exact wpList_build hg t parts ho (by rw [hb]; rfl) (by rw [hb]; exact h)
end
def exC (op:Int) (va:Value):Array Value:=#[.int .i64 op,.int .i64 0,.int .i64 0,.string ⟨#[]⟩,.bool false,.bool false,.string ⟨#[]⟩,.int .i64 0,va,.slice none 0 0]
theorem built_ex (op:Int) (A:Option Addr) (n c:Nat):Tryz.prog.built 36 [(0,.int .i64 op),(4,.slice A n c)]=some (exC op (.slice A n c)):=by kernel_rfl
theorem nv_ex {V:Vw} {op:Int} {x:Nd} {v:Value} (h:Sl V v x 0):Nv V 0 (exN op x) (exC op v) :=
 ⟨⟨rfl,v,.slice none 0 0,[],rfl,h,Sl.nil V none 0 1,rfl⟩,rfl⟩
theorem exC_one (op:Int) (A:Option Addr) (n c:Nat):∀ u ∈ (exC op (.slice A n c)).toList,u.oneCell'=true:=by
 intro u hu
 simp only [exC,List.mem_cons,List.not_mem_nil,or_false] at hu
 rcases hu with rfl | rfl | rfl | rfl | rfl | rfl | rfl | rfl | rfl | rfl <;> rfl
theorem Nv.sl2 {p:Nat → Prop} {w:World} {g c:Nat} {t:TypeId} {x y:Nd} {cs ds:Array Value} (n:Nv (vp p w) 0 x cs) (m:Nv (vp p w) 0 y ds) (hb:Blk w g t (cs ++ ds)) (hg:p g):Sl (vp p w) (.slice (some ⟨g,0,none⟩) 2 c) (x.app y) 0 :=
 Sl.new (cs:=cs.toList ++ ds.toList) (Elems.app x y 0 _ _ n.1 m.1) (fun i=>by rw [vp_new hb hg,← Array.toList_append,Array.getElem?_toList]) (by rw [app_len,n.2,m.2])
def Out (C:Cx) (w:World) (k:Nat) (r:Option Rs) (e:Ending) (w':World):Prop :=
 (∃ x b cs,Hid (r=some (.ok x b))∧e=.returned (.agg cs)∧Nv (vp (w.heap.size ≤ ·) w') k x cs∧Mv C w b w') ∨ ∃ b,Hid (r=some (.bad b))∧e=.panicked (pan b)∧Mv C w b w'
theorem Mv.row {C:Cx} {w wr:World} {b g:Nat} (h:Mv C w b wr) (hz:w.heap.size ≤ g) (hm:C.m < w.heap.size) (cs:Array Value):Mv C w b (wr.setRow g cs) :=
 ⟨⟨h.ps.ext.setRow (by have:=C.hm; omega) _,h.ps.le,(setRow_other _ _ _ _ (by omega)).trans h.ps.blk⟩,h.px.row hz _⟩
def OutL (C:Cx) (w:World) (k:Nat) (r:Option Rs) (e:Ending) (w':World):Prop :=
 (∃ x b v,Hid (r=some (.ok x b))∧e=.returned v∧Sl (vp (w.heap.size ≤ ·) w') v x k∧Mv C w b w') ∨ ∃ b,Hid (r=some (.bad b))∧e=.panicked (pan b)∧Mv C w b w'
theorem fin_row {C:Cx} {w w2:World} {z b k:Nat} {x:Nd} {cs:Array Value} {p:Nat → Prop} {r:Option Rs} (hmv:Mv C w b w2) (hz:w.heap.size ≤ z) (hm:C.m < w.heap.size) (hnv:Nv (vp p w2) k x cs) (hp:∀ i,p i → i < w2.heap.size → i ≠ z∧w.heap.size ≤ i) (hr:r=some (.ok x b)):Out C w k r (.returned (.agg cs)) (w2.setRow z cs) :=
 .inl ⟨x,b,cs,hr,rfl,hnv.row _ hp,hmv.row hz hm _⟩
theorem fin_bad {C:Cx} {w w2:World} {b k:Nat} {r:Option Rs} (hmv:Mv C w b w2) (hr:r=some (.bad b)):Out C w k r (.panicked (pan b)) w2:=.inr ⟨b,hr,rfl,hmv⟩
theorem Out.ok {C:Cx} {w w':World} {k b:Nat} {x:Nd} {e:Ending} (h:Out C w k (some (.ok x b)) e w'):∃ cs,e=.returned (.agg cs)∧Nv (vp (w.heap.size ≤ ·) w') k x cs∧Mv C w b w':=by
 rcases h with ⟨x,b,cs,h1,h2,h3,h4⟩ | ⟨b,h1,h2,h3⟩
 ·cases h1.out; exact ⟨cs,h2,h3,h4⟩
 ·cases h1.out
theorem Out.bad {C:Cx} {w w':World} {k b:Nat} {e:Ending} (h:Out C w k (some (.bad b)) e w'):e=.panicked (pan b)∧Mv C w b w':=by
 rcases h with ⟨x,b,cs,h1,h2,h3,h4⟩ | ⟨b,h1,h2,h3⟩
 ·cases h1.out
 ·cases h1.out; exact ⟨h2,h3⟩
theorem Out.no {C:Cx} {w w':World} {k:Nat} {e:Ending} (h:Out C w k none e w'):False:=by
 rcases h with ⟨x,b,cs,h1,h2,h3,h4⟩ | ⟨b,h1,h2,h3⟩ <;> cases h1.out
end Go.Proofs.YtmmnhbhnjiajhaaGreatDoor.c
