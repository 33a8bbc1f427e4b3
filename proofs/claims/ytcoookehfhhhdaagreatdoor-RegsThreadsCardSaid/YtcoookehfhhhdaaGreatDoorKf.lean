/- Laws for the walk of the stack machine's run: literals, appends in a region, the end that returns the top. No condition. Laws for the region of the stack machine's run in which it calls itself: three operations that make memory, in any order. No condition. -/
import Derived.Test.YtcoookehfhhhdaaGreatDoorKst
import Derived.Test.YtcoookehfhhhdaaGreatDoorSkL
namespace Go.Proofs.YtcoookehfhhhdaaGreatDoor.c
open Go.RowKit
set_option linter.unusedVariables false
set_option linter.unusedSimpArgs false
theorem lit_its {w:World} {g:Nat} {u:Val} (h:Blk w g 86 (itA u)):∀ i j,i < [u].length → j < 3 → w.cell? ⟨g,0 + (i * 3 + j),none⟩=some (itC ([u].getD i default) j):=by
 intro i j hi hj
 obtain rfl:i=0:=by simpa using hi
 rw [show 0 + (0 * 3 + j)=j by omega,h.cell]
 match j,hj with
 | 0,_ | 1,_ | 2,_=>rfl
section
variable {w0 w w':World} {z len s:Nat} {kd y:Int} {vC:Value} {h:Int} {gp:Nat} {PL:List Val} {base:Nat} {v:Value} {K:List Val}
theorem own_low {base' n:Nat} {cs:List Value} (h:w.ownsRow base' 86 3 v n cs) (hb:base ≤ base'):w.ownsRow base 86 3 v n cs:=by
 refine ⟨h.1,?_⟩
 rcases h.2 with h2 | ⟨g',cap',cur,e,h3,r⟩
 ·exact .inl h2
 ·exact .inr ⟨g',cap',cur,e,Nat.le_trans hb h3,r⟩
theorem SkSt.pop {A:Option Addr} {n cap m:Nat} (k:SkSt w0 z len kd y s vC h gp PL base (.slice A n cap) K w) (hn:n=K.length) (hA:A ≠ none) (hm:m ≤ K.length):SkSt w0 z len kd y s vC h gp PL base (.slice A m cap) (K.take m) w:=k.stack (own_cut k.st hA hm)
theorem SkSt.lit {q:Nat} (k:SkSt w0 z len kd y s vC h gp PL base v K w) (hq:q=w.heap.size):SkSt w0 z len kd y s vC h gp PL base (.slice (some ⟨q,0,none⟩) 0 0) [] (w.alloc (.cells #[] 86)) :=
 (k.ext' ((Ext.refl _).alloc _)).stack (own_nothing _ _ _ _ _ hq (by have:=k.lo; omega))
theorem SkSt.base_le (k:SkSt w0 z len kd y s vC h gp PL base v K w):base ≤ w.heap.size:=k.lo.2.2.2
theorem its_take {g:Nat} (hk:RecRow w g 86 3 itC K) {m:Nat} (hm:m ≤ K.length):∀ i j,i < (K.take m).length → j < 3 → w.cell? ⟨g,0 + (i * 3 + j),none⟩=some (itC ((K.take m).getD i default) j):=by
 intro i j hi hj
 have hi2:i < m:=by rw [List.length_take] at hi; omega
 rw [Nat.zero_add,hk.cell (by omega) hj]
 simp [List.getD,List.getElem?_take,hi2]
end
section
variable {ops:Array Oper} {o:Oper} {a:Act} {C:Act → World → Prop} {Q:Exit → Act → World → Prop} {E:Prop} {w:World}
theorem step_its (hgd:o.guard=none) (s x:Operand) (ho:o.op=.call { callee:=.builtin .append,args:=#[s,x],argTypes:=#[87,87] })
  (base:Nat) (v:Value) (M N:List Val) (hs:a.eval s=v) (hown:w.ownsRow base 86 3 v M.length (recCells 3 itC M)) (g off n c:Nat) (hn:n=N.length) (hx:a.eval x=.slice (some ⟨g,off,none⟩) n c)
  (hN:∀ i j,i < N.length → j < 3 → w.cell? ⟨g,off + (i * 3 + j),none⟩=some (itC (N.getD i default) j)) (hb:M.length + N.length ≤ 1000000) (hbase:base ≤ w.heap.size)
  (h:∀ v' w',w'.ownsRow base 86 3 v' (M ++ N).length (recCells 3 itC (M ++ N)) → w.grownBy w' v.ownBlock → C (a.put o.dst v') w'):if Region.wanted o (yielded ops a.tmps)=true then Oper.wp Tryz.prog o a w C Q else E:=by
 obtain ⟨i0,hi0,hz0,hz1,hz2⟩:=info_parts info_it
 subst hn
 have hw:Region.wanted o (yielded ops a.tmps)=true:=by simp [Region.wanted,hgd]
 rw [if_pos hw]
 obtain ⟨v',w',h2,h3,h4⟩:=exec_append_own (P:=Tryz.prog) w a.eval s x 87 ho base 86 i0 _ 3 32 Tryz.underlying87 hi0 hz0 hz1 hz2 rfl (by decide) v M.length _ hs hown ⟨g,off,none⟩ N.length c (recCells 3 itC N) hx (recCells_len 3 itC N) (news_rec hN) (recCells_ones itC_ones N) (by unfold maxLen; omega) (by omega) hbase
 have h5:=h v' w' (by rw [recCells_append,List.length_append]; exact h3) h4
 simp only [Oper.wp,h2,Oper.upon]
 exact h5
end
structure EndT (w0:World) (z len:Nat) (kd y:Int) (s:Nat) (vC:Value) (h:Int) (v:Val) (g:Nat) (l:Array Bool) (w:World):Prop where
 e:EndSt w0 z len kd y s vC h (itA v) l w
 b:Blk w g 86 (itA v)
section
variable {w0 w:World} {z len s:Nat} {kd y h:Int} {vC:Value} {v:Val} {g:Nat} {l:Array Bool}
theorem EndT.other {i:Nat} (h2:i ≠ 2) (h3:i ≠ 3):EndT w0 z len kd y s vC h v g (l.setIfInBounds i true) w ↔ EndT w0 z len kd y s vC h v g l w :=
 ⟨fun k=>⟨(EndSt.other h2 h3).1 k.e,k.b⟩,fun k=>⟨(EndSt.other h2 h3).2 k.e,k.b⟩⟩
theorem EndT.put1 (k:EndT w0 z len kd y s vC h v g l w) (hg:z + 2 < g):EndT w0 z len kd y s vC h v g (l.setIfInBounds 2 true) (w.setCells (z + 1) 0 (itA v).toList):=⟨k.e.put1 rfl,k.b.setCells_far (by omega) _ _⟩
theorem EndT.put2 (k:EndT w0 z len kd y s vC h v g l w) (hg:z + 2 < g):EndT w0 z len kd y s vC h v g (l.setIfInBounds 3 true) (w.setCells (z + 2) 0 (logA kd y s vC h).toList):=⟨k.e.put2,k.b.setCells_far (by omega) _ _⟩
end
def SwR (l:List Fc) (ck:Bool) (d k:Nat) (f:Fc) (nc np:Nat) (w0:World) (z len gp base s:Nat) (en:En) (t:Nat) (v a b:Value) (w:World):Prop :=
 ∃ (p:Nat) (PL K:List Val) (s':Nat) (vC:Value) (h y:Int),a=.int .i64 p∧b=.int .i64 y∧PL.length=np∧s' ≤ 40000∧s < s'∧SkSt w0 z len 0 0 s' vC h gp PL base v K w ∧
  ((y=0∧p < nc∧Reach f.code ((p:Int),(K.length:Int))∧RunK l ck (.at_ d k p (fun i=>PL.getD i default) K) s' en t) ∨ (y ≠ 0∧en=.stop y∧t=s'))
theorem SwR.go {l:List Fc} {ck:Bool} {d k:Nat} {f:Fc} {nc np:Nat} {w0:World} {z len gp base s:Nat} {en:En} {t:Nat} {v a b:Value} {w:World} {p:Nat} {PL K:List Val} {s':Nat} {vC:Value} {h:Int}
  (ha:a=.int .i64 p) (hb:b=.int .i64 0) (hp:PL.length=np) (hs:s' ≤ 40000) (hss:s < s') (hk:SkSt w0 z len 0 0 s' vC h gp PL base v K w) (hn:nc=f.code.length) (hpc:p < f.code.length) (hr:Reach f.code ((p:Int),(K.length:Int))) (hrun:RunK l ck (.at_ d k p (fun i=>PL.getD i default) K) s' en t):SwR l ck d k f nc np w0 z len gp base s en t v a b w :=
 ⟨p,PL,K,s',vC,h,0,ha,hb,hp,hs,hss,hk,.inl ⟨rfl,by omega,hr,hrun⟩⟩
theorem SwR.stop {l:List Fc} {ck:Bool} {d k:Nat} {f:Fc} {nc np:Nat} {w0:World} {z len gp base s:Nat} {en:En} {t:Nat} {v a b:Value} {w:World} {p:Nat} {PL K:List Val} {s':Nat} {vC:Value} {h y:Int}
  (ha:a=.int .i64 p) (hb:b=.int .i64 y) (hp:PL.length=np) (hs:s' ≤ 40000) (hss:s < s') (hk:SkSt w0 z len 0 0 s' vC h gp PL base v K w) (hy:y ≠ 0) (he:en=.stop y) (ht:t=s'):SwR l ck d k f nc np w0 z len gp base s en t v a b w :=
 ⟨p,PL,K,s',vC,h,y,ha,hb,hp,hs,hss,hk,.inr ⟨hy,he,ht⟩⟩
section
variable {P:Program} {ops:Array Oper} {Q:Exit → Act → World → Prop} {md:Region.Mode} {F:Array Bool → Act → World → Prop}
theorem step_callP {i t fuel:Nat} {oi:Oper} {listed:Array Bool} {a:Act} (hi:ops[i]?=some oi) (hd:oi.dst=some t) (hw:Region.wanted oi (yielded ops a.tmps)=true) (K:Nat) (args:Array Value) (R:Value → Prop)
  (hv:∀ w,F listed a w → (execOp a.eval oi).run P w=.ok (.enter K args) w) (hc:∀ w,F listed a w → Calls P K args w (fun e w'=>∃ v,e=.returned v∧R v∧F (listed.setIfInBounds i true) (a.put (some t) v) w'))
  (h:∀ v,R v → wpAnyU P md ops Q F fuel (listed.setIfInBounds i true) (a.put (some t) v)):StepF P md ops Q F fuel i listed a:=by
 intro w hF
 unfold wpOp
 simp only [hi,hw,if_true,Oper.wp,hv w hF,Oper.upon,hd]
 refine .inl (Calls.mono (hc w hF) fun e w' he=>?_)
 obtain ⟨v,rfl,hr,h2⟩:=he
 exact ⟨h2,h v hr⟩
theorem flow2_three {i k m fuel:Nat} {listed:Array Bool} {a:Act} (hr:Region.ready md ops listed=[i,k,m]) (h:StepF P md ops Q F fuel i listed a) (h2:StepF P md ops Q F fuel k listed a) (h3:StepF P md ops Q F fuel m listed a):wpAnyU P md ops Q F (fuel + 1) listed a:=by
 refine ⟨fun e=>(by rw [hr] at e; cases e),fun j hj w hF=>?_⟩
 rw [hr] at hj
 rcases List.mem_cons.1 hj with rfl | hj
 ·exact h w hF
 rcases List.mem_cons.1 hj with rfl | hj
 ·exact h2 w hF
 ·rw [List.mem_singleton] at hj
  subst hj
  exact h3 w hF
end
def ResV (rv:Val) (kd y:Int) (t1:Nat) (v:Value):Prop:=∃ (v9:Value) (h9:Int),v=.tuple #[.agg (itA rv),.agg (logA kd y t1 v9 h9)]∧v9.oneCell'=true
structure F7 (w8:World) (len:Nat) (rv:Val) (kd y:Int) (t1:Nat) (l:Array Bool) (b:Act) (w:World):Prop where
 x:Ext w8 w
 res:l.getD 10 false=true → ∃ (v9:Value) (h9:Int) (L:List Int),b.tmps[315]?=some (.tuple #[.agg (itA rv),.agg (logA kd y t1 v9 h9)])∧L.length=len∧CallsAt w v9 L
 one:l.getD 14 false=true → ∃ g,b.tmps[23]?=some (.pointer (some ⟨g,0,none⟩))∧w8.heap.size ≤ g∧Blk w g 86 (if l.getD 16 false=true then itA rv else zI)
 two:l.getD 15 false=true → ∃ g X,b.tmps[24]?=some (.pointer (some ⟨g,0,none⟩))∧w8.heap.size ≤ g∧Blk w g 89 X∧X.size=7∧(l.getD 17 false=true → ∃ (v9:Value) (h9:Int),b.tmps[315]?=some (.tuple #[.agg (itA rv),.agg (logA kd y t1 v9 h9)])∧X=logA kd y t1 v9 h9)
 sz:l.size=18
section
variable {w8 w w':World} {len:Nat} {rv:Val} {kd y:Int} {t1:Nat} {l:Array Bool} {b:Act}
theorem F7.same {j q:Nat} (h1:j ≠ 10) (h2:j ≠ 14) (h3:j ≠ 15) (h4:j ≠ 16) (h5:j ≠ 17) (h6:q ≠ 315) (h7:q ≠ 23) (h8:q ≠ 24) (v:Value) (l:Array Bool) (b:Act) (w:World):F7 w8 len rv kd y t1 (l.setIfInBounds j true) (b.put (some q) v) w ↔ F7 w8 len rv kd y t1 l b w:=by
 constructor
 ·rintro ⟨a1,a2,a3,a4,a5⟩
  rw [getD_set_ne false h1,put_ne b v h6] at a2
  rw [getD_set_ne false h2,getD_set_ne false h4,put_ne b v h7] at a3
  rw [getD_set_ne false h3,getD_set_ne false h5,put_ne b v h8,put_ne b v h6] at a4
  exact ⟨a1,a2,a3,a4,by simpa using a5⟩
 ·rintro ⟨a1,a2,a3,a4,a5⟩
  refine ⟨a1,?_,?_,?_,by simpa using a5⟩
  ·rw [getD_set_ne false h1,put_ne b v h6]; exact a2
  ·rw [getD_set_ne false h2,getD_set_ne false h4,put_ne b v h7]; exact a3
  ·rw [getD_set_ne false h3,getD_set_ne false h5,put_ne b v h8,put_ne b v h6]; exact a4
theorem F7.start (x:Ext w8 w) (b:Act):F7 w8 len rv kd y t1 #[false,false,false,false,false,false,false,false,false,false,false,false,false,false,false,false,false,false] b w :=
 ⟨x,fun e=>(by cases e),fun e=>(by cases e),fun e=>(by cases e),rfl⟩
theorem F7.ext' (f:F7 w8 len rv kd y t1 l b w) (x:Ext w w'):F7 w8 len rv kd y t1 l b w':=by
 refine ⟨f.x.trans x,fun e=>?_,fun e=>?_,fun e=>?_,f.sz⟩
 ·obtain ⟨v9,h9,L,a1,a2,g,cap,hv,hr⟩:=f.res e
  exact ⟨v9,h9,L,a1,a2,g,cap,hv,hr.ext x⟩
 ·obtain ⟨g,a1,a2,a3⟩:=f.one e
  exact ⟨g,a1,a2,a3.ext x⟩
 ·obtain ⟨g,X,a1,a2,a3,a4⟩:=f.two e
  exact ⟨g,X,a1,a2,a3.ext x,a4⟩
theorem F7.call {v9:Value} {h9:Int} {L:List Int} {n:Nat} (f:F7 w8 len rv kd y t1 l b w) (x:Ext w w') (hl:L.length=len) (hc:CallsAt w' v9 L) (h17:l.getD 17 false=false) (hn:315 < n) (hb:n=b.tmps.size) :
  F7 w8 len rv kd y t1 (l.setIfInBounds 10 true) (b.put (some 315) (.tuple #[.agg (itA rv),.agg (logA kd y t1 v9 h9)])) w':=by
 have f:=f.ext' x
 refine ⟨f.x,fun _=>⟨v9,h9,L,put_get b _ hn hb,hl,hc⟩,?_,?_,by simpa using f.sz⟩
 ·rw [getD_set_ne false (by decide),getD_set_ne false (by decide),put_ne b _ (by decide)]; exact f.one
 ·rw [getD_set_ne false (by decide),getD_set_ne false (by decide),put_ne b _ (by decide),h17]
  intro e
  obtain ⟨g,X,a1,a2,a3,a4,_⟩:=f.two e
  exact ⟨g,X,a1,a2,a3,a4,fun e=>(by cases e)⟩
theorem F7.box1 {n:Nat} (f:F7 w8 len rv kd y t1 l b w) (h16:l.getD 16 false=false) (hn:23 < n) (hb:n=b.tmps.size) :
  F7 w8 len rv kd y t1 (l.setIfInBounds 14 true) (b.put (some 23) (.pointer (some ⟨w.heap.size,0,none⟩))) (w.alloc (.cells zI 86)):=by
 have f2:=f.ext' ((Ext.refl w).alloc (.cells zI 86))
 refine ⟨f2.x,?_,?_,?_,by simpa using f.sz⟩
 ·rw [getD_set_ne false (by decide),put_ne b _ (by decide)]; exact f2.res
 ·intro _
  rw [getD_set_ne false (by decide),h16]
  exact ⟨_,put_get b _ hn hb,f.x.size,Blk.new _ _ _⟩
 ·rw [getD_set_ne false (by decide),getD_set_ne false (by decide),put_ne b _ (by decide),put_ne b _ (by decide)]; exact f2.two
theorem F7.box2 {n:Nat} (f:F7 w8 len rv kd y t1 l b w) (h17:l.getD 17 false=false) (hn:24 < n) (hb:n=b.tmps.size) :
  F7 w8 len rv kd y t1 (l.setIfInBounds 15 true) (b.put (some 24) (.pointer (some ⟨w.heap.size,0,none⟩))) (w.alloc (.cells zL 89)):=by
 have f2:=f.ext' ((Ext.refl w).alloc (.cells zL 89))
 refine ⟨f2.x,?_,?_,?_,by simpa using f.sz⟩
 ·rw [getD_set_ne false (by decide),put_ne b _ (by decide)]; exact f2.res
 ·rw [getD_set_ne false (by decide),getD_set_ne false (by decide),put_ne b _ (by decide)]; exact f2.one
 ·intro _
  rw [getD_set_ne false (by decide),h17]
  exact ⟨_,zL,put_get b _ hn hb,f.x.size,Blk.new _ _ _,rfl,fun e=>(by cases e)⟩
theorem F7.there1 {g:Nat} (f:F7 w8 len rv kd y t1 l b w) (h14:l.getD 14 false=true) (hg:b.tmps[23]?=some (.pointer (some ⟨g,0,none⟩))):w.there g 0 (itA rv).size:=by
 obtain ⟨g',a1,_,a3⟩:=f.one h14
 rw [hg] at a1
 cases a1
 refine blk_there a3 ?_
 split <;> rfl
theorem F7.there2 {g:Nat} {v9:Value} {h9:Int} (f:F7 w8 len rv kd y t1 l b w) (h15:l.getD 15 false=true) (hg:b.tmps[24]?=some (.pointer (some ⟨g,0,none⟩))):w.there g 0 (logA kd y t1 v9 h9).size:=by
 obtain ⟨g',X,a1,_,a3,a4,_⟩:=f.two h15
 rw [hg] at a1
 cases a1
 exact blk_there a3 a4.symm
theorem F7.put1 {g:Nat} (f:F7 w8 len rv kd y t1 l b w) (h14:l.getD 14 false=true) (hg:b.tmps[23]?=some (.pointer (some ⟨g,0,none⟩))):F7 w8 len rv kd y t1 (l.setIfInBounds 16 true) b (w.setCells g 0 (itA rv).toList):=by
 obtain ⟨g',a1,a2,a3⟩:=f.one h14
 rw [hg] at a1
 cases a1
 refine ⟨f.x.setCells a2 _ _,?_,?_,?_,by simpa using f.sz⟩
 ·rw [getD_set_ne false (by decide)]
  intro e
  obtain ⟨v9,h9,L,b1,b2,gc,cap,hv,hr⟩:=f.res e
  obtain ⟨cur,hcb⟩:=hr.blk
  exact ⟨v9,h9,L,b1,b2,gc,cap,hv,hr.cells_far (blk_ty hcb a3 (by decide)) _ _⟩
 ·intro _
  rw [getD_set_eq (by rw [f.sz]; decide),if_pos rfl]
  have h9:=Blk.over a3 (itA rv).toList (by split <;> rfl)
  rw [Array.toArray_toList] at h9
  exact ⟨g,hg,a2,h9⟩
 ·rw [getD_set_ne false (by decide),getD_set_ne false (by decide)]
  intro e
  obtain ⟨g2,X,b1,b2,b3,b4⟩:=f.two e
  exact ⟨g2,X,b1,b2,b3.setCells_far (blk_ty b3 a3 (by decide)) _ _,b4⟩
theorem F7.put2 {g:Nat} {v9:Value} {h9:Int} (f:F7 w8 len rv kd y t1 l b w) (h15:l.getD 15 false=true) (hg:b.tmps[24]?=some (.pointer (some ⟨g,0,none⟩))) (hr9:b.tmps[315]?=some (.tuple #[.agg (itA rv),.agg (logA kd y t1 v9 h9)])):F7 w8 len rv kd y t1 (l.setIfInBounds 17 true) b (w.setCells g 0 (logA kd y t1 v9 h9).toList):=by
 obtain ⟨g',X,a1,a2,a3,a4,_⟩:=f.two h15
 rw [hg] at a1
 cases a1
 refine ⟨f.x.setCells a2 _ _,?_,?_,?_,by simpa using f.sz⟩
 ·rw [getD_set_ne false (by decide)]
  intro e
  obtain ⟨v9,h9,L,b1,b2,gc,cap,hv,hr⟩:=f.res e
  obtain ⟨cur,hcb⟩:=hr.blk
  exact ⟨v9,h9,L,b1,b2,gc,cap,hv,hr.cells_far (blk_ty hcb a3 (by decide)) _ _⟩
 ·rw [getD_set_ne false (by decide),getD_set_ne false (by decide)]
  intro e
  obtain ⟨g2,b1,b2,b3⟩:=f.one e
  exact ⟨g2,b1,b2,b3.setCells_far (blk_ty b3 a3 (by decide)) _ _⟩
 ·intro _
  have h8:=Blk.over a3 (logA kd y t1 v9 h9).toList (by rw [a4]; rfl)
  rw [Array.toArray_toList] at h8
  exact ⟨g,_,hg,a2,h8,rfl,fun _=>⟨v9,h9,hr9,rfl⟩⟩
theorem F7.out {g g':Nat} {v9:Value} {h9:Int} (f:F7 w8 len rv kd y t1 l b w) (h10:l.getD 10 false=true) (h14:l.getD 14 false=true) (h15:l.getD 15 false=true) (h16:l.getD 16 false=true) (h17:l.getD 17 false=true)
  (hg:b.tmps[23]?=some (.pointer (some ⟨g,0,none⟩))) (hg':b.tmps[24]?=some (.pointer (some ⟨g',0,none⟩))) (hr9:b.tmps[315]?=some (.tuple #[.agg (itA rv),.agg (logA kd y t1 v9 h9)])) :
  Ext w8 w∧w8.heap.size ≤ g∧w8.heap.size ≤ g'∧Blk w g 86 (itA rv)∧Blk w g' 89 (logA kd y t1 v9 h9)∧∃ L:List Int,L.length=len∧CallsAt w v9 L:=by
 obtain ⟨q,a1,a2,a3⟩:=f.one h14
 rw [hg] at a1
 cases a1
 obtain ⟨q',X,b1,b2,b3,b4,b5⟩:=f.two h15
 rw [hg'] at b1
 cases b1
 obtain ⟨v8,h8,c1,rfl⟩:=b5 h17
 rw [hr9] at c1
 obtain ⟨v7,h7,L,d1,d2,d3⟩:=f.res h10
 rw [hr9] at d1
 rw [h16,if_pos rfl] at a3
 have e1:logA kd y t1 v9 h9=logA kd y t1 v8 h8:=by
  have h:=Option.some.inj c1
  injection h with h
  have h2:=congrArg (fun a:Array Value=>a[1]?) h
  simp at h2
  exact h2
 have e2:v9=v7:=by
  have h:=Option.some.inj d1
  injection h with h
  have h2:=congrArg (fun a:Array Value=>a[1]?) h
  simp [logA] at h2
  exact h2.1
 rw [← e1] at b3
 subst e2
 exact ⟨f.x,a2,b2,a3,b3,L,d2,d3⟩
end
theorem own_cases {w:World} {base:Nat} {v:Value} {K:List Val} (h:w.ownsRow base 86 3 v K.length (recCells 3 itC K)):(v=.slice none 0 0∧K=[]) ∨ ∃ g cap,v=.slice (some ⟨g,0,none⟩) K.length cap∧K.length ≤ cap∧base ≤ g∧RecRow w g 86 3 itC K:=by
 rcases Nat.eq_zero_or_pos K.length with h0 | h0
 ·have hk:=List.eq_nil_of_length_eq_zero h0
  rcases h.2 with ⟨e,_⟩ | ⟨g',cap',cur,e,hb,hg,hn,_⟩
  ·exact .inl ⟨e,hk⟩
  ·refine .inr ⟨g',cap',e,hn,hb,cur,hg,by rw [h0]; omega,fun k j hk2=>by omega⟩
 ·exact .inr (own_form h h0)
end Go.Proofs.YtcoookehfhhhdaaGreatDoor.c
