/- An expression; one in parentheses; a statement's expression and semicolon. -/
import Derived.Test.YtmmnhbhnjiajhaaGreatDoorSTa
import Derived.Test.YtmmnhbhnjiajhaaGreatDoorSTb
namespace Go.Proofs.YtmmnhbhnjiajhaaGreatDoor.c
open Go.RowKit
set_option linter.unusedVariables false
set_option maxRecDepth 100000
set_option maxHeartbeats 3200000
set_option linter.unusedSimpArgs false
def EX (C:Cx) (a:Nat):Prop:=∀ w,PS C a w → Calls Tryz.prog 118 #[Pp C] w (Out C w 0 (gram C.L (.lvl 0) a))
def BL (C:Cx) (a:Nat):Prop:=∀ w,PS C a w → Calls Tryz.prog 122 #[Pp C] w (OutL C w 1 (gram C.L .blk a))
theorem fin_emp {C:Cx} {w w2:World} {t:TypeId} {zv:Array Value} {b k:Nat} {x:Nd} {cs:Array Value} {p:Nat → Prop} {r:Option Rs} (R:Rx C w t zv b w2) (hm:C.m < w.heap.size) (hnv:Nv (vp p w2) k x cs) (hp:∀ i,p i → w.heap.size < i) (hr:r=some (.ok x b)):Out C w k r (.returned (.agg cs)) (w2.setRow w.heap.size cs) :=
 fin_row R.mv (Nat.le_refl _) hm hnv (fun i hi _=>⟨by have:=hp i hi; omega,by have:=hp i hi; omega⟩) hr
theorem expr_any {C:Cx} {a:Nat} {w:World} (h:PS C a w) (HB0:∀ w1 A1,PS C a w1 → LvAt w1 A1 0 → Calls Tryz.prog 171 #[Pp C,.slice A1 7 7] w1 (Out C w1 0 (gram C.L (.lvl 0) a))):Calls Tryz.prog 118 #[Pp C] w (Out C w 0 (gram C.L (.lvl 0) a)):=by
 have HZ:Hid ((Tryz.prog.info? 36).map (·.size)=some 10):=by unfold Hid; kernel_rfl
 have hlt:=h.lt
 have R0:Hid (Rx C w 36 zEx a (w.alloc (.cells zEx 36))):=Rx.init h _ _
 have HB:=Lib.hid HB0
 clear h HB0
 go_enter Tryz.func118,Tryz.ntmps118
 go_wp2_with (first
  | (go_at_call 172; refine (levels_any _).mono ?_; rintro r w1 ⟨A1,rfl,hA,x1⟩; have R1:=Lib.hid (R0.out.ext x1))
  | (go_at_call 171; refine (HB.out _ _ R1.out.ps hA).mono ?_; rintro r w4 (⟨x,b,cs,hg,rfl,hnv,hmv⟩ | ⟨b,hg,rfl,hmv⟩) <;> (have R4:=Lib.hid (R1.out.to hmv hlt)) <;> (have hz:=R1.out.lt))
  | ((with_reducible show wpList _ _ _ (Oper.mk none (.store 36 (.tmp 2) _) _ _ _ _ :: _) _ _); refine wpList_store_row rfl _ _ _ rfl _ rfl _ zEx _ R4.out.res rfl hnv.size hnv.one (by rw [show cs.size=10 from hnv.size]; exact HZ.out) ?_))
 ·refine bodyPost_ret (results_cell_row rfl _ _ w.heap.size _ cs (0,0) _ rfl (R4.out.res.row _) Tryz.underlying36 rfl (by rw [show cs.size=10 from hnv.size]; exact HZ.out)) rfl ?_
  exact fin_emp R4.out hlt hnv (fun i hi=>by omega) hg.out
 ·exact And.intro rfl (fin_bad R4.out.mv hg.out)
theorem Blk.setA {w:World} {t:TypeId} {zs cs:Array Value}:Blk ((w.alloc (.cells zs t)).setRow w.heap.size cs) w.heap.size t cs:=(Blk.new w t zs).row cs
theorem save {C:Cx} {w w2:World} {b k:Nat} {p:Nat → Prop} {x:Nd} {cs:Array Value} {t:TypeId} (zs:Array Value) (h:Mv C w b w2) (hm:C.m < w.heap.size) (n:Nv (vp p w2) k x cs) :
  ∃ w3,(w2.alloc (.cells zs t)).setRow w2.heap.size cs=w3∧Mv C w b w3∧Blk w3 w2.heap.size t cs∧w2.heap.size < w3.heap.size∧Nv (vp (fun i=>p i∧i < w2.heap.size) w3) k x cs∧(∀ g ty ds,Blk w2 g ty ds → Blk w3 g ty ds)∧Px C.m w2 w3:=by
 have x1:Ext w2 (w2.alloc (.cells zs t)):=(Ext.refl w2).alloc _
 have hz:w.heap.size ≤ w2.heap.size:=h.px.size
 refine ⟨_,rfl,(h.to x1).row hz hm _,Blk.setA,(Blk.setA (w:=w2) (t:=t) (zs:=zs) (cs:=cs)).lt,(n.ext x1 (q:=fun i=>p i∧i < w2.heap.size) fun i hi hj=>⟨hi,hj⟩).row _ fun i hi _=>⟨by omega,hi⟩,fun g ty ds hb=>(setRow_other _ _ _ _ (by have:=hb.lt; omega)).trans (hb.alloc _),((Px.refl C.m w2).ext x1).row (Nat.le_refl _) _⟩
theorem condition_any {C:Cx} {a:Nat} {w:World} (h:PS C a w) (HE0:EX C (a + 1)):Calls Tryz.prog 219 #[Pp C] w (OutL C w 0 (parS C.L (gram C.L) a fun x b=>some (.ok x b))):=by
 have HZ:Hid ((Tryz.prog.info? 36).map (·.size)=some 10):=by unfold Hid; kernel_rfl
 have hlt:=h.lt
 have HP:=Lib.hid h
 have HE:=Lib.hid HE0
 clear h HE0
 by_cases hx:tx C.L a=⟨#[40]⟩
 ·have e2:Hid (parS C.L (gram C.L) a (fun x b=>some (.ok x b))=thn (gram C.L (.lvl 0) (a + 1)) fun x b=>wnt C.L b ⟨#[41]⟩ (some (.ok x (b + 1)))):=if_pos hx
  go_enter Tryz.func219,Tryz.ntmps219
  go_wp2_with (first
   | (go_at_call 115; (with_reducible show Calls _ _ #[_,.string ⟨#[40]⟩] _ _); refine (want_any HP.out ⟨#[40]⟩ (by decide)).mono ?_; rintro r w1 (⟨_,rfl,h1⟩ | ⟨hq,rfl,h1⟩); rotate_left; exact absurd hx hq)
   | (go_at_call 118; refine (HE.out _ h1.ps).mono ?_; rintro r w2 (⟨x,b,cs,hg,rfl,hnv,hmv⟩ | ⟨b,hg,rfl,hmv⟩) <;> have h2:=Lib.hid (h1.trans hmv))
   | ((with_reducible show wpList _ _ _ (Oper.mk none (.store 36 (.tmp 3) _) _ _ _ _ :: _) _ _); refine wpList_store_row rfl _ _ _ rfl _ rfl _ zEx _ (Blk.new w2 _ zEx) rfl hnv.size hnv.one (by rw [show cs.size=10 from hnv.size]; exact HZ.out) ?_))
  ·obtain ⟨w3,hw3,h3,k3,z3,n3,_,_⟩:=save zEx (t := 36) h2.out hlt hnv
   have hz1:=h1.px.size
   have hz2:=hmv.px.size
   have hms:C.m ≠ w2.heap.size:=by omega
   unfold zEx at hw3
   rw [hw3]
   have K3:=Lib.hid k3
   have N3:=Lib.hid n3
   clear hw3 k3 n3 hnv hmv h2
   go_wp2_with (first
    | (go_at_call 115; refine (want_any h3.ps ⟨#[41]⟩ (by decide)).mono ?_; rintro r w4 (⟨hx4,rfl,h4⟩ | ⟨hx4,rfl,h4⟩) <;> have h5:=Lib.hid (h3.trans h4))
    | ((with_reducible show wpList _ _ _ (Oper.mk (some 10) (.load 36 (.tmp 3)) _ _ _ _ :: _) _ _); refine wpList_ldb rfl _ _ rfl _ _ cs rfl (K3.out.px h4.px hms.symm) _ Tryz.underlying36 rfl (by rw [show cs.size=10 from N3.out.size]; exact HZ.out) ?_)
    | ((with_reducible show wpList _ _ _ (Oper.mk (some 11) (.buildSlice _ _ _) _ _ _ _ :: _) _ _); refine wpList_bsE rfl _ rfl cs rfl N3.out.size ?_))
   ·go_ret
    have xx:=(Ext.refl w4).alloc (.cells cs 36)
    have hz4:=h5.out.px.size
    refine .inl ⟨x,b + 1,_,by unfold Hid; rw [e2.out,hg.out]; exact if_pos hx4,rfl,((N3.out.px h4.px (q:=(w.heap.size ≤ ·)) fun i hi _=>⟨by omega,by omega⟩).ext xx fun i hi _=>hi).sl (Blk.new _ _ _) (by omega),h5.out.to xx⟩
   ·exact And.intro rfl (.inr ⟨b,by unfold Hid; rw [e2.out,hg.out]; exact if_neg hx4,rfl,h5.out⟩)
  ·exact And.intro rfl (.inr ⟨b,by unfold Hid; rw [e2.out,hg.out]; rfl,rfl,h2.out⟩)
 ·go_enter Tryz.func219,Tryz.ntmps219
  go_wp2_with (first
   | (go_at_call 115; refine (want_any HP.out ⟨#[40]⟩ (by decide)).mono ?_; rintro r w1 (⟨hq,rfl,h1⟩ | ⟨hq,rfl,h1⟩); exact absurd hq hx))
  exact And.intro rfl (.inr ⟨a,if_neg hx,rfl,h1⟩)
structure Rb (C:Cx) (w:World) (t:TypeId) (cs zv:Array Value) (b:Nat) (wr:World):Prop where
 mv:Mv C w b wr
 box:Blk wr w.heap.size t cs
 res:Blk wr (w.heap.size + 1) t zv
section
variable {C:Cx} {w wr w2:World} {b c:Nat} {t:TypeId} {cs zv:Array Value}
theorem Rb.init (h:PS C b w) (t:TypeId) (cs zv:Array Value):Rb C w t cs zv b ((w.alloc (.cells cs t)).alloc (.cells zv t)) :=
 ⟨h.mv (((Ext.refl w).alloc _).alloc _),(Blk.new _ _ _).alloc _,by have q:=Blk.new (w.alloc (.cells cs t)) t zv; rw [size_alloc] at q; exact q⟩
theorem Rb.to (h:Rb C w t cs zv b wr) (k:Mv C wr c w2) (hm:C.m < w.heap.size):Rb C w t cs zv c w2:=⟨h.mv.trans k,h.box.px k.px (by omega),h.res.px k.px (by omega)⟩
theorem Rb.ext (h:Rb C w t cs zv b wr) (x:Ext wr w2):Rb C w t cs zv b w2:=⟨h.mv.to x,h.box.ext x,h.res.ext x⟩
theorem Rb.ps (h:Rb C w t cs zv b wr):PS C b wr:=h.mv.ps
theorem Rb.lt (h:Rb C w t cs zv b wr):w.heap.size + 1 < wr.heap.size:=h.res.lt
theorem Rb.set_ (h:Rb C w t cs zv b wr) (hm:C.m < w.heap.size) (i:Nat) (u:Value):Rb C w t (cs.setIfInBounds i u) zv b (wr.setCell ⟨w.heap.size,i,none⟩ u) :=
 ⟨⟨⟨h.mv.ps.ext.setCell (p:=⟨w.heap.size,i,none⟩) (by have:=C.hm; show C.w0.heap.size ≤ w.heap.size; omega) _,h.mv.ps.le,h.mv.ps.blk.far (p:=⟨w.heap.size,i,none⟩) (by show C.m ≠ w.heap.size; omega) _⟩,h.mv.px.set_ (p:=⟨w.heap.size,i,none⟩) (Nat.le_refl _) u⟩,h.box.set_ i u,h.res.far (p:=⟨w.heap.size,i,none⟩) (by show w.heap.size + 1 ≠ w.heap.size; omega) _⟩
theorem Rb.bs {p:Nat → Prop} {x:Nd} {ds:Array Value} (R:Rb C w t cs zv b w2) (hn:Nv (vp p w2) 0 x ds) (hp:∀ i,p i → w.heap.size + 1 < i) :
  Rb C w t cs zv b (w2.alloc (.cells ds 36))∧Sl (vp (w.heap.size + 1 < ·) (w2.alloc (.cells ds 36))) (.slice (some ⟨w2.heap.size,0,none⟩) 1 1) x 0∧∀ i,(w2.alloc (.cells ds 36)).frozen? ⟨w.heap.size,i,none⟩=false :=
 have r:=R.ext ((Ext.refl w2).alloc (.cells ds 36))
 ⟨r,(hn.ext ((Ext.refl w2).alloc (.cells ds 36)) (q:=(w.heap.size + 1 < ·)) fun i hi _=>hp i hi).sl (Blk.new _ _ _) R.lt,r.box.frozen⟩
theorem Rb.fin {p:Nat → Prop} {k:Nat} {x:Nd} {r:Option Rs} (R:Rb C w t cs zv b w2) (hm:C.m < w.heap.size) (hn:Nv (vp p w2) k x cs) (hp:∀ i,p i → w.heap.size + 1 < i ) (hr:r=some (.ok x b)):Out C w k r (.returned (.agg cs)) (w2.setRow (w.heap.size + 1) cs) :=
 fin_row R.mv (by omega) hm hn (fun i hi _=>⟨by have:=hp i hi; omega,by have:=hp i hi; omega⟩) hr
end
def stC (op:Int) (nm:ByteArray) (ty:Ty) (a b c:Value):Array Value:=#[.int .i64 op,.string nm,.int .i64 ty.base,.int .i64 ty.bits,.string ty.name,.bool ty.opt,.bool ty.err,a,b,c]
theorem stC_one {op:Int} {nm:ByteArray} {ty:Ty} {a b c:Value} (ha:a.oneCell'=true) (hb:b.oneCell'=true) (hc:c.oneCell'=true):∀ u ∈ (stC op nm ty a b c).toList,u.oneCell'=true:=by
 simp only [stC,List.mem_cons,List.not_mem_nil,or_false]
 rintro u (rfl | rfl | rfl | rfl | rfl | rfl | rfl | rfl | rfl | rfl) <;> first | rfl | assumption
theorem nv_st {V:Vw} {op:Int} {nm:ByteArray} {ty:Ty} {x y z:Nd} {a b c:Value} (h1:Sl V a x 0) (h2:Sl V b y 2) (h3:Sl V c z 3):Nv V 1 (stN op nm ty x y z) (stC op nm ty a b c) :=
 ⟨⟨rfl,a,b,c,[],rfl,h1,h2,h3,rfl⟩,rfl⟩
def sgn (eq:Bool):ByteArray:=if eq then ⟨#[61]⟩ else ⟨#[]⟩
noncomputable def valE (C:Cx) (a:Nat) (eq:Bool) (f:Nd → Nat → Option Rs):Option Rs:=if eq then wnt C.L a ⟨#[61]⟩ (valS C.L (gram C.L) (a + 1) f) else valS C.L (gram C.L) a f
theorem valued_any {C:Cx} {a:Nat} {w:World} (h:PS C a w) (op:Int) (nm:ByteArray) (ty:Ty) (eq:Bool) (HE0:EX C (if eq then a + 1 else a)) :
  Calls Tryz.prog 217 #[Pp C,.agg (stC op nm ty sl0 sl0 sl0),.string (sgn eq)] w (Out C w 1 (valE C a eq fun x c=>some (.ok (stN op nm ty x .nil .nil) c))):=by
 have HZ:Hid ((Tryz.prog.info? 44).map (·.size)=some 10):=by unfold Hid; kernel_rfl
 have hlt:=h.lt
 have R0:Hid (Rb C w 44 (stC op nm ty sl0 sl0 sl0) zSt a ((w.alloc (.cells (stC op nm ty sl0 sl0 sl0) 44)).alloc (.cells zSt 44))):=Rb.init h _ _ _
 have HE:=Lib.hid HE0
 clear h HE0
 cases eq
 ·have e2:Hid (valE C a false (fun x c=>some (.ok (stN op nm ty x .nil .nil) c))=thn (gram C.L (.lvl 0) a) fun x b=>wnt C.L b ⟨#[59]⟩ (some (.ok (stN op nm ty x .nil .nil) (b + 1)))):=rfl
  replace HE:Hid (EX C a):=HE
  unfold sgn
  go_enter Tryz.func217,Tryz.ntmps217
  go_wp2_with (first
   | (go_at_call 118; refine (HE.out _ R0.out.ps).mono ?_; rintro r w2 (⟨x,b,cs,hg,rfl,hnv,hmv⟩ | ⟨b,hg,rfl,hmv⟩) <;> (have R2:=Lib.hid (R0.out.to hmv hlt)) <;> (have hz:=R0.out.lt))
   | ((with_reducible show wpList _ _ _ (Oper.mk (some 14) (.buildSlice _ _ _) _ _ _ _ :: _) _ _)
      refine wpList_bsE rfl _ rfl cs rfl hnv.size ?_
      obtain ⟨r3,n3,qf⟩:=R2.out.bs hnv (fun i hi=>Nat.lt_of_lt_of_le hz hi)
      have q7:(w2.alloc (.cells cs 36)).cell? ⟨w.heap.size,7,none⟩=some sl0:=r3.box.cell 7
      have R3:=Lib.hid r3
      have N3:=Lib.hid n3
      clear r3 n3))
  ·have R4:=Lib.hid (R3.out.set_ hlt 7 (.slice (some ⟨w2.heap.size,0,none⟩) 1 1))
   have N4:=Lib.hid (N3.out.mono (vp_le (q:=(w.heap.size + 1 < ·)) (w':=(w2.alloc (.cells cs 36)).setCell ⟨w.heap.size,7,none⟩ (.slice (some ⟨w2.heap.size,0,none⟩) 1 1)) fun g hg _=>⟨hg,Below.heap_setCell _ _ _ _ (show g ≠ w.heap.size by omega)⟩))
   obtain ⟨w3,hw3⟩:∃ w3,(w2.alloc (.cells cs 36)).setCell ⟨w.heap.size,7,none⟩ (.slice (some ⟨w2.heap.size,0,none⟩) 1 1)=w3:=⟨_,rfl⟩
   obtain ⟨va,hva,hv1⟩:∃ va:Value,Value.slice (some ⟨w2.heap.size,0,none⟩) 1 1=va∧va.oneCell'=true:=⟨_,rfl,rfl⟩
   rw [hva] at hw3 R4 N4 ⊢
   rw [hw3] at R4 N4 ⊢
   have B4:Hid (Rb C w 44 (stC op nm ty va sl0 sl0) zSt b w3):=R4.out
   clear hw3 hva R3 N3 R4 R2 hmv hnv q7 qf
   have K4:=stC_one (op:=op) (nm:=nm) (ty:=ty) hv1 (rfl:sl0.oneCell'=true) (rfl:sl0.oneCell'=true)
   go_wp2_with (first
    | (go_at_call 115; refine (want_any B4.out.ps ⟨#[59]⟩ (by decide)).mono ?_; rintro r w4 (⟨hx4,rfl,h4⟩ | ⟨hx4,rfl,h4⟩) <;> have R5:=Lib.hid (B4.out.to h4 hlt))
    | ((with_reducible show wpList _ _ _ (Oper.mk (some 18) (.load 44 (.tmp 4)) _ _ _ _ :: _) _ _); refine wpList_ldb rfl _ _ rfl _ _ (stC op nm ty va sl0 sl0) rfl R5.out.box _ Tryz.underlying44 rfl HZ.out ?_)
    | ((with_reducible show wpList _ _ _ (Oper.mk none (.store 44 (.tmp 6) _) _ _ _ _ :: _) _ _); refine wpList_store_row rfl _ _ _ rfl _ rfl _ zSt _ R5.out.res rfl rfl K4 HZ.out ?_))
   ·refine bodyPost_ret (results_cell_row rfl _ _ (w.heap.size + 1) _ (stC op nm ty va sl0 sl0) (0,0) _ rfl (R5.out.res.row _) Tryz.underlying44 rfl HZ.out) rfl ?_
    exact R5.out.fin hlt (nv_st (N4.out.px h4.px fun i hi _=>⟨by omega,hi⟩) (Sl.nil _ none 0 2) (Sl.nil _ none 0 3)) (fun i hi=>hi) (by rw [e2.out,hg.out]; exact if_pos hx4)
   ·exact And.intro rfl (fin_bad R5.out.mv (by rw [e2.out,hg.out]; exact if_neg hx4))
  ·exact And.intro rfl (fin_bad R2.out.mv (by rw [e2.out,hg.out]; rfl))
 ·replace HE:Hid (EX C (a + 1)):=HE
  rw [show sgn true=⟨#[61]⟩ from rfl]
  by_cases hx:tx C.L a=⟨#[61]⟩
  ·have e2:Hid (valE C a true (fun x c=>some (.ok (stN op nm ty x .nil .nil) c))=thn (gram C.L (.lvl 0) (a + 1)) fun x b=>wnt C.L b ⟨#[59]⟩ (some (.ok (stN op nm ty x .nil .nil) (b + 1)))):=if_pos hx
   go_enter Tryz.func217,Tryz.ntmps217
   go_wp2_with (first
    | (go_at_call 115; (with_reducible show Calls _ _ #[_,.string ⟨#[61]⟩] _ _); refine (want_any R0.out.ps ⟨#[61]⟩ (by decide)).mono ?_; rintro r w1 (⟨_,rfl,h1⟩ | ⟨hq,rfl,h1⟩); rotate_left; exact absurd hx hq; have R1:=Lib.hid (R0.out.to h1 hlt))
    | (go_at_call 118; refine (HE.out _ R1.out.ps).mono ?_; rintro r w2 (⟨x,b,cs,hg,rfl,hnv,hmv⟩ | ⟨b,hg,rfl,hmv⟩) <;> (have R2:=Lib.hid (R1.out.to hmv hlt)) <;> (have hz:=R1.out.lt))
    | ((with_reducible show wpList _ _ _ (Oper.mk (some 14) (.buildSlice _ _ _) _ _ _ _ :: _) _ _)
       refine wpList_bsE rfl _ rfl cs rfl hnv.size ?_
       obtain ⟨r3,n3,qf⟩:=R2.out.bs hnv (fun i hi=>Nat.lt_of_lt_of_le hz hi)
       have q7:(w2.alloc (.cells cs 36)).cell? ⟨w.heap.size,7,none⟩=some sl0:=r3.box.cell 7
       have R3:=Lib.hid r3
       have N3:=Lib.hid n3
       clear r3 n3))
   ·have R4:=Lib.hid (R3.out.set_ hlt 7 (.slice (some ⟨w2.heap.size,0,none⟩) 1 1))
    have N4:=Lib.hid (N3.out.mono (vp_le (q:=(w.heap.size + 1 < ·)) (w':=(w2.alloc (.cells cs 36)).setCell ⟨w.heap.size,7,none⟩ (.slice (some ⟨w2.heap.size,0,none⟩) 1 1)) fun g hg _=>⟨hg,Below.heap_setCell _ _ _ _ (show g ≠ w.heap.size by omega)⟩))
    obtain ⟨w3,hw3⟩:∃ w3,(w2.alloc (.cells cs 36)).setCell ⟨w.heap.size,7,none⟩ (.slice (some ⟨w2.heap.size,0,none⟩) 1 1)=w3:=⟨_,rfl⟩
    obtain ⟨va,hva,hv1⟩:∃ va:Value,Value.slice (some ⟨w2.heap.size,0,none⟩) 1 1=va∧va.oneCell'=true:=⟨_,rfl,rfl⟩
    rw [hva] at hw3 R4 N4 ⊢
    rw [hw3] at R4 N4 ⊢
    have B4:Hid (Rb C w 44 (stC op nm ty va sl0 sl0) zSt b w3):=R4.out
    clear hw3 hva R3 N3 R4 R2 hmv hnv q7 qf
    have K4:=stC_one (op:=op) (nm:=nm) (ty:=ty) hv1 (rfl:sl0.oneCell'=true) (rfl:sl0.oneCell'=true)
    go_wp2_with (first
     | (go_at_call 115; refine (want_any B4.out.ps ⟨#[59]⟩ (by decide)).mono ?_; rintro r w4 (⟨hx4,rfl,h4⟩ | ⟨hx4,rfl,h4⟩) <;> have R5:=Lib.hid (B4.out.to h4 hlt))
     | ((with_reducible show wpList _ _ _ (Oper.mk (some 18) (.load 44 (.tmp 4)) _ _ _ _ :: _) _ _); refine wpList_ldb rfl _ _ rfl _ _ (stC op nm ty va sl0 sl0) rfl R5.out.box _ Tryz.underlying44 rfl HZ.out ?_)
     | ((with_reducible show wpList _ _ _ (Oper.mk none (.store 44 (.tmp 6) _) _ _ _ _ :: _) _ _); refine wpList_store_row rfl _ _ _ rfl _ rfl _ zSt _ R5.out.res rfl rfl K4 HZ.out ?_))
    ·refine bodyPost_ret (results_cell_row rfl _ _ (w.heap.size + 1) _ (stC op nm ty va sl0 sl0) (0,0) _ rfl (R5.out.res.row _) Tryz.underlying44 rfl HZ.out) rfl ?_
     exact R5.out.fin hlt (nv_st (N4.out.px h4.px fun i hi _=>⟨by omega,hi⟩) (Sl.nil _ none 0 2) (Sl.nil _ none 0 3)) (fun i hi=>hi) (by rw [e2.out,hg.out]; exact if_pos hx4)
    ·exact And.intro rfl (fin_bad R5.out.mv (by rw [e2.out,hg.out]; exact if_neg hx4))
   ·exact And.intro rfl (fin_bad R2.out.mv (by rw [e2.out,hg.out]; rfl))
  ·go_enter Tryz.func217,Tryz.ntmps217
   go_wp2_with (first
    | (go_at_call 115; refine (want_any R0.out.ps ⟨#[61]⟩ (by decide)).mono ?_; rintro r w1 (⟨hq,rfl,h1⟩ | ⟨hq,rfl,h1⟩); exact absurd hq hx))
   exact And.intro rfl (fin_bad (R0.out.to h1 hlt).mv (if_neg hx))
end Go.Proofs.YtmmnhbhnjiajhaaGreatDoor.c
