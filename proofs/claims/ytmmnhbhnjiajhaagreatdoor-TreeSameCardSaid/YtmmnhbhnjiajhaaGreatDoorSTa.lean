/- What stands behind a primary. An expression with a sign before it. A case's number. -/
import Derived.Test.YtmmnhbhnjiajhaaGreatDoorSTq
import Derived.Deep.LoopGhost
import Derived.Test.YtmmnhbhnjiajhaaGreatDoorSTw
import Derived.Deep.CutRange
namespace Go.Proofs.YtmmnhbhnjiajhaaGreatDoor.c
open Go.RowKit
set_option linter.unusedVariables false
set_option maxRecDepth 100000
set_option maxHeartbeats 3200000
set_option linter.unusedSimpArgs false
structure PoSt (C:Cx) (w:World) (lo z b:Nat) (y:Nd) (cy:Array Value) (wr:World):Prop where
 mv:Mv C w b wr
 box:Blk wr z 36 cy
 res:Blk wr (z + 1) 36 zEx
 nv:Nv (vp (fun i=>lo ≤ i∧i ≠ z∧i ≠ z + 1) wr) 0 y cy
section
variable {C:Cx} {w wr w2:World} {lo z b c:Nat} {y:Nd} {cy:Array Value}
theorem PoSt.to (h:PoSt C w lo z b y cy wr) (k:Mv C wr c w2) (hz:C.m < z) (hm:C.m < lo):PoSt C w lo z c y cy w2 :=
 ⟨h.mv.trans k,h.box.px k.px (by omega),h.res.px k.px (by omega),h.nv.px k.px fun i ⟨h1,h2⟩ _=>⟨by omega,h1,h2⟩⟩
theorem PoSt.put (h:PoSt C w lo z b y cy w2) (hm:C.m < z) (hz:w.heap.size ≤ z) (hl:lo ≤ z) :
  PoSt C w lo z b (exN 30 y) (exC 30 (.slice (some ⟨w2.heap.size,0,none⟩) 1 1)) ((w2.alloc (.cells cy 36)).setRow z (exC 30 (.slice (some ⟨w2.heap.size,0,none⟩) 1 1))):=by
 have hb:=h.res.lt
 have x1:Ext w2 (w2.alloc (.cells cy 36)):=(Ext.refl _).alloc _
 have x2:=Mv.mk (h.mv.ps.to x1) (h.mv.px.ext x1)
 refine ⟨⟨⟨?_,x2.ps.le,?_⟩,x2.px.row hz _⟩,((h.box.alloc _).row _),?_,nv_ex ((Nv.sl (h.nv.ext x1 fun i hi _=>hi) (Blk.new _ _ _) ⟨by omega,by omega,by omega⟩).row _ fun i hi _=>⟨hi.2.1,hi⟩)⟩
 ·exact x2.ps.ext.setRow (by have:=C.hm; omega) _
 ·exact (setRow_other _ _ _ _ (by omega)).trans x2.ps.blk
 ·exact (setRow_other _ _ _ _ (by omega)).trans (h.res.alloc _)
end
theorem post_any {C:Cx} {a lo:Nat} {w:World} {x:Nd} {cs:Array Value} (h:PS C a w) (hx:Nv (vp (lo ≤ ·) w) 0 x cs) (hlo:C.m < lo) (hl:lo ≤ w.heap.size):Calls Tryz.prog 239 #[Pp C,.agg cs] w fun e w' =>
  ∃ y b cy,gram C.L (.post x) a=some (.ok y b)∧e=.returned (.agg cy)∧Nv (vp (lo ≤ ·) w') 0 y cy∧Mv C w b w':=by
 have HZ:Hid ((Tryz.prog.info? 36).map (·.size)=some 10):=by unfold Hid; kernel_rfl
 have hlt:=h.lt
 have xx:Ext w ((w.alloc (.cells cs 36)).alloc (.cells zEx 36)):=exA
 have P0:Hid (PoSt C w lo w.heap.size a x cs ((w.alloc (.cells cs 36)).alloc (.cells zEx 36))) :=
  ⟨h.mv xx,(Blk.new w _ cs).alloc _,by rw [← size_alloc w (.cells cs 36)]; exact Blk.new _ _ _,hx.ext xx fun i hi hj=>⟨hi,by omega,by omega⟩⟩
 clear h hx xx
 go_enter Tryz.func239,Tryz.ntmps239
 go_wp2_with fail
 go_loopg [] (C.L.length + 1 - a) (fun n wr=>∃ y b cy,gram C.L (.post y) b=gram C.L (.post x) a∧C.L.length + 1 - b ≤ n∧PoSt C w lo w.heap.size b y cy wr)
 case atStart=>exact ⟨x,a,cs,rfl,Nat.le_refl _,P0.out⟩
 case round =>
  clear P0
  obtain ⟨y,b,cy,hg,hn,hp⟩:=hrel
  have HG:=Lib.hid hg
  have P1:=Lib.hid hp
  have hle:=hp.mv.ps.le
  have hs:cy.size=10:=hp.nv.size
  have hzz:=hp.res.lt
  clear hg hp
  go_wp2_with (first
   | (go_at_call 113; refine (next_any P1.out.mv.ps ⟨#[46,63]⟩ (by decide)).mono ?_; rintro r w2 (⟨hx,rfl,h1⟩ | ⟨hx,rfl,h1⟩) <;> have P2:=Lib.hid (P1.out.to h1 hlt hlo))
   | ((with_reducible show wpList _ _ _ (Oper.mk (some 7) (.load 36 (.tmp 3)) _ _ _ _ :: _) _ _); refine wpList_ldb rfl _ _ rfl _ _ cy rfl P2.out.box _ Tryz.underlying36 rfl (by rw [hs]; exact HZ.out) ?_)
   | ((with_reducible show wpList _ _ _ (Oper.mk (some 10) (.load 36 (.tmp 3)) _ _ _ _ :: _) _ _); refine wpList_ldb rfl _ _ rfl _ _ cy rfl P2.out.box _ Tryz.underlying36 rfl (by rw [hs]; exact HZ.out) ?_)
   | ((with_reducible show wpList _ _ _ (Oper.mk (some 8) (.buildSlice _ _ _) _ _ _ _ :: _) _ _); refine wpList_bsE rfl _ rfl cy rfl hs ?_)
   | ((with_reducible show wpList _ _ _ (Oper.mk (some 9) (.build _ _) _ _ _ _ :: _) _ _); refine wpList_bld rfl _ _ rfl [(0,.int .i64 30),(4,.slice (some ⟨w2.heap.size,0,none⟩) 1 1)] rfl (built_ex 30 _ _ _) ?_)
   | ((with_reducible show wpList _ _ _ (Oper.mk none (.store 36 (.tmp 3) _) _ _ _ _ :: _) _ _); refine wpList_store_row rfl _ _ _ rfl _ rfl _ cy _ (P2.out.box.alloc _) rfl (by rw [hs]; rfl) (exC_one _ _ _ _) HZ.out ?_)
   | ((with_reducible show wpList _ _ _ (Oper.mk none (.store 36 (.tmp 4) _) _ _ _ _ :: _) _ _); refine wpList_store_row rfl _ _ _ rfl _ rfl _ zEx _ P2.out.res rfl hs P2.out.nv.one (by rw [hs]; exact HZ.out) ?_))
  ·have hb:b < C.L.length:=lt_tx hx (by decide)
   have e1:gram C.L (.post y) b=gram C.L (.post (exN 30 y)) (b + 1):=by rw [gram_eq]; simp only [stepG,if_pos hx]
   go_roundg (gk - 1)
   case measure=>omega
   case rel=>exact ⟨_,b + 1,_,e1.symm.trans HG.out,by omega,P2.out.put hlt (Nat.le_refl _) hl⟩
  ·have e1:gram C.L (.post y) b=some (.ok y b):=by rw [gram_eq]; simp only [stepG,if_neg hx]
   have hm:=C.hm
   refine bodyPost_ret (results_cell_row rfl _ _ (w.heap.size + 1) _ cy (0,0) _ rfl (P2.out.res.row _) Tryz.underlying36 rfl (by rw [hs]; exact HZ.out)) rfl ?_
   exact ⟨y,b,cy,HG.out.symm.trans e1,rfl,P2.out.nv.row _ fun i hi _=>⟨hi.2.2,hi.1⟩,⟨P2.out.mv.ps.ext.setRow (by omega) _,P2.out.mv.ps.le,(setRow_other _ _ _ _ (by omega)).trans P2.out.mv.ps.blk⟩,P2.out.mv.px.row (by omega) _⟩
structure Rx (C:Cx) (w:World) (t:TypeId) (zv:Array Value) (b:Nat) (wr:World):Prop where
 mv:Mv C w b wr
 res:Blk wr w.heap.size t zv
section
variable {C:Cx} {w wr w2:World} {b c:Nat} {t:TypeId} {zv:Array Value}
theorem Rx.init (h:PS C b w) (t:TypeId) (zv:Array Value):Rx C w t zv b (w.alloc (.cells zv t)):=⟨h.mv ((Ext.refl w).alloc _),Blk.new _ _ _⟩
theorem Rx.to (h:Rx C w t zv b wr) (k:Mv C wr c w2) (hm:C.m < w.heap.size):Rx C w t zv c w2:=⟨h.mv.trans k,h.res.px k.px (by omega)⟩
theorem Rx.ext (h:Rx C w t zv b wr) (x:Ext wr w2):Rx C w t zv b w2:=⟨h.mv.to x,h.res.ext x⟩
theorem Rx.lt (h:Rx C w t zv b wr):w.heap.size < wr.heap.size:=h.res.lt
theorem Rx.ps (h:Rx C w t zv b wr):PS C b wr:=h.mv.ps
theorem Rx.un {op:Int} {x:Nd} {cs:Array Value} {p:Nat → Prop} {r:Option Rs} (R:Rx C w t zv b w2) (hm:C.m < w.heap.size) (hn:Nv (vp p w2) 0 x cs) (hp:∀ i,p i → w.heap.size < i) (hr:Hid (r=some (.ok (exN op x) b))) :
  Out C w 0 r (.returned (.agg (exC op (.slice (some ⟨w2.heap.size,0,none⟩) 1 1)))) ((w2.alloc (.cells cs 36)).setRow w.heap.size (exC op (.slice (some ⟨w2.heap.size,0,none⟩) 1 1))) :=
 fin_row (R.mv.to ((Ext.refl w2).alloc _)) (Nat.le_refl _) hm (nv_ex (Nv.sl (p:=(w.heap.size < ·)) (hn.ext ((Ext.refl w2).alloc _) fun i hi _=>hp i hi) (Blk.new _ _ _) R.lt)) (fun i hi _=>⟨by omega,by omega⟩) hr.out
end
theorem wrap1 {C:Cx} {a:Nat} (h:a < C.L.length):IntKind.i64.wrap ((a:Int) + 1)=(a:Int) + 1:=IntWalk.i64_in _ (by have:=C.len; omega)
theorem lit_post {o:Option Nd} {a b c:Nat} {r:Option Rs} {x y:Nd} {F:Nd → Nat → Option Rs} (e:r=thnO o a fun x=>F x (a + 1)) (h:(thnO o a fun x=>some (.ok x (a + 1)))=some (.ok x b)) (k:F x b=some (.ok y c)):r=some (.ok y c):=by
 cases o
 ·cases h
 ·cases h; exact e.trans k
theorem lit_bad {o:Option Nd} {a b:Nat} {r:Option Rs} {F:Nd → Nat → Option Rs} (e:r=thnO o a fun x=>F x (a + 1)) (h:(thnO o a fun x=>some (.ok x (a + 1)))=some (.bad b)):r=some (.bad b):=by
 cases o
 ·cases h; exact e
 ·cases h
theorem unary_any {C:Cx} {a:Nat} {w:World} (h:PS C a w) (HU0:∀ w1,PS C (a + 1) w1 → Calls Tryz.prog 215 #[Pp C] w1 (Out C w1 0 (gram C.L .un (a + 1))))
  (HP0:∀ w1,PS C a w1 → Calls Tryz.prog 241 #[Pp C] w1 (Out C w1 0 (gram C.L .prim a))):Calls Tryz.prog 215 #[Pp C] w (Out C w 0 (gram C.L .un a)):=by
 have HZ:Hid ((Tryz.prog.info? 36).map (·.size)=some 10):=by unfold Hid; kernel_rfl
 have hlt:=h.lt
 have R0:Hid (Rx C w 36 zEx a (w.alloc (.cells zEx 36))):=Rx.init h _ _
 have HU:=Lib.hid HU0
 have HP:=Lib.hid HP0
 have e1:Hid (gram C.L .un a=unrS C.L (gram C.L) a):=gram_eq _ _ _
 clear h HU0 HP0
 by_cases hx:tx C.L a=⟨#[45]⟩
 ·have hab:a < C.L.length:=lt_tx hx (by decide)
  have hww:=wrap1 hab
  by_cases hk:kd_ C.L (a + 1)=1
  ·have hkb:(kd_ C.L (a + 1) == 1)=true:=by simpa using hk
   have e2:Hid (gram C.L .un a=thnO (litS (tx C.L (a + 1)) true) (a + 1) fun x=>gram C.L (.post x) (a + 2)):=by unfold Hid; rw [e1.out]; unfold unrS; rw [if_pos ⟨hx,hk⟩]
   have HL:=Lib.hid fun w1 (k:PS C (a + 1) w1)=>literal_any k true hk
   clear HU HP e1
   go_enter Tryz.func215,Tryz.ntmps215
   go_wp2_with (first
    | (go_at_call 119; refine (peek_any R0.out.ps).mono ?_; rw [hx]; rintro r w1 ⟨rfl,x1⟩; have R1:=Lib.hid (R0.out.ext x1); obtain ⟨hm1,c0,c1,hf1⟩:=R1.out.ps.facts; have R2:=Lib.hid (R1.out.to (R1.out.ps.step hab) hlt))
    | (go_at_call 168; refine (kind_any R2.out.ps).mono ?_; rintro r w2 ⟨rfl,x2⟩; have R3:=Lib.hid (R2.out.ext x2))
    | (go_at_call 240; refine (HL.out _ R3.out.ps).mono ?_; rintro r w4 (⟨x,b,cs,hg,rfl,hnv,hmv⟩ | ⟨b,hg,rfl,hmv⟩) <;> (have R4:=Lib.hid (R3.out.to hmv hlt)) <;> (have hz:=R3.out.lt))
    | (go_at_call 239; refine (post_any R4.out.ps hnv (lo:=w2.heap.size) (by omega) hmv.px.size).mono ?_; rintro r w5 ⟨y,c,cy,hg2,rfl,hnv2,hmv2⟩; have R5:=Lib.hid (R4.out.to hmv2 hlt))
    | ((with_reducible show wpList _ _ _ (Oper.mk none (.store 36 (.tmp 2) _) _ _ _ _ :: _) _ _); refine wpList_store_row rfl _ _ _ rfl _ rfl _ zEx _ R5.out.res rfl hnv2.size hnv2.one (by rw [show cy.size=10 from hnv2.size]; exact HZ.out) ?_))
   ·refine bodyPost_ret (results_cell_row rfl _ _ w.heap.size _ cy (0,0) _ rfl (R5.out.res.row _) Tryz.underlying36 rfl (by rw [show cy.size=10 from hnv2.size]; exact HZ.out)) rfl ?_
    exact fin_row R5.out.mv (Nat.le_refl _) hlt hnv2 (fun i hi _=>⟨by omega,by omega⟩) (lit_post (F:=fun x b=>gram C.L (.post x) b) e2.out hg.out hg2)
   ·exact And.intro rfl (fin_bad R4.out.mv (lit_bad (F:=fun x b=>gram C.L (.post x) b) e2.out hg.out))
  ·have hkb:(kd_ C.L (a + 1) == 1)=false:=by simpa using hk
   have e2:Hid (gram C.L .un a=thn (gram C.L .un (a + 1)) fun x b=>some (.ok (exN 3 x) b)):=by unfold Hid; rw [e1.out]; unfold unrS; rw [if_neg (fun q=>hk q.2),if_pos hx]
   clear HP e1
   go_enter Tryz.func215,Tryz.ntmps215
   go_wp2_with (first
    | (go_at_call 119; refine (peek_any R0.out.ps).mono ?_; rw [hx]; rintro r w1 ⟨rfl,x1⟩; have R1:=Lib.hid (R0.out.ext x1); obtain ⟨hm1,c0,c1,hf1⟩:=R1.out.ps.facts; have R2:=Lib.hid (R1.out.to (R1.out.ps.step hab) hlt))
    | (go_at_call 168; refine (kind_any R2.out.ps).mono ?_; rintro r w2 ⟨rfl,x2⟩; have R3:=Lib.hid (R2.out.ext x2))
    | (go_at_call 215; refine (HU.out _ R3.out.ps).mono ?_; rintro r w4 (⟨x,b,cs,hg,rfl,hnv,hmv⟩ | ⟨b,hg,rfl,hmv⟩) <;> (have R4:=Lib.hid (R3.out.to hmv hlt)) <;> (have hz:=R3.out.lt))
    | ((with_reducible show wpList _ _ _ (Oper.mk (some 29) (.buildSlice _ _ _) _ _ _ _ :: _) _ _); refine wpList_bsE rfl _ rfl cs rfl hnv.size ?_)
    | ((with_reducible show wpList _ _ _ (Oper.mk (some 30) (.build _ _) _ _ _ _ :: _) _ _); refine wpList_bld rfl _ _ rfl [(0,.int .i64 3),(4,.slice (some ⟨w4.heap.size,0,none⟩) 1 1)] (by simp only [List.map_toArray,List.map_cons,List.map_nil]; rfl) (built_ex 3 _ _ _) ?_)
    | ((with_reducible show wpList _ _ _ (Oper.mk none (.store 36 (.tmp 2) _) _ _ _ _ :: _) _ _); refine wpList_store_row rfl _ _ _ rfl _ rfl _ zEx _ (R4.out.res.alloc _) rfl rfl (exC_one _ _ _ _) HZ.out ?_))
   ·refine bodyPost_ret (results_cell_row rfl _ _ w.heap.size _ (exC 3 (.slice (some ⟨w4.heap.size,0,none⟩) 1 1)) (0,0) _ rfl ((R4.out.res.alloc _).row _) Tryz.underlying36 rfl HZ.out) rfl ?_
    exact R4.out.un hlt hnv (fun i hi=>by omega) (by unfold Hid; rw [e2.out,hg.out]; rfl)
   ·exact And.intro rfl (fin_bad R4.out.mv (by rw [e2.out,hg.out]; rfl))
 have n1:=bs_nl [45] hx
 have n1':¬ (tx C.L a=⟨#[45]⟩∧kd_ C.L (a + 1)=1):=fun q=>hx q.1
 rename ¬ tx C.L a=⟨#[45]⟩=>m1
 by_cases hx:tx C.L a=⟨#[33]⟩
 ·have hab:a < C.L.length:=lt_tx hx (by decide)
  have hww:=wrap1 hab
  have e2:Hid (gram C.L .un a=thn (gram C.L .un (a + 1)) fun x b=>some (.ok (exN 4 x) b)):=by unfold Hid; rw [e1.out]; unfold unrS; rw [if_neg n1',if_neg m1,if_pos hx]
  clear HP e1 n1
  go_enter Tryz.func215,Tryz.ntmps215
  go_wp2_with (first
   | (go_at_call 119; refine (peek_any R0.out.ps).mono ?_; rw [hx]; rintro r w1 ⟨rfl,x1⟩; have R1:=Lib.hid (R0.out.ext x1); obtain ⟨hm1,c0,c1,hf1⟩:=R1.out.ps.facts; have R2:=Lib.hid (R1.out.to (R1.out.ps.step hab) hlt))
   | (go_at_call 215; refine (HU.out _ R2.out.ps).mono ?_; rintro r w4 (⟨x,b,cs,hg,rfl,hnv,hmv⟩ | ⟨b,hg,rfl,hmv⟩) <;> (have R4:=Lib.hid (R2.out.to hmv hlt)) <;> (have hz:=R2.out.lt))
   | ((with_reducible show wpList _ _ _ (Oper.mk (some 44) (.buildSlice _ _ _) _ _ _ _ :: _) _ _); refine wpList_bsE rfl _ rfl cs rfl hnv.size ?_)
   | ((with_reducible show wpList _ _ _ (Oper.mk (some 45) (.build _ _) _ _ _ _ :: _) _ _); refine wpList_bld rfl _ _ rfl [(0,.int .i64 4),(4,.slice (some ⟨w4.heap.size,0,none⟩) 1 1)] (by simp only [List.map_toArray,List.map_cons,List.map_nil]; rfl) (built_ex 4 _ _ _) ?_)
   | ((with_reducible show wpList _ _ _ (Oper.mk none (.store 36 (.tmp 2) _) _ _ _ _ :: _) _ _); refine wpList_store_row rfl _ _ _ rfl _ rfl _ zEx _ (R4.out.res.alloc _) rfl rfl (exC_one _ _ _ _) HZ.out ?_))
  ·refine bodyPost_ret (results_cell_row rfl _ _ w.heap.size _ (exC 4 (.slice (some ⟨w4.heap.size,0,none⟩) 1 1)) (0,0) _ rfl ((R4.out.res.alloc _).row _) Tryz.underlying36 rfl HZ.out) rfl ?_
   exact R4.out.un hlt hnv (fun i hi=>by omega) (by unfold Hid; rw [e2.out,hg.out]; rfl)
  ·exact And.intro rfl (fin_bad R4.out.mv (by rw [e2.out,hg.out]; rfl))
 have n2:=bs_nl [33] hx
 rename ¬ tx C.L a=⟨#[33]⟩=>m2
 by_cases hx:tx C.L a=⟨#[116,114,121]⟩
 ·have hab:a < C.L.length:=lt_tx hx (by decide)
  have hww:=wrap1 hab
  have e2:Hid (gram C.L .un a=thn (gram C.L .un (a + 1)) fun x b=>some (.ok (exN 32 x) b)):=by unfold Hid; rw [e1.out]; unfold unrS; rw [if_neg n1',if_neg m1,if_neg m2,if_pos hx]
  clear HP e1 n1 n2
  go_enter Tryz.func215,Tryz.ntmps215
  go_wp2_with (first
   | (go_at_call 119; refine (peek_any R0.out.ps).mono ?_; rw [hx]; rintro r w1 ⟨rfl,x1⟩; have R1:=Lib.hid (R0.out.ext x1); obtain ⟨hm1,c0,c1,hf1⟩:=R1.out.ps.facts; have R2:=Lib.hid (R1.out.to (R1.out.ps.step hab) hlt))
   | (go_at_call 215; refine (HU.out _ R2.out.ps).mono ?_; rintro r w4 (⟨x,b,cs,hg,rfl,hnv,hmv⟩ | ⟨b,hg,rfl,hmv⟩) <;> (have R4:=Lib.hid (R2.out.to hmv hlt)) <;> (have hz:=R2.out.lt))
   | ((with_reducible show wpList _ _ _ (Oper.mk (some 59) (.buildSlice _ _ _) _ _ _ _ :: _) _ _); refine wpList_bsE rfl _ rfl cs rfl hnv.size ?_)
   | ((with_reducible show wpList _ _ _ (Oper.mk (some 60) (.build _ _) _ _ _ _ :: _) _ _); refine wpList_bld rfl _ _ rfl [(0,.int .i64 32),(4,.slice (some ⟨w4.heap.size,0,none⟩) 1 1)] (by simp only [List.map_toArray,List.map_cons,List.map_nil]; rfl) (built_ex 32 _ _ _) ?_)
   | ((with_reducible show wpList _ _ _ (Oper.mk none (.store 36 (.tmp 2) _) _ _ _ _ :: _) _ _); refine wpList_store_row rfl _ _ _ rfl _ rfl _ zEx _ (R4.out.res.alloc _) rfl rfl (exC_one _ _ _ _) HZ.out ?_))
  ·refine bodyPost_ret (results_cell_row rfl _ _ w.heap.size _ (exC 32 (.slice (some ⟨w4.heap.size,0,none⟩) 1 1)) (0,0) _ rfl ((R4.out.res.alloc _).row _) Tryz.underlying36 rfl HZ.out) rfl ?_
   exact R4.out.un hlt hnv (fun i hi=>by omega) (by unfold Hid; rw [e2.out,hg.out]; rfl)
  ·exact And.intro rfl (fin_bad R4.out.mv (by rw [e2.out,hg.out]; rfl))
 have n3:=bs_nl [116,114,121] hx
 have e2:Hid (gram C.L .un a=thn (gram C.L .prim a) fun x b=>gram C.L (.post x) b):=by unfold Hid; rw [e1.out]; unfold unrS; rw [if_neg n1',if_neg m1,if_neg m2,if_neg hx]
 clear HU e1
 go_enter Tryz.func215,Tryz.ntmps215
 go_wp2_with (first
  | (go_at_call 119; refine (peek_any R0.out.ps).mono ?_; rintro r w1 ⟨rfl,x1⟩; have R1:=Lib.hid (R0.out.ext x1))
  | (go_at_call 241; refine (HP.out _ R1.out.ps).mono ?_; rintro r w4 (⟨x,b,cs,hg,rfl,hnv,hmv⟩ | ⟨b,hg,rfl,hmv⟩) <;> (have R4:=Lib.hid (R1.out.to hmv hlt)) <;> (have hz:=R1.out.lt))
  | (go_at_call 239; refine (post_any R4.out.ps hnv (lo:=w1.heap.size) (by omega) hmv.px.size).mono ?_; rintro r w5 ⟨y,c,cy,hg2,rfl,hnv2,hmv2⟩; have R5:=Lib.hid (R4.out.to hmv2 hlt))
  | ((with_reducible show wpList _ _ _ (Oper.mk none (.store 36 (.tmp 2) _) _ _ _ _ :: _) _ _); refine wpList_store_row rfl _ _ _ rfl _ rfl _ zEx _ R5.out.res rfl hnv2.size hnv2.one (by rw [show cy.size=10 from hnv2.size]; exact HZ.out) ?_))
 ·refine bodyPost_ret (results_cell_row rfl _ _ w.heap.size _ cy (0,0) _ rfl (R5.out.res.row _) Tryz.underlying36 rfl (by rw [show cy.size=10 from hnv2.size]; exact HZ.out)) rfl ?_
  exact fin_row R5.out.mv (Nat.le_refl _) hlt hnv2 (fun i hi _=>⟨by omega,by omega⟩) (by rw [e2.out,hg.out]; exact hg2)
 ·exact And.intro rfl (fin_bad R4.out.mv (by rw [e2.out,hg.out]; rfl))
theorem dw_head {p:UInt8 → Bool}:∀ (l:List UInt8) (c:UInt8) (r:List UInt8),l.dropWhile p=c :: r → p c=false
 | [],c,r,h=>by cases h
 | x :: l,c,r,h=>by
  rw [List.dropWhile_cons] at h
  split at h
  ·exact dw_head l c r h
  ·rename_i hx; cases h; simpa using hx
theorem dw_nil {p:UInt8 → Bool}:∀ (l:List UInt8),l.dropWhile p=[] ↔ l.all p=true
 | []=>by simp
 | x :: l=>by
  rw [List.dropWhile_cons,List.all_cons]
  split
  ·rename_i hx; rw [dw_nil l,hx]; simp
  ·rename_i hx; simp [hx]
theorem trim_nil (l:List UInt8):Lib.trimS l dgL=[] ↔ l.all isDg=true:=by
 have e:(fun c=>dgL.contains c)=isDg:=funext digs_dg
 unfold Lib.trimS
 rw [trim_eq]
 unfold Lib.trimRightS
 rw [e,dw_nil]
 constructor
 ·intro h
  cases e2:l.reverse.dropWhile isDg with
  | nil =>
   have:=(dw_nil l.reverse).1 e2
   simpa using this
  | cons c r =>
   have h1:=dw_head _ _ _ e2
   rw [e2] at h
   have h2:=List.all_eq_true.1 h c (by simp)
   rw [h1] at h2; cases h2
 ·intro h
  rw [(dw_nil l.reverse).2 (by simpa using h)]
  rfl
def OutN (C:Cx) (w:World) (r:Except Nat (Int × Nat)) (e:Ending) (w':World):Prop :=
 (∃ n b,Hid (r=.ok (n,b))∧e=.returned (.int .i64 n)∧Mv C w b w') ∨ ∃ b,Hid (r=.error b)∧e=.panicked (pan b)∧Mv C w b w'
def cnum2 (L:List Tok) (a1:Nat) (m:Bool) (lo:Int):Except Nat (Int × Nat) :=
 if kd_ L a1=1∧digS (tx L a1).data.toList=true∧(tx L a1).data.toList.all isDg=true∧lo ≤ (if m then -(decS (tx L a1).data.toList:Int) else decS (tx L a1).data.toList)∧(if m then -(decS (tx L a1).data.toList:Int) else decS (tx L a1).data.toList) ≤ 2147483648
 then .ok ((if m then -(decS (tx L a1).data.toList:Int) else decS (tx L a1).data.toList),a1 + 1) else .error a1
theorem cnumS_eq {L:List Tok} {a a1:Nat} {m:Bool} {lo:Int} (h1:m=decide (tx L a=⟨#[45]⟩)) (h2:a1=if m=true then a + 1 else a):cnumS L a lo=cnum2 L a1 m lo:=by
 subst h1; subst h2
 rfl
theorem number_any {C:Cx} {a:Nat} {w:World} (h:PS C a w) (lo:Int):Calls Tryz.prog 243 #[Pp C,.int .i64 lo] w (OutN C w (cnumS C.L a lo)):=by
 have hlt:=h.lt
 have HP:=Lib.hid h
 clear h
 go_enter Tryz.func243,Tryz.ntmps243
 go_upto_region 1 with fail
 go_cut [5] from 8 to 9 (fun c wx=>∃ m a1,Hid (m=decide (tx C.L a=⟨#[45]⟩))∧Hid (a1=if m=true then a + 1 else a)∧c=.bool m∧Hid (Mv C w a1 wx))
 case first =>
  go_wp2_with (first
   | (go_at_call 113; refine (next_any HP.out ⟨#[45]⟩ (by decide)).mono ?_; rintro r w2 (⟨hx,rfl,h2⟩ | ⟨hx,rfl,h2⟩)))
  ·go_meet
   exact ⟨true,a + 1,by unfold Hid; simp only [hx,decide_true],by unfold Hid; simp only [if_true],rfl,h2⟩
  ·go_meet
   exact ⟨false,a,by unfold Hid; simp only [hx,decide_false],rfl,rfl,h2⟩
 case rest =>
  obtain ⟨m,a1,hE1,hE2,rfl,hM⟩:=hcut
  have HE:Hid (cnumS C.L a lo=cnum2 C.L a1 m lo):=cnumS_eq hE1.out hE2.out
  clear hE1 hE2
  by_cases hk:kd_ C.L a1=1
  ·have hkb:(kd_ C.L a1 != 1)=false:=by simpa using hk
   obtain ⟨hl1,c0,r0,htx,hc0⟩:=lit_text hk
   have hs0:0 < (tx C.L a1).size:=by rw [Lib.size_eq,htx]; simp
   obtain ⟨s,hs⟩:∃ s,tx C.L a1=s:=⟨_,rfl⟩
   have hsz:s.size ≤ 4000:=by rw [← hs]; exact PS.tx_size
   rw [hs] at hs0
   have HTX:=Lib.hid hs
   have E2:Hid (cnum2 C.L a1 m lo=if digS s.data.toList=true∧s.data.toList.all isDg=true∧lo ≤ (if m then -(decS s.data.toList:Int) else decS s.data.toList)∧(if m then -(decS s.data.toList:Int) else decS s.data.toList) ≤ 2147483648
     then .ok ((if m then -(decS s.data.toList:Int) else decS s.data.toList),a1 + 1) else .error a1):=by
    unfold Hid cnum2; rw [hs]; simp only [hk,true_and]
   clear hs htx hc0
   obtain ⟨dg,hdg⟩:∃ dg,digS s.data.toList=dg:=⟨_,rfl⟩
   have HDG:=Lib.hid hdg
   have hdl:Hid (dg=true → s.size ≤ 10):=fun q=>by rw [Lib.size_eq]; exact dg_len (hdg.trans q)
   clear hdg
   obtain ⟨tl,htl⟩:∃ tl:ByteArray,⟨(Lib.trimS s.data.toList [48,49,50,51,52,53,54,55,56,57]).toArray⟩=tl:=⟨_,rfl⟩
   have HTL:=Lib.hid htl
   clear htl
   cases dg
   ·go_wp2_with (first
     | (go_at_call 119; refine (peek_any hM.out.ps).mono ?_; rw [HTX.out]; rintro r w1 ⟨rfl,x1⟩)
     | (go_at_call 168; refine (kind_any (hM.out.ps.to x1)).mono ?_; rw [hk]; rintro r w2 ⟨rfl,x2⟩)
     | (go_at_call 258; refine (isDigits_any s _ hs0).mono ?_; rw [HDG.out]; rintro r w3 ⟨rfl,rfl⟩)
     | (go_at_call 169; refine (fail_any (hM.out.ps.to (x1.trans x2))).mono ?_; rintro r w4 ⟨rfl,rfl⟩))
    exact And.intro rfl (.inr ⟨a1,by unfold Hid; rw [HE.out,E2.out,HDG.out]; simp,rfl,hM.out.to (x1.trans x2)⟩)
   ·by_cases hal:s.data.toList.all isDg=true
    ·have htn:tl=⟨#[]⟩:=by
      rw [← HTL.out]
      exact congrArg (fun l:List UInt8=>(⟨l.toArray⟩:ByteArray)) ((trim_nil _).2 hal)
     have HAL:=Lib.hid hal
     obtain ⟨d,hd⟩:∃ d,decS s.data.toList=d:=⟨_,rfl⟩
     have HD:=Lib.hid hd
     have hd0:d < 10000000000:=by rw [← hd]; exact decS_small hal (by rw [← Lib.size_eq]; exact hdl.out rfl)
     have hs10:=hdl.out rfl
     clear hal hd
     obtain ⟨n,hn⟩:∃ n:Int,(if m then -(d:Int) else d)=n:=⟨_,rfl⟩
     have E3:Hid (cnum2 C.L a1 m lo=if lo ≤ n∧n ≤ 2147483648 then .ok (n,a1 + 1) else .error a1):=by
      unfold Hid; rw [E2.out,HDG.out,HAL.out,HD.out,hn]; simp only [true_and]
     clear E2
     have hww:=wrap1 hl1
     have hneg:IntKind.i64.wrap (-(d:Int))=-(d:Int):=IntWalk.i64_in _ (by omega)
     subst htn
     cases m
     all_goals
      simp only [if_true,if_false,Bool.false_eq_true] at hn
      subst hn
      go_upto_region 8 with (first
       | (go_at_call 119; refine (peek_any hM.out.ps).mono ?_; rw [HTX.out]; rintro r w1 ⟨rfl,x1⟩)
       | (go_at_call 168; refine (kind_any (hM.out.ps.to x1)).mono ?_; rw [hk]; rintro r w2 ⟨rfl,x2⟩)
       | (go_at_call 258; refine (isDigits_any s _ hs0).mono ?_; rw [HDG.out]; rintro r w3 ⟨rfl,rfl⟩)
       | (go_at_call 261; refine (trim_any s _ hsz).mono ?_; rw [HTL.out]; rintro r w3 ⟨rfl,x3⟩)
       | (go_at_call 259; refine (decimal_any s _ HAL.out hs10).mono ?_; rw [HD.out]; rintro r w5 ⟨rfl,x5⟩; have M5:=Lib.hid (hM.out.to (((x1.trans x2).trans x3).trans x5))))
     ·by_cases c1:(d:Int) < lo
      ·go_wp2_with (first
        | (go_at_call 169; refine (fail_any M5.out.ps).mono ?_; rintro r w6 ⟨rfl,rfl⟩))
       exact And.intro rfl (.inr ⟨a1,by unfold Hid; rw [HE.out,E3.out,if_neg (by omega)],rfl,M5.out⟩)
      ·by_cases c2:(2147483648:Int) < (d:Int)
       ·go_wp2_with (first
         | (go_at_call 169; refine (fail_any M5.out.ps).mono ?_; rintro r w6 ⟨rfl,rfl⟩))
        exact And.intro rfl (.inr ⟨a1,by unfold Hid; rw [HE.out,E3.out,if_neg (by omega)],rfl,M5.out⟩)
       ·obtain ⟨hm6,c60,c61,hf6⟩:=M5.out.ps.facts
        have M7:=Lib.hid (M5.out.trans (M5.out.ps.step hl1))
        go_wp2_with fail
        go_ret
        exact .inl ⟨_,a1 + 1,by unfold Hid; rw [HE.out,E3.out,if_pos (by omega)],rfl,M7.out⟩
     ·by_cases c1:-(d:Int) < lo
      ·go_wp2_with (first
        | (go_at_call 169; refine (fail_any M5.out.ps).mono ?_; rintro r w6 ⟨rfl,rfl⟩))
       exact And.intro rfl (.inr ⟨a1,by unfold Hid; rw [HE.out,E3.out,if_neg (by omega)],rfl,M5.out⟩)
      ·have c2:¬ (2147483648:Int) < -(d:Int):=by omega
       obtain ⟨hm6,c60,c61,hf6⟩:=M5.out.ps.facts
       have M7:=Lib.hid (M5.out.trans (M5.out.ps.step hl1))
       go_wp2_with fail
       go_ret
       exact .inl ⟨_,a1 + 1,by unfold Hid; rw [HE.out,E3.out,if_pos (by omega)],rfl,M7.out⟩
    ·have htn:(tl.toList == [])=false:=by
      refine bs_nl [] fun e=>hal ((trim_nil _).1 ?_)
      have e2:=HTL.out.trans e
      have e3:=congrArg (fun b:ByteArray=>b.data.toList) e2
      exact e3
     go_wp2_with (first
      | (go_at_call 119; refine (peek_any hM.out.ps).mono ?_; rw [HTX.out]; rintro r w1 ⟨rfl,x1⟩)
      | (go_at_call 168; refine (kind_any (hM.out.ps.to x1)).mono ?_; rw [hk]; rintro r w2 ⟨rfl,x2⟩)
      | (go_at_call 258; refine (isDigits_any s _ hs0).mono ?_; rw [HDG.out]; rintro r w3 ⟨rfl,rfl⟩)
      | (go_at_call 261; refine (trim_any s _ hsz).mono ?_; rw [HTL.out]; rintro r w3 ⟨rfl,x3⟩; have M5:=Lib.hid (hM.out.to ((x1.trans x2).trans x3)))
      | (go_at_call 169; refine (fail_any M5.out.ps).mono ?_; rintro r w4 ⟨rfl,rfl⟩))
     exact And.intro rfl (.inr ⟨a1,by unfold Hid; rw [HE.out,E2.out,HDG.out]; rw [if_neg (fun q=>hal q.2.1)],rfl,M5.out⟩)
  ·have hkb:(kd_ C.L a1 != 1)=true:=by simpa using hk
   go_wp2_with (first
    | (go_at_call 119; refine (peek_any hM.out.ps).mono ?_; rintro r w1 ⟨rfl,x1⟩)
    | (go_at_call 168; refine (kind_any (hM.out.ps.to x1)).mono ?_; rintro r w2 ⟨rfl,x2⟩)
    | (go_at_call 169; refine (fail_any (hM.out.ps.to (x1.trans x2))).mono ?_; rintro r w4 ⟨rfl,rfl⟩))
   exact And.intro rfl (.inr ⟨a1,by unfold Hid; rw [HE.out]; unfold cnum2; exact if_neg fun h=>hk h.1,rfl,hM.out.to (x1.trans x2)⟩)
end Go.Proofs.YtmmnhbhnjiajhaaGreatDoor.c
