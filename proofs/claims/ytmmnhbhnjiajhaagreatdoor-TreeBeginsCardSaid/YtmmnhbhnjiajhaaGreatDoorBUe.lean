/- Which bases may stand where. A variable's statement; a return. -/
import Derived.Test.YtmmnhbhnjiajhaaGreatDoorBTx
import Derived.Test.YtmmnhbhnjiajhaaGreatDoorBUb
import Derived.Test.YtmmnhbhnjiajhaaGreatDoorBUc
namespace Go.Proofs.YtmmnhbhnjiajhaaGreatDoor.c
open Go.RowKit
set_option linter.unusedVariables false
set_option maxRecDepth 100000
set_option maxHeartbeats 3200000
set_option linter.unusedSimpArgs false
def OutY (C:Cx) (w:World) (r:Except Nat (Ty × Nat)) (e:Ending) (w':World):Prop :=
 (∃ t b,Hid (r=.ok (t,b))∧e=.returned (.agg #[.int .i64 t.base,.int .i64 t.bits,.string t.name,.bool t.opt,.bool t.err])∧Mv C w b w') ∨ ∃ b,Hid (r=.error b)∧e=.panicked (pan b)∧Mv C w b w'
theorem base_in {t:Ty} (h:isTypeS t=true):t.base=0 ∨ t.base=1 ∨ t.base=2 ∨ t.base=3 ∨ t.base=4 ∨ t.base=5:=by
 unfold isTypeS at h
 split at h
 ·omega
 ·split at h
  ·omega
  ·split at h
   ·omega
   ·split at h
    ·omega
    ·simp at h; omega
theorem enters_var:Enters 242 := Enters.of Tryz.func242 (by kernel_rfl) (by kernel_rfl)
theorem enters_dc1:Enters 117 := Enters.of Tryz.func117 (by kernel_rfl) (by kernel_rfl)
theorem enters_dc2:Enters 121 := Enters.of Tryz.func121 (by kernel_rfl) (by kernel_rfl)
theorem enters_par:Enters 173 := Enters.of Tryz.func173 (by kernel_rfl) (by kernel_rfl)
theorem enters_cnt:Enters 200 := Enters.of Tryz.func200 (by kernel_rfl) (by kernel_rfl)
theorem enters_whl:Enters 201 := Enters.of Tryz.func201 (by kernel_rfl) (by kernel_rfl)
theorem var_any (t:Ty) (w:World) (h:isTypeS t=true) (g:Laid w):Calls Tryz.prog 242 #[.agg (tyA t)] w fun r w'=>r=.returned (.bool (alS false true false true t.base))∧Ext w w':=by
 have hb:=base_in h
 have HB:=Lib.hid hb
 obtain ⟨ba,hba⟩:∃ ba,t.base=ba:=⟨_,rfl⟩
 unfold tyA
 rw [hba] at hb ⊢
 clear hba h
 rcases hb with rfl | rfl | rfl | rfl | rfl | rfl
 all_goals
  go_enter Tryz.func242,Tryz.ntmps242
  go_wp2_with (fail)
  go_ret
  exact ⟨rfl,exA⟩
theorem dc2_any (t:Ty) (w:World) (h:isTypeS t=true) (g:Laid w):Calls Tryz.prog 121 #[.agg (tyA t)] w fun r w'=>r=.returned (.bool (alS true true false true t.base))∧Ext w w':=by
 have hb:=base_in h
 have HB:=Lib.hid hb
 obtain ⟨ba,hba⟩:∃ ba,t.base=ba:=⟨_,rfl⟩
 unfold tyA
 rw [hba] at hb ⊢
 clear hba h
 rcases hb with rfl | rfl | rfl | rfl | rfl | rfl
 all_goals
  go_enter Tryz.func121,Tryz.ntmps121
  go_wp2_with (fail)
  go_ret
  exact ⟨rfl,exA⟩
theorem tisNumbers_any (b:Int) (w:World):Calls Tryz.prog 94 #[.int .i64 b] w fun r w'=>r=.returned (.bool (b == 2 || b == 3))∧w=w':=by
 by_cases h2:b=2
 ·subst h2
  go_enter Tryz.func94,Tryz.ntmps94
  go_wp2_with fail
  go_ret
  exact ⟨rfl,rfl⟩
 ·have hb:(b == 2)=false:=beq_eq_false_iff_ne.2 h2
  rw [hb]
  go_enter Tryz.func94,Tryz.ntmps94
  go_wp2_with fail
  go_ret
  exact ⟨rfl,rfl⟩
theorem dc1_any (t:Ty) (w:World) (h:isTypeS t=true) (g:Laid w):Calls Tryz.prog 117 #[.agg (tyA t)] w fun r w'=>r=.returned (.bool (alS false true false false t.base))∧Ext w w':=by
 have hb:=base_in h
 have HB:=Lib.hid hb
 obtain ⟨ba,hba⟩:∃ ba,t.base=ba:=⟨_,rfl⟩
 unfold tyA
 rw [hba] at hb ⊢
 clear hba h
 rcases hb with rfl | rfl | rfl | rfl | rfl | rfl
 all_goals
  go_enter Tryz.func117,Tryz.ntmps117
  go_wp2_with (first | (go_at_call 94; refine (tisNumbers_any _ _).mono ?_; rintro r w1 ⟨hr,rfl⟩; (first | (obtain rfl:r=.returned (.bool true):=hr) | (obtain rfl:r=.returned (.bool false):=hr))))
  go_ret
  exact ⟨rfl,exA⟩
theorem cnt_any (t:Ty) (w:World) (h:isTypeS t=true) (ho:t.opt=false) (he:t.err=false) (g:Laid w):Calls Tryz.prog 200 #[.agg (tyA t)] w fun r w'=>r=.returned (.bool (alS false false false true t.base))∧Ext w w':=by
 refine (isCount_any t w g).mono ?_
 rintro r w' ⟨rfl,x⟩
 refine ⟨?_,x⟩
 congr 2
 unfold isCountS isPlainS alS
 rw [h,ho,he]
 rcases base_in h with e | e | e | e | e | e <;> rw [e] <;> rfl
theorem whl_any (t:Ty) (w:World) (h:isTypeS t=true) (ho:t.opt=false) (he:t.err=false) (g:Laid w):Calls Tryz.prog 201 #[.agg (tyA t)] w fun r w'=>r=.returned (.bool (alS false true false true t.base))∧Ext w w':=by
 refine (isWhole_any t w g).mono ?_
 rintro r w' ⟨rfl,x⟩
 refine ⟨?_,x⟩
 congr 2
 unfold isWholeS isPlainS alS
 rw [h,ho,he]
 rcases base_in h with e | e | e | e | e | e <;> rw [e] <;> rfl
theorem typ_var {C:Cx} {a:Nat} {w:World} (h:PS C a w):Calls Tryz.prog 116 #[Pp C,.agg #[.bool true,.bool true,.func (.func 242) #[] #[]]] w (OutY C w (typS C.L a true true false true false true)) :=
 typed_any h true true false true false true _ _ enters_var fun ty w1 h1 h2 h3 _ x=>by
  rw [Array.append_empty]
  exact var_any ty w1 h1 (C.laid.ext x)
theorem typ_dc1 {C:Cx} {a:Nat} {w:World} (h:PS C a w):Calls Tryz.prog 116 #[Pp C,.agg #[.bool false,.bool false,.func (.func 117) #[] #[]]] w (OutY C w (typS C.L a false false false true false false)) :=
 typed_any h false false false true false false _ _ enters_dc1 fun ty w1 h1 h2 h3 _ x=>by
  rw [Array.append_empty]
  exact dc1_any ty w1 h1 (C.laid.ext x)
theorem typ_dc2 {C:Cx} {a:Nat} {w:World} (h:PS C a w):Calls Tryz.prog 116 #[Pp C,.agg #[.bool true,.bool true,.func (.func 121) #[] #[]]] w (OutY C w (typS C.L a true true true true false true)) :=
 typed_any h true true true true false true _ _ enters_dc2 fun ty w1 h1 h2 h3 _ x=>by
  rw [Array.append_empty]
  exact dc2_any ty w1 h1 (C.laid.ext x)
theorem typ_cnt {C:Cx} {a:Nat} {w:World} (h:PS C a w):Calls Tryz.prog 116 #[Pp C,.agg #[.bool false,.bool false,.func (.func 200) #[] #[]]] w (OutY C w (typS C.L a false false false false false true)) :=
 typed_any h false false false false false true _ _ enters_cnt fun ty w1 h1 h2 h3 _ x=>by
  rw [Array.append_empty]
  exact cnt_any ty w1 h1 (h3 rfl) (h2 rfl) (C.laid.ext x)
theorem typ_whl {C:Cx} {a:Nat} {w:World} (h:PS C a w):Calls Tryz.prog 116 #[Pp C,.agg #[.bool false,.bool false,.func (.func 201) #[] #[]]] w (OutY C w (typS C.L a false false false true false true)) :=
 typed_any h false false false true false true _ _ enters_whl fun ty w1 h1 h2 h3 _ x=>by
  rw [Array.append_empty]
  exact whl_any ty w1 h1 (h3 rfl) (h2 rfl) (C.laid.ext x)
structure Rc (C:Cx) (w:World) (t:TypeId) (zv cs:Array Value) (b:Nat) (wr:World):Prop where
 mv:Mv C w b wr
 res:Blk wr w.heap.size t zv
 box:Blk wr (w.heap.size + 1) t cs
section
variable {C:Cx} {w wr w2:World} {b c:Nat} {t:TypeId} {cs zv:Array Value}
theorem Rc.init (h:PS C b w) (t:TypeId) (zv cs:Array Value):Rc C w t zv cs b ((w.alloc (.cells zv t)).alloc (.cells cs t)) :=
 ⟨h.mv (((Ext.refl w).alloc _).alloc _),(Blk.new _ _ _).alloc _,by have q:=Blk.new (w.alloc (.cells zv t)) t cs; rw [size_alloc] at q; exact q⟩
theorem Rc.to (h:Rc C w t zv cs b wr) (k:Mv C wr c w2) (hm:C.m < w.heap.size):Rc C w t zv cs c w2:=⟨h.mv.trans k,h.res.px k.px (by omega),h.box.px k.px (by omega)⟩
theorem Rc.ext (h:Rc C w t zv cs b wr) (x:Ext wr w2):Rc C w t zv cs b w2:=⟨h.mv.to x,h.res.ext x,h.box.ext x⟩
theorem Rc.ps (h:Rc C w t zv cs b wr):PS C b wr:=h.mv.ps
theorem Rc.lt (h:Rc C w t zv cs b wr):w.heap.size + 1 < wr.heap.size:=h.box.lt
theorem Rc.set_ (h:Rc C w t zv cs b wr) (hm:C.m < w.heap.size) (i:Nat) (u:Value):Rc C w t zv (cs.setIfInBounds i u) b (wr.setCell ⟨w.heap.size + 1,i,none⟩ u) :=
 ⟨⟨⟨h.mv.ps.ext.setCell (p:=⟨w.heap.size + 1,i,none⟩) (by have:=C.hm; show C.w0.heap.size ≤ w.heap.size + 1; omega) _,h.mv.ps.le,h.mv.ps.blk.far (p:=⟨w.heap.size + 1,i,none⟩) (by show C.m ≠ w.heap.size + 1; omega) _⟩,h.mv.px.set_ (p:=⟨w.heap.size + 1,i,none⟩) (by show w.heap.size ≤ w.heap.size + 1; omega) u⟩,h.res.far (p:=⟨w.heap.size + 1,i,none⟩) (by show w.heap.size ≠ w.heap.size + 1; omega) _,h.box.set_ i u⟩
theorem Rc.fin {p:Nat → Prop} {k:Nat} {x:Nd} {r:Option Rs} {ds:Array Value} (R:Rc C w t zv cs b w2) (hm:C.m < w.heap.size) (hn:Nv (vp p w2) k x ds) (hp:∀ i,p i → w.heap.size < i ) (hr:r=some (.ok x b)):Out C w k r (.returned (.agg ds)) (w2.setRow w.heap.size ds) :=
 fin_row R.mv (by omega) hm hn (fun i hi _=>⟨by have:=hp i hi; omega,by have:=hp i hi; omega⟩) hr
end
section
variable {C:Cx} {w wr:World} {b:Nat} {t:TypeId} {zv:Array Value} {c0 c1 x2 x3 x4 x5 x6 c7 c8 c9:Value}
theorem Rc.typ (h:Rc C w t zv #[c0,c1,x2,x3,x4,x5,x6,c7,c8,c9] b wr) (hm:C.m < w.heap.size) (ty:Ty) :
  Rc C w t zv #[c0,c1,.int .i64 ty.base,.int .i64 ty.bits,.string ty.name,.bool ty.opt,.bool ty.err,c7,c8,c9] b (((((wr.setCell ⟨w.heap.size + 1,2,none⟩ (.int .i64 ty.base)).setCell ⟨w.heap.size + 1,3,none⟩ (.int .i64 ty.bits)).setCell ⟨w.heap.size + 1,4,none⟩ (.string ty.name)).setCell ⟨w.heap.size + 1,5,none⟩ (.bool ty.opt)).setCell ⟨w.heap.size + 1,6,none⟩ (.bool ty.err)) :=
 ((((h.set_ hm 2 (.int .i64 ty.base)).set_ hm 3 (.int .i64 ty.bits)).set_ hm 4 (.string ty.name)).set_ hm 5 (.bool ty.opt)).set_ hm 6 (.bool ty.err)
theorem Rc.five (h:Rc C w t zv #[c0,c1,x2,x3,x4,x5,x6,c7,c8,c9] b wr):(∀ i,wr.frozen? ⟨w.heap.size + 1,i,none⟩=false)∧wr.cell? ⟨w.heap.size + 1,2,none⟩=some x2∧wr.cell? ⟨w.heap.size + 1,3,none⟩=some x3∧wr.cell? ⟨w.heap.size + 1,4,none⟩=some x4∧wr.cell? ⟨w.heap.size + 1,5,none⟩=some x5∧wr.cell? ⟨w.heap.size + 1,6,none⟩=some x6 :=
 ⟨h.box.frozen,h.box.cell 2,h.box.cell 3,h.box.cell 4,h.box.cell 5,h.box.cell 6⟩
end
theorem stC_sl0 (op:Int) (nm:ByteArray) (ty:Ty):∀ u ∈ (stC op nm ty sl0 sl0 sl0).toList,u.oneCell'=true:=stC_one rfl rfl rfl
theorem variable_any {C:Cx} {a:Nat} {w:World} (h:PS C a w) (op:Int) (hw:(op=0∧tx C.L a=⟨#[118,97,114]⟩) ∨ (op=1∧tx C.L a=⟨#[99,111,110,115,116]⟩)) (HE0:∀ b,a < b → EX C b):Calls Tryz.prog 216 #[Pp C] w (Out C w 1 (varS C.L (gram C.L) (a + 1) op)):=by
 have HZ:Hid ((Tryz.prog.info? 44).map (·.size)=some 10):=by unfold Hid; kernel_rfl
 have hlt:=h.lt
 have R0:Hid (Rc C w 44 zSt (stC 1 ⟨#[]⟩ tZ sl0 sl0 sl0) a ((w.alloc (.cells zSt 44)).alloc (.cells (stC 1 ⟨#[]⟩ tZ sl0 sl0 sl0) 44))):=Rc.init h _ _ _
 have HE:=Lib.hid HE0
 clear h HE0
 go_enter Tryz.func216,Tryz.ntmps216
 go_upto_region 2 with fail
 go_cut [6] from 5 to 6 (fun c wx=>c=.bool (op == 0)∧Hid (Rc C w 44 zSt (stC 1 ⟨#[]⟩ tZ sl0 sl0 sl0) (if op=0 then a + 1 else a) wx))
 case first =>
  rcases hw with ⟨rfl,hx⟩ | ⟨rfl,hx⟩
  ·go_wp2_with (first
    | (go_at_call 113; refine (next_any R0.out.ps ⟨#[118,97,114]⟩ (by decide)).mono ?_; rintro r w1 (⟨_,rfl,h1⟩ | ⟨hq,rfl,h1⟩); rotate_left; exact absurd hx hq; have R1:=Lib.hid (R0.out.to h1 hlt)))
   go_meet
   exact ⟨rfl,R1⟩
  ·go_wp2_with (first
    | (go_at_call 113; refine (next_any R0.out.ps ⟨#[118,97,114]⟩ (by decide)).mono ?_; rintro r w1 (⟨hq,rfl,h1⟩ | ⟨_,rfl,h1⟩); exact absurd (hx.symm.trans hq) (by decide); have R1:=Lib.hid (R0.out.to h1 hlt)))
   go_meet
   exact ⟨rfl,R1⟩
 case rest =>
  obtain ⟨rfl,hR⟩:=hcut
  go_upto_if 6 with fail
  go_cut [] from 7 to 9 (fun wx=>Hid (Rc C w 44 zSt (stC op ⟨#[]⟩ tZ sl0 sl0 sl0) (a + 1) wx))
  case first =>
   rcases hw with ⟨rfl,hx⟩ | ⟨rfl,hx⟩
   ·have q0:wc.cell? ⟨w.heap.size + 1,0,none⟩=some (.int .i64 1):=hR.out.box.cell 0
    have qf:∀ i,wc.frozen? ⟨w.heap.size + 1,i,none⟩=false:=hR.out.box.frozen
    go_wp2_with fail
    go_meet
    exact hR.out.set_ hlt 0 (.int .i64 0)
   ·have hR1:Hid (Rc C w 44 zSt (stC 1 ⟨#[]⟩ tZ sl0 sl0 sl0) a wc):=hR
    go_wp2_with (first
     | (go_at_call 115; refine (want_any hR1.out.ps ⟨#[99,111,110,115,116]⟩ (by decide)).mono ?_; rintro r w1 (⟨_,rfl,h1⟩ | ⟨hq,rfl,h1⟩); rotate_left; exact absurd hx hq; have R1:=Lib.hid (hR1.out.to h1 hlt)))
    go_meet
    exact R1
  case rest =>
   clear hR
   rename Hid (Rc C w _ _ (stC op _ _ _ _ _) _ _)=>hR
   clear R0 hw
   have q1:wc.cell? ⟨w.heap.size + 1,1,none⟩=some (.string ⟨#[]⟩):=hR.out.box.cell 1
   by_cases hn:isW C.L (a + 1)=true
   ·go_upto_region 8 with (first
     | (go_at_call 114; refine (name_any hR.out.ps).mono ?_; rintro r w2 (⟨_,rfl,h2⟩ | ⟨hq,rfl,h2⟩); rotate_left; rw [hn] at hq; cases hq; have R2:=Lib.hid (hR.out.to h2 hlt); have q2:w2.cell? ⟨w.heap.size + 1,1,none⟩=some (.string ⟨#[]⟩):=R2.out.box.cell 1; have q3:=R2.out.box.frozen; have R3:=Lib.hid (R2.out.set_ hlt 1 (.string (tx C.L (a + 1)))))
     | (go_at_call 115; refine (want_any R3.out.ps ⟨#[58]⟩ (by decide)).mono ?_; rintro r w4 (⟨hx4,rfl,h4⟩ | ⟨hx4,rfl,h4⟩) <;> have R4:=Lib.hid (R3.out.to h4 hlt))
     | (go_at_call 116; refine (typ_var R4.out.ps).mono ?_; rintro r w5 (⟨ty,b,ht,rfl,h5⟩ | ⟨b,ht,rfl,h5⟩) <;> have R5:=Lib.hid (R4.out.to h5 hlt) <;> obtain ⟨ff,f2,f3,f4,f5,f6⟩:=Rc.five R5.out))
    ·have R6:Hid (Rc C w 44 zSt (stC op (tx C.L (a + 1)) ty sl0 sl0 sl0) b _):=Rc.typ R5.out hlt ty
     obtain ⟨w6,hw6⟩:∃ w6,(((((w5.setCell ⟨w.heap.size + 1,2,none⟩ (.int .i64 ty.base)).setCell ⟨w.heap.size + 1,3,none⟩ (.int .i64 ty.bits)).setCell ⟨w.heap.size + 1,4,none⟩ (.string ty.name)).setCell ⟨w.heap.size + 1,5,none⟩ (.bool ty.opt)).setCell ⟨w.heap.size + 1,6,none⟩ (.bool ty.err))=w6:=⟨_,rfl⟩
     rw [hw6] at R6 ⊢
     clear hw6 R5 R4 R3 R2 q2 q3 ff f2 f3 f4 f5 f6 hR q1
     have hab:a < b:=by have:=typS_lt ht.out; omega
     have HV:=Lib.hid (valued_any R6.out.ps op (tx C.L (a + 1)) ty true (HE.out (b + 1) (by omega)))
     go_wp2_with (first
      | ((with_reducible show wpList _ _ _ (Oper.mk (some 20) (.load 44 (.tmp 3)) _ _ _ _ :: _) _ _); refine wpList_ldb rfl _ _ rfl _ _ (stC op (tx C.L (a + 1)) ty sl0 sl0 sl0) rfl R6.out.box _ Tryz.underlying44 rfl HZ.out ?_)
      | (go_at_call 217; refine HV.out.mono ?_; clear HV; rintro r w7 (⟨x,c,cs,hg,rfl,hnv,hmv⟩ | ⟨c,hg,rfl,hmv⟩) <;> (have R7:=Lib.hid (R6.out.to hmv hlt)) <;> (have hz:=R6.out.lt))
      | ((with_reducible show wpList _ _ _ (Oper.mk none (.store 44 (.tmp 2) _) _ _ _ _ :: _) _ _); refine wpList_store_row rfl _ _ _ rfl _ rfl _ zSt _ R7.out.res rfl hnv.size hnv.one (by rw [show cs.size=10 from hnv.size]; exact HZ.out) ?_))
     ·refine bodyPost_ret (results_cell_row rfl _ _ w.heap.size _ cs (0,0) _ rfl (R7.out.res.row _) Tryz.underlying44 rfl (by rw [show cs.size=10 from hnv.size]; exact HZ.out)) rfl ?_
      exact R7.out.fin hlt hnv (fun i hi=>by omega) (by unfold varS nam; rw [if_pos hn]; unfold wnt; rw [if_pos hx4,ht.out]; exact hg.out)
     ·exact And.intro rfl (fin_bad R7.out.mv (by unfold varS nam; rw [if_pos hn]; unfold wnt; rw [if_pos hx4,ht.out]; exact hg.out))
    ·exact And.intro rfl (fin_bad R5.out.mv (by unfold varS nam; rw [if_pos hn]; unfold wnt; rw [if_pos hx4,ht.out]; rfl))
    ·exact And.intro rfl (fin_bad R4.out.mv (by unfold varS nam; rw [if_pos hn]; unfold wnt; rw [if_neg hx4]))
   ·go_wp2_with (first
     | (go_at_call 114; refine (name_any hR.out.ps).mono ?_; rintro r w2 (⟨hq,rfl,h2⟩ | ⟨_,rfl,h2⟩); exact absurd hq hn))
    exact And.intro rfl (fin_bad (hR.out.to h2 hlt).mv (by unfold varS nam; rw [if_neg hn]))
end Go.Proofs.YtmmnhbhnjiajhaaGreatDoor.c
