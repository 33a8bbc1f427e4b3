/- A primary that is no name. -/
import Derived.Test.YtmmnhbhnjiajhaaGreatDoorSUm
namespace Go.Proofs.YtmmnhbhnjiajhaaGreatDoor.c
open Go.RowKit
set_option linter.unusedVariables false
set_option maxRecDepth 100000
set_option maxHeartbeats 3200000
set_option linter.unusedSimpArgs false
theorem prm_num {C:Cx} {a:Nat} {w:World} (h:PS C a w) (HE0:∀ b,a < b → EX C b) (HB0:∀ b,a < b → BL C b) (hk:kd_ C.L a=1):Calls Tryz.prog 241 #[Pp C] w (Out C w 0 (gram C.L .prim a)):=by
 have HZ:Hid ((Tryz.prog.info? 36).map (·.size)=some 10):=by unfold Hid; kernel_rfl
 have hlt:=h.lt
 have R0:Hid (Rx C w 36 zEx a (w.alloc (.cells zEx 36))):=Rx.init h _ _
 have HE:=Lib.hid HE0
 have HB:=Lib.hid HB0
 have E:Hid (gram C.L .prim a=thnO (litS (tx C.L a) false) a fun x=>some (.ok x (a + 1))):=by
  unfold Hid
  rw [gram_eq]
  show primS C.L (gram C.L) a=_
  unfold primS; rw [if_pos hk]
 generalize gram C.L .prim a=r0 at E ⊢
 clear h HE0 HB0
 go_enter Tryz.func241,Tryz.ntmps241
 go_wp2_with (first
  | (go_at_call 168; refine (kind_any R0.out.ps).mono ?_; rw [hk]; rintro r w1 ⟨rfl,x1⟩; have R1:=Lib.hid (R0.out.ext x1))
  | (go_at_call 240; refine (literal_any R1.out.ps false hk).mono ?_; rintro r w7 (⟨x,c,cs,hg,rfl,hnv,hmv⟩ | ⟨c,hg,rfl,hmv⟩) <;> (have R7:=Lib.hid (R1.out.to hmv hlt)) <;> (have hz:=R1.out.lt))
  | ((with_reducible show wpList _ _ _ (Oper.mk none (.store 36 (.tmp 2) _) _ _ _ _ :: _) _ _); refine wpList_store_row rfl _ _ _ rfl _ rfl _ zEx _ R7.out.res rfl hnv.size hnv.one (by rw [show cs.size=10 from hnv.size]; exact HZ.out) ?_))
 ·refine bodyPost_ret (results_cell_row rfl _ _ w.heap.size _ cs (0,0) _ rfl (R7.out.res.row _) Tryz.underlying36 rfl (by rw [show cs.size=10 from hnv.size]; exact HZ.out)) rfl ?_
  exact R7.out.fin hlt hnv (fun i hi=>Nat.lt_of_lt_of_le hz hi) (E.out.trans hg.out)
 ·exact And.intro rfl (fin_bad R7.out.mv (E.out.trans hg.out))
theorem prm_true {C:Cx} {a:Nat} {w:World} (h:PS C a w) (HE0:∀ b,a < b → EX C b) (HB0:∀ b,a < b → BL C b) (hk:¬ kd_ C.L a=1) (hx:tx C.L a=⟨#[116,114,117,101]⟩):Calls Tryz.prog 241 #[Pp C] w (Out C w 0 (gram C.L .prim a)):=by
 have HZ:Hid ((Tryz.prog.info? 36).map (·.size)=some 10):=by unfold Hid; kernel_rfl
 have hlt:=h.lt
 have R0:Hid (Rx C w 36 zEx a (w.alloc (.cells zEx 36))):=Rx.init h _ _
 have HE:=Lib.hid HE0
 have HB:=Lib.hid HB0
 have E:Hid (gram C.L .prim a=some (.ok (.ex 0 tBo ⟨#[]⟩ 1 .nil .nil .nil) (a + 1))):=by
  unfold Hid
  rw [gram_eq]
  show primS C.L (gram C.L) a=_
  unfold primS; rw [if_neg hk,if_pos hx]
 generalize gram C.L .prim a=r0 at E ⊢
 clear h HE0 HB0
 have hkb:(kd_ C.L a == 1)=false:=beq_eq_false_iff_ne.2 hk
 go_enter Tryz.func241,Tryz.ntmps241
 go_wp2_with (first
  | (go_at_call 168; refine (kind_any R0.out.ps).mono ?_; rintro r w1 ⟨rfl,x1⟩; have R1:=Lib.hid (R0.out.ext x1))
  | (go_at_call 113; (with_reducible show Calls _ _ #[_,.string ⟨#[116,114,117,101]⟩] _ _); refine (next_any R1.out.ps ⟨#[116,114,117,101]⟩ (by decide)).mono ?_; rintro r w2 (⟨_,rfl,m2⟩ | ⟨hq,rfl,m2⟩); rotate_left; exact absurd hx hq; have R2:=Lib.hid (R1.out.to m2 hlt))
  | ((with_reducible show wpList _ _ _ (Oper.mk none (.store 36 (.tmp 2) _) _ _ _ _ :: _) _ _); refine wpList_store_row rfl _ _ _ rfl _ rfl _ zEx _ R2.out.res rfl rfl (exF_one (op:=0) (ty:=tBo) (nm:=⟨#[]⟩) (n:=1) (a:=sl0) (b:=sl0) rfl rfl) HZ.out ?_))
 refine bodyPost_ret (results_cell_row rfl _ _ w.heap.size _ _ (0,0) _ rfl (R2.out.res.row _) Tryz.underlying36 rfl HZ.out) rfl ?_
 exact R2.out.fin hlt (nv_exF (op:=0) (ty:=tBo) (nm:=⟨#[]⟩) (n:=1) (V:=vp (w.heap.size < ·) w2) (Sl.nil _ none 0 0) (Sl.nil _ none 0 1)) (fun i hi=>hi) E.out
theorem prm_false {C:Cx} {a:Nat} {w:World} (h:PS C a w) (HE0:∀ b,a < b → EX C b) (HB0:∀ b,a < b → BL C b) (hk:¬ kd_ C.L a=1) (hx:tx C.L a=⟨#[102,97,108,115,101]⟩):Calls Tryz.prog 241 #[Pp C] w (Out C w 0 (gram C.L .prim a)):=by
 have HZ:Hid ((Tryz.prog.info? 36).map (·.size)=some 10):=by unfold Hid; kernel_rfl
 have hlt:=h.lt
 have R0:Hid (Rx C w 36 zEx a (w.alloc (.cells zEx 36))):=Rx.init h _ _
 have HE:=Lib.hid HE0
 have HB:=Lib.hid HB0
 have E:Hid (gram C.L .prim a=some (.ok (.ex 0 tBo ⟨#[]⟩ 0 .nil .nil .nil) (a + 1))):=by
  unfold Hid
  rw [gram_eq]
  show primS C.L (gram C.L) a=_
  unfold primS; rw [if_neg hk,if_neg (nw hx (by decide:(⟨#[102,97,108,115,101]⟩:ByteArray) ≠ ⟨#[116,114,117,101]⟩)),if_pos hx]
 generalize gram C.L .prim a=r0 at E ⊢
 clear h HE0 HB0
 have hkb:(kd_ C.L a == 1)=false:=beq_eq_false_iff_ne.2 hk
 go_enter Tryz.func241,Tryz.ntmps241
 go_wp2_with (first
  | (go_at_call 168; refine (kind_any R0.out.ps).mono ?_; rintro r w1 ⟨rfl,x1⟩; have R1:=Lib.hid (R0.out.ext x1))
  | (go_at_call 113; (with_reducible show Calls _ _ #[_,.string ⟨#[116,114,117,101]⟩] _ _); refine (next_any R1.out.ps ⟨#[116,114,117,101]⟩ (by decide)).mono ?_; rintro r w2 (⟨hq,rfl,m2⟩ | ⟨_,rfl,m2⟩); exact absurd (hx.symm.trans hq) (by decide); have R2:=Lib.hid (R1.out.to m2 hlt))
  | (go_at_call 113; (with_reducible show Calls _ _ #[_,.string ⟨#[102,97,108,115,101]⟩] _ _); refine (next_any R2.out.ps ⟨#[102,97,108,115,101]⟩ (by decide)).mono ?_; rintro r w3 (⟨_,rfl,m3⟩ | ⟨hq,rfl,m3⟩); rotate_left; exact absurd hx hq; have R3:=Lib.hid (R2.out.to m3 hlt))
  | ((with_reducible show wpList _ _ _ (Oper.mk none (.store 36 (.tmp 2) _) _ _ _ _ :: _) _ _); refine wpList_store_row rfl _ _ _ rfl _ rfl _ zEx _ R3.out.res rfl rfl (exF_one (op:=0) (ty:=tBo) (nm:=⟨#[]⟩) (n:=0) (a:=sl0) (b:=sl0) rfl rfl) HZ.out ?_))
 refine bodyPost_ret (results_cell_row rfl _ _ w.heap.size _ _ (0,0) _ rfl (R3.out.res.row _) Tryz.underlying36 rfl HZ.out) rfl ?_
 exact R3.out.fin hlt (nv_exF (op:=0) (ty:=tBo) (nm:=⟨#[]⟩) (n:=0) (V:=vp (w.heap.size < ·) w3) (Sl.nil _ none 0 0) (Sl.nil _ none 0 1)) (fun i hi=>hi) E.out
theorem prm_par {C:Cx} {a:Nat} {w:World} (h:PS C a w) (HE0:∀ b,a < b → EX C b) (HB0:∀ b,a < b → BL C b) (hk:¬ kd_ C.L a=1) (hx:tx C.L a=⟨#[40]⟩):Calls Tryz.prog 241 #[Pp C] w (Out C w 0 (gram C.L .prim a)):=by
 have HZ:Hid ((Tryz.prog.info? 36).map (·.size)=some 10):=by unfold Hid; kernel_rfl
 have hlt:=h.lt
 have R0:Hid (Rx C w 36 zEx a (w.alloc (.cells zEx 36))):=Rx.init h _ _
 have HE:=Lib.hid HE0
 have HB:=Lib.hid HB0
 have E:Hid (gram C.L .prim a=thn (gram C.L (.lvl 0) (a + 1)) fun x b=>wnt C.L b ⟨#[41]⟩ (some (.ok x (b + 1)))):=by
  unfold Hid
  rw [gram_eq]
  show primS C.L (gram C.L) a=_
  unfold primS; rw [if_neg hk,if_neg (nw hx (by decide:(⟨#[40]⟩:ByteArray) ≠ ⟨#[116,114,117,101]⟩)),if_neg (nw hx (by decide:(⟨#[40]⟩:ByteArray) ≠ ⟨#[102,97,108,115,101]⟩)),if_pos hx]; exact if_pos hx
 generalize gram C.L .prim a=r0 at E ⊢
 clear h HE0 HB0
 have hkb:(kd_ C.L a == 1)=false:=beq_eq_false_iff_ne.2 hk
 go_enter Tryz.func241,Tryz.ntmps241
 go_wp2_with (first
  | (go_at_call 168; refine (kind_any R0.out.ps).mono ?_; rintro r w1 ⟨rfl,x1⟩; have R1:=Lib.hid (R0.out.ext x1))
  | (go_at_call 113; (with_reducible show Calls _ _ #[_,.string ⟨#[116,114,117,101]⟩] _ _); refine (next_any R1.out.ps ⟨#[116,114,117,101]⟩ (by decide)).mono ?_; rintro r w2 (⟨hq,rfl,m2⟩ | ⟨_,rfl,m2⟩); exact absurd (hx.symm.trans hq) (by decide); have R2:=Lib.hid (R1.out.to m2 hlt))
  | (go_at_call 113; (with_reducible show Calls _ _ #[_,.string ⟨#[102,97,108,115,101]⟩] _ _); refine (next_any R2.out.ps ⟨#[102,97,108,115,101]⟩ (by decide)).mono ?_; rintro r w3 (⟨hq,rfl,m3⟩ | ⟨_,rfl,m3⟩); exact absurd (hx.symm.trans hq) (by decide); have R3:=Lib.hid (R2.out.to m3 hlt))
  | (go_at_call 113; (with_reducible show Calls _ _ #[_,.string ⟨#[40]⟩] _ _); refine (next_any R3.out.ps ⟨#[40]⟩ (by decide)).mono ?_; rintro r w4 (⟨_,rfl,m4⟩ | ⟨hq,rfl,m4⟩); rotate_left; exact absurd hx hq; have R4:=Lib.hid (R3.out.to m4 hlt))
  | (go_at_call 118; refine (HE.out (a + 1) (by omega) _ R4.out.ps).mono ?_; rintro r w7 (⟨x,c,cs,hg,rfl,hnv,hmv⟩ | ⟨c,hg,rfl,hmv⟩) <;> (have R7:=Lib.hid (R4.out.to hmv hlt)) <;> (have hz:=R4.out.lt))
  | ((with_reducible show wpList _ _ _ (Oper.mk none (.store 36 (.tmp 3) _) _ _ _ _ :: _) _ _); refine wpList_store_row rfl _ _ _ rfl _ rfl _ zEx _ (Blk.new w7 _ zEx) rfl hnv.size hnv.one (by rw [show cs.size=10 from hnv.size]; exact HZ.out) ?_))
 ·obtain ⟨w8,hw8,h8,k8,z8,n8,hb8,p8⟩:=save zEx (t := 36) R7.out.mv hlt hnv
  unfold zEx at hw8
  rw [hw8]
  have D8:Hid (Rd C w 36 zEx w7.heap.size cs c w8):=⟨h8,hb8 _ _ _ R7.out.res,R7.out.lt,k8⟩
  have N8:=Lib.hid n8
  have hs:cs.size=10:=hnv.size
  clear hw8 h8 k8 n8 hb8 p8 hnv hmv R7
  go_wp2_with (first
   | (go_at_call 115; refine (want_any D8.out.ps ⟨#[41]⟩ (by decide)).mono ?_; rintro r w9 (⟨h9,rfl,m9⟩ | ⟨h9,rfl,m9⟩) <;> (have D9:=Lib.hid (D8.out.to m9 hlt)))
   | ((with_reducible show wpList _ _ _ (Oper.mk (some 30) (.load 36 (.tmp 3)) _ _ _ _ :: _) _ _); refine wpList_ldb rfl _ _ rfl _ _ cs rfl D9.out.box _ Tryz.underlying36 rfl (by rw [hs]; exact HZ.out) ?_)
   | ((with_reducible show wpList _ _ _ (Oper.mk none (.store 36 (.tmp 2) _) _ _ _ _ :: _) _ _); refine wpList_store_row rfl _ _ _ rfl _ rfl _ zEx _ D9.out.res rfl hs N8.out.one (by rw [hs]; exact HZ.out) ?_))
  ·refine bodyPost_ret (results_cell_row rfl _ _ w.heap.size _ cs (0,0) _ rfl (D9.out.res.row _) Tryz.underlying36 rfl (by rw [hs]; exact HZ.out)) rfl ?_
   exact D9.out.fin hlt (N8.out.px m9.px (q:=(w.heap.size < ·)) fun i hi _=>⟨by omega,by omega⟩) (fun i hi=>hi) (E.out.trans ((thn_ok hg.out).trans (if_pos h9)))
  ·exact And.intro rfl (fin_bad D9.out.mv (E.out.trans ((thn_ok hg.out).trans (if_neg h9))))
 ·exact And.intro rfl (fin_bad R7.out.mv (E.out.trans (thn_bad hg.out)))
theorem prm_do {C:Cx} {a:Nat} {w:World} (h:PS C a w) (HE0:∀ b,a < b → EX C b) (HB0:∀ b,a < b → BL C b) (hk:¬ kd_ C.L a=1) (hx:tx C.L a=⟨#[100,111]⟩):Calls Tryz.prog 241 #[Pp C] w (Out C w 0 (gram C.L .prim a)):=by
 have HZ:Hid ((Tryz.prog.info? 36).map (·.size)=some 10):=by unfold Hid; kernel_rfl
 have hlt:=h.lt
 have R0:Hid (Rx C w 36 zEx a (w.alloc (.cells zEx 36))):=Rx.init h _ _
 have HE:=Lib.hid HE0
 have HB:=Lib.hid HB0
 have E:Hid (gram C.L .prim a=thn (gram C.L .blk (a + 1)) fun b c=>some (.ok (.ex 35 tZ ⟨#[]⟩ 0 .nil b .nil) c)):=by
  unfold Hid
  rw [gram_eq]
  show primS C.L (gram C.L) a=_
  unfold primS; rw [if_neg hk,if_neg (nw hx (by decide:(⟨#[100,111]⟩:ByteArray) ≠ ⟨#[116,114,117,101]⟩)),if_neg (nw hx (by decide:(⟨#[100,111]⟩:ByteArray) ≠ ⟨#[102,97,108,115,101]⟩)),if_neg (nw hx (by decide:(⟨#[100,111]⟩:ByteArray) ≠ ⟨#[40]⟩)),if_pos hx]
 generalize gram C.L .prim a=r0 at E ⊢
 clear h HE0 HB0
 have hkb:(kd_ C.L a == 1)=false:=beq_eq_false_iff_ne.2 hk
 go_enter Tryz.func241,Tryz.ntmps241
 go_wp2_with (first
  | (go_at_call 168; refine (kind_any R0.out.ps).mono ?_; rintro r w1 ⟨rfl,x1⟩; have R1:=Lib.hid (R0.out.ext x1))
  | (go_at_call 113; (with_reducible show Calls _ _ #[_,.string ⟨#[116,114,117,101]⟩] _ _); refine (next_any R1.out.ps ⟨#[116,114,117,101]⟩ (by decide)).mono ?_; rintro r w2 (⟨hq,rfl,m2⟩ | ⟨_,rfl,m2⟩); exact absurd (hx.symm.trans hq) (by decide); have R2:=Lib.hid (R1.out.to m2 hlt))
  | (go_at_call 113; (with_reducible show Calls _ _ #[_,.string ⟨#[102,97,108,115,101]⟩] _ _); refine (next_any R2.out.ps ⟨#[102,97,108,115,101]⟩ (by decide)).mono ?_; rintro r w3 (⟨hq,rfl,m3⟩ | ⟨_,rfl,m3⟩); exact absurd (hx.symm.trans hq) (by decide); have R3:=Lib.hid (R2.out.to m3 hlt))
  | (go_at_call 113; (with_reducible show Calls _ _ #[_,.string ⟨#[40]⟩] _ _); refine (next_any R3.out.ps ⟨#[40]⟩ (by decide)).mono ?_; rintro r w4 (⟨hq,rfl,m4⟩ | ⟨_,rfl,m4⟩); exact absurd (hx.symm.trans hq) (by decide); have R4:=Lib.hid (R3.out.to m4 hlt))
  | (go_at_call 113; (with_reducible show Calls _ _ #[_,.string ⟨#[100,111]⟩] _ _); refine (next_any R4.out.ps ⟨#[100,111]⟩ (by decide)).mono ?_; rintro r w5 (⟨_,rfl,m5⟩ | ⟨hq,rfl,m5⟩); rotate_left; exact absurd hx hq; have R5:=Lib.hid (R4.out.to m5 hlt))
  | (go_at_call 122; refine (HB.out (a + 1) (by omega) _ R5.out.ps).mono ?_; rintro r w7 (⟨z,c,vb,hg,rfl,hsl,hmv⟩ | ⟨c,hg,rfl,hmv⟩) <;> (have R7:=Lib.hid (R5.out.to hmv hlt)) <;> (have hz:=R5.out.lt) <;> (try obtain ⟨Ab,nb,cb,rfl,_⟩:=Sl.shape hsl))
  | ((with_reducible show wpList _ _ _ (Oper.mk none (.store 36 (.tmp 2) _) _ _ _ _ :: _) _ _); refine wpList_store_row rfl _ _ _ rfl _ rfl _ zEx _ R7.out.res rfl rfl (exF_one (op:=35) (ty:=tZ) (nm:=⟨#[]⟩) (n:=0) (a:=sl0) (b:=.slice Ab nb cb) rfl rfl) HZ.out ?_))
 ·refine bodyPost_ret (results_cell_row rfl _ _ w.heap.size _ _ (0,0) _ rfl (R7.out.res.row _) Tryz.underlying36 rfl HZ.out) rfl ?_
  exact R7.out.fin hlt (nv_exF (op:=35) (ty:=tZ) (nm:=⟨#[]⟩) (n:=0) (Sl.nil _ none 0 0) hsl) (fun i hi=>Nat.lt_of_lt_of_le hz hi) (E.out.trans (thn_ok hg.out))
 ·exact And.intro rfl (fin_bad R7.out.mv (E.out.trans (thn_bad hg.out)))
theorem kd3_txt {C:Cx} {a:Nat} (h:kd_ C.L a=3):(tx C.L a).data.toList.head?=some 64:=by
 have hlt:a < C.L.length:=by
  rcases Nat.lt_or_ge a C.L.length with h1 | h1
  ·exact h1
  ·rw [kd_end h1] at h; cases h
 have h2:=(C.wf _ (Tx.mem hlt)).2.2.2.1 (by rw [← kd_at hlt]; exact h)
 rw [← tx_at hlt] at h2
 exact h2
theorem txt_kd3 {C:Cx} {a:Nat} (h:(tx C.L a).data.toList.head?=some 64):kd_ C.L a=3:=by
 have hlt:a < C.L.length:=by
  rcases Nat.lt_or_ge a C.L.length with h1 | h1
  ·exact h1
  ·rw [tx_end h1] at h; cases h
 rw [kd_at hlt]
 exact (C.wf _ (Tx.mem hlt)).2.2.2.2 (by rw [← tx_at hlt]; exact h)
theorem at_ne {C:Cx} {a:Nat} {s:ByteArray} (h:kd_ C.L a=3) (hs:s.data.toList.head? ≠ some 64):¬ tx C.L a=s:=fun e=>hs (by rw [← e]; exact kd3_txt h)
theorem no_at {C:Cx} {a:Nat} {s:ByteArray} (h:¬ kd_ C.L a=3) (hs:s.data.toList.head?=some 64):¬ tx C.L a=s:=fun e=>h (txt_kd3 (by rw [e]; exact hs))
theorem prm_at {C:Cx} {a:Nat} {w:World} (h:PS C a w) (HE0:∀ b,a < b → EX C b) (HB0:∀ b,a < b → BL C b) (hk3:kd_ C.L a=3):Calls Tryz.prog 241 #[Pp C] w (Out C w 0 (gram C.L .prim a)):=by
 have HZ:Hid ((Tryz.prog.info? 36).map (·.size)=some 10):=by unfold Hid; kernel_rfl
 have hlt:=h.lt
 have R0:Hid (Rx C w 36 zEx a (w.alloc (.cells zEx 36))):=Rx.init h _ _
 have HE:=Lib.hid HE0
 have HB:=Lib.hid HB0
 have E:Hid (gram C.L .prim a=bltS C a):=by
  unfold Hid
  rw [gram_eq]
  show primS C.L (gram C.L) a=_
  have hk:¬ kd_ C.L a=1:=by rw [hk3]; decide
  have hw:¬ isW C.L a=true:=by unfold isW; rw [hk3]; simp
  unfold primS bltS
  rw [if_neg hk,if_neg (at_ne hk3 (by decide)),if_neg (at_ne hk3 (by decide)),if_neg (at_ne hk3 (by decide)),if_neg (at_ne hk3 (by decide))]
  unfold nam
  rw [if_neg hw]
 generalize gram C.L .prim a=r0 at E ⊢
 clear h HE0 HB0
 have h0:=at_ne (s:=⟨#[116,114,117,101]⟩) hk3 (by decide)
 have h1:=at_ne (s:=⟨#[102,97,108,115,101]⟩) hk3 (by decide)
 have h2:=at_ne (s:=⟨#[40]⟩) hk3 (by decide)
 have h3:=at_ne (s:=⟨#[100,111]⟩) hk3 (by decide)
 go_enter Tryz.func241,Tryz.ntmps241
 go_wp2_with (first
  | (go_at_call 168; (with_reducible show Calls _ _ _ (World.alloc _ _) _); refine (kind_any R0.out.ps).mono ?_; rw [hk3]; rintro r w1 ⟨rfl,x1⟩; have R1:=Lib.hid (R0.out.ext x1))
  | (go_at_call 113; (with_reducible show Calls _ _ #[_,.string ⟨#[116,114,117,101]⟩] _ _); refine (next_any R1.out.ps ⟨#[116,114,117,101]⟩ (by decide)).mono ?_; rintro r w2 (⟨hq,rfl,m2⟩ | ⟨_,rfl,m2⟩); exact absurd hq h0; have R2:=Lib.hid (R1.out.to m2 hlt))
  | (go_at_call 113; (with_reducible show Calls _ _ #[_,.string ⟨#[102,97,108,115,101]⟩] _ _); refine (next_any R2.out.ps ⟨#[102,97,108,115,101]⟩ (by decide)).mono ?_; rintro r w3 (⟨hq,rfl,m3⟩ | ⟨_,rfl,m3⟩); exact absurd hq h1; have R3:=Lib.hid (R2.out.to m3 hlt))
  | (go_at_call 113; (with_reducible show Calls _ _ #[_,.string ⟨#[40]⟩] _ _); refine (next_any R3.out.ps ⟨#[40]⟩ (by decide)).mono ?_; rintro r w4 (⟨hq,rfl,m4⟩ | ⟨_,rfl,m4⟩); exact absurd hq h2; have R4:=Lib.hid (R3.out.to m4 hlt))
  | (go_at_call 113; (with_reducible show Calls _ _ #[_,.string ⟨#[100,111]⟩] _ _); refine (next_any R4.out.ps ⟨#[100,111]⟩ (by decide)).mono ?_; rintro r w5 (⟨hq,rfl,m5⟩ | ⟨_,rfl,m5⟩); exact absurd hq h3; have R5:=Lib.hid (R4.out.to m5 hlt))
  | (go_at_call 168; refine (kind_any R5.out.ps).mono ?_; rw [hk3]; rintro r w6 ⟨rfl,x6⟩; have R6:=Lib.hid (R5.out.ext x6))
  | (go_at_call 260; refine (builtin_any R6.out.ps HE.out).mono ?_; rintro r w7 (⟨x,c,cs,hg,rfl,hnv,hmv⟩ | ⟨c,hg,rfl,hmv⟩) <;> (have R7:=Lib.hid (R6.out.to hmv hlt)) <;> (have hz:=R6.out.lt))
  | ((with_reducible show wpList _ _ _ (Oper.mk none (.store 36 (.tmp 2) _) _ _ _ _ :: _) _ _); refine wpList_store_row rfl _ _ _ rfl _ rfl _ zEx _ R7.out.res rfl hnv.size hnv.one (by rw [show cs.size=10 from hnv.size]; exact HZ.out) ?_))
 ·refine bodyPost_ret (results_cell_row rfl _ _ w.heap.size _ cs (0,0) _ rfl (R7.out.res.row _) Tryz.underlying36 rfl (by rw [show cs.size=10 from hnv.size]; exact HZ.out)) rfl ?_
  exact R7.out.fin hlt hnv (fun i hi=>Nat.lt_of_lt_of_le hz hi) (E.out.trans hg.out)
 ·exact And.intro rfl (fin_bad R7.out.mv (E.out.trans hg.out))
end Go.Proofs.YtmmnhbhnjiajhaaGreatDoor.c
