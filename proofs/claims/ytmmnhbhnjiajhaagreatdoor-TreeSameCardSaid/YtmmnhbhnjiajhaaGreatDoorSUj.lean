/- A statement. -/
import Derived.Test.YtmmnhbhnjiajhaaGreatDoorSUi
import Derived.Test.YtmmnhbhnjiajhaaGreatDoorSMapT
namespace Go.Proofs.YtmmnhbhnjiajhaaGreatDoor.c
open Go.RowKit
set_option linter.unusedVariables false
set_option maxRecDepth 100000
set_option maxHeartbeats 3200000
set_option linter.unusedSimpArgs false
theorem Rx.blk {C:Cx} {w w2:World} {t:TypeId} {zv:Array Value} {b:Nat} {A:Option Addr} {n d:Nat} {p:Nat → Prop} {z:Nd} {v':Value} (op:Int) (h:Rx C w t zv b w2) (hv:v'=.slice A n d) (hs:Sl (vp p w2) v' z 1) (hp:∀ i,p i → w.heap.size < i) :
  Rx C w t zv b (w2.alloc (.cells #[.slice A n d] 34))∧Nv (vp (w.heap.size < ·) (w2.alloc (.cells #[.slice A n d] 34))) 1 (stN op ⟨#[]⟩ tZ .nil (.bl z .nil) .nil) (stC op ⟨#[]⟩ tZ sl0 (.slice (some ⟨w2.heap.size,0,none⟩) 1 1) sl0):=by
 subst hv
 have x1:=(Ext.refl w2).alloc (.cells #[.slice A n d] 34)
 exact ⟨h.ext x1,nv_st (Sl.nil _ none 0 0) (bl_sl (hs.ext x1 (q:=(w.heap.size < ·)) fun i hi _=>hp i hi) (Blk.new _ _ _) h.lt) (Sl.nil _ none 0 3)⟩
theorem nw {L:List Tok} {a:Nat} {s t:ByteArray} (h:tx L a=s) (k:s ≠ t):¬ tx L a=t:=fun e=>k (h.symm.trans e)
def wordT:List (ByteArray × Int):=[(⟨#[100,101,102,101,114]⟩,12),(⟨#[101,114,114,100,101,102,101,114]⟩,13),(⟨#[98,114,101,97,107]⟩,14),(⟨#[99,111,110,116,105,110,117,101]⟩,15),(⟨#[117,110,114,101,97,99,104,97,98,108,101]⟩,17)]
theorem run_wd {w:World} {g:Nat} (h:MapAt w 9 g 5 (strV wordT)) (s:ByteArray) (n:Int) (hV:strV wordT (.string s)=some (.int .i64 n)) (hs:s.size ≤ 4000):(Instr.lookup 254 (.map (some g)) (.string s) false).run Tryz.prog w=.ok (.int .i64 n) w:=by
 rw [h.look keyed_str Tryz.underlying254 zero_int (key_str hs) false,if_neg (by simp),hV]
 rfl
theorem stm_var {C:Cx} {a:Nat} {w:World} (h:PS C a w) (HE0:∀ b,a < b → EX C b) (HB0:∀ b,a ≤ b → BL C b) (hx:tx C.L a=⟨#[118,97,114]⟩):Calls Tryz.prog 174 #[Pp C] w (Out C w 1 (gram C.L .stm a)):=by
 have HZ:Hid ((Tryz.prog.info? 44).map (·.size)=some 10):=by unfold Hid; kernel_rfl
 have hlt:=h.lt
 have R0:Hid (Rx C w 44 zSt a (w.alloc (.cells zSt 44))):=Rx.init h _ _
 have HE:=Lib.hid HE0
 have HB:=Lib.hid HB0
 have hab:a < C.L.length:=lt_tx hx (by decide)
 have hww:=wrap1 hab
 have E:Hid (gram C.L .stm a=varS C.L (gram C.L) (a + 1) 0):=by
  unfold Hid
  rw [gram_eq]
  show stmS C.L (gram C.L) a=_
  unfold stmS
  rw [if_pos hx]
 generalize gram C.L .stm a=r0 at E ⊢
 clear h HE0 HB0
 go_enter Tryz.func174,Tryz.ntmps174
 go_wp2_with (first
  | (go_at_call 119; refine (peek_any R0.out.ps).mono ?_; rw [hx]; rintro r w1 ⟨rfl,x1⟩; have R1:=Lib.hid (R0.out.ext x1); obtain ⟨hm1,c0,c1,hf1⟩:=R1.out.ps.facts; have R2:=Lib.hid (R1.out.to (R1.out.ps.step hab) hlt))
  | (go_at_call 216; refine (variable_any R1.out.ps 0 (Or.inl ⟨rfl,hx⟩) HE.out).mono ?_; rintro r w7 (⟨x,c,cs,hg,rfl,hnv,hmv⟩ | ⟨c,hg,rfl,hmv⟩) <;> (have R7:=Lib.hid (R1.out.to hmv hlt)) <;> (have hz:=R1.out.lt))
  | ((with_reducible show wpList _ _ _ (Oper.mk none (.store 44 (.tmp 2) _) _ _ _ _ :: _) _ _); refine wpList_store_row rfl _ _ _ rfl _ rfl _ zSt _ R7.out.res rfl hnv.size hnv.one (by rw [show cs.size=10 from hnv.size]; exact HZ.out) ?_))
 ·refine bodyPost_ret (results_cell_row rfl _ _ w.heap.size _ cs (0,0) _ rfl (R7.out.res.row _) Tryz.underlying44 rfl (by rw [show cs.size=10 from hnv.size]; exact HZ.out)) rfl ?_
  exact R7.out.fin hlt hnv (fun i hi=>Nat.lt_of_lt_of_le hz hi) (E.out.trans hg.out)
 ·exact And.intro rfl (fin_bad R7.out.mv (E.out.trans hg.out))
theorem stm_const {C:Cx} {a:Nat} {w:World} (h:PS C a w) (HE0:∀ b,a < b → EX C b) (HB0:∀ b,a ≤ b → BL C b) (hx:tx C.L a=⟨#[99,111,110,115,116]⟩):Calls Tryz.prog 174 #[Pp C] w (Out C w 1 (gram C.L .stm a)):=by
 have HZ:Hid ((Tryz.prog.info? 44).map (·.size)=some 10):=by unfold Hid; kernel_rfl
 have hlt:=h.lt
 have R0:Hid (Rx C w 44 zSt a (w.alloc (.cells zSt 44))):=Rx.init h _ _
 have HE:=Lib.hid HE0
 have HB:=Lib.hid HB0
 have hab:a < C.L.length:=lt_tx hx (by decide)
 have hww:=wrap1 hab
 have E:Hid (gram C.L .stm a=varS C.L (gram C.L) (a + 1) 1):=by
  unfold Hid
  rw [gram_eq]
  show stmS C.L (gram C.L) a=_
  unfold stmS
  rw [if_neg (nw hx (by decide:(⟨#[99,111,110,115,116]⟩:ByteArray) ≠ ⟨#[118,97,114]⟩)),if_pos hx]
 generalize gram C.L .stm a=r0 at E ⊢
 clear h HE0 HB0
 go_enter Tryz.func174,Tryz.ntmps174
 go_wp2_with (first
  | (go_at_call 119; refine (peek_any R0.out.ps).mono ?_; rw [hx]; rintro r w1 ⟨rfl,x1⟩; have R1:=Lib.hid (R0.out.ext x1); obtain ⟨hm1,c0,c1,hf1⟩:=R1.out.ps.facts; have R2:=Lib.hid (R1.out.to (R1.out.ps.step hab) hlt))
  | (go_at_call 216; refine (variable_any R1.out.ps 1 (Or.inr ⟨rfl,hx⟩) HE.out).mono ?_; rintro r w7 (⟨x,c,cs,hg,rfl,hnv,hmv⟩ | ⟨c,hg,rfl,hmv⟩) <;> (have R7:=Lib.hid (R1.out.to hmv hlt)) <;> (have hz:=R1.out.lt))
  | ((with_reducible show wpList _ _ _ (Oper.mk none (.store 44 (.tmp 2) _) _ _ _ _ :: _) _ _); refine wpList_store_row rfl _ _ _ rfl _ rfl _ zSt _ R7.out.res rfl hnv.size hnv.one (by rw [show cs.size=10 from hnv.size]; exact HZ.out) ?_))
 ·refine bodyPost_ret (results_cell_row rfl _ _ w.heap.size _ cs (0,0) _ rfl (R7.out.res.row _) Tryz.underlying44 rfl (by rw [show cs.size=10 from hnv.size]; exact HZ.out)) rfl ?_
  exact R7.out.fin hlt hnv (fun i hi=>Nat.lt_of_lt_of_le hz hi) (E.out.trans hg.out)
 ·exact And.intro rfl (fin_bad R7.out.mv (E.out.trans hg.out))
theorem stm_drop {C:Cx} {a:Nat} {w:World} (h:PS C a w) (HE0:∀ b,a < b → EX C b) (HB0:∀ b,a ≤ b → BL C b) (hx:tx C.L a=⟨#[95]⟩):Calls Tryz.prog 174 #[Pp C] w (Out C w 1 (gram C.L .stm a)):=by
 have HZ:Hid ((Tryz.prog.info? 44).map (·.size)=some 10):=by unfold Hid; kernel_rfl
 have hlt:=h.lt
 have R0:Hid (Rx C w 44 zSt a (w.alloc (.cells zSt 44))):=Rx.init h _ _
 have HE:=Lib.hid HE0
 have HB:=Lib.hid HB0
 have hab:a < C.L.length:=lt_tx hx (by decide)
 have hww:=wrap1 hab
 have E:Hid (gram C.L .stm a=wnt C.L (a + 1) ⟨#[61]⟩ (valS C.L (gram C.L) (a + 2) fun x b=>some (.ok (stN 3 ⟨#[]⟩ tZ x .nil .nil) b))):=by
  unfold Hid
  rw [gram_eq]
  show stmS C.L (gram C.L) a=_
  unfold stmS
  rw [if_neg (nw hx (by decide:(⟨#[95]⟩:ByteArray) ≠ ⟨#[118,97,114]⟩)),if_neg (nw hx (by decide:(⟨#[95]⟩:ByteArray) ≠ ⟨#[99,111,110,115,116]⟩)),if_pos hx]
 generalize gram C.L .stm a=r0 at E ⊢
 clear h HE0 HB0
 go_enter Tryz.func174,Tryz.ntmps174
 go_wp2_with (first
  | (go_at_call 119; refine (peek_any R0.out.ps).mono ?_; rw [hx]; rintro r w1 ⟨rfl,x1⟩; have R1:=Lib.hid (R0.out.ext x1); obtain ⟨hm1,c0,c1,hf1⟩:=R1.out.ps.facts; have R2:=Lib.hid (R1.out.to (R1.out.ps.step hab) hlt))
  | (go_at_call 217; refine (valued_any R2.out.ps 3 ⟨#[]⟩ tZ true (HE.out (a + 2) (by omega))).mono ?_; rintro r w7 (⟨x,c,cs,hg,rfl,hnv,hmv⟩ | ⟨c,hg,rfl,hmv⟩) <;> (have R7:=Lib.hid (R2.out.to hmv hlt)) <;> (have hz:=R2.out.lt))
  | ((with_reducible show wpList _ _ _ (Oper.mk none (.store 44 (.tmp 2) _) _ _ _ _ :: _) _ _); refine wpList_store_row rfl _ _ _ rfl _ rfl _ zSt _ R7.out.res rfl hnv.size hnv.one (by rw [show cs.size=10 from hnv.size]; exact HZ.out) ?_))
 ·refine bodyPost_ret (results_cell_row rfl _ _ w.heap.size _ cs (0,0) _ rfl (R7.out.res.row _) Tryz.underlying44 rfl (by rw [show cs.size=10 from hnv.size]; exact HZ.out)) rfl ?_
  exact R7.out.fin hlt hnv (fun i hi=>Nat.lt_of_lt_of_le hz hi) (E.out.trans hg.out)
 ·exact And.intro rfl (fin_bad R7.out.mv (E.out.trans hg.out))
theorem stm_ret {C:Cx} {a:Nat} {w:World} (h:PS C a w) (HE0:∀ b,a < b → EX C b) (HB0:∀ b,a ≤ b → BL C b) (hx:tx C.L a=⟨#[114,101,116,117,114,110]⟩):Calls Tryz.prog 174 #[Pp C] w (Out C w 1 (gram C.L .stm a)):=by
 have HZ:Hid ((Tryz.prog.info? 44).map (·.size)=some 10):=by unfold Hid; kernel_rfl
 have hlt:=h.lt
 have R0:Hid (Rx C w 44 zSt a (w.alloc (.cells zSt 44))):=Rx.init h _ _
 have HE:=Lib.hid HE0
 have HB:=Lib.hid HB0
 have hab:a < C.L.length:=lt_tx hx (by decide)
 have hww:=wrap1 hab
 have E:Hid (gram C.L .stm a=retS C.L (gram C.L) (a + 1)):=by
  unfold Hid
  rw [gram_eq]
  show stmS C.L (gram C.L) a=_
  unfold stmS
  rw [if_neg (nw hx (by decide:(⟨#[114,101,116,117,114,110]⟩:ByteArray) ≠ ⟨#[118,97,114]⟩)),if_neg (nw hx (by decide:(⟨#[114,101,116,117,114,110]⟩:ByteArray) ≠ ⟨#[99,111,110,115,116]⟩)),if_neg (nw hx (by decide:(⟨#[114,101,116,117,114,110]⟩:ByteArray) ≠ ⟨#[95]⟩)),if_pos hx]
 generalize gram C.L .stm a=r0 at E ⊢
 clear h HE0 HB0
 go_enter Tryz.func174,Tryz.ntmps174
 go_wp2_with (first
  | (go_at_call 119; refine (peek_any R0.out.ps).mono ?_; rw [hx]; rintro r w1 ⟨rfl,x1⟩; have R1:=Lib.hid (R0.out.ext x1); obtain ⟨hm1,c0,c1,hf1⟩:=R1.out.ps.facts; have R2:=Lib.hid (R1.out.to (R1.out.ps.step hab) hlt))
  | (go_at_call 218; refine (ret_any R1.out.ps hx HE.out).mono ?_; rintro r w7 (⟨x,c,cs,hg,rfl,hnv,hmv⟩ | ⟨c,hg,rfl,hmv⟩) <;> (have R7:=Lib.hid (R1.out.to hmv hlt)) <;> (have hz:=R1.out.lt))
  | ((with_reducible show wpList _ _ _ (Oper.mk none (.store 44 (.tmp 2) _) _ _ _ _ :: _) _ _); refine wpList_store_row rfl _ _ _ rfl _ rfl _ zSt _ R7.out.res rfl hnv.size hnv.one (by rw [show cs.size=10 from hnv.size]; exact HZ.out) ?_))
 ·refine bodyPost_ret (results_cell_row rfl _ _ w.heap.size _ cs (0,0) _ rfl (R7.out.res.row _) Tryz.underlying44 rfl (by rw [show cs.size=10 from hnv.size]; exact HZ.out)) rfl ?_
  exact R7.out.fin hlt hnv (fun i hi=>Nat.lt_of_lt_of_le hz hi) (E.out.trans hg.out)
 ·exact And.intro rfl (fin_bad R7.out.mv (E.out.trans hg.out))
theorem stm_give {C:Cx} {a:Nat} {w:World} (h:PS C a w) (HE0:∀ b,a < b → EX C b) (HB0:∀ b,a ≤ b → BL C b) (hx:tx C.L a=⟨#[103,105,118,101]⟩):Calls Tryz.prog 174 #[Pp C] w (Out C w 1 (gram C.L .stm a)):=by
 have HZ:Hid ((Tryz.prog.info? 44).map (·.size)=some 10):=by unfold Hid; kernel_rfl
 have hlt:=h.lt
 have R0:Hid (Rx C w 44 zSt a (w.alloc (.cells zSt 44))):=Rx.init h _ _
 have HE:=Lib.hid HE0
 have HB:=Lib.hid HB0
 have hab:a < C.L.length:=lt_tx hx (by decide)
 have hww:=wrap1 hab
 have E:Hid (gram C.L .stm a=valS C.L (gram C.L) (a + 1) fun x b=>some (.ok (stN 16 ⟨#[]⟩ tZ x .nil .nil) b)):=by
  unfold Hid
  rw [gram_eq]
  show stmS C.L (gram C.L) a=_
  unfold stmS
  rw [if_neg (nw hx (by decide:(⟨#[103,105,118,101]⟩:ByteArray) ≠ ⟨#[118,97,114]⟩)),if_neg (nw hx (by decide:(⟨#[103,105,118,101]⟩:ByteArray) ≠ ⟨#[99,111,110,115,116]⟩)),if_neg (nw hx (by decide:(⟨#[103,105,118,101]⟩:ByteArray) ≠ ⟨#[95]⟩)),if_neg (nw hx (by decide:(⟨#[103,105,118,101]⟩:ByteArray) ≠ ⟨#[114,101,116,117,114,110]⟩)),if_pos hx]
 generalize gram C.L .stm a=r0 at E ⊢
 clear h HE0 HB0
 go_enter Tryz.func174,Tryz.ntmps174
 go_wp2_with (first
  | (go_at_call 119; refine (peek_any R0.out.ps).mono ?_; rw [hx]; rintro r w1 ⟨rfl,x1⟩; have R1:=Lib.hid (R0.out.ext x1); obtain ⟨hm1,c0,c1,hf1⟩:=R1.out.ps.facts; have R2:=Lib.hid (R1.out.to (R1.out.ps.step hab) hlt))
  | (go_at_call 217; refine (valued_any R2.out.ps 16 ⟨#[]⟩ tZ false (HE.out (a + 1) (by omega))).mono ?_; rintro r w7 (⟨x,c,cs,hg,rfl,hnv,hmv⟩ | ⟨c,hg,rfl,hmv⟩) <;> (have R7:=Lib.hid (R2.out.to hmv hlt)) <;> (have hz:=R2.out.lt))
  | ((with_reducible show wpList _ _ _ (Oper.mk none (.store 44 (.tmp 2) _) _ _ _ _ :: _) _ _); refine wpList_store_row rfl _ _ _ rfl _ rfl _ zSt _ R7.out.res rfl hnv.size hnv.one (by rw [show cs.size=10 from hnv.size]; exact HZ.out) ?_))
 ·refine bodyPost_ret (results_cell_row rfl _ _ w.heap.size _ cs (0,0) _ rfl (R7.out.res.row _) Tryz.underlying44 rfl (by rw [show cs.size=10 from hnv.size]; exact HZ.out)) rfl ?_
  exact R7.out.fin hlt hnv (fun i hi=>Nat.lt_of_lt_of_le hz hi) (E.out.trans hg.out)
 ·exact And.intro rfl (fin_bad R7.out.mv (E.out.trans hg.out))
theorem stm_for {C:Cx} {a:Nat} {w:World} (h:PS C a w) (HE0:∀ b,a < b → EX C b) (HB0:∀ b,a ≤ b → BL C b) (hx:tx C.L a=⟨#[102,111,114]⟩):Calls Tryz.prog 174 #[Pp C] w (Out C w 1 (gram C.L .stm a)):=by
 have HZ:Hid ((Tryz.prog.info? 44).map (·.size)=some 10):=by unfold Hid; kernel_rfl
 have hlt:=h.lt
 have R0:Hid (Rx C w 44 zSt a (w.alloc (.cells zSt 44))):=Rx.init h _ _
 have HE:=Lib.hid HE0
 have HB:=Lib.hid HB0
 have hab:a < C.L.length:=lt_tx hx (by decide)
 have hww:=wrap1 hab
 have E:Hid (gram C.L .stm a=loopS C.L (gram C.L) (a + 1) 8):=by
  unfold Hid
  rw [gram_eq]
  show stmS C.L (gram C.L) a=_
  unfold stmS
  rw [if_neg (nw hx (by decide:(⟨#[102,111,114]⟩:ByteArray) ≠ ⟨#[118,97,114]⟩)),if_neg (nw hx (by decide:(⟨#[102,111,114]⟩:ByteArray) ≠ ⟨#[99,111,110,115,116]⟩)),if_neg (nw hx (by decide:(⟨#[102,111,114]⟩:ByteArray) ≠ ⟨#[95]⟩)),if_neg (nw hx (by decide:(⟨#[102,111,114]⟩:ByteArray) ≠ ⟨#[114,101,116,117,114,110]⟩)),if_neg (nw hx (by decide:(⟨#[102,111,114]⟩:ByteArray) ≠ ⟨#[103,105,118,101]⟩)),if_neg (nw hx (by decide:(⟨#[102,111,114]⟩:ByteArray) ≠ ⟨#[105,102]⟩)),if_neg (nw hx (by decide:(⟨#[102,111,114]⟩:ByteArray) ≠ ⟨#[119,104,105,108,101]⟩)),if_pos hx]
 generalize gram C.L .stm a=r0 at E ⊢
 clear h HE0 HB0
 go_enter Tryz.func174,Tryz.ntmps174
 go_wp2_with (first
  | (go_at_call 119; refine (peek_any R0.out.ps).mono ?_; rw [hx]; rintro r w1 ⟨rfl,x1⟩; have R1:=Lib.hid (R0.out.ext x1); obtain ⟨hm1,c0,c1,hf1⟩:=R1.out.ps.facts; have R2:=Lib.hid (R1.out.to (R1.out.ps.step hab) hlt))
  | (go_at_call 220; refine (loop_any R1.out.ps 8 a (Or.inl ⟨rfl,hx,rfl⟩) HE.out (fun b hb=>HB.out b (Nat.le_of_lt hb))).mono ?_; rintro r w7 (⟨x,c,cs,hg,rfl,hnv,hmv⟩ | ⟨c,hg,rfl,hmv⟩) <;> (have R7:=Lib.hid (R1.out.to hmv hlt)) <;> (have hz:=R1.out.lt))
  | ((with_reducible show wpList _ _ _ (Oper.mk none (.store 44 (.tmp 2) _) _ _ _ _ :: _) _ _); refine wpList_store_row rfl _ _ _ rfl _ rfl _ zSt _ R7.out.res rfl hnv.size hnv.one (by rw [show cs.size=10 from hnv.size]; exact HZ.out) ?_))
 ·refine bodyPost_ret (results_cell_row rfl _ _ w.heap.size _ cs (0,0) _ rfl (R7.out.res.row _) Tryz.underlying44 rfl (by rw [show cs.size=10 from hnv.size]; exact HZ.out)) rfl ?_
  exact R7.out.fin hlt hnv (fun i hi=>Nat.lt_of_lt_of_le hz hi) (E.out.trans ((if_pos hx).symm.trans hg.out))
 ·exact And.intro rfl (fin_bad R7.out.mv (E.out.trans ((if_pos hx).symm.trans hg.out)))
theorem stm_inline {C:Cx} {a:Nat} {w:World} (h:PS C a w) (HE0:∀ b,a < b → EX C b) (HB0:∀ b,a ≤ b → BL C b) (hx:tx C.L a=⟨#[105,110,108,105,110,101]⟩):Calls Tryz.prog 174 #[Pp C] w (Out C w 1 (gram C.L .stm a)):=by
 have HZ:Hid ((Tryz.prog.info? 44).map (·.size)=some 10):=by unfold Hid; kernel_rfl
 have hlt:=h.lt
 have R0:Hid (Rx C w 44 zSt a (w.alloc (.cells zSt 44))):=Rx.init h _ _
 have HE:=Lib.hid HE0
 have HB:=Lib.hid HB0
 have hab:a < C.L.length:=lt_tx hx (by decide)
 have hww:=wrap1 hab
 have E:Hid (gram C.L .stm a=wnt C.L (a + 1) ⟨#[102,111,114]⟩ (loopS C.L (gram C.L) (a + 2) 9)):=by
  unfold Hid
  rw [gram_eq]
  show stmS C.L (gram C.L) a=_
  unfold stmS
  rw [if_neg (nw hx (by decide:(⟨#[105,110,108,105,110,101]⟩:ByteArray) ≠ ⟨#[118,97,114]⟩)),if_neg (nw hx (by decide:(⟨#[105,110,108,105,110,101]⟩:ByteArray) ≠ ⟨#[99,111,110,115,116]⟩)),if_neg (nw hx (by decide:(⟨#[105,110,108,105,110,101]⟩:ByteArray) ≠ ⟨#[95]⟩)),if_neg (nw hx (by decide:(⟨#[105,110,108,105,110,101]⟩:ByteArray) ≠ ⟨#[114,101,116,117,114,110]⟩)),if_neg (nw hx (by decide:(⟨#[105,110,108,105,110,101]⟩:ByteArray) ≠ ⟨#[103,105,118,101]⟩)),if_neg (nw hx (by decide:(⟨#[105,110,108,105,110,101]⟩:ByteArray) ≠ ⟨#[105,102]⟩)),if_neg (nw hx (by decide:(⟨#[105,110,108,105,110,101]⟩:ByteArray) ≠ ⟨#[119,104,105,108,101]⟩)),if_neg (nw hx (by decide:(⟨#[105,110,108,105,110,101]⟩:ByteArray) ≠ ⟨#[102,111,114]⟩)),if_pos hx]
 generalize gram C.L .stm a=r0 at E ⊢
 clear h HE0 HB0
 go_enter Tryz.func174,Tryz.ntmps174
 go_wp2_with (first
  | (go_at_call 119; refine (peek_any R0.out.ps).mono ?_; rw [hx]; rintro r w1 ⟨rfl,x1⟩; have R1:=Lib.hid (R0.out.ext x1); obtain ⟨hm1,c0,c1,hf1⟩:=R1.out.ps.facts; have R2:=Lib.hid (R1.out.to (R1.out.ps.step hab) hlt))
  | (go_at_call 220; refine (loop_any R1.out.ps 9 (a + 1) (Or.inr ⟨rfl,hx,rfl⟩) HE.out (fun b hb=>HB.out b (Nat.le_of_lt hb))).mono ?_; rintro r w7 (⟨x,c,cs,hg,rfl,hnv,hmv⟩ | ⟨c,hg,rfl,hmv⟩) <;> (have R7:=Lib.hid (R1.out.to hmv hlt)) <;> (have hz:=R1.out.lt))
  | ((with_reducible show wpList _ _ _ (Oper.mk none (.store 44 (.tmp 2) _) _ _ _ _ :: _) _ _); refine wpList_store_row rfl _ _ _ rfl _ rfl _ zSt _ R7.out.res rfl hnv.size hnv.one (by rw [show cs.size=10 from hnv.size]; exact HZ.out) ?_))
 ·refine bodyPost_ret (results_cell_row rfl _ _ w.heap.size _ cs (0,0) _ rfl (R7.out.res.row _) Tryz.underlying44 rfl (by rw [show cs.size=10 from hnv.size]; exact HZ.out)) rfl ?_
  exact R7.out.fin hlt hnv (fun i hi=>Nat.lt_of_lt_of_le hz hi) (E.out.trans hg.out)
 ·exact And.intro rfl (fin_bad R7.out.mv (E.out.trans hg.out))
theorem stm_switch {C:Cx} {a:Nat} {w:World} (h:PS C a w) (HE0:∀ b,a < b → EX C b) (HB0:∀ b,a ≤ b → BL C b) (hx:tx C.L a=⟨#[115,119,105,116,99,104]⟩):Calls Tryz.prog 174 #[Pp C] w (Out C w 1 (gram C.L .stm a)):=by
 have HZ:Hid ((Tryz.prog.info? 44).map (·.size)=some 10):=by unfold Hid; kernel_rfl
 have hlt:=h.lt
 have R0:Hid (Rx C w 44 zSt a (w.alloc (.cells zSt 44))):=Rx.init h _ _
 have HE:=Lib.hid HE0
 have HB:=Lib.hid HB0
 have hab:a < C.L.length:=lt_tx hx (by decide)
 have hww:=wrap1 hab
 have E:Hid (gram C.L .stm a=choiceS C.L (gram C.L) (a + 1)):=by
  unfold Hid
  rw [gram_eq]
  show stmS C.L (gram C.L) a=_
  unfold stmS
  rw [if_neg (nw hx (by decide:(⟨#[115,119,105,116,99,104]⟩:ByteArray) ≠ ⟨#[118,97,114]⟩)),if_neg (nw hx (by decide:(⟨#[115,119,105,116,99,104]⟩:ByteArray) ≠ ⟨#[99,111,110,115,116]⟩)),if_neg (nw hx (by decide:(⟨#[115,119,105,116,99,104]⟩:ByteArray) ≠ ⟨#[95]⟩)),if_neg (nw hx (by decide:(⟨#[115,119,105,116,99,104]⟩:ByteArray) ≠ ⟨#[114,101,116,117,114,110]⟩)),if_neg (nw hx (by decide:(⟨#[115,119,105,116,99,104]⟩:ByteArray) ≠ ⟨#[103,105,118,101]⟩)),if_neg (nw hx (by decide:(⟨#[115,119,105,116,99,104]⟩:ByteArray) ≠ ⟨#[105,102]⟩)),if_neg (nw hx (by decide:(⟨#[115,119,105,116,99,104]⟩:ByteArray) ≠ ⟨#[119,104,105,108,101]⟩)),if_neg (nw hx (by decide:(⟨#[115,119,105,116,99,104]⟩:ByteArray) ≠ ⟨#[102,111,114]⟩)),if_neg (nw hx (by decide:(⟨#[115,119,105,116,99,104]⟩:ByteArray) ≠ ⟨#[105,110,108,105,110,101]⟩)),if_pos hx]
 generalize gram C.L .stm a=r0 at E ⊢
 clear h HE0 HB0
 go_enter Tryz.func174,Tryz.ntmps174
 go_wp2_with (first
  | (go_at_call 119; refine (peek_any R0.out.ps).mono ?_; rw [hx]; rintro r w1 ⟨rfl,x1⟩; have R1:=Lib.hid (R0.out.ext x1); obtain ⟨hm1,c0,c1,hf1⟩:=R1.out.ps.facts; have R2:=Lib.hid (R1.out.to (R1.out.ps.step hab) hlt))
  | (go_at_call 221; refine (choice_any R1.out.ps hx HE.out (fun b hb=>HB.out b (Nat.le_of_lt hb))).mono ?_; rintro r w7 (⟨x,c,cs,hg,rfl,hnv,hmv⟩ | ⟨c,hg,rfl,hmv⟩) <;> (have R7:=Lib.hid (R1.out.to hmv hlt)) <;> (have hz:=R1.out.lt))
  | ((with_reducible show wpList _ _ _ (Oper.mk none (.store 44 (.tmp 2) _) _ _ _ _ :: _) _ _); refine wpList_store_row rfl _ _ _ rfl _ rfl _ zSt _ R7.out.res rfl hnv.size hnv.one (by rw [show cs.size=10 from hnv.size]; exact HZ.out) ?_))
 ·refine bodyPost_ret (results_cell_row rfl _ _ w.heap.size _ cs (0,0) _ rfl (R7.out.res.row _) Tryz.underlying44 rfl (by rw [show cs.size=10 from hnv.size]; exact HZ.out)) rfl ?_
  exact R7.out.fin hlt hnv (fun i hi=>Nat.lt_of_lt_of_le hz hi) (E.out.trans hg.out)
 ·exact And.intro rfl (fin_bad R7.out.mv (E.out.trans hg.out))
theorem stm_block {C:Cx} {a:Nat} {w:World} (h:PS C a w) (HE0:∀ b,a < b → EX C b) (HB0:∀ b,a ≤ b → BL C b) (hx:tx C.L a=⟨#[123]⟩):Calls Tryz.prog 174 #[Pp C] w (Out C w 1 (gram C.L .stm a)):=by
 have HZ:Hid ((Tryz.prog.info? 44).map (·.size)=some 10):=by unfold Hid; kernel_rfl
 have hlt:=h.lt
 have R0:Hid (Rx C w 44 zSt a (w.alloc (.cells zSt 44))):=Rx.init h _ _
 have HE:=Lib.hid HE0
 have HB:=Lib.hid HB0
 have hab:a < C.L.length:=lt_tx hx (by decide)
 have hww:=wrap1 hab
 have E:Hid (gram C.L .stm a=thn (gram C.L .blk a) fun y c=>some (.ok (stN 11 ⟨#[]⟩ tZ .nil (.bl y .nil) .nil) c)):=by
  unfold Hid
  rw [gram_eq]
  show stmS C.L (gram C.L) a=_
  unfold stmS
  rw [if_neg (nw hx (by decide:(⟨#[123]⟩:ByteArray) ≠ ⟨#[118,97,114]⟩)),if_neg (nw hx (by decide:(⟨#[123]⟩:ByteArray) ≠ ⟨#[99,111,110,115,116]⟩)),if_neg (nw hx (by decide:(⟨#[123]⟩:ByteArray) ≠ ⟨#[95]⟩)),if_neg (nw hx (by decide:(⟨#[123]⟩:ByteArray) ≠ ⟨#[114,101,116,117,114,110]⟩)),if_neg (nw hx (by decide:(⟨#[123]⟩:ByteArray) ≠ ⟨#[103,105,118,101]⟩)),if_neg (nw hx (by decide:(⟨#[123]⟩:ByteArray) ≠ ⟨#[105,102]⟩)),if_neg (nw hx (by decide:(⟨#[123]⟩:ByteArray) ≠ ⟨#[119,104,105,108,101]⟩)),if_neg (nw hx (by decide:(⟨#[123]⟩:ByteArray) ≠ ⟨#[102,111,114]⟩)),if_neg (nw hx (by decide:(⟨#[123]⟩:ByteArray) ≠ ⟨#[105,110,108,105,110,101]⟩)),if_neg (nw hx (by decide:(⟨#[123]⟩:ByteArray) ≠ ⟨#[115,119,105,116,99,104]⟩)),if_pos hx]
 generalize gram C.L .stm a=r0 at E ⊢
 clear h HE0 HB0
 go_enter Tryz.func174,Tryz.ntmps174
 go_wp2_with (first
  | (go_at_call 119; refine (peek_any R0.out.ps).mono ?_; rw [hx]; rintro r w1 ⟨rfl,x1⟩; have R1:=Lib.hid (R0.out.ext x1); obtain ⟨hm1,c0,c1,hf1⟩:=R1.out.ps.facts; have R2:=Lib.hid (R1.out.to (R1.out.ps.step hab) hlt))
  | (go_at_call 122; refine (HB.out a (Nat.le_refl _) _ R1.out.ps).mono ?_; rintro r w7 (⟨z,d,vb,hgz,rfl,hsb,m7⟩ | ⟨d,hgz,rfl,m7⟩) <;> (have R7:=Lib.hid (R1.out.to m7 hlt)) <;> (have hz:=R1.out.lt))
  | ((with_reducible show wpList _ _ _ (Oper.mk (some 108) (.buildSlice _ _ _) _ _ _ _ :: _) _ _)
     obtain ⟨Ab,nb,cb,hv,_⟩:=Sl.shape hsb
     refine wpList_plain rfl fun _ hK=>wp_bsB _ rfl Ab nb cb hv (hK _ _ ?_)
     have F1:=Lib.hid (R7.out.blk 11 hv hsb (fun i hi=>Nat.lt_of_lt_of_le hz hi)))
  | ((with_reducible show wpList _ _ _ (Oper.mk none (.store 44 (.tmp 2) _) _ _ _ _ :: _) _ _); refine wpList_store_row rfl _ _ _ rfl _ rfl _ zSt _ F1.out.1.res rfl rfl (stC_one (op:=11) (nm:=⟨#[]⟩) (ty:=tZ) (a:=sl0) (b:=.slice (some ⟨w7.heap.size,0,none⟩) 1 1) (c:=sl0) rfl rfl rfl) HZ.out ?_))
 ·refine bodyPost_ret (results_cell_row rfl _ _ w.heap.size _ _ (0,0) _ rfl (F1.out.1.res.row _) Tryz.underlying44 rfl HZ.out) rfl ?_
  exact F1.out.1.fin hlt F1.out.2 (fun i hi=>hi) (E.out.trans (thn_ok hgz.out))
 ·exact And.intro rfl (fin_bad R7.out.mv (E.out.trans (thn_bad hgz.out)))
theorem stm_break {C:Cx} {a:Nat} {w:World} (h:PS C a w) (HE0:∀ b,a < b → EX C b) (HB0:∀ b,a ≤ b → BL C b) (hx:tx C.L a=⟨#[98,114,101,97,107]⟩):Calls Tryz.prog 174 #[Pp C] w (Out C w 1 (gram C.L .stm a)):=by
 have HZ:Hid ((Tryz.prog.info? 44).map (·.size)=some 10):=by unfold Hid; kernel_rfl
 have hlt:=h.lt
 have R0:Hid (Rx C w 44 zSt a (w.alloc (.cells zSt 44))):=Rx.init h _ _
 have HE:=Lib.hid HE0
 have HB:=Lib.hid HB0
 have hab:a < C.L.length:=lt_tx hx (by decide)
 have hww:=wrap1 hab
 have E:Hid (gram C.L .stm a=wnt C.L (a + 1) ⟨#[59]⟩ (some (.ok (stN 14 ⟨#[]⟩ tZ .nil .nil .nil) (a + 2)))):=by
  unfold Hid
  rw [gram_eq]
  show stmS C.L (gram C.L) a=_
  unfold stmS
  rw [if_neg (nw hx (by decide:(⟨#[98,114,101,97,107]⟩:ByteArray) ≠ ⟨#[118,97,114]⟩)),if_neg (nw hx (by decide:(⟨#[98,114,101,97,107]⟩:ByteArray) ≠ ⟨#[99,111,110,115,116]⟩)),if_neg (nw hx (by decide:(⟨#[98,114,101,97,107]⟩:ByteArray) ≠ ⟨#[95]⟩)),if_neg (nw hx (by decide:(⟨#[98,114,101,97,107]⟩:ByteArray) ≠ ⟨#[114,101,116,117,114,110]⟩)),if_neg (nw hx (by decide:(⟨#[98,114,101,97,107]⟩:ByteArray) ≠ ⟨#[103,105,118,101]⟩)),if_neg (nw hx (by decide:(⟨#[98,114,101,97,107]⟩:ByteArray) ≠ ⟨#[105,102]⟩)),if_neg (nw hx (by decide:(⟨#[98,114,101,97,107]⟩:ByteArray) ≠ ⟨#[119,104,105,108,101]⟩)),if_neg (nw hx (by decide:(⟨#[98,114,101,97,107]⟩:ByteArray) ≠ ⟨#[102,111,114]⟩)),if_neg (nw hx (by decide:(⟨#[98,114,101,97,107]⟩:ByteArray) ≠ ⟨#[105,110,108,105,110,101]⟩)),if_neg (nw hx (by decide:(⟨#[98,114,101,97,107]⟩:ByteArray) ≠ ⟨#[115,119,105,116,99,104]⟩)),if_neg (nw hx (by decide:(⟨#[98,114,101,97,107]⟩:ByteArray) ≠ ⟨#[123]⟩)),if_neg (nw hx (by decide:(⟨#[98,114,101,97,107]⟩:ByteArray) ≠ ⟨#[100,101,102,101,114]⟩)),if_neg (nw hx (by decide:(⟨#[98,114,101,97,107]⟩:ByteArray) ≠ ⟨#[101,114,114,100,101,102,101,114]⟩)),if_pos hx]
 generalize gram C.L .stm a=r0 at E ⊢
 clear h HE0 HB0
 go_enter Tryz.func174,Tryz.ntmps174
 go_wp2_with (first
  | (go_at_call 119; refine (peek_any R0.out.ps).mono ?_; rw [hx]; rintro r w1 ⟨rfl,x1⟩; have R1:=Lib.hid (R0.out.ext x1); obtain ⟨hm1,c0,c1,hf1⟩:=R1.out.ps.facts; have R2:=Lib.hid (R1.out.to (R1.out.ps.step hab) hlt))
  | (go_at_call 115; refine (want_any R2.out.ps ⟨#[59]⟩ (by decide)).mono ?_; rintro r w5 (⟨h5,rfl,m5⟩ | ⟨h5,rfl,m5⟩) <;> (have R5:=Lib.hid (R2.out.to m5 hlt)))
  | (go_at_call 222; refine (words_any _).mono ?_; rintro r w7 ⟨rfl,hmp,x7⟩; have R7:=Lib.hid (R5.out.ext x7); have hrun:=run_wd hmp ⟨#[98,114,101,97,107]⟩ 14 rfl (by decide))
  | ((with_reducible show wpList _ _ _ (Oper.mk none (.store 44 (.tmp 2) _) _ _ _ _ :: _) _ _); refine wpList_store_row rfl _ _ _ rfl _ rfl _ zSt _ R7.out.res rfl rfl (stC_sl0 14 ⟨#[]⟩ tZ) HZ.out ?_))
 ·refine bodyPost_ret (results_cell_row rfl _ _ w.heap.size _ (stC 14 ⟨#[]⟩ tZ sl0 sl0 sl0) (0,0) _ rfl (R7.out.res.row _) Tryz.underlying44 rfl HZ.out) rfl ?_
  exact R7.out.fin hlt (nv_st0 (V:=vp (w.heap.size < ·) w7)) (fun i hi=>hi) (E.out.trans (if_pos h5))
 ·exact And.intro rfl (fin_bad R5.out.mv (E.out.trans (if_neg h5)))
theorem stm_continue {C:Cx} {a:Nat} {w:World} (h:PS C a w) (HE0:∀ b,a < b → EX C b) (HB0:∀ b,a ≤ b → BL C b) (hx:tx C.L a=⟨#[99,111,110,116,105,110,117,101]⟩):Calls Tryz.prog 174 #[Pp C] w (Out C w 1 (gram C.L .stm a)):=by
 have HZ:Hid ((Tryz.prog.info? 44).map (·.size)=some 10):=by unfold Hid; kernel_rfl
 have hlt:=h.lt
 have R0:Hid (Rx C w 44 zSt a (w.alloc (.cells zSt 44))):=Rx.init h _ _
 have HE:=Lib.hid HE0
 have HB:=Lib.hid HB0
 have hab:a < C.L.length:=lt_tx hx (by decide)
 have hww:=wrap1 hab
 have E:Hid (gram C.L .stm a=wnt C.L (a + 1) ⟨#[59]⟩ (some (.ok (stN 15 ⟨#[]⟩ tZ .nil .nil .nil) (a + 2)))):=by
  unfold Hid
  rw [gram_eq]
  show stmS C.L (gram C.L) a=_
  unfold stmS
  rw [if_neg (nw hx (by decide:(⟨#[99,111,110,116,105,110,117,101]⟩:ByteArray) ≠ ⟨#[118,97,114]⟩)),if_neg (nw hx (by decide:(⟨#[99,111,110,116,105,110,117,101]⟩:ByteArray) ≠ ⟨#[99,111,110,115,116]⟩)),if_neg (nw hx (by decide:(⟨#[99,111,110,116,105,110,117,101]⟩:ByteArray) ≠ ⟨#[95]⟩)),if_neg (nw hx (by decide:(⟨#[99,111,110,116,105,110,117,101]⟩:ByteArray) ≠ ⟨#[114,101,116,117,114,110]⟩)),if_neg (nw hx (by decide:(⟨#[99,111,110,116,105,110,117,101]⟩:ByteArray) ≠ ⟨#[103,105,118,101]⟩)),if_neg (nw hx (by decide:(⟨#[99,111,110,116,105,110,117,101]⟩:ByteArray) ≠ ⟨#[105,102]⟩)),if_neg (nw hx (by decide:(⟨#[99,111,110,116,105,110,117,101]⟩:ByteArray) ≠ ⟨#[119,104,105,108,101]⟩)),if_neg (nw hx (by decide:(⟨#[99,111,110,116,105,110,117,101]⟩:ByteArray) ≠ ⟨#[102,111,114]⟩)),if_neg (nw hx (by decide:(⟨#[99,111,110,116,105,110,117,101]⟩:ByteArray) ≠ ⟨#[105,110,108,105,110,101]⟩)),if_neg (nw hx (by decide:(⟨#[99,111,110,116,105,110,117,101]⟩:ByteArray) ≠ ⟨#[115,119,105,116,99,104]⟩)),if_neg (nw hx (by decide:(⟨#[99,111,110,116,105,110,117,101]⟩:ByteArray) ≠ ⟨#[123]⟩)),if_neg (nw hx (by decide:(⟨#[99,111,110,116,105,110,117,101]⟩:ByteArray) ≠ ⟨#[100,101,102,101,114]⟩)),if_neg (nw hx (by decide:(⟨#[99,111,110,116,105,110,117,101]⟩:ByteArray) ≠ ⟨#[101,114,114,100,101,102,101,114]⟩)),if_neg (nw hx (by decide:(⟨#[99,111,110,116,105,110,117,101]⟩:ByteArray) ≠ ⟨#[98,114,101,97,107]⟩)),if_pos hx]
 generalize gram C.L .stm a=r0 at E ⊢
 clear h HE0 HB0
 go_enter Tryz.func174,Tryz.ntmps174
 go_wp2_with (first
  | (go_at_call 119; refine (peek_any R0.out.ps).mono ?_; rw [hx]; rintro r w1 ⟨rfl,x1⟩; have R1:=Lib.hid (R0.out.ext x1); obtain ⟨hm1,c0,c1,hf1⟩:=R1.out.ps.facts; have R2:=Lib.hid (R1.out.to (R1.out.ps.step hab) hlt))
  | (go_at_call 115; refine (want_any R2.out.ps ⟨#[59]⟩ (by decide)).mono ?_; rintro r w5 (⟨h5,rfl,m5⟩ | ⟨h5,rfl,m5⟩) <;> (have R5:=Lib.hid (R2.out.to m5 hlt)))
  | (go_at_call 222; refine (words_any _).mono ?_; rintro r w7 ⟨rfl,hmp,x7⟩; have R7:=Lib.hid (R5.out.ext x7); have hrun:=run_wd hmp ⟨#[99,111,110,116,105,110,117,101]⟩ 15 rfl (by decide))
  | ((with_reducible show wpList _ _ _ (Oper.mk none (.store 44 (.tmp 2) _) _ _ _ _ :: _) _ _); refine wpList_store_row rfl _ _ _ rfl _ rfl _ zSt _ R7.out.res rfl rfl (stC_sl0 15 ⟨#[]⟩ tZ) HZ.out ?_))
 ·refine bodyPost_ret (results_cell_row rfl _ _ w.heap.size _ (stC 15 ⟨#[]⟩ tZ sl0 sl0 sl0) (0,0) _ rfl (R7.out.res.row _) Tryz.underlying44 rfl HZ.out) rfl ?_
  exact R7.out.fin hlt (nv_st0 (V:=vp (w.heap.size < ·) w7)) (fun i hi=>hi) (E.out.trans (if_pos h5))
 ·exact And.intro rfl (fin_bad R5.out.mv (E.out.trans (if_neg h5)))
theorem stm_unreachable {C:Cx} {a:Nat} {w:World} (h:PS C a w) (HE0:∀ b,a < b → EX C b) (HB0:∀ b,a ≤ b → BL C b) (hx:tx C.L a=⟨#[117,110,114,101,97,99,104,97,98,108,101]⟩):Calls Tryz.prog 174 #[Pp C] w (Out C w 1 (gram C.L .stm a)):=by
 have HZ:Hid ((Tryz.prog.info? 44).map (·.size)=some 10):=by unfold Hid; kernel_rfl
 have hlt:=h.lt
 have R0:Hid (Rx C w 44 zSt a (w.alloc (.cells zSt 44))):=Rx.init h _ _
 have HE:=Lib.hid HE0
 have HB:=Lib.hid HB0
 have hab:a < C.L.length:=lt_tx hx (by decide)
 have hww:=wrap1 hab
 have E:Hid (gram C.L .stm a=wnt C.L (a + 1) ⟨#[59]⟩ (some (.ok (stN 17 ⟨#[]⟩ tZ .nil .nil .nil) (a + 2)))):=by
  unfold Hid
  rw [gram_eq]
  show stmS C.L (gram C.L) a=_
  unfold stmS
  rw [if_neg (nw hx (by decide:(⟨#[117,110,114,101,97,99,104,97,98,108,101]⟩:ByteArray) ≠ ⟨#[118,97,114]⟩)),if_neg (nw hx (by decide:(⟨#[117,110,114,101,97,99,104,97,98,108,101]⟩:ByteArray) ≠ ⟨#[99,111,110,115,116]⟩)),if_neg (nw hx (by decide:(⟨#[117,110,114,101,97,99,104,97,98,108,101]⟩:ByteArray) ≠ ⟨#[95]⟩)),if_neg (nw hx (by decide:(⟨#[117,110,114,101,97,99,104,97,98,108,101]⟩:ByteArray) ≠ ⟨#[114,101,116,117,114,110]⟩)),if_neg (nw hx (by decide:(⟨#[117,110,114,101,97,99,104,97,98,108,101]⟩:ByteArray) ≠ ⟨#[103,105,118,101]⟩)),if_neg (nw hx (by decide:(⟨#[117,110,114,101,97,99,104,97,98,108,101]⟩:ByteArray) ≠ ⟨#[105,102]⟩)),if_neg (nw hx (by decide:(⟨#[117,110,114,101,97,99,104,97,98,108,101]⟩:ByteArray) ≠ ⟨#[119,104,105,108,101]⟩)),if_neg (nw hx (by decide:(⟨#[117,110,114,101,97,99,104,97,98,108,101]⟩:ByteArray) ≠ ⟨#[102,111,114]⟩)),if_neg (nw hx (by decide:(⟨#[117,110,114,101,97,99,104,97,98,108,101]⟩:ByteArray) ≠ ⟨#[105,110,108,105,110,101]⟩)),if_neg (nw hx (by decide:(⟨#[117,110,114,101,97,99,104,97,98,108,101]⟩:ByteArray) ≠ ⟨#[115,119,105,116,99,104]⟩)),if_neg (nw hx (by decide:(⟨#[117,110,114,101,97,99,104,97,98,108,101]⟩:ByteArray) ≠ ⟨#[123]⟩)),if_neg (nw hx (by decide:(⟨#[117,110,114,101,97,99,104,97,98,108,101]⟩:ByteArray) ≠ ⟨#[100,101,102,101,114]⟩)),if_neg (nw hx (by decide:(⟨#[117,110,114,101,97,99,104,97,98,108,101]⟩:ByteArray) ≠ ⟨#[101,114,114,100,101,102,101,114]⟩)),if_neg (nw hx (by decide:(⟨#[117,110,114,101,97,99,104,97,98,108,101]⟩:ByteArray) ≠ ⟨#[98,114,101,97,107]⟩)),if_neg (nw hx (by decide:(⟨#[117,110,114,101,97,99,104,97,98,108,101]⟩:ByteArray) ≠ ⟨#[99,111,110,116,105,110,117,101]⟩)),if_pos hx]
 generalize gram C.L .stm a=r0 at E ⊢
 clear h HE0 HB0
 go_enter Tryz.func174,Tryz.ntmps174
 go_wp2_with (first
  | (go_at_call 119; refine (peek_any R0.out.ps).mono ?_; rw [hx]; rintro r w1 ⟨rfl,x1⟩; have R1:=Lib.hid (R0.out.ext x1); obtain ⟨hm1,c0,c1,hf1⟩:=R1.out.ps.facts; have R2:=Lib.hid (R1.out.to (R1.out.ps.step hab) hlt))
  | (go_at_call 115; refine (want_any R2.out.ps ⟨#[59]⟩ (by decide)).mono ?_; rintro r w5 (⟨h5,rfl,m5⟩ | ⟨h5,rfl,m5⟩) <;> (have R5:=Lib.hid (R2.out.to m5 hlt)))
  | (go_at_call 222; refine (words_any _).mono ?_; rintro r w7 ⟨rfl,hmp,x7⟩; have R7:=Lib.hid (R5.out.ext x7); have hrun:=run_wd hmp ⟨#[117,110,114,101,97,99,104,97,98,108,101]⟩ 17 rfl (by decide))
  | ((with_reducible show wpList _ _ _ (Oper.mk none (.store 44 (.tmp 2) _) _ _ _ _ :: _) _ _); refine wpList_store_row rfl _ _ _ rfl _ rfl _ zSt _ R7.out.res rfl rfl (stC_sl0 17 ⟨#[]⟩ tZ) HZ.out ?_))
 ·refine bodyPost_ret (results_cell_row rfl _ _ w.heap.size _ (stC 17 ⟨#[]⟩ tZ sl0 sl0 sl0) (0,0) _ rfl (R7.out.res.row _) Tryz.underlying44 rfl HZ.out) rfl ?_
  exact R7.out.fin hlt (nv_st0 (V:=vp (w.heap.size < ·) w7)) (fun i hi=>hi) (E.out.trans (if_pos h5))
 ·exact And.intro rfl (fin_bad R5.out.mv (E.out.trans (if_neg h5)))
end Go.Proofs.YtmmnhbhnjiajhaaGreatDoor.c
