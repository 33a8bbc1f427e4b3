/- defer, errdefer; an assignment; all statements. -/
import Derived.Test.YtmmnhbhnjiajhaaGreatDoorSUk
namespace Go.Proofs.YtmmnhbhnjiajhaaGreatDoor.c
open Go.RowKit
set_option linter.unusedVariables false
set_option maxRecDepth 100000
set_option maxHeartbeats 3200000
set_option linter.unusedSimpArgs false
section
variable {P:Program} {ops:Array Oper} {Q:Exit → Act → World → Prop} {md:Region.Mode} {fuel:Nat} {listed:Array Bool} {a:Act} {w:World}
theorem tf_call (i:Nat) {o:Oper} {K:FuncId} {args:Array Value} {Q2:Ending → World → Prop} (hi:ops[i]?=some o) (hgd:o.guard=none) (he:(execOp a.eval o).run P w=.ok (.enter K args) w) (hc:Calls P K args w Q2)
  (hr:∀ v w',Q2 (.returned v) w' → wpAny P md ops Q fuel (listed.setIfInBounds i true) (a.put o.dst v) w') (hp:∀ c w',Q2 (.panicked c) w' → Q (.panic c) a w') (ho:∀ w',¬ Q2 .outgrown w') (hre:(Region.ready md ops listed == [i])=true:=by kernel_rfl):wpAny P md ops Q (fuel + 1) listed a w:=by
 have hre:=beq_iff_eq.1 hre
 refine ⟨fun h0=>(by rw [hre] at h0; cases h0),fun j hj=>?_⟩
 rw [hre,List.mem_singleton] at hj
 subst hj
 unfold Go.wpOp
 have hw:Region.wanted o (yielded ops a.tmps)=true:=by simp [Region.wanted,hgd]
 simp only [hi,hw,if_true,Oper.wp,he,Oper.upon]
 refine .inl (hc.mono fun e w' h=>?_)
 cases e with
 | returned v=>exact hr v w' h
 | panicked c=>exact hp c w' h
 | outgrown=>exact (ho w' h).elim
end
theorem exec_wd {a:Act} {w:World} {o:Oper} {m x:Operand} {g:Nat} {s:ByteArray} {n:Int} (ho:o.op=.lookup 254 m x false) (hm:a.eval m=.map (some g)) (hx:a.eval x=.string s) (h:MapAt w 9 g 5 (strV wordT)) (hV:strV wordT (.string s)=some (.int .i64 n)) (hs:s.size ≤ 4000):(execOp a.eval o).run Tryz.prog w=.ok (.value (.int .i64 n)) w:=by
 have hr:=run_wd h s n hV hs
 simp [execOp,ho,hm,hx,hr,Result.andThen]
theorem stm_defer {C:Cx} {a:Nat} {w:World} (h:PS C a w) (HE0:∀ b,a < b → EX C b) (HB0:∀ b,a ≤ b → BL C b) (hx:tx C.L a=⟨#[100,101,102,101,114]⟩):Calls Tryz.prog 174 #[Pp C] w (Out C w 1 (gram C.L .stm a)):=by
 have HZ:Hid ((Tryz.prog.info? 44).map (·.size)=some 10):=by unfold Hid; kernel_rfl
 have hlt:=h.lt
 have R0:Hid (Rx C w 44 zSt a (w.alloc (.cells zSt 44))):=Rx.init h _ _
 have HE:=Lib.hid HE0
 have HB:=Lib.hid HB0
 have hab:a < C.L.length:=lt_tx hx (by decide)
 have hww:=wrap1 hab
 have E:Hid (gram C.L .stm a=thn (gram C.L .blk (a + 1)) fun y c=>some (.ok (stN 12 ⟨#[]⟩ tZ .nil (.bl y .nil) .nil) c)):=by
  unfold Hid
  rw [gram_eq]
  show stmS C.L (gram C.L) a=_
  unfold stmS
  rw [if_neg (nw hx (by decide:(⟨#[100,101,102,101,114]⟩:ByteArray) ≠ ⟨#[118,97,114]⟩)),if_neg (nw hx (by decide:(⟨#[100,101,102,101,114]⟩:ByteArray) ≠ ⟨#[99,111,110,115,116]⟩)),if_neg (nw hx (by decide:(⟨#[100,101,102,101,114]⟩:ByteArray) ≠ ⟨#[95]⟩)),if_neg (nw hx (by decide:(⟨#[100,101,102,101,114]⟩:ByteArray) ≠ ⟨#[114,101,116,117,114,110]⟩)),if_neg (nw hx (by decide:(⟨#[100,101,102,101,114]⟩:ByteArray) ≠ ⟨#[103,105,118,101]⟩)),if_neg (nw hx (by decide:(⟨#[100,101,102,101,114]⟩:ByteArray) ≠ ⟨#[105,102]⟩)),if_neg (nw hx (by decide:(⟨#[100,101,102,101,114]⟩:ByteArray) ≠ ⟨#[119,104,105,108,101]⟩)),if_neg (nw hx (by decide:(⟨#[100,101,102,101,114]⟩:ByteArray) ≠ ⟨#[102,111,114]⟩)),if_neg (nw hx (by decide:(⟨#[100,101,102,101,114]⟩:ByteArray) ≠ ⟨#[105,110,108,105,110,101]⟩)),if_neg (nw hx (by decide:(⟨#[100,101,102,101,114]⟩:ByteArray) ≠ ⟨#[115,119,105,116,99,104]⟩)),if_neg (nw hx (by decide:(⟨#[100,101,102,101,114]⟩:ByteArray) ≠ ⟨#[123]⟩)),if_pos hx]
 generalize gram C.L .stm a=r0 at E ⊢
 clear h HE0 HB0
 go_enter Tryz.func174,Tryz.ntmps174
 go_upto_region 36 with (first
  | (go_at_call 119; refine (peek_any R0.out.ps).mono ?_; rw [hx]; rintro r w1 ⟨rfl,x1⟩; have R1:=Lib.hid (R0.out.ext x1); obtain ⟨hm1,c0,c1,hf1⟩:=R1.out.ps.facts; have R2:=Lib.hid (R1.out.to (R1.out.ps.step hab) hlt))
  | fail)
 have G2:=Lib.hid (R2.out.ext (Ext.refl _).drew)
 clear R1 R2 R0
 obtain ⟨w2,hw2⟩:∃ w2,(w1.setCell ⟨C.m,1,none⟩ (.int .i64 ((a:Int) + 1))).drew=w2:=⟨_,rfl⟩
 refine rg_begin #[false,false,false,false,false,false,false,false] rfl (by kernel_rfl) (fun _ _ _ _ _ h=>h) (fun HQ=>?_)
 rw [hw2] at G2 ⊢
 (refine ta 1 123 rfl HQ ?_; try simp only [putL,List.set])
 (refine ta 3 125 rfl HQ ?_; try simp only [putL,List.set])
 refine tf_call 0 rfl rfl (by go_simp) (words_any w2) ?_ ?_ ?_
 ·rintro rv w3 ⟨e,hmp,x3⟩
  cases e
  have G3:=Lib.hid (G2.out.ext x3)
  have HM:=Lib.hid hmp
  show wpAny _ _ _ _ _ _ (Act.put _ (some 122) _) _
  simp only [putL,List.set]
  refine th 2 124 2 [4,5,6,7] [⟨some 126,_,_,_,_,_⟩,⟨some 127,_,_,_,_,_⟩,⟨some 128,_,_,_,_,_⟩,⟨none,_,_,_,_,_⟩] (fun w'=>MapAt w' 9 w2.heap.size 5 (strV wordT)) rfl rfl rfl HQ HM.out (fun w' hB=>exec_wd (n:=12) (s:=⟨#[100,101,102,101,114]⟩) rfl rfl rfl hB rfl (by decide)) ?_
  simp only [putL,List.set]
  refine ly_call rfl (by go_simp) (HB.out (a + 1) (by omega) _ G3.out.ps) ?_ ?_ ?_
  ·rintro rv w6 (⟨z2,e6,vb2,hg6,e,hsb,m6⟩ | ⟨e6,hg6,e,m6⟩)
   ·cases e
    have G6:=Lib.hid (G3.out.to m6 hlt)
    have hne:w2.heap.size ≠ C.m:=by have:=G2.out.ps.lt; omega
    have hm6:=hmp.keep (m6.px.block _ hmp.lt hne)
    refine ⟨hm6,?_⟩
    simp only [putL,List.set]
    obtain ⟨Ab2,nb2,cb2,hv2,_⟩:=Sl.shape hsb
    have hz:=G3.out.lt
    refine ly_op rfl (wp_bsB _ rfl Ab2 nb2 cb2 hv2 ?_)
    refine ⟨hm6.ext ((Ext.refl w6).alloc _),?_⟩
    show wpList _ _ _ _ _ _
    simp only [putL,List.set]
    have F1:=Lib.hid (G6.out.blk 12 hv2 hsb (fun i hi=>Nat.lt_of_lt_of_le hz hi))
    clear hm6 hmp HM G6 G3 G2 hsb
    go_wp2_with (first
     | ((with_reducible show wpList _ _ _ (Oper.mk none (.store 44 (.tmp 2) _) _ _ _ _ :: _) _ _); refine wpList_store_row rfl _ _ _ rfl _ rfl _ zSt _ F1.out.1.res rfl rfl (stC_one (op:=12) (nm:=⟨#[]⟩) (ty:=tZ) (a:=sl0) (b:=.slice (some ⟨w6.heap.size,0,none⟩) 1 1) (c:=sl0) rfl rfl rfl) HZ.out ?_))
    refine bodyPost_ret (results_cell_row rfl _ _ w.heap.size _ _ (0,0) _ rfl (F1.out.1.res.row _) Tryz.underlying44 rfl HZ.out) rfl ?_
    exact F1.out.1.fin hlt F1.out.2 (fun i hi=>hi) (E.out.trans (thn_ok hg6.out))
   ·cases e
  ·rintro c w6 (⟨z2,e6,vb2,hg6,e,hsb,m6⟩ | ⟨e6,hg6,e,m6⟩)
   ·cases e
   ·cases e
    exact And.intro rfl (fin_bad (G3.out.to m6 hlt).mv (E.out.trans (thn_bad hg6.out)))
  ·rintro w6 (⟨z2,e6,vb2,hg6,e,hsb,m6⟩ | ⟨e6,hg6,e,m6⟩) <;> cases e
 ·rintro c w6 ⟨e,_⟩; cases e
 ·rintro w6 ⟨e,_⟩; cases e
theorem stm_errdefer {C:Cx} {a:Nat} {w:World} (h:PS C a w) (HE0:∀ b,a < b → EX C b) (HB0:∀ b,a ≤ b → BL C b) (hx:tx C.L a=⟨#[101,114,114,100,101,102,101,114]⟩):Calls Tryz.prog 174 #[Pp C] w (Out C w 1 (gram C.L .stm a)):=by
 have HZ:Hid ((Tryz.prog.info? 44).map (·.size)=some 10):=by unfold Hid; kernel_rfl
 have hlt:=h.lt
 have R0:Hid (Rx C w 44 zSt a (w.alloc (.cells zSt 44))):=Rx.init h _ _
 have HE:=Lib.hid HE0
 have HB:=Lib.hid HB0
 have hab:a < C.L.length:=lt_tx hx (by decide)
 have hww:=wrap1 hab
 have E:Hid (gram C.L .stm a=thn (gram C.L .blk (a + 1)) fun y c=>some (.ok (stN 13 ⟨#[]⟩ tZ .nil (.bl y .nil) .nil) c)):=by
  unfold Hid
  rw [gram_eq]
  show stmS C.L (gram C.L) a=_
  unfold stmS
  rw [if_neg (nw hx (by decide:(⟨#[101,114,114,100,101,102,101,114]⟩:ByteArray) ≠ ⟨#[118,97,114]⟩)),if_neg (nw hx (by decide:(⟨#[101,114,114,100,101,102,101,114]⟩:ByteArray) ≠ ⟨#[99,111,110,115,116]⟩)),if_neg (nw hx (by decide:(⟨#[101,114,114,100,101,102,101,114]⟩:ByteArray) ≠ ⟨#[95]⟩)),if_neg (nw hx (by decide:(⟨#[101,114,114,100,101,102,101,114]⟩:ByteArray) ≠ ⟨#[114,101,116,117,114,110]⟩)),if_neg (nw hx (by decide:(⟨#[101,114,114,100,101,102,101,114]⟩:ByteArray) ≠ ⟨#[103,105,118,101]⟩)),if_neg (nw hx (by decide:(⟨#[101,114,114,100,101,102,101,114]⟩:ByteArray) ≠ ⟨#[105,102]⟩)),if_neg (nw hx (by decide:(⟨#[101,114,114,100,101,102,101,114]⟩:ByteArray) ≠ ⟨#[119,104,105,108,101]⟩)),if_neg (nw hx (by decide:(⟨#[101,114,114,100,101,102,101,114]⟩:ByteArray) ≠ ⟨#[102,111,114]⟩)),if_neg (nw hx (by decide:(⟨#[101,114,114,100,101,102,101,114]⟩:ByteArray) ≠ ⟨#[105,110,108,105,110,101]⟩)),if_neg (nw hx (by decide:(⟨#[101,114,114,100,101,102,101,114]⟩:ByteArray) ≠ ⟨#[115,119,105,116,99,104]⟩)),if_neg (nw hx (by decide:(⟨#[101,114,114,100,101,102,101,114]⟩:ByteArray) ≠ ⟨#[123]⟩)),if_neg (nw hx (by decide:(⟨#[101,114,114,100,101,102,101,114]⟩:ByteArray) ≠ ⟨#[100,101,102,101,114]⟩)),if_pos hx]
 generalize gram C.L .stm a=r0 at E ⊢
 clear h HE0 HB0
 go_enter Tryz.func174,Tryz.ntmps174
 go_upto_region 36 with (first
  | (go_at_call 119; refine (peek_any R0.out.ps).mono ?_; rw [hx]; rintro r w1 ⟨rfl,x1⟩; have R1:=Lib.hid (R0.out.ext x1); obtain ⟨hm1,c0,c1,hf1⟩:=R1.out.ps.facts; have R2:=Lib.hid (R1.out.to (R1.out.ps.step hab) hlt))
  | fail)
 have G2:=Lib.hid (R2.out.ext (Ext.refl _).drew)
 clear R1 R2 R0
 obtain ⟨w2,hw2⟩:∃ w2,(w1.setCell ⟨C.m,1,none⟩ (.int .i64 ((a:Int) + 1))).drew=w2:=⟨_,rfl⟩
 refine rg_begin #[false,false,false,false,false,false,false,false] rfl (by kernel_rfl) (fun _ _ _ _ _ h=>h) (fun HQ=>?_)
 rw [hw2] at G2 ⊢
 (refine ta 1 123 rfl HQ ?_; try simp only [putL,List.set])
 (refine ta 3 125 rfl HQ ?_; try simp only [putL,List.set])
 refine tf_call 0 rfl rfl (by go_simp) (words_any w2) ?_ ?_ ?_
 ·rintro rv w3 ⟨e,hmp,x3⟩
  cases e
  have G3:=Lib.hid (G2.out.ext x3)
  have HM:=Lib.hid hmp
  show wpAny _ _ _ _ _ _ (Act.put _ (some 122) _) _
  simp only [putL,List.set]
  refine th 2 124 2 [4,5,6,7] [⟨some 126,_,_,_,_,_⟩,⟨some 127,_,_,_,_,_⟩,⟨some 128,_,_,_,_,_⟩,⟨none,_,_,_,_,_⟩] (fun w'=>MapAt w' 9 w2.heap.size 5 (strV wordT)) rfl rfl rfl HQ HM.out (fun w' hB=>exec_wd (n:=13) (s:=⟨#[101,114,114,100,101,102,101,114]⟩) rfl rfl rfl hB rfl (by decide)) ?_
  simp only [putL,List.set]
  refine ly_call rfl (by go_simp) (HB.out (a + 1) (by omega) _ G3.out.ps) ?_ ?_ ?_
  ·rintro rv w6 (⟨z2,e6,vb2,hg6,e,hsb,m6⟩ | ⟨e6,hg6,e,m6⟩)
   ·cases e
    have G6:=Lib.hid (G3.out.to m6 hlt)
    have hne:w2.heap.size ≠ C.m:=by have:=G2.out.ps.lt; omega
    have hm6:=hmp.keep (m6.px.block _ hmp.lt hne)
    refine ⟨hm6,?_⟩
    simp only [putL,List.set]
    obtain ⟨Ab2,nb2,cb2,hv2,_⟩:=Sl.shape hsb
    have hz:=G3.out.lt
    refine ly_op rfl (wp_bsB _ rfl Ab2 nb2 cb2 hv2 ?_)
    refine ⟨hm6.ext ((Ext.refl w6).alloc _),?_⟩
    show wpList _ _ _ _ _ _
    simp only [putL,List.set]
    have F1:=Lib.hid (G6.out.blk 13 hv2 hsb (fun i hi=>Nat.lt_of_lt_of_le hz hi))
    clear hm6 hmp HM G6 G3 G2 hsb
    go_wp2_with (first
     | ((with_reducible show wpList _ _ _ (Oper.mk none (.store 44 (.tmp 2) _) _ _ _ _ :: _) _ _); refine wpList_store_row rfl _ _ _ rfl _ rfl _ zSt _ F1.out.1.res rfl rfl (stC_one (op:=13) (nm:=⟨#[]⟩) (ty:=tZ) (a:=sl0) (b:=.slice (some ⟨w6.heap.size,0,none⟩) 1 1) (c:=sl0) rfl rfl rfl) HZ.out ?_))
    refine bodyPost_ret (results_cell_row rfl _ _ w.heap.size _ _ (0,0) _ rfl (F1.out.1.res.row _) Tryz.underlying44 rfl HZ.out) rfl ?_
    exact F1.out.1.fin hlt F1.out.2 (fun i hi=>hi) (E.out.trans (thn_ok hg6.out))
   ·cases e
  ·rintro c w6 (⟨z2,e6,vb2,hg6,e,hsb,m6⟩ | ⟨e6,hg6,e,m6⟩)
   ·cases e
   ·cases e
    exact And.intro rfl (fin_bad (G3.out.to m6 hlt).mv (E.out.trans (thn_bad hg6.out)))
  ·rintro w6 (⟨z2,e6,vb2,hg6,e,hsb,m6⟩ | ⟨e6,hg6,e,m6⟩) <;> cases e
 ·rintro c w6 ⟨e,_⟩; cases e
 ·rintro w6 ⟨e,_⟩; cases e
theorem stm_else {C:Cx} {a:Nat} {w:World} (h:PS C a w) (HE0:∀ b,a < b → EX C b) (h0:¬ tx C.L a=⟨#[118,97,114]⟩) (h1:¬ tx C.L a=⟨#[99,111,110,115,116]⟩) (h2:¬ tx C.L a=⟨#[95]⟩) (h3:¬ tx C.L a=⟨#[114,101,116,117,114,110]⟩) (h4:¬ tx C.L a=⟨#[103,105,118,101]⟩) (h5:¬ tx C.L a=⟨#[105,102]⟩) (h6:¬ tx C.L a=⟨#[119,104,105,108,101]⟩) (h7:¬ tx C.L a=⟨#[102,111,114]⟩) (h8:¬ tx C.L a=⟨#[105,110,108,105,110,101]⟩) (h9:¬ tx C.L a=⟨#[115,119,105,116,99,104]⟩) (h10:¬ tx C.L a=⟨#[123]⟩) (h11:¬ tx C.L a=⟨#[100,101,102,101,114]⟩) (h12:¬ tx C.L a=⟨#[101,114,114,100,101,102,101,114]⟩) (h13:¬ tx C.L a=⟨#[98,114,101,97,107]⟩) (h14:¬ tx C.L a=⟨#[99,111,110,116,105,110,117,101]⟩) (h15:¬ tx C.L a=⟨#[117,110,114,101,97,99,104,97,98,108,101]⟩):Calls Tryz.prog 174 #[Pp C] w (Out C w 1 (gram C.L .stm a)):=by
 have HZ:Hid ((Tryz.prog.info? 44).map (·.size)=some 10):=by unfold Hid; kernel_rfl
 have hlt:=h.lt
 have R0:Hid (Rx C w 44 zSt a (w.alloc (.cells zSt 44))):=Rx.init h _ _
 have HE:=Lib.hid HE0
 have E:Hid (gram C.L .stm a=nam C.L a (valE C (a + 1) true fun x b=>some (.ok (stN 2 (tx C.L a) tZ x .nil .nil) b))):=by
  unfold Hid
  rw [gram_eq]
  show stmS C.L (gram C.L) a=_
  unfold stmS
  rw [if_neg h0,if_neg h1,if_neg h2,if_neg h3,if_neg h4,if_neg h5,if_neg h6,if_neg h7,if_neg h8,if_neg h9,if_neg h10,if_neg h11,if_neg h12,if_neg h13,if_neg h14,if_neg h15]
  rfl
 generalize gram C.L .stm a=r0 at E ⊢
 have n0:=bs_nl [118,97,114] (h0:tx C.L a ≠ ⟨#[118,97,114]⟩)
 have n1:=bs_nl [99,111,110,115,116] (h1:tx C.L a ≠ ⟨#[99,111,110,115,116]⟩)
 have n2:=bs_nl [95] (h2:tx C.L a ≠ ⟨#[95]⟩)
 have n3:=bs_nl [114,101,116,117,114,110] (h3:tx C.L a ≠ ⟨#[114,101,116,117,114,110]⟩)
 have n4:=bs_nl [103,105,118,101] (h4:tx C.L a ≠ ⟨#[103,105,118,101]⟩)
 have n5:=bs_nl [105,102] (h5:tx C.L a ≠ ⟨#[105,102]⟩)
 have n6:=bs_nl [119,104,105,108,101] (h6:tx C.L a ≠ ⟨#[119,104,105,108,101]⟩)
 have n7:=bs_nl [102,111,114] (h7:tx C.L a ≠ ⟨#[102,111,114]⟩)
 have n8:=bs_nl [105,110,108,105,110,101] (h8:tx C.L a ≠ ⟨#[105,110,108,105,110,101]⟩)
 have n9:=bs_nl [115,119,105,116,99,104] (h9:tx C.L a ≠ ⟨#[115,119,105,116,99,104]⟩)
 have n10:=bs_nl [123] (h10:tx C.L a ≠ ⟨#[123]⟩)
 have n11:=bs_nl [100,101,102,101,114] (h11:tx C.L a ≠ ⟨#[100,101,102,101,114]⟩)
 have n12:=bs_nl [101,114,114,100,101,102,101,114] (h12:tx C.L a ≠ ⟨#[101,114,114,100,101,102,101,114]⟩)
 have n13:=bs_nl [98,114,101,97,107] (h13:tx C.L a ≠ ⟨#[98,114,101,97,107]⟩)
 have n14:=bs_nl [99,111,110,116,105,110,117,101] (h14:tx C.L a ≠ ⟨#[99,111,110,116,105,110,117,101]⟩)
 have n15:=bs_nl [117,110,114,101,97,99,104,97,98,108,101] (h15:tx C.L a ≠ ⟨#[117,110,114,101,97,99,104,97,98,108,101]⟩)
 clear h HE0 h0 h1 h2 h3 h4 h5 h6 h7 h8 h9 h10 h11 h12 h13 h14 h15
 go_enter Tryz.func174,Tryz.ntmps174
 go_wp2_with (first
  | (go_at_call 119; refine (peek_any R0.out.ps).mono ?_; rintro r w1 ⟨rfl,x1⟩; have R1:=Lib.hid (R0.out.ext x1))
  | (go_at_call 114; refine (name_any R1.out.ps).mono ?_; rintro r w2 (⟨h2,rfl,m2⟩ | ⟨h2,rfl,m2⟩) <;> (have R2:=Lib.hid (R1.out.to m2 hlt)))
  | (go_at_call 217; refine (valued_any R2.out.ps 2 (tx C.L a) tZ true (HE.out (a + 2) (by omega))).mono ?_; rintro r w7 (⟨x,c,cs,hg,rfl,hnv,hmv⟩ | ⟨c,hg,rfl,hmv⟩) <;> (have R7:=Lib.hid (R2.out.to hmv hlt)) <;> (have hz:=R2.out.lt))
  | ((with_reducible show wpList _ _ _ (Oper.mk none (.store 44 (.tmp 2) _) _ _ _ _ :: _) _ _); refine wpList_store_row rfl _ _ _ rfl _ rfl _ zSt _ R7.out.res rfl hnv.size hnv.one (by rw [show cs.size=10 from hnv.size]; exact HZ.out) ?_))
 ·refine bodyPost_ret (results_cell_row rfl _ _ w.heap.size _ cs (0,0) _ rfl (R7.out.res.row _) Tryz.underlying44 rfl (by rw [show cs.size=10 from hnv.size]; exact HZ.out)) rfl ?_
  exact R7.out.fin hlt hnv (fun i hi=>Nat.lt_of_lt_of_le hz hi) (E.out.trans ((if_pos h2).trans hg.out))
 ·exact And.intro rfl (fin_bad R7.out.mv (E.out.trans ((if_pos h2).trans hg.out)))
 ·exact And.intro rfl (fin_bad R2.out.mv (E.out.trans (if_neg (by rw [h2]; exact Bool.false_ne_true))))
theorem stmt_any {C:Cx} {a:Nat} (HE:∀ b,a < b → EX C b) (HB:∀ b,a ≤ b → BL C b):SM C a:=fun w h=>by
 by_cases h0:tx C.L a=⟨#[118,97,114]⟩
 ·exact stm_var h HE HB h0
 by_cases h1:tx C.L a=⟨#[99,111,110,115,116]⟩
 ·exact stm_const h HE HB h1
 by_cases h2:tx C.L a=⟨#[95]⟩
 ·exact stm_drop h HE HB h2
 by_cases h3:tx C.L a=⟨#[114,101,116,117,114,110]⟩
 ·exact stm_ret h HE HB h3
 by_cases h4:tx C.L a=⟨#[103,105,118,101]⟩
 ·exact stm_give h HE HB h4
 by_cases h5:tx C.L a=⟨#[105,102]⟩
 ·exact stm_if h HE HB h5
 by_cases h6:tx C.L a=⟨#[119,104,105,108,101]⟩
 ·exact stm_while h HE HB h6
 by_cases h7:tx C.L a=⟨#[102,111,114]⟩
 ·exact stm_for h HE HB h7
 by_cases h8:tx C.L a=⟨#[105,110,108,105,110,101]⟩
 ·exact stm_inline h HE HB h8
 by_cases h9:tx C.L a=⟨#[115,119,105,116,99,104]⟩
 ·exact stm_switch h HE HB h9
 by_cases h10:tx C.L a=⟨#[123]⟩
 ·exact stm_block h HE HB h10
 by_cases h11:tx C.L a=⟨#[100,101,102,101,114]⟩
 ·exact stm_defer h HE HB h11
 by_cases h12:tx C.L a=⟨#[101,114,114,100,101,102,101,114]⟩
 ·exact stm_errdefer h HE HB h12
 by_cases h13:tx C.L a=⟨#[98,114,101,97,107]⟩
 ·exact stm_break h HE HB h13
 by_cases h14:tx C.L a=⟨#[99,111,110,116,105,110,117,101]⟩
 ·exact stm_continue h HE HB h14
 by_cases h15:tx C.L a=⟨#[117,110,114,101,97,99,104,97,98,108,101]⟩
 ·exact stm_unreachable h HE HB h15
 exact stm_else h HE h0 h1 h2 h3 h4 h5 h6 h7 h8 h9 h10 h11 h12 h13 h14 h15
end Go.Proofs.YtmmnhbhnjiajhaaGreatDoor.c
