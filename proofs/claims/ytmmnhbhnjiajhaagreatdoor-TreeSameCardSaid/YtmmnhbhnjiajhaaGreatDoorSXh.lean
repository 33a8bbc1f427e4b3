/- The reference's sizes of lists of statements; the induction. No condition. -/
import Derived.Test.YtmmnhbhnjiajhaaGreatDoorSXf
namespace Go.Proofs.YtmmnhbhnjiajhaaGreatDoor.c
open Go.RowKit
set_option linter.unusedVariables false
set_option maxRecDepth 100000
set_option maxHeartbeats 12800000
set_option linter.unusedSimpArgs false
theorem zt_step {n:Nat} (ihX:ZX n) (ihT:ZT n):ZT (n + 1):=by
 intro x hsz hlw w v p hsl
 have HZ:Hid ((Tryz.prog.info? 88).map (·.size)=some 4):=by unfold Hid; kernel_rfl
 obtain ⟨A,c,rfl,la⟩:=hsl.lp
 have hxl:=hlw.len
 have HLW:=Lib.hid hlw
 obtain ⟨R,hR⟩:∃ R,szA x sz0=R:=⟨_,rfl⟩
 rw [hR]
 generalize hN:x.len=N at *
 have hN1:N ≤ 4611686018427387904:=by omega
 have L0:=Lib.hid la
 have E0:=Lib.hid hR
 have hxs:x.sz ≤ n:=by omega
 have X0:Hid (Ext w ((w.alloc (.cells (szC sz0) 88)).alloc (.cells (szC sz0) 88))):=((Ext.refl w).alloc _).alloc _
 have K2:Hid (Blk ((w.alloc (.cells (szC sz0) 88)).alloc (.cells (szC sz0) 88)) w.heap.size 88 (szC sz0)):=(Blk.new w _ _).alloc _
 have K3:Hid (Blk ((w.alloc (.cells (szC sz0) 88)).alloc (.cells (szC sz0) 88)) (w.heap.size + 1) 88 (szC sz0)):=blk_new2 _ _ _ _
 have hg:w.heap.size ≠ w.heap.size + 1:=by omega
 have hgw:w.heap.size ≤ w.heap.size + 1:=by omega
 clear la hsl hsz hR hN hxl hlw
 unfold szC sz0 at X0 K2 K3
 go_enter Tryz.func107,Tryz.ntmps107
 go_upto_region 3 with fail
 refine nmW fun w0 hw0=>?_
 rw [hw0] at X0 K2 K3
 clear hw0
 generalize w.heap.size + 1=g3 at *
 generalize hg2:w.heap.size=g2 at K2 hg ⊢
 have hgx:w.heap.size ≤ g2:=Nat.le_of_eq hg2
 go_loopw [4] (fun u4 wr=>∃ (i:Nat) (r:Nd) (s:Sz),u4=.int .i64 i∧Hid (Lp (vp p w) A N 1 i r)∧Hid (Ext w wr)∧Hid (Blk wr g2 88 #[.int .i64 sz0.s,.int .i64 sz0.e,.int .i64 sz0.d,.bool sz0.m])∧Hid (Blk wr g3 88 #[.int .i64 s.s,.int .i64 s.e,.int .i64 s.d,.bool s.m])∧Hid (szA r s=R)∧r.sz ≤ n∧Hid (LW r)) (fun u4 _=>N - (intOf u4).toNat)
 case atStart=>exact ⟨0,x,sz0,rfl,L0,X0,K2,K3,E0,hxs,HLW⟩
 case round =>
  clear L0 X0 E0 hxs K2 K3 HLW
  obtain ⟨i,r,s,rfl,L,X,K2,K3,hE,hrz,hlr⟩:=hrel
  by_cases hlt:i < N
  case neg =>
   obtain rfl:=L.out.fin hlt
   have hltI:¬ (i:Int) < (N:Int):=by omega
   obtain rfl:s=R:=hE.out
   have q0:wr.cell? ⟨g3,0,none⟩=some (.int .i64 s.s):=K3.out.cell 0; have q1:wr.cell? ⟨g3,1,none⟩=some (.int .i64 s.e):=K3.out.cell 1; have q2:wr.cell? ⟨g3,2,none⟩=some (.int .i64 s.d):=K3.out.cell 2; have q3:wr.cell? ⟨g3,3,none⟩=some (.bool s.m):=K3.out.cell 3
   go_wp2_with (first
    | ((with_reducible show wpList _ _ _ (Oper.mk none (.store 88 (.tmp 2) _) _ _ _ _ :: _) _ _); refine wpList_store_row rfl _ _ _ rfl g2 rfl 88 #[.int .i64 sz0.s,.int .i64 sz0.e,.int .i64 sz0.d,.bool sz0.m] #[.int .i64 s.s,.int .i64 s.e,.int .i64 s.d,.bool s.m] K2.out rfl rfl (szC_one s) HZ.out ?_))
   exact bodyPost_ret (results_cell_row rfl _ _ g2 88 #[.int .i64 s.s,.int .i64 s.e,.int .i64 s.d,.bool s.m] (0,0) _ rfl (K2.out.row _) Tryz.underlying88 rfl HZ.out) rfl ⟨rfl,X.out.setRow hgx _⟩
  have hltI:(i:Int) < (N:Int):=by omega
  have hwi:wrap64 ((i:Int) + 1)=(i:Int) + 1:=IntWalk.wrap64_in _ (by omega)
  obtain ⟨o1,n1,t1,a1,b1,c1,r1,rfl⟩:=L.out.st1 hlt
  obtain ⟨bb,oo,cs,rfl,hnx,hcx,L'⟩:=L.out.step hlt
  have hrs:a1.sz < n∧b1.sz < n∧c1.sz < n∧r1.sz ≤ n:=by simp only [Nd.sz] at hrz; omega
  obtain ⟨va,vb,vc,rfl,ha1,hb1,hc1⟩:=nv_stI hnx
  obtain ⟨A1,ca1,rfl,_⟩:=ha1.lp
  obtain ⟨B1,cb1,rfl,lb1⟩:=hb1.lp
  obtain ⟨C1,cc1,rfl,lc1⟩:=hc1.lp
  have LS:Hid (Lp (vp p w) (some ⟨bb,oo,none⟩) N 1 (i + 1) r1):=L'
  have LB:=Lib.hid lb1
  have LC:=Lib.hid lc1
  have hbl:=(show LW b1 from hlr.out.2.2.1).len
  have hcl:=(show LW c1 from hlr.out.2.2.2.1).len
  have HLB:Hid (LW b1):=hlr.out.2.2.1
  have HLC:Hid (LW c1):=hlr.out.2.2.2.1
  have HL1:Hid (LW r1):=hlr.out.tl
  have HA:Hid (∀ w1,Ext w w1 → Calls Tryz.prog 108 #[.slice A1 a1.len ca1] w1 fun e w'=>e=.returned (.agg #[.int .i64 (szA a1 sz0).s,.int .i64 (szA a1 sz0).e,.int .i64 (szA a1 sz0).d,.bool (szA a1 sz0).m])∧Ext w1 w'):=fun w1 X=>ihX a1 hrs.1 hlr.out.2.1 w1 _ p (ha1.mono (vp_ext X))
  have E1:Hid (szA r1 (plS s (stZ c1.len (szA c1 (szA b1 (szA a1 sz0)))))=R):=hE.out
  have HW:Hid (∀ w',Ext w w' → w'.cell? ⟨bb,oo + i * 10 + 7,none⟩=some (.slice A1 a1.len ca1)∧w'.cell? ⟨bb,oo + i * 10 + 8,none⟩=some (.slice B1 b1.len cb1)∧w'.cell? ⟨bb,oo + i * 10 + 9,none⟩=some (.slice C1 c1.len cc1)):=fun w' X2=>⟨row_at hcx X2 (j:=7) rfl,row_at hcx X2 (j:=8) rfl,row_at hcx X2 (j:=9) rfl⟩
  have hbn:b1.len ≤ 4611686018427387904∧c1.len ≤ 4611686018427387904:=by omega
  have hb1z:b1.sz < n:=hrs.2.1
  have hc1z:c1.sz < n:=hrs.2.2.1
  have hr1z:r1.sz ≤ n:=hrs.2.2.2
  have s7:=(HW.out wr X.out).1
  generalize szA a1 sz0=sa at *
  clear hnx hcx L' L hE hrz ha1 hb1 hc1 lb1 lc1 hrs ihX hlr
  generalize hN2:b1.len=N2 at *
  generalize hN3:c1.len=N3 at *
  clear hN2 hN3 hbl hcl
  go_upto_region 6 with (first
   | (go_at_call 108; refine (HA.out _ X.out).mono ?_; rintro rv w1 ⟨rfl,x1⟩)
   | ((with_reducible show wpList _ _ _ (Oper.mk none (.store 88 (.tmp 5) _) _ _ _ _ :: _) _ _); refine wpList_store_row rfl _ _ _ rfl w1.heap.size rfl 88 #[.int .i64 sz0.s,.int .i64 sz0.e,.int .i64 sz0.d,.bool sz0.m] #[.int .i64 sa.s,.int .i64 sa.e,.int .i64 sa.d,.bool sa.m] (Blk.new w1 _ _) rfl rfl (szC_one sa) HZ.out ?_; refine nmW fun w5 hw5=>?_
      have X5:Hid (Ext w w5):=by rw [← hw5]; exact (X.out.trans x1).trans (newRow w1 _ #[.int .i64 sz0.s,.int .i64 sz0.e,.int .i64 sz0.d,.bool sz0.m] #[.int .i64 sa.s,.int .i64 sa.e,.int .i64 sa.d,.bool sa.m]).1
      have K5:Hid (Blk w5 w1.heap.size 88 #[.int .i64 sa.s,.int .i64 sa.e,.int .i64 sa.d,.bool sa.m]):=by rw [← hw5]; exact (newRow w1 _ #[.int .i64 sz0.s,.int .i64 sz0.e,.int .i64 sz0.d,.bool sz0.m] #[.int .i64 sa.s,.int .i64 sa.e,.int .i64 sa.d,.bool sa.m]).2
      have K2a:Hid (Blk w5 g2 88 #[.int .i64 sz0.s,.int .i64 sz0.e,.int .i64 sz0.d,.bool sz0.m]):=by rw [← hw5]; exact (K2.out.ext x1).ext (newRow w1 _ #[.int .i64 sz0.s,.int .i64 sz0.e,.int .i64 sz0.d,.bool sz0.m] #[.int .i64 sa.s,.int .i64 sa.e,.int .i64 sa.d,.bool sa.m]).1
      have K3a:Hid (Blk w5 g3 88 #[.int .i64 s.s,.int .i64 s.e,.int .i64 s.d,.bool s.m]):=by rw [← hw5]; exact (K3.out.ext x1).ext (newRow w1 _ #[.int .i64 sz0.s,.int .i64 sz0.e,.int .i64 sz0.d,.bool sz0.m] #[.int .i64 sa.s,.int .i64 sa.e,.int .i64 sa.d,.bool sa.m]).1
      clear hw5))
  have h53:g3 ≠ w1.heap.size:=by have:=(K3.out.ext x1).lt; omega
  have h52:g2 ≠ w1.heap.size:=by have:=(K2.out.ext x1).lt; omega
  have h5w:w.heap.size ≤ w1.heap.size:=by have:=X.out.size; have:=x1.size; omega
  generalize w1.heap.size=g5 at K5 h53 h52 h5w ⊢
  clear s7 HA K2 K3 X
  go_upto_region 7 with fail
  obtain ⟨wo,rfl⟩:∃ wo,wo=wr:=⟨_,rfl⟩
  go_loopw [6] (fun u6 wr=>∃ (j:Nat) (rb:Nd) (t:Sz),u6=.int .i64 j∧Hid (Lp (vp p w) B1 N2 2 j rb)∧Hid (Ext w wr)∧Hid (Blk wr g2 88 #[.int .i64 sz0.s,.int .i64 sz0.e,.int .i64 sz0.d,.bool sz0.m])∧Hid (Blk wr g3 88 #[.int .i64 s.s,.int .i64 s.e,.int .i64 s.d,.bool s.m])∧Hid (Blk wr g5 88 #[.int .i64 t.s,.int .i64 t.e,.int .i64 t.d,.bool t.m])∧Hid (szA rb t=szA b1 sa)∧rb.sz ≤ b1.sz∧Hid (LW rb)) (fun u6 _=>N2 - (intOf u6).toNat)
  case atStart=>exact ⟨0,b1,sa,rfl,LB,X5,K2a,K3a,K5,rfl,Nat.le_refl _,HLB⟩
  case round =>
   clear LB X5 K2a K3a K5
   obtain ⟨j,rb,t,rfl,Lb,X,K2,K3,K5,hE,hrz,hlr⟩:=hrel
   have s8:=(HW.out wr X.out).2.1
   by_cases hlj:j < N2
   case pos =>
    have hljI:(j:Int) < (N2:Int):=by omega
    have hwj:wrap64 ((j:Int) + 1)=(j:Int) + 1:=IntWalk.wrap64_in _ (by omega)
    obtain ⟨d1,rb1,rfl⟩:=Lb.out.bl1 hlj
    obtain ⟨e1,f1,xs,rfl,hnx,hcx,L'⟩:=Lb.out.step hlj
    obtain ⟨vk,rfl,hd1⟩:=nv_blI hnx
    obtain ⟨D1,cd1,rfl,_⟩:=hd1.lp
    have hds:d1.sz < n∧rb1.sz ≤ b1.sz:=by simp only [Nd.sz] at hrz; omega
    have HT:Hid (∀ w1,Ext w w1 → Calls Tryz.prog 107 #[.slice D1 d1.len cd1] w1 fun e w'=>e=.returned (.agg #[.int .i64 (szA d1 sz0).s,.int .i64 (szA d1 sz0).e,.int .i64 (szA d1 sz0).d,.bool (szA d1 sz0).m])∧Ext w1 w'):=fun w1 X5=>ihT d1 hds.1 hlr.out.2.1 w1 _ p (hd1.mono (vp_ext X5))
    have HD:Hid (∀ w',Ext w w' → w'.cell? ⟨e1,f1 + j,none⟩=some (.slice D1 d1.len cd1)):=fun w' X5=>by have h9:=row_at hcx X5 (j:=0) rfl; rwa [show f1 + j * szK 2 + 0=f1 + j from congrArg (f1 + ·) (Nat.mul_one j)] at h9
    have LB2:Hid (Lp (vp p w) (some ⟨e1,f1,none⟩) N2 2 (j + 1) rb1):=L'
    have E2:Hid (szA rb1 (plS t (szA d1 sz0))=szA b1 sa):=hE.out
    generalize szA d1 sz0=sd at HT E2
    have HLT:Hid (LW rb1):=hlr.out.tl
    clear hnx hcx L' Lb hE hrz hd1 hlr
    go_upto_region 9 with fail
    clear s8
    refine eh_begin #[false,false,false,false,false,false,false,false,false,false,false,false] (fun w'=>Ext w w') rfl (by kernel_rfl) (fun _ _ _ _ _ h=>h) (fun HQ=>?_)
    have hS0:Ext w wr.drew:=X.out.drew
    refine eh_take 1 31 rfl HQ hS0 (by intro w1 hX; go_simp; try with_reducible rfl) ?_
    simp only [putL,List.set]
    refine eh_take 2 32 rfl HQ hS0 (by intro w1 hX; go_simp; try with_reducible rfl) ?_
    simp only [putL,List.set]
    refine eh_take 3 33 rfl HQ hS0 (by intro w1 hX; go_simp; try with_reducible rfl) ?_
    simp only [putL,List.set]
    refine eh_take 4 34 rfl HQ hS0 (by intro w1 hX; go_simp; try with_reducible rfl) ?_
    simp only [putL,List.set]
    refine eh_take 5 35 rfl HQ hS0 (fun w1 hX=>exec_ld1 rfl rfl (HW.out w1 hX).2.1 Tryz.underlying41 rfl) ?_
    simp only [putL,List.set]
    refine eh_take 6 36 rfl HQ hS0 (by intro w1 hX; go_simp; try with_reducible rfl) ?_
    simp only [putL,List.set]
    refine eh_take 7 37 rfl HQ hS0 (by intro w1 hX; go_simp; try with_reducible rfl) ?_
    simp only [putL,List.set]
    refine eh_take 8 38 rfl HQ hS0 (fun w1 hX=>exec_ld1 rfl rfl (HD.out w1 hX) Tryz.underlying34 rfl) ?_
    simp only [putL,List.set]
    refine eh_br (l:=[0,9]) (by simp) ?_
    intro j hj
    simp only [List.mem_cons,List.not_mem_nil,or_false] at hj
    rcases hj with rfl | rfl
    ·refine o_val (w':=wr.drew) 0 30 rfl (v:=.agg #[.int .i64 t.s,.int .i64 t.e,.int .i64 t.d,.bool t.m]) (exec_ldr rfl rfl (((K5.out.drew)).range) Tryz.underlying88 rfl HZ.out) ?_
     refine ⟨hS0,?_⟩
     simp only [putL,List.set]
     refine eh_br (l:=[9]) (by simp) ?_
     intro j hj
     simp only [List.mem_cons,List.not_mem_nil,or_false] at hj
     subst hj
     refine o_call 9 rfl rfl (by go_simp) (HT.out _ (hS0)) ?_ ?_ ?_
     ·rintro rv wwa1 ⟨e0,xxa1⟩
      cases e0
      refine ⟨((hS0).trans xxa1),?_⟩
      show wpAnyH _ _ _ _ _ _ _ (Act.put _ (some 39) _) _
      simp only [putL,List.set]
      refine eh_br (l:=[10]) (by simp) ?_
      intro j hj
      simp only [List.mem_cons,List.not_mem_nil,or_false] at hj
      subst hj
      refine o_call 10 rfl rfl (by go_simp) (plus_any t sd _) ?_ ?_ ?_
      ·rintro rv wwp2 ⟨e0,xxp2⟩
       cases e0
       refine ⟨((((hS0).trans xxa1)).trans xxp2),?_⟩
       show wpAnyH _ _ _ _ _ _ _ (Act.put _ (some 40) _) _
       simp only [putL,List.set]
       refine eh_br (l:=[11]) (by simp) ?_
       intro j hj
       simp only [List.mem_cons,List.not_mem_nil,or_false] at hj
       subst hj
       refine o_wp 11 rfl rfl (wp_str _ _ _ rfl _ rfl _ #[.int .i64 t.s,.int .i64 t.e,.int .i64 t.d,.bool t.m] #[.int .i64 (plS t sd).s,.int .i64 (plS t sd).e,.int .i64 (plS t sd).d,.bool (plS t sd).m] ((((((K5.out.drew)).ext xxa1)).ext xxp2)) rfl rfl (szC_one (plS t sd)) HZ.out ?_)
       refine ⟨((((((hS0).trans xxa1)).trans xxp2)).setRow h5w _),?_⟩
       show wpAnyH _ _ _ _ _ _ _ _ _
       refine eh_end ?_
       go_wp2_with fail
       go_roundw
       case rel=>exact ⟨j + 1,rb1,plS t sd,by first | rfl | (rw [hwj]; rfl),LB2,((((((hS0).trans xxa1)).trans xxp2)).setRow h5w _),(setRow_other _ g5 g2 _ h52).trans ((((((K2.out.drew)).ext xxa1)).ext xxp2)),(setRow_other _ g5 g3 _ h53).trans ((((((K3.out.drew)).ext xxa1)).ext xxp2)),((((((K5.out.drew)).ext xxa1)).ext xxp2)).row _,E2,hds.2,HLT⟩
       case measure=>(try rw [hwj]); rw [iof_succ,iof_nat]; exact Nat.sub_lt_sub_left hlj (Nat.lt_succ_self j)
      ·rintro cc wwp2 ⟨e0,_⟩; cases e0
      ·rintro wwp2 ⟨e0,_⟩; cases e0
     ·rintro cc wwa1 ⟨e0,_⟩; cases e0
     ·rintro wwa1 ⟨e0,_⟩; cases e0
    ·refine o_call 9 rfl rfl (by go_simp) (HT.out _ (hS0)) ?_ ?_ ?_
     ·rintro rv wwa3 ⟨e0,xxa3⟩
      cases e0
      refine ⟨((hS0).trans xxa3),?_⟩
      show wpAnyH _ _ _ _ _ _ _ (Act.put _ (some 39) _) _
      simp only [putL,List.set]
      refine eh_br (l:=[0]) (by simp) ?_
      intro j hj
      simp only [List.mem_cons,List.not_mem_nil,or_false] at hj
      subst hj
      refine o_val (w':=wwa3) 0 30 rfl (v:=.agg #[.int .i64 t.s,.int .i64 t.e,.int .i64 t.d,.bool t.m]) (exec_ldr rfl rfl (((((K5.out.drew)).ext xxa3)).range) Tryz.underlying88 rfl HZ.out) ?_
      refine ⟨((hS0).trans xxa3),?_⟩
      simp only [putL,List.set]
      refine eh_br (l:=[10]) (by simp) ?_
      intro j hj
      simp only [List.mem_cons,List.not_mem_nil,or_false] at hj
      subst hj
      refine o_call 10 rfl rfl (by go_simp) (plus_any t sd _) ?_ ?_ ?_
      ·rintro rv wwp4 ⟨e0,xxp4⟩
       cases e0
       refine ⟨((((hS0).trans xxa3)).trans xxp4),?_⟩
       show wpAnyH _ _ _ _ _ _ _ (Act.put _ (some 40) _) _
       simp only [putL,List.set]
       refine eh_br (l:=[11]) (by simp) ?_
       intro j hj
       simp only [List.mem_cons,List.not_mem_nil,or_false] at hj
       subst hj
       refine o_wp 11 rfl rfl (wp_str _ _ _ rfl _ rfl _ #[.int .i64 t.s,.int .i64 t.e,.int .i64 t.d,.bool t.m] #[.int .i64 (plS t sd).s,.int .i64 (plS t sd).e,.int .i64 (plS t sd).d,.bool (plS t sd).m] ((((((K5.out.drew)).ext xxa3)).ext xxp4)) rfl rfl (szC_one (plS t sd)) HZ.out ?_)
       refine ⟨((((((hS0).trans xxa3)).trans xxp4)).setRow h5w _),?_⟩
       show wpAnyH _ _ _ _ _ _ _ _ _
       refine eh_end ?_
       go_wp2_with fail
       go_roundw
       case rel=>exact ⟨j + 1,rb1,plS t sd,by first | rfl | (rw [hwj]; rfl),LB2,((((((hS0).trans xxa3)).trans xxp4)).setRow h5w _),(setRow_other _ g5 g2 _ h52).trans ((((((K2.out.drew)).ext xxa3)).ext xxp4)),(setRow_other _ g5 g3 _ h53).trans ((((((K3.out.drew)).ext xxa3)).ext xxp4)),((((((K5.out.drew)).ext xxa3)).ext xxp4)).row _,E2,hds.2,HLT⟩
       case measure=>(try rw [hwj]); rw [iof_succ,iof_nat]; exact Nat.sub_lt_sub_left hlj (Nat.lt_succ_self j)
      ·rintro cc wwp4 ⟨e0,_⟩; cases e0
      ·rintro wwp4 ⟨e0,_⟩; cases e0
     ·rintro cc wwa3 ⟨e0,_⟩; cases e0
     ·rintro wwa3 ⟨e0,_⟩; cases e0
   case neg =>
   obtain rfl:=Lb.out.fin hlj
   have hljI:¬ (j:Int) < (N2:Int):=by omega
   have hEb:t=szA b1 sa:=hE.out
   rw [← hEb] at E1
   clear hE hrz Lb hEb
   go_upto_region 11 with fail
   clear s8
   obtain ⟨wb,rfl⟩:∃ wb,wb=wr:=⟨_,rfl⟩
   generalize t=tb at *
   go_loopw [7] (fun u7 wr=>∃ (j:Nat) (rc:Nd) (t:Sz),u7=.int .i64 j∧Hid (Lp (vp p w) C1 N3 3 j rc)∧Hid (Ext w wr)∧Hid (Blk wr g2 88 #[.int .i64 sz0.s,.int .i64 sz0.e,.int .i64 sz0.d,.bool sz0.m])∧Hid (Blk wr g3 88 #[.int .i64 s.s,.int .i64 s.e,.int .i64 s.d,.bool s.m])∧Hid (Blk wr g5 88 #[.int .i64 t.s,.int .i64 t.e,.int .i64 t.d,.bool t.m])∧Hid (szA rc t=szA c1 tb)∧rc.sz ≤ c1.sz∧Hid (LW rc)) (fun u7 _=>N3 - (intOf u7).toNat)
   case atStart=>exact ⟨0,c1,tb,rfl,LC,X,K2,K3,K5,rfl,Nat.le_refl _,HLC⟩
   case round =>
    clear LC X K2 K3 K5
    obtain ⟨j,rc,t,rfl,Lc,X,K2,K3,K5,hE,hrz,hlr⟩:=hrel
    have s9:=(HW.out wr X.out).2.2
    by_cases hlj:j < N3
    case pos =>
     have hljI:(j:Int) < (N3:Int):=by omega
     have hwj:wrap64 ((j:Int) + 1)=(j:Int) + 1:=IntWalk.wrap64_in _ (by omega)
     obtain ⟨lo1,up1,d1,rc1,rfl⟩:=Lc.out.ca1 hlj
     obtain ⟨e1,f1,xs,rfl,hnx,hcx,L'⟩:=Lc.out.step hlj
     obtain ⟨vk,rfl,hd1⟩:=nv_caI hnx
     obtain ⟨D1,cd1,rfl,_⟩:=hd1.lp
     have hds:d1.sz < n∧rc1.sz ≤ c1.sz:=by simp only [Nd.sz] at hrz; omega
     have HT:Hid (∀ w1,Ext w w1 → Calls Tryz.prog 107 #[.slice D1 d1.len cd1] w1 fun e w'=>e=.returned (.agg #[.int .i64 (szA d1 sz0).s,.int .i64 (szA d1 sz0).e,.int .i64 (szA d1 sz0).d,.bool (szA d1 sz0).m])∧Ext w1 w'):=fun w1 X5=>ihT d1 hds.1 hlr.out.2.1 w1 _ p (hd1.mono (vp_ext X5))
     have HD:Hid (∀ w',Ext w w' → w'.cell? ⟨e1,f1 + j * 3 + 2,none⟩=some (.slice D1 d1.len cd1)):=fun w' X5=>row_at hcx X5 (j:=2) rfl
     have LB2:Hid (Lp (vp p w) (some ⟨e1,f1,none⟩) N3 3 (j + 1) rc1):=L'
     have E2:Hid (szA rc1 (plS t (szA d1 sz0))=szA c1 tb):=hE.out
     generalize szA d1 sz0=sd at HT E2
     have HLT:Hid (LW rc1):=hlr.out.tl
     clear hnx hcx L' Lc hE hrz hd1 hlr
     go_upto_region 13 with fail
     clear s9
     refine eh_begin #[false,false,false,false,false,false,false,false,false,false,false,false,false] (fun w'=>Ext w w') rfl (by kernel_rfl) (fun _ _ _ _ _ h=>h) (fun HQ=>?_)
     have hS0:Ext w wr.drew:=X.out.drew
     refine eh_take 1 52 rfl HQ hS0 (by intro w1 hX; go_simp; try with_reducible rfl) ?_
     simp only [putL,List.set]
     refine eh_take 2 53 rfl HQ hS0 (by intro w1 hX; go_simp; try with_reducible rfl) ?_
     simp only [putL,List.set]
     refine eh_take 3 54 rfl HQ hS0 (by intro w1 hX; go_simp; try with_reducible rfl) ?_
     simp only [putL,List.set]
     refine eh_take 4 55 rfl HQ hS0 (by intro w1 hX; go_simp; try with_reducible rfl) ?_
     simp only [putL,List.set]
     refine eh_take 5 56 rfl HQ hS0 (fun w1 hX=>exec_ld1 rfl rfl (HW.out w1 hX).2.2 Tryz.underlying42 rfl) ?_
     simp only [putL,List.set]
     refine eh_take 6 57 rfl HQ hS0 (by intro w1 hX; go_simp; try with_reducible rfl) ?_
     simp only [putL,List.set]
     refine eh_take 7 58 rfl HQ hS0 (by intro w1 hX; go_simp; try with_reducible rfl) ?_
     simp only [putL,List.set]
     refine eh_take 8 59 rfl HQ hS0 (by intro w1 hX; go_simp; try with_reducible rfl) ?_
     simp only [putL,List.set]
     refine eh_take 9 60 rfl HQ hS0 (fun w1 hX=>exec_ld1 rfl rfl (HD.out w1 hX) Tryz.underlying34 rfl) ?_
     simp only [putL,List.set]
     refine eh_br (l:=[0,10]) (by simp) ?_
     intro j hj
     simp only [List.mem_cons,List.not_mem_nil,or_false] at hj
     rcases hj with rfl | rfl
     ·refine o_val (w':=wr.drew) 0 51 rfl (v:=.agg #[.int .i64 t.s,.int .i64 t.e,.int .i64 t.d,.bool t.m]) (exec_ldr rfl rfl (((K5.out.drew)).range) Tryz.underlying88 rfl HZ.out) ?_
      refine ⟨hS0,?_⟩
      simp only [putL,List.set]
      refine eh_br (l:=[10]) (by simp) ?_
      intro j hj
      simp only [List.mem_cons,List.not_mem_nil,or_false] at hj
      subst hj
      refine o_call 10 rfl rfl (by go_simp) (HT.out _ (hS0)) ?_ ?_ ?_
      ·rintro rv wwa1 ⟨e0,xxa1⟩
       cases e0
       refine ⟨((hS0).trans xxa1),?_⟩
       show wpAnyH _ _ _ _ _ _ _ (Act.put _ (some 61) _) _
       simp only [putL,List.set]
       refine eh_br (l:=[11]) (by simp) ?_
       intro j hj
       simp only [List.mem_cons,List.not_mem_nil,or_false] at hj
       subst hj
       refine o_call 11 rfl rfl (by go_simp) (plus_any t sd _) ?_ ?_ ?_
       ·rintro rv wwp2 ⟨e0,xxp2⟩
        cases e0
        refine ⟨((((hS0).trans xxa1)).trans xxp2),?_⟩
        show wpAnyH _ _ _ _ _ _ _ (Act.put _ (some 62) _) _
        simp only [putL,List.set]
        refine eh_br (l:=[12]) (by simp) ?_
        intro j hj
        simp only [List.mem_cons,List.not_mem_nil,or_false] at hj
        subst hj
        refine o_wp 12 rfl rfl (wp_str _ _ _ rfl _ rfl _ #[.int .i64 t.s,.int .i64 t.e,.int .i64 t.d,.bool t.m] #[.int .i64 (plS t sd).s,.int .i64 (plS t sd).e,.int .i64 (plS t sd).d,.bool (plS t sd).m] ((((((K5.out.drew)).ext xxa1)).ext xxp2)) rfl rfl (szC_one (plS t sd)) HZ.out ?_)
        refine ⟨((((((hS0).trans xxa1)).trans xxp2)).setRow h5w _),?_⟩
        show wpAnyH _ _ _ _ _ _ _ _ _
        refine eh_end ?_
        go_wp2_with fail
        go_roundw
        case rel=>exact ⟨j + 1,rc1,plS t sd,by first | rfl | (rw [hwj]; rfl),LB2,((((((hS0).trans xxa1)).trans xxp2)).setRow h5w _),(setRow_other _ g5 g2 _ h52).trans ((((((K2.out.drew)).ext xxa1)).ext xxp2)),(setRow_other _ g5 g3 _ h53).trans ((((((K3.out.drew)).ext xxa1)).ext xxp2)),((((((K5.out.drew)).ext xxa1)).ext xxp2)).row _,E2,hds.2,HLT⟩
        case measure=>(try rw [hwj]); rw [iof_succ,iof_nat]; exact Nat.sub_lt_sub_left hlj (Nat.lt_succ_self j)
       ·rintro cc wwp2 ⟨e0,_⟩; cases e0
       ·rintro wwp2 ⟨e0,_⟩; cases e0
      ·rintro cc wwa1 ⟨e0,_⟩; cases e0
      ·rintro wwa1 ⟨e0,_⟩; cases e0
     ·refine o_call 10 rfl rfl (by go_simp) (HT.out _ (hS0)) ?_ ?_ ?_
      ·rintro rv wwa3 ⟨e0,xxa3⟩
       cases e0
       refine ⟨((hS0).trans xxa3),?_⟩
       show wpAnyH _ _ _ _ _ _ _ (Act.put _ (some 61) _) _
       simp only [putL,List.set]
       refine eh_br (l:=[0]) (by simp) ?_
       intro j hj
       simp only [List.mem_cons,List.not_mem_nil,or_false] at hj
       subst hj
       refine o_val (w':=wwa3) 0 51 rfl (v:=.agg #[.int .i64 t.s,.int .i64 t.e,.int .i64 t.d,.bool t.m]) (exec_ldr rfl rfl (((((K5.out.drew)).ext xxa3)).range) Tryz.underlying88 rfl HZ.out) ?_
       refine ⟨((hS0).trans xxa3),?_⟩
       simp only [putL,List.set]
       refine eh_br (l:=[11]) (by simp) ?_
       intro j hj
       simp only [List.mem_cons,List.not_mem_nil,or_false] at hj
       subst hj
       refine o_call 11 rfl rfl (by go_simp) (plus_any t sd _) ?_ ?_ ?_
       ·rintro rv wwp4 ⟨e0,xxp4⟩
        cases e0
        refine ⟨((((hS0).trans xxa3)).trans xxp4),?_⟩
        show wpAnyH _ _ _ _ _ _ _ (Act.put _ (some 62) _) _
        simp only [putL,List.set]
        refine eh_br (l:=[12]) (by simp) ?_
        intro j hj
        simp only [List.mem_cons,List.not_mem_nil,or_false] at hj
        subst hj
        refine o_wp 12 rfl rfl (wp_str _ _ _ rfl _ rfl _ #[.int .i64 t.s,.int .i64 t.e,.int .i64 t.d,.bool t.m] #[.int .i64 (plS t sd).s,.int .i64 (plS t sd).e,.int .i64 (plS t sd).d,.bool (plS t sd).m] ((((((K5.out.drew)).ext xxa3)).ext xxp4)) rfl rfl (szC_one (plS t sd)) HZ.out ?_)
        refine ⟨((((((hS0).trans xxa3)).trans xxp4)).setRow h5w _),?_⟩
        show wpAnyH _ _ _ _ _ _ _ _ _
        refine eh_end ?_
        go_wp2_with fail
        go_roundw
        case rel=>exact ⟨j + 1,rc1,plS t sd,by first | rfl | (rw [hwj]; rfl),LB2,((((((hS0).trans xxa3)).trans xxp4)).setRow h5w _),(setRow_other _ g5 g2 _ h52).trans ((((((K2.out.drew)).ext xxa3)).ext xxp4)),(setRow_other _ g5 g3 _ h53).trans ((((((K3.out.drew)).ext xxa3)).ext xxp4)),((((((K5.out.drew)).ext xxa3)).ext xxp4)).row _,E2,hds.2,HLT⟩
        case measure=>(try rw [hwj]); rw [iof_succ,iof_nat]; exact Nat.sub_lt_sub_left hlj (Nat.lt_succ_self j)
       ·rintro cc wwp4 ⟨e0,_⟩; cases e0
       ·rintro wwp4 ⟨e0,_⟩; cases e0
      ·rintro cc wwa3 ⟨e0,_⟩; cases e0
      ·rintro wwa3 ⟨e0,_⟩; cases e0
    case neg =>
    obtain rfl:=Lc.out.fin hlj
    have hljI:¬ (j:Int) < (N3:Int):=by omega
    have hEc:t=szA c1 tb:=hE.out
    rw [← hEc] at E1
    clear hE hrz Lc hEc
    have q1:wr.cell? ⟨g5,0,none⟩=some (.int .i64 t.s):=K5.out.cell 0
    have q2:wr.cell? ⟨g5,2,none⟩=some (.int .i64 t.d):=K5.out.cell 2
    have qf:∀ i,wr.frozen? ⟨g5,i,none⟩=false:=K5.out.frozen
    go_upto_region 16 with fail
    clear s9
    refine nmW fun w8 hw8=>?_
    have X8:Hid (Ext w w8):=by rw [← hw8]; exact (X.out.setCell (p:=⟨g5,0,none⟩) h5w _).setCell (p:=⟨g5,2,none⟩) h5w _
    have K5a:Hid (Blk w8 g5 88 #[.int .i64 (wrap64 (t.s + 1)),.int .i64 t.e,.int .i64 (wrap64 (t.d + 1)),.bool t.m]):=by rw [← hw8]; exact (K5.out.set_ 0 _).set_ 2 _
    have K2a:Hid (Blk w8 g2 88 #[.int .i64 sz0.s,.int .i64 sz0.e,.int .i64 sz0.d,.bool sz0.m]):=by rw [← hw8]; exact (K2.out.far (p:=⟨g5,0,none⟩) h52 _).far (p:=⟨g5,2,none⟩) h52 _
    have K3a:Hid (Blk w8 g3 88 #[.int .i64 s.s,.int .i64 s.e,.int .i64 s.d,.bool s.m]):=by rw [← hw8]; exact (K3.out.far (p:=⟨g5,0,none⟩) h53 _).far (p:=⟨g5,2,none⟩) h53 _
    clear hw8 q1 q2 qf K5 K2 K3 X
    obtain ⟨mm,hmm⟩:∃ mm,(t.m || decide (8 < N3))=mm:=⟨_,rfl⟩
    have HM:=Lib.hid hmm
    clear hmm
    go_cut [] from 71 to 82 (fun wx=>Hid (wx=w8.setCell ⟨g5,3,none⟩ (.bool mm)))
    case first =>
     have q3:w8.cell? ⟨g5,3,none⟩=some (.bool t.m):=K5a.out.cell 3
     have qf:∀ i,w8.frozen? ⟨g5,i,none⟩=false:=K5a.out.frozen
     have s9:=(HW.out w8 X8.out).2.2
     generalize t.m=m5 at *
     clear LS E1 HW K5a K2a K3a X8 ihT
     go_wp2_with fail
     all_goals
      go_meet
      exact congrArg (fun b=>w8.setCell ⟨g5,3,none⟩ (.bool b)) (by rw [← HM.out]; first | rfl | (simp [*]; done) | (simp [*]; omega) | (rw [Bool.eq_iff_iff]; simp [*]; omega))
    case rest =>
    have hcut2:=hcut.out
    clear hcut
    subst hcut2
    have X9:Hid (Ext w (w8.setCell ⟨g5,3,none⟩ (.bool mm))):=X8.out.setCell (p:=⟨g5,3,none⟩) h5w _
    have K5b:Hid (Blk (w8.setCell ⟨g5,3,none⟩ (.bool mm)) g5 88 #[.int .i64 (stZ N3 t).s,.int .i64 (stZ N3 t).e,.int .i64 (stZ N3 t).d,.bool (stZ N3 t).m]):=by
     have h9:=K5a.out.set_ 3 (.bool mm)
     rw [← HM.out] at h9 ⊢
     exact h9
    have K2b:Hid (Blk (w8.setCell ⟨g5,3,none⟩ (.bool mm)) g2 88 #[.int .i64 sz0.s,.int .i64 sz0.e,.int .i64 sz0.d,.bool sz0.m]):=K2a.out.far (p:=⟨g5,3,none⟩) h52 _
    have K3b:Hid (Blk (w8.setCell ⟨g5,3,none⟩ (.bool mm)) g3 88 #[.int .i64 s.s,.int .i64 s.e,.int .i64 s.d,.bool s.m]):=K3a.out.far (p:=⟨g5,3,none⟩) h53 _
    generalize w8.setCell ⟨g5,3,none⟩ (.bool mm)=w9 at *
    generalize stZ N3 t=s6 at *
    clear X8 K5a K2a K3a HM HW ihT
    have q0:w9.cell? ⟨g3,0,none⟩=some (.int .i64 s.s):=K3b.out.cell 0; have q1:w9.cell? ⟨g3,1,none⟩=some (.int .i64 s.e):=K3b.out.cell 1; have q2:w9.cell? ⟨g3,2,none⟩=some (.int .i64 s.d):=K3b.out.cell 2; have q3:w9.cell? ⟨g3,3,none⟩=some (.bool s.m):=K3b.out.cell 3
    have y0:w9.cell? ⟨g5,0,none⟩=some (.int .i64 s6.s):=K5b.out.cell 0; have y1:w9.cell? ⟨g5,1,none⟩=some (.int .i64 s6.e):=K5b.out.cell 1; have y2:w9.cell? ⟨g5,2,none⟩=some (.int .i64 s6.d):=K5b.out.cell 2; have y3:w9.cell? ⟨g5,3,none⟩=some (.bool s6.m):=K5b.out.cell 3
    go_wp2_with (first
     | (go_at_call 82; refine (plus_any s s6 _).mono ?_; rintro rv w10 ⟨rfl,x10⟩; have K3c:=Lib.hid (K3b.out.ext x10))
     | ((with_reducible show wpList _ _ _ (Oper.mk none (.store 88 (.tmp 3) _) _ _ _ _ :: _) _ _); refine wpList_store_row rfl _ _ _ rfl g3 rfl 88 #[.int .i64 s.s,.int .i64 s.e,.int .i64 s.d,.bool s.m] #[.int .i64 (plS s s6).s,.int .i64 (plS s s6).e,.int .i64 (plS s s6).d,.bool (plS s s6).m] K3c.out rfl rfl (szC_one (plS s s6)) HZ.out ?_))
    go_roundw
    case rel=>exact ⟨i + 1,r1,plS s s6,by first | rfl | (rw [hwi]; rfl),LS,(X9.out.trans x10).setRow hgw _,(setRow_other _ g3 g2 _ hg).trans (K2b.out.ext x10),K3c.out.row _,E1,hr1z,HL1⟩
    case measure=>(try rw [hwi]); rw [iof_succ,iof_nat]; exact Nat.sub_lt_sub_left hlt (Nat.lt_succ_self i)
theorem sz_all:∀ n,ZX n∧ZT n
 | 0=>⟨fun x h=>absurd h (by omega),fun x h=>absurd h (by omega)⟩
 | n + 1 =>
  have ih:=sz_all n
  ⟨zx_step ih.1 ih.2,zt_step ih.1 ih.2⟩
end Go.Proofs.YtmmnhbhnjiajhaaGreatDoor.c
