/- The reference's equality of lists of statements; the induction. No condition. -/
import Derived.Test.YtmmnhbhnjiajhaaGreatDoorSLw
namespace Go.Proofs.YtmmnhbhnjiajhaaGreatDoor.c
open Go.RowKit
set_option linter.unusedVariables false
set_option maxRecDepth 100000
set_option maxHeartbeats 12800000
set_option linter.unusedSimpArgs false
theorem Lp.st1 {V:Vw} {A:Option Addr} {n i:Nat} {r:Nd} (l:Lp V A n 1 i r) (h:i < n):∃ o nm t a b c tl,r=.st o nm t a b c tl:=by
 obtain ⟨h1,xs,_,_,he⟩:=l
 exact he.st1 (by omega)
theorem Lp.bl1 {V:Vw} {A:Option Addr} {n i:Nat} {r:Nd} (l:Lp V A n 2 i r) (h:i < n):∃ b tl,r=.bl b tl:=by
 obtain ⟨h1,xs,_,_,he⟩:=l
 exact he.bl1 (by omega)
theorem Lp.ca1 {V:Vw} {A:Option Addr} {n i:Nat} {r:Nd} (l:Lp V A n 3 i r) (h:i < n):∃ lo up b tl,r=.ca lo up b tl:=by
 obtain ⟨h1,xs,_,_,he⟩:=l
 exact he.ca1 (by omega)
theorem blk_new2 (w:World) (o:Obj) (t:TypeId) (cs:Array Value):Blk ((w.alloc o).alloc (.cells cs t)) (w.heap.size + 1) t cs:=by
 have q:=Blk.new (w.alloc o) t cs
 rwa [size_alloc] at q
theorem vt_step {n:Nat} (ihL:VL n) (ihT:VT n):VT (n + 1):=by
 intro x y hsz hlw w v u p q hslx hsly
 obtain ⟨A,c,rfl,la⟩:=hslx.lp
 obtain ⟨A',c',rfl,lb⟩:=hsly.lp
 by_cases hne:x.len=y.len
 case neg =>
  rw [eqN_ne hne]
  have hneI:¬ (x.len:Int)=(y.len:Int):=by omega
  clear la lb hslx hsly hsz ihL ihT hlw
  go_enter Tryz.func74,Tryz.ntmps74
  go_wp2_with fail
  go_ret
  exact ⟨rfl,exA⟩
 have hxl:=hlw.len
 have HLW:=Lib.hid hlw
 rw [← hne] at lb ⊢
 generalize hN:x.len=N at *
 have hN1:N ≤ 4611686018427387904:=by omega
 have L0:=Lib.hid la
 have M0:=Lib.hid lb
 have X0:Hid (Ext w w):=Ext.refl w
 obtain ⟨R,hR⟩:∃ R,eqN x y=R:=⟨_,rfl⟩
 rw [hR]
 have E0:=Lib.hid hR
 have hxs:x.sz ≤ n:=by omega
 clear la lb hslx hsly hsz hR hne hN hxl hlw
 go_enter Tryz.func74,Tryz.ntmps74
 go_wp2_with fail
 go_loopw [5] (fun u5 wr=>∃ (i:Nat) (r s:Nd),u5=.int .i64 i∧Hid (Lp (vp p wr) A N 1 i r)∧Hid (Lp (vp q wr) A' N 1 i s)∧Hid (Ext w wr)∧Hid (eqN r s=R)∧r.sz ≤ n∧Hid (LW r)) (fun u5 _=>N - (intOf u5).toNat)
 case atStart=>exact ⟨0,x,y,rfl,L0,M0,X0,E0,hxs,HLW⟩
 case round =>
  clear L0 M0 X0 E0 hxs HLW
  obtain ⟨i,r,s,rfl,L,M,X,hE,hrz,hlr⟩:=hrel
  by_cases hlt:i < N
  case neg =>
   obtain rfl:=L.out.fin hlt
   obtain rfl:=M.out.fin hlt
   have hltI:¬ (i:Int) < (N:Int):=by omega
   obtain rfl:R=true:=hE.out.symm
   go_wp2_with fail
   go_ret
   exact ⟨rfl,X.out⟩
  have hltI:(i:Int) < (N:Int):=by omega
  have hwi:wrap64 ((i:Int) + 1)=(i:Int) + 1:=IntWalk.wrap64_in _ (by omega)
  obtain ⟨o1,n1,t1,a1,b1,c1,r1,rfl⟩:=L.out.st1 hlt
  obtain ⟨o2,n2,t2,a2,b2,c2,s1,rfl⟩:=M.out.st1 hlt
  obtain ⟨bb,oo,cs,rfl,hnx,hcx,L'⟩:=L.out.step hlt
  obtain ⟨bc,oc,ds,rfl,hny,hcy,M'⟩:=M.out.step hlt
  have hrs:a1.sz < n∧b1.sz < n∧c1.sz < n∧r1.sz ≤ n:=by simp only [Nd.sz] at hrz; omega
  obtain ⟨va,vb,vc,rfl,ha1,hb1,hc1⟩:=nv_stI hnx
  obtain ⟨A1,ca1,rfl,_⟩:=ha1.lp
  obtain ⟨B1,cb1,rfl,lb1⟩:=hb1.lp
  obtain ⟨C1,cc1,rfl,lc1⟩:=hc1.lp
  obtain ⟨va,vb,vc,rfl,ha2,hb2,hc2⟩:=nv_stI hny
  obtain ⟨A2,ca2,rfl,_⟩:=ha2.lp
  obtain ⟨B2,cb2,rfl,lb2⟩:=hb2.lp
  obtain ⟨C2,cc2,rfl,lc2⟩:=hc2.lp
  have hbl:=(show LW b1 from hlr.out.2.2.1).len
  have hcl:=(show LW c1 from hlr.out.2.2.2.1).len
  have HLB:Hid (LW b1):=hlr.out.2.2.1
  have HLC:Hid (LW c1):=hlr.out.2.2.2.1
  have HL1:Hid (LW r1):=hlr.out.tl
  have HA:Hid (∀ w1,Ext wr w1 → Calls Tryz.prog 128 #[.slice A1 a1.len ca1,.slice A2 a2.len ca2] w1 fun e w'=>e=.returned (.bool (eqN a1 a2))∧Ext w1 w'):=fun w1 X2=>ihL a1 a2 hrs.1 hlr.out.2.1 w1 _ _ p q (ha1.mono (vp_ext X2)) (ha2.mono (vp_ext X2))
  have LB1:=Lib.hid lb1
  have LB2:=Lib.hid lb2
  have LC1:=Lib.hid lc1
  have LC2:=Lib.hid lc2
  have LS:Hid (Lp (vp p wr) (some ⟨bb,oo,none⟩) N 1 (i + 1) r1):=L'
  have MS:Hid (Lp (vp q wr) (some ⟨bc,oc,none⟩) N 1 (i + 1) s1):=M'
  have E1:Hid (((o1 == o2 && (n1.toList == n2.toList && (tyB t1 t2 && (eqN a1 a2 && (eqN b1 b2 && eqN c1 c2))))) && eqN r1 s1)=R):=hE.out
  have HW:Hid (∀ w',Ext wr w' → w'.cell? ⟨bb,oo + i * 10,none⟩=some (.int .i64 o1)∧w'.cell? ⟨bb,oo + i * 10 + 1,none⟩=some (.string n1)∧w'.cell? ⟨bb,oo + i * 10 + 2,none⟩=some (.int .i64 t1.base)∧w'.cell? ⟨bb,oo + i * 10 + 3,none⟩=some (.int .i64 t1.bits)∧w'.cell? ⟨bb,oo + i * 10 + 4,none⟩=some (.string t1.name)∧w'.cell? ⟨bb,oo + i * 10 + 5,none⟩=some (.bool t1.opt)∧w'.cell? ⟨bb,oo + i * 10 + 6,none⟩=some (.bool t1.err)∧w'.cell? ⟨bb,oo + i * 10 + 7,none⟩=some (.slice A1 a1.len ca1)∧w'.cell? ⟨bb,oo + i * 10 + 8,none⟩=some (.slice B1 b1.len cb1)∧w'.cell? ⟨bb,oo + i * 10 + 9,none⟩=some (.slice C1 c1.len cc1)∧w'.cell? ⟨bc,oc + i * 10,none⟩=some (.int .i64 o2)∧w'.cell? ⟨bc,oc + i * 10 + 1,none⟩=some (.string n2)∧w'.cell? ⟨bc,oc + i * 10 + 2,none⟩=some (.int .i64 t2.base)∧w'.cell? ⟨bc,oc + i * 10 + 3,none⟩=some (.int .i64 t2.bits)∧w'.cell? ⟨bc,oc + i * 10 + 4,none⟩=some (.string t2.name)∧w'.cell? ⟨bc,oc + i * 10 + 5,none⟩=some (.bool t2.opt)∧w'.cell? ⟨bc,oc + i * 10 + 6,none⟩=some (.bool t2.err)∧w'.cell? ⟨bc,oc + i * 10 + 7,none⟩=some (.slice A2 a2.len ca2)∧w'.cell? ⟨bc,oc + i * 10 + 8,none⟩=some (.slice B2 b2.len cb2)∧w'.cell? ⟨bc,oc + i * 10 + 9,none⟩=some (.slice C2 c2.len cc2)):=fun w' X2=>⟨row_at hcx X2 (j:=0) rfl,row_at hcx X2 (j:=1) rfl,row_at hcx X2 (j:=2) rfl,row_at hcx X2 (j:=3) rfl,row_at hcx X2 (j:=4) rfl,row_at hcx X2 (j:=5) rfl,row_at hcx X2 (j:=6) rfl,row_at hcx X2 (j:=7) rfl,row_at hcx X2 (j:=8) rfl,row_at hcx X2 (j:=9) rfl,row_at hcy X2 (j:=0) rfl,row_at hcy X2 (j:=1) rfl,row_at hcy X2 (j:=2) rfl,row_at hcy X2 (j:=3) rfl,row_at hcy X2 (j:=4) rfl,row_at hcy X2 (j:=5) rfl,row_at hcy X2 (j:=6) rfl,row_at hcy X2 (j:=7) rfl,row_at hcy X2 (j:=8) rfl,row_at hcy X2 (j:=9) rfl⟩
  clear hnx hny hcx hcy L' M' L M hE hrz ha1 hb1 hc1 ha2 hb2 hc2 lb1 lb2 lc1 lc2 hlr
  go_upto_region 6 with fail
  go_cut [6,7] from 23 to 30 (fun c d wx=>∃ g1 g2,c=.pointer (some ⟨g1,0,none⟩)∧d=.pointer (some ⟨g2,0,none⟩)∧Hid (Ext wr wx)∧Hid (Blk wx g1 44 #[.int .i64 o1,.string n1,.int .i64 t1.base,.int .i64 t1.bits,.string t1.name,.bool t1.opt,.bool t1.err,.slice A1 a1.len ca1,.slice B1 b1.len cb1,.slice C1 c1.len cc1])∧Hid (Blk wx g2 44 #[.int .i64 o2,.string n2,.int .i64 t2.base,.int .i64 t2.bits,.string t2.name,.bool t2.opt,.bool t2.err,.slice A2 a2.len ca2,.slice B2 b2.len cb2,.slice C2 c2.len cc2]))
  case first =>
   obtain ⟨s0,s1,s2,s3,s4,s5,s6,s7,s8,s9,s10,s11,s12,s13,s14,s15,s16,s17,s18,s19⟩:=HW.out wr (Ext.refl _)
   clear LS MS E1 X LB1 LB2 LC1 LC2 HA ihL ihT
   go_region_held3 (fun w'=>w'.cell? ⟨bb,oo + i * 10,none⟩=some (.int .i64 o1)∧w'.cell? ⟨bb,oo + i * 10 + 1,none⟩=some (.string n1)∧w'.cell? ⟨bb,oo + i * 10 + 2,none⟩=some (.int .i64 t1.base)∧w'.cell? ⟨bb,oo + i * 10 + 3,none⟩=some (.int .i64 t1.bits)∧w'.cell? ⟨bb,oo + i * 10 + 4,none⟩=some (.string t1.name)∧w'.cell? ⟨bb,oo + i * 10 + 5,none⟩=some (.bool t1.opt)∧w'.cell? ⟨bb,oo + i * 10 + 6,none⟩=some (.bool t1.err)∧w'.cell? ⟨bb,oo + i * 10 + 7,none⟩=some (.slice A1 a1.len ca1)∧w'.cell? ⟨bb,oo + i * 10 + 8,none⟩=some (.slice B1 b1.len cb1)∧w'.cell? ⟨bb,oo + i * 10 + 9,none⟩=some (.slice C1 c1.len cc1)∧w'.cell? ⟨bc,oc + i * 10,none⟩=some (.int .i64 o2)∧w'.cell? ⟨bc,oc + i * 10 + 1,none⟩=some (.string n2)∧w'.cell? ⟨bc,oc + i * 10 + 2,none⟩=some (.int .i64 t2.base)∧w'.cell? ⟨bc,oc + i * 10 + 3,none⟩=some (.int .i64 t2.bits)∧w'.cell? ⟨bc,oc + i * 10 + 4,none⟩=some (.string t2.name)∧w'.cell? ⟨bc,oc + i * 10 + 5,none⟩=some (.bool t2.opt)∧w'.cell? ⟨bc,oc + i * 10 + 6,none⟩=some (.bool t2.err)∧w'.cell? ⟨bc,oc + i * 10 + 7,none⟩=some (.slice A2 a2.len ca2)∧w'.cell? ⟨bc,oc + i * 10 + 8,none⟩=some (.slice B2 b2.len cb2)∧w'.cell? ⟨bc,oc + i * 10 + 9,none⟩=some (.slice C2 c2.len cc2)) ((exact HW.out _ exA)) (fail)
   all_goals
    go_wp2_with fail
    go_meet
    first
     | exact ⟨_,_,rfl,rfl,(((Ext.refl wr).alloc _).alloc _).drew,((Blk.new _ _ _).alloc _).drew,(blk_new2 _ _ _ _).drew⟩
     | exact ⟨_,_,rfl,rfl,(((Ext.refl wr).alloc _).alloc _).drew,(blk_new2 _ _ _ _).drew,((Blk.new _ _ _).alloc _).drew⟩
  case rest =>
  obtain ⟨g1,g2,rfl,rfl,X1,K1,K2⟩:=hcut
  clear HW
  go_upto_region 7 with fail
  generalize wc=w1 at *
  obtain ⟨h,hh⟩:∃ h,(o1 == o2 && (n1.toList == n2.toList && (tyB t1 t2 && (eqN a1 a2 && (b1.len == b2.len && c1.len == c2.len)))))=h:=⟨_,rfl⟩
  have HH:=Lib.hid hh
  clear hh
  go_cut [75] from 31 to 75 (fun c wx=>c=.bool (!h)∧Hid (Ext w1 wx))
  case first =>
   have q0:w1.cell? ⟨g1,0,none⟩=some (.int .i64 o1):=K1.out.cell 0; have q1:w1.cell? ⟨g1,1,none⟩=some (.string n1):=K1.out.cell 1; have q2:w1.cell? ⟨g1,2,none⟩=some (.int .i64 t1.base):=K1.out.cell 2; have q3:w1.cell? ⟨g1,3,none⟩=some (.int .i64 t1.bits):=K1.out.cell 3; have q4:w1.cell? ⟨g1,4,none⟩=some (.string t1.name):=K1.out.cell 4; have q5:w1.cell? ⟨g1,5,none⟩=some (.bool t1.opt):=K1.out.cell 5; have q6:w1.cell? ⟨g1,6,none⟩=some (.bool t1.err):=K1.out.cell 6; have q7:w1.cell? ⟨g1,7,none⟩=some (.slice A1 a1.len ca1):=K1.out.cell 7; have q8:w1.cell? ⟨g1,8,none⟩=some (.slice B1 b1.len cb1):=K1.out.cell 8; have q9:w1.cell? ⟨g1,9,none⟩=some (.slice C1 c1.len cc1):=K1.out.cell 9
   have r0:w1.cell? ⟨g2,0,none⟩=some (.int .i64 o2):=K2.out.cell 0; have r1:w1.cell? ⟨g2,1,none⟩=some (.string n2):=K2.out.cell 1; have r2:w1.cell? ⟨g2,2,none⟩=some (.int .i64 t2.base):=K2.out.cell 2; have r3:w1.cell? ⟨g2,3,none⟩=some (.int .i64 t2.bits):=K2.out.cell 3; have r4:w1.cell? ⟨g2,4,none⟩=some (.string t2.name):=K2.out.cell 4; have r5:w1.cell? ⟨g2,5,none⟩=some (.bool t2.opt):=K2.out.cell 5; have r6:w1.cell? ⟨g2,6,none⟩=some (.bool t2.err):=K2.out.cell 6; have r7:w1.cell? ⟨g2,7,none⟩=some (.slice A2 a2.len ca2):=K2.out.cell 7; have r8:w1.cell? ⟨g2,8,none⟩=some (.slice B2 b2.len cb2):=K2.out.cell 8; have r9:w1.cell? ⟨g2,9,none⟩=some (.slice C2 c2.len cc2):=K2.out.cell 9
   have hq:=run_ty_neq t1 t2
   generalize eqN a1 a2=z1 at HA HH
   generalize tyB t1 t2=z2 at hq HH
   clear LS MS E1 X LB1 LB2 LC1 LC2 ihL ihT
   generalize b1.len=l1 at *
   generalize b2.len=l2 at *
   generalize c1.len=l3 at *
   generalize c2.len=l4 at *
   go_wp2_with (first
    | (go_at_call 128; refine (HA.out _ X1.out).mono ?_; rintro r w5 ⟨rfl,x5⟩; have q8:w5.cell? ⟨g1,8,none⟩=some (.slice B1 l1 cb1):=(K1.out.ext x5).cell 8; have r8:w5.cell? ⟨g2,8,none⟩=some (.slice B2 l2 cb2):=(K2.out.ext x5).cell 8; have q9:w5.cell? ⟨g1,9,none⟩=some (.slice C1 l3 cc1):=(K1.out.ext x5).cell 9; have r9:w5.cell? ⟨g2,9,none⟩=some (.slice C2 l4 cc2):=(K2.out.ext x5).cell 9))
   all_goals
    go_meet
    refine ⟨congrArg Value.bool ?_,?_⟩
    ·rw [← HH.out]; first | rfl | (simp [*]; done) | (simp [*]; omega) | (rw [Bool.eq_iff_iff]; simp [*]; omega)
    ·first | exact Ext.refl _ | exact x5
  case rest =>
  obtain ⟨rfl,X2⟩:=hcut
  cases h
  case false =>
   have hRf:R=false:=by
    have h1:=HH.out
    rw [← E1.out]
    cases hb:eqN b1 b2
    ·simp
    ·cases hc:eqN c1 c2
     ·simp
     ·have e1:=eqN_len _ _ hb
      have e2:=eqN_len _ _ hc
      rw [e1,e2] at h1
      simp only [beq_self_eq_true,Bool.and_true] at h1 ⊢
      rw [h1]; rfl
   subst hRf
   go_wp2_with fail
   go_ret
   exact ⟨rfl,(X.out.trans X1.out).trans X2.out⟩
  case true =>
  have hHH:(b1.len=b2.len∧c1.len=c2.len)∧Hid (((eqN b1 b2 && eqN c1 c2) && eqN r1 s1)=R):=by
   have h1:=HH.out
   simp only [Bool.and_eq_true,beq_iff_eq] at h1
   obtain ⟨h2,h3,h4,h5,h6,h7⟩:=h1
   refine ⟨⟨h6,h7⟩,?_⟩
   unfold Hid
   rw [← E1.out,h2,h3,h4,h5]
   simp
  obtain ⟨⟨h6,h7⟩,E2⟩:=hHH
  have X3:=Lib.hid (X1.out.trans X2.out)
  have K3:=Lib.hid (K1.out.ext X2.out)
  have K4:=Lib.hid (K2.out.ext X2.out)
  have HN2:Hid (b1.len ≤ 4611686018427387904∧c1.len ≤ 4611686018427387904):=by unfold Hid; omega
  rw [← h6] at K4 LB2
  rw [← h7] at K4 LC2
  have hb1:b1.sz < n:=hrs.2.1
  have hc1:c1.sz < n:=hrs.2.2.1
  have LB3:Hid (Lp (vp p wc) B1 b1.len 2 0 b1):=LB1.out.mono (vp_ext X3.out)
  have LB4:Hid (Lp (vp q wc) B2 b1.len 2 0 b2):=LB2.out.mono (vp_ext X3.out)
  generalize hN2:b1.len=N2 at *
  generalize hN3:c1.len=N3 at *
  clear HH E1 X1 X2 K1 K2 LB1 LB2 HA hbl hcl h6 h7 hN2 hN3 ihL
  go_upto_region 10 with fail
  obtain ⟨wo,rfl⟩:∃ wo,wo=wr:=⟨_,rfl⟩
  go_loopw [8] (fun u8 wx=>∃ (j:Nat) (rb sb:Nd),u8=.int .i64 j∧Hid (Lp (vp p wx) B1 N2 2 j rb)∧Hid (Lp (vp q wx) B2 N2 2 j sb)∧Hid (Ext wc wx)∧Hid (eqN rb sb=eqN b1 b2)∧rb.sz ≤ b1.sz∧Hid (LW rb)) (fun u8 _=>N2 - (intOf u8).toNat)
  case atStart=>exact ⟨0,b1,b2,rfl,LB3,LB4,Ext.refl _,rfl,Nat.le_refl _,HLB⟩
  case round =>
   clear LB3 LB4
   obtain ⟨j,rb,sb,rfl,Lb,Mb,X4,hE,hrz,hlr⟩:=hrel
   have q8:wr.cell? ⟨g1,8,none⟩=some (.slice B1 N2 cb1):=(K3.out.ext X4.out).cell 8
   have r8:wr.cell? ⟨g2,8,none⟩=some (.slice B2 N2 cb2):=(K4.out.ext X4.out).cell 8
   by_cases hlj:j < N2
   case pos =>
    have hljI:(j:Int) < (N2:Int):=by omega
    have hwj:wrap64 ((j:Int) + 1)=(j:Int) + 1:=IntWalk.wrap64_in _ (by have:=HN2.out; omega)
    obtain ⟨d1,rb1,rfl⟩:=Lb.out.bl1 hlj
    obtain ⟨d2,sb1,rfl⟩:=Mb.out.bl1 hlj
    obtain ⟨e1,f1,xs,rfl,hnx,hcx,L'⟩:=Lb.out.step hlj
    obtain ⟨e2,f2,ys,rfl,hny,hcy,M'⟩:=Mb.out.step hlj
    obtain ⟨vk,rfl,hd1⟩:=nv_blI hnx
    obtain ⟨vk,rfl,hd2⟩:=nv_blI hny
    obtain ⟨D1,cd1,rfl,_⟩:=hd1.lp
    obtain ⟨D2,cd2,rfl,_⟩:=hd2.lp
    have hds:d1.sz < n∧rb1.sz ≤ b1.sz:=by simp only [Nd.sz] at hrz; omega
    have HLD:Hid (LW d1):=hlr.out.2.1
    have HLT:Hid (LW rb1):=hlr.out.tl
    have HT:Hid (∀ w1,Ext wr w1 → Calls Tryz.prog 74 #[.slice D1 d1.len cd1,.slice D2 d2.len cd2] w1 fun e w'=>e=.returned (.bool (eqN d1 d2))∧Ext w1 w'):=fun w1 X5=>ihT d1 d2 hds.1 HLD.out w1 _ _ p q (hd1.mono (vp_ext X5)) (hd2.mono (vp_ext X5))
    have HW:Hid (∀ w',Ext wr w' → w'.cell? ⟨g1,8,none⟩=some (.slice (some ⟨e1,f1,none⟩) N2 cb1)∧w'.cell? ⟨g2,8,none⟩=some (.slice (some ⟨e2,f2,none⟩) N2 cb2)∧w'.cell? ⟨e1,f1 + j,none⟩=some (.slice D1 d1.len cd1)∧w'.cell? ⟨e2,f2 + j,none⟩=some (.slice D2 d2.len cd2)):=fun w' X5=>⟨((K3.out.ext X4.out).ext X5).cell 8,((K4.out.ext X4.out).ext X5).cell 8,by have h9:=row_at hcx X5 (j:=0) rfl; rwa [show f1 + j * szK 2 + 0=f1 + j from congrArg (f1 + ·) (Nat.mul_one j)] at h9,by have h9:=row_at hcy X5 (j:=0) rfl; rwa [show f2 + j * szK 2 + 0=f2 + j from congrArg (f2 + ·) (Nat.mul_one j)] at h9⟩
    have LB:Hid (Lp (vp p wr) (some ⟨e1,f1,none⟩) N2 2 (j + 1) rb1):=L'
    have MB:Hid (Lp (vp q wr) (some ⟨e2,f2,none⟩) N2 2 (j + 1) sb1):=M'
    have E3:Hid ((eqN d1 d2 && eqN rb1 sb1)=eqN b1 b2):=hE.out
    generalize eqN d1 d2=e at HT E3
    clear hnx hny hcx hcy L' M' Lb Mb hE hrz hd1 hd2 hlr HLD
    go_upto_region 12 with fail
    clear q8 r8
    go_cut [94] from 83 to 94 (fun c wx=>c=.bool (!e)∧Hid (Ext wr wx))
    case first =>
     obtain ⟨s0,s1,s2,s3⟩:=HW.out wr (Ext.refl _)
     clear LB MB E3 X X3 X4 E2 LS MS LC1 LC2 ihT K3 K4
     go_region_held3 (fun w'=>w'.cell? ⟨g1,8,none⟩=some (.slice (some ⟨e1,f1,none⟩) N2 cb1)∧w'.cell? ⟨g2,8,none⟩=some (.slice (some ⟨e2,f2,none⟩) N2 cb2)∧w'.cell? ⟨e1,f1 + j,none⟩=some (.slice D1 d1.len cd1)∧w'.cell? ⟨e2,f2 + j,none⟩=some (.slice D2 d2.len cd2)) ((exact HW.out _ exA)) ((first | (go_at_call 74; refine (HT.out _ exA).mono ?_; rintro r w6 ⟨rfl,x6⟩)))
     go_wp2_with fail
     go_meet
     exact ⟨rfl,(Ext.refl wr).drew.trans x6⟩
    case rest =>
     obtain ⟨rfl,X5⟩:=hcut
     cases e
     case false =>
      have hRf:R=false:=by rw [← E2.out,← E3.out]; rfl
      subst hRf
      go_wp2_with fail
      go_ret
      exact ⟨rfl,((X.out.trans X3.out).trans X4.out).trans X5.out⟩
     case true =>
      have E4:Hid (eqN rb1 sb1=eqN b1 b2):=E3.out
      go_wp2_with fail
      go_roundw
      case rel=>exact ⟨j + 1,rb1,sb1,by first | rfl | (rw [hwj]; rfl),LB.out.mono (vp_ext X5.out),MB.out.mono (vp_ext X5.out),X4.out.trans X5.out,E4,hds.2,HLT⟩
      case measure=>(try rw [hwj]); rw [iof_succ,iof_nat]; exact Nat.sub_lt_sub_left hlj (Nat.lt_succ_self j)
   case neg =>
   obtain rfl:=Lb.out.fin hlj
   obtain rfl:=Mb.out.fin hlj
   have hljI:¬ (j:Int) < (N2:Int):=by omega
   have E3:Hid ((eqN c1 c2 && eqN r1 s1)=R):=by have h9:=E2.out; rw [← hE.out] at h9; exact h9
   have X5:=Lib.hid (X3.out.trans X4.out)
   have K5:=Lib.hid (K3.out.ext X4.out)
   have K6:=Lib.hid (K4.out.ext X4.out)
   have LC3:Hid (Lp (vp p wr) C1 N3 3 0 c1):=LC1.out.mono (vp_ext X5.out)
   have LC4:Hid (Lp (vp q wr) C2 N3 3 0 c2):=LC2.out.mono (vp_ext X5.out)
   clear E2 X3 X4 K3 K4 LC1 LC2 hE hrz Lb Mb
   go_upto_region 15 with fail
   clear q8 r8
   obtain ⟨wb,rfl⟩:∃ wb,wb=wr:=⟨_,rfl⟩
   go_loopw [9] (fun u9 wx=>∃ (j:Nat) (rc sc:Nd),u9=.int .i64 j∧Hid (Lp (vp p wx) C1 N3 3 j rc)∧Hid (Lp (vp q wx) C2 N3 3 j sc)∧Hid (Ext wb wx)∧Hid (eqN rc sc=eqN c1 c2)∧rc.sz ≤ c1.sz∧Hid (LW rc)) (fun u9 _=>N3 - (intOf u9).toNat)
   case atStart=>exact ⟨0,c1,c2,rfl,LC3,LC4,Ext.refl _,rfl,Nat.le_refl _,HLC⟩
   case round =>
    clear LC3 LC4
    obtain ⟨j,rc,sc,rfl,Lc,Mc,X6,hE,hrz,hlr⟩:=hrel
    have q9:wr.cell? ⟨g1,9,none⟩=some (.slice C1 N3 cc1):=(K5.out.ext X6.out).cell 9
    have r9:wr.cell? ⟨g2,9,none⟩=some (.slice C2 N3 cc2):=(K6.out.ext X6.out).cell 9
    by_cases hlj:j < N3
    case pos =>
     have hljI:(j:Int) < (N3:Int):=by omega
     have hwj:wrap64 ((j:Int) + 1)=(j:Int) + 1:=IntWalk.wrap64_in _ (by have:=HN2.out; omega)
     obtain ⟨lo1,up1,d1,rc1,rfl⟩:=Lc.out.ca1 hlj
     obtain ⟨lo2,up2,d2,sc1,rfl⟩:=Mc.out.ca1 hlj
     obtain ⟨e1,f1,xs,rfl,hnx,hcx,L'⟩:=Lc.out.step hlj
     obtain ⟨e2,f2,ys,rfl,hny,hcy,M'⟩:=Mc.out.step hlj
     obtain ⟨vk,rfl,hd1⟩:=nv_caI hnx
     obtain ⟨vk,rfl,hd2⟩:=nv_caI hny
     obtain ⟨D1,cd1,rfl,_⟩:=hd1.lp
     obtain ⟨D2,cd2,rfl,_⟩:=hd2.lp
     have hds:d1.sz < n∧rc1.sz ≤ c1.sz:=by simp only [Nd.sz] at hrz; omega
     have HLD:Hid (LW d1):=hlr.out.2.1
     have HLT:Hid (LW rc1):=hlr.out.tl
     have HT:Hid (∀ w1,Ext wr w1 → Calls Tryz.prog 74 #[.slice D1 d1.len cd1,.slice D2 d2.len cd2] w1 fun e w'=>e=.returned (.bool (eqN d1 d2))∧Ext w1 w'):=fun w1 X5=>ihT d1 d2 hds.1 HLD.out w1 _ _ p q (hd1.mono (vp_ext X5)) (hd2.mono (vp_ext X5))
     have HW:Hid (∀ w',Ext wr w' → w'.cell? ⟨g1,9,none⟩=some (.slice (some ⟨e1,f1,none⟩) N3 cc1)∧w'.cell? ⟨g2,9,none⟩=some (.slice (some ⟨e2,f2,none⟩) N3 cc2)∧w'.cell? ⟨e1,f1 + j * 3,none⟩=some (.int .i64 lo1)∧w'.cell? ⟨e1,f1 + j * 3 + 1,none⟩=some (.int .i64 up1)∧w'.cell? ⟨e1,f1 + j * 3 + 2,none⟩=some (.slice D1 d1.len cd1)∧w'.cell? ⟨e2,f2 + j * 3,none⟩=some (.int .i64 lo2)∧w'.cell? ⟨e2,f2 + j * 3 + 1,none⟩=some (.int .i64 up2)∧w'.cell? ⟨e2,f2 + j * 3 + 2,none⟩=some (.slice D2 d2.len cd2)):=fun w' X5=>⟨((K5.out.ext X6.out).ext X5).cell 9,((K6.out.ext X6.out).ext X5).cell 9,row_at hcx X5 (j:=0) rfl,row_at hcx X5 (j:=1) rfl,row_at hcx X5 (j:=2) rfl,row_at hcy X5 (j:=0) rfl,row_at hcy X5 (j:=1) rfl,row_at hcy X5 (j:=2) rfl⟩
     have LB:Hid (Lp (vp p wr) (some ⟨e1,f1,none⟩) N3 3 (j + 1) rc1):=L'
     have MB:Hid (Lp (vp q wr) (some ⟨e2,f2,none⟩) N3 3 (j + 1) sc1):=M'
     have E4:Hid (((lo1 == lo2 && (up1 == up2 && eqN d1 d2)) && eqN rc1 sc1)=eqN c1 c2):=hE.out
     obtain ⟨h,hh⟩:∃ h,(lo1 == lo2 && (up1 == up2 && eqN d1 d2))=h:=⟨_,rfl⟩
     rw [hh] at E4
     have HH:=Lib.hid hh
     clear hnx hny hcx hcy L' M' Lc Mc hE hrz hd1 hd2 hh hlr HLD
     go_upto_region 17 with fail
     clear q9 r9
     go_cut [10,11] from 102 to 111 (fun c d wx=>∃ g3 g4,c=.pointer (some ⟨g3,0,none⟩)∧d=.pointer (some ⟨g4,0,none⟩)∧Hid (Ext wr wx)∧Hid (Blk wx g3 101 #[.int .i64 lo1,.int .i64 up1,.slice D1 d1.len cd1])∧Hid (Blk wx g4 101 #[.int .i64 lo2,.int .i64 up2,.slice D2 d2.len cd2]))
     case first =>
      obtain ⟨s0,s1,s2,s3,s4,s5,s6,s7⟩:=HW.out wr (Ext.refl _)
      clear LB MB E3 E4 X X5 X6 LS MS ihT K5 K6 HT HH
      go_region_held3 (fun w'=>w'.cell? ⟨g1,9,none⟩=some (.slice (some ⟨e1,f1,none⟩) N3 cc1)∧w'.cell? ⟨g2,9,none⟩=some (.slice (some ⟨e2,f2,none⟩) N3 cc2)∧w'.cell? ⟨e1,f1 + j * 3,none⟩=some (.int .i64 lo1)∧w'.cell? ⟨e1,f1 + j * 3 + 1,none⟩=some (.int .i64 up1)∧w'.cell? ⟨e1,f1 + j * 3 + 2,none⟩=some (.slice D1 d1.len cd1)∧w'.cell? ⟨e2,f2 + j * 3,none⟩=some (.int .i64 lo2)∧w'.cell? ⟨e2,f2 + j * 3 + 1,none⟩=some (.int .i64 up2)∧w'.cell? ⟨e2,f2 + j * 3 + 2,none⟩=some (.slice D2 d2.len cd2)) ((exact HW.out _ exA)) (fail)
      all_goals
       go_wp2_with fail
       go_meet
       first
        | exact ⟨_,_,rfl,rfl,(((Ext.refl wr).alloc _).alloc _).drew,((Blk.new _ _ _).alloc _).drew,(blk_new2 _ _ _ _).drew⟩
        | exact ⟨_,_,rfl,rfl,(((Ext.refl wr).alloc _).alloc _).drew,(blk_new2 _ _ _ _).drew,((Blk.new _ _ _).alloc _).drew⟩
     case rest =>
     obtain ⟨g3,g4,rfl,rfl,X7,K7,K8⟩:=hcut
     clear HW
     go_upto_region 18 with fail
     generalize wc=w7 at *
     go_cut [131] from 112 to 131 (fun c wx=>c=.bool (!h)∧Hid (Ext w7 wx))
     case first =>
      have q0:w7.cell? ⟨g3,0,none⟩=some (.int .i64 lo1):=K7.out.cell 0; have q1:w7.cell? ⟨g3,1,none⟩=some (.int .i64 up1):=K7.out.cell 1; have q2:w7.cell? ⟨g3,2,none⟩=some (.slice D1 d1.len cd1):=K7.out.cell 2
      have r0:w7.cell? ⟨g4,0,none⟩=some (.int .i64 lo2):=K8.out.cell 0; have r1:w7.cell? ⟨g4,1,none⟩=some (.int .i64 up2):=K8.out.cell 1; have r2:w7.cell? ⟨g4,2,none⟩=some (.slice D2 d2.len cd2):=K8.out.cell 2
      clear LB MB E3 E4 X X5 X6 LS MS ihT K5 K6
      generalize eqN d1 d2=z1 at HT HH
      go_wp2_with (first
       | (go_at_call 74; refine (HT.out _ X7.out).mono ?_; rintro r w8 ⟨rfl,x8⟩))
      all_goals
       go_meet
       refine ⟨congrArg Value.bool ?_,?_⟩
       ·rw [← HH.out]; first | rfl | (simp [*]; done) | (simp [*]; omega)
       ·first | exact Ext.refl _ | exact x8
     case rest =>
     obtain ⟨rfl,X8⟩:=hcut
     cases h
     case false =>
      have hRf:R=false:=by rw [← E3.out,← E4.out]; rfl
      subst hRf
      go_wp2_with fail
      go_ret
      exact ⟨rfl,(((X.out.trans X5.out).trans X6.out).trans X7.out).trans X8.out⟩
     case true =>
      have E5:Hid (eqN rc1 sc1=eqN c1 c2):=E4.out
      go_wp2_with fail
      go_roundw
      case rel=>exact ⟨j + 1,rc1,sc1,by first | rfl | (rw [hwj]; rfl),LB.out.mono (vp_ext (X7.out.trans X8.out)),MB.out.mono (vp_ext (X7.out.trans X8.out)),X6.out.trans (X7.out.trans X8.out),E5,hds.2,HLT⟩
      case measure=>(try rw [hwj]); rw [iof_succ,iof_nat]; exact Nat.sub_lt_sub_left hlj (Nat.lt_succ_self j)
    case neg =>
     obtain rfl:=Lc.out.fin hlj
     obtain rfl:=Mc.out.fin hlj
     have hljI:¬ (j:Int) < (N3:Int):=by omega
     have E4:Hid (eqN r1 s1=R):=by have h9:=E3.out; rw [← hE.out] at h9; exact h9
     have X7:=Lib.hid (X5.out.trans X6.out)
     go_wp2_with fail
     go_roundw
     case rel=>exact ⟨i + 1,r1,s1,by first | rfl | (rw [hwi]; rfl),LS.out.mono (vp_ext X7.out),MS.out.mono (vp_ext X7.out),X.out.trans X7.out,E4,hrs.2.2.2,HL1⟩
     case measure=>(try rw [hwi]); rw [iof_succ,iof_nat]; exact Nat.sub_lt_sub_left hlt (Nat.lt_succ_self i)
theorem eq_all:∀ n,VE n∧VL n∧VT n
 | 0=>⟨fun x y h=>absurd h (by omega),fun x y h=>absurd h (by omega),fun x y h=>absurd h (by omega)⟩
 | n + 1 =>
  have ih:=eq_all n
  have he:=ve_step ih.2.1 ih.2.2
  ⟨he,vl_step he,vt_step ih.2.1 ih.2.2⟩
end Go.Proofs.YtmmnhbhnjiajhaaGreatDoor.c
