/- slices.Equal for parameters; tree.sameDecl; tree.Same: whether two programs are equal. Condition: lists are no longer than memory reaches. -/
import Derived.Test.YtmmnhbhnjiajhaaGreatDoorSZb
namespace Go.Proofs.YtmmnhbhnjiajhaaGreatDoor.c
open Go.RowKit
set_option linter.unusedVariables false
set_option maxRecDepth 100000
set_option maxHeartbeats 12800000
set_option linter.unusedSimpArgs false
theorem eqp_any (x y:Nd) (hlw:LW x) (w:World) (v u:Value) (p q:Nat → Prop) (hslx:Sl (vp p w) v x 4) (hsly:Sl (vp q w) u y 4):Calls Tryz.prog 83 #[v,u] w fun e w2=>e=.returned (.bool (eqN x y))∧Ext w w2:=by
 obtain ⟨A,c,rfl,la⟩:=hslx.lp
 obtain ⟨A',c',rfl,lb⟩:=hsly.lp
 by_cases hne:x.len=y.len
 case neg =>
  rw [eqN_ne hne]
  have hneI:¬ (x.len:Int)=(y.len:Int):=by omega
  clear la lb hslx hsly hlw
  go_enter Tryz.func83,Tryz.ntmps83
  go_wp2_with fail
  go_ret
  exact ⟨rfl,exA⟩
 have hxl:=hlw.len
 rw [← hne] at lb ⊢
 have L0:=Lib.hid la
 have M0:=Lib.hid lb
 have X0:Hid (Ext w w):=Ext.refl w
 obtain ⟨R,hR⟩:∃ R,eqN x y=R:=⟨_,rfl⟩
 rw [hR]
 have E0:=Lib.hid hR
 generalize hN:x.len=N at *
 have hN1:N ≤ 4611686018427387904:=by omega
 clear la lb hslx hsly hxl hlw hR hne
 go_enter Tryz.func83,Tryz.ntmps83
 go_wp2_with fail
 go_loopw [13] (fun u5 wr=>∃ (i:Nat) (r s:Nd),u5=.int .i64 i∧Hid (Lp (vp p wr) A N 4 i r)∧Hid (Lp (vp q wr) A' N 4 i s)∧Hid (Ext w wr)∧Hid (eqN r s=R)) (fun u5 _=>N - (intOf u5).toNat)
 case atStart=>exact ⟨0,x,y,rfl,L0,M0,X0,E0⟩
 case round =>
  clear L0 M0 X0 E0
  obtain ⟨i,r,s,rfl,L,M,X,hE⟩:=hrel
  by_cases hlt:i < N
  case neg =>
   obtain rfl:=L.out.fin hlt
   obtain rfl:=M.out.fin hlt
   have hltI:¬ (i:Int) < (N:Int):=by omega
   obtain rfl:R=true:=hE.out.symm
   go_wp2_with fail
   go_ret
   exact ⟨rfl,X.out⟩
  have hltI:(i:Int) < (N:Int):=by omega
  have hwi:wrap64 ((i:Int) + 1)=(i:Int) + 1:=IntWalk.wrap64_in _ (by omega)
  obtain ⟨m3,y3,z3,rt,rfl⟩:=L.out.pa1 hlt
  obtain ⟨m4,y4,z4,st,rfl⟩:=M.out.pa1 hlt
  obtain ⟨bb,oo,xs,rfl,hnx,hcx,L'⟩:=L.out.step hlt
  obtain ⟨bc,oc,ys,rfl,hny,hcy,M'⟩:=M.out.step hlt
  obtain rfl:=nv_paI hnx
  obtain rfl:=nv_paI hny
  have HW:Hid (∀ w',Ext wr w' → w'.cell? ⟨bb,oo + i * 7,none⟩=some (.string m3)∧w'.cell? ⟨bb,oo + i * 7 + 1,none⟩=some (.int .i64 y3.base)∧w'.cell? ⟨bb,oo + i * 7 + 2,none⟩=some (.int .i64 y3.bits)∧w'.cell? ⟨bb,oo + i * 7 + 3,none⟩=some (.string y3.name)∧w'.cell? ⟨bb,oo + i * 7 + 4,none⟩=some (.bool y3.opt)∧w'.cell? ⟨bb,oo + i * 7 + 5,none⟩=some (.bool y3.err)∧w'.cell? ⟨bb,oo + i * 7 + 6,none⟩=some (.bool z3)∧w'.cell? ⟨bc,oc + i * 7,none⟩=some (.string m4)∧w'.cell? ⟨bc,oc + i * 7 + 1,none⟩=some (.int .i64 y4.base)∧w'.cell? ⟨bc,oc + i * 7 + 2,none⟩=some (.int .i64 y4.bits)∧w'.cell? ⟨bc,oc + i * 7 + 3,none⟩=some (.string y4.name)∧w'.cell? ⟨bc,oc + i * 7 + 4,none⟩=some (.bool y4.opt)∧w'.cell? ⟨bc,oc + i * 7 + 5,none⟩=some (.bool y4.err)∧w'.cell? ⟨bc,oc + i * 7 + 6,none⟩=some (.bool z4)):=fun w' X5=>⟨row_at hcx X5 (j:=0) rfl,row_at hcx X5 (j:=1) rfl,row_at hcx X5 (j:=2) rfl,row_at hcx X5 (j:=3) rfl,row_at hcx X5 (j:=4) rfl,row_at hcx X5 (j:=5) rfl,row_at hcx X5 (j:=6) rfl,row_at hcy X5 (j:=0) rfl,row_at hcy X5 (j:=1) rfl,row_at hcy X5 (j:=2) rfl,row_at hcy X5 (j:=3) rfl,row_at hcy X5 (j:=4) rfl,row_at hcy X5 (j:=5) rfl,row_at hcy X5 (j:=6) rfl⟩
  have LS:Hid (Lp (vp p wr) (some ⟨bb,oo,none⟩) N 4 (i + 1) rt):=L'
  have MS:Hid (Lp (vp q wr) (some ⟨bc,oc,none⟩) N 4 (i + 1) st):=M'
  have E1:Hid ((paB m3 y3 z3 m4 y4 z4 && eqN rt st)=R):=hE.out
  have hq:=run_pa_neq m3 m4 y3 y4 z3 z4
  generalize paB m3 y3 z3 m4 y4 z4=e at hq E1
  clear hnx hny hcx hcy L' M' L M hE
  go_upto_region 6 with fail
  go_cut [24] from 16 to 24 (fun c wx=>c=.bool (!e)∧Hid (Ext wr wx))
  case first =>
   obtain ⟨s0,s1,s2,s3,s4,s5,s6,s7,s8,s9,s10,s11,s12,s13⟩:=HW.out wr (Ext.refl _)
   clear LS MS E1 X
   go_region_held3 (fun w'=>w'.cell? ⟨bb,oo + i * 7,none⟩=some (.string m3)∧w'.cell? ⟨bb,oo + i * 7 + 1,none⟩=some (.int .i64 y3.base)∧w'.cell? ⟨bb,oo + i * 7 + 2,none⟩=some (.int .i64 y3.bits)∧w'.cell? ⟨bb,oo + i * 7 + 3,none⟩=some (.string y3.name)∧w'.cell? ⟨bb,oo + i * 7 + 4,none⟩=some (.bool y3.opt)∧w'.cell? ⟨bb,oo + i * 7 + 5,none⟩=some (.bool y3.err)∧w'.cell? ⟨bb,oo + i * 7 + 6,none⟩=some (.bool z3)∧w'.cell? ⟨bc,oc + i * 7,none⟩=some (.string m4)∧w'.cell? ⟨bc,oc + i * 7 + 1,none⟩=some (.int .i64 y4.base)∧w'.cell? ⟨bc,oc + i * 7 + 2,none⟩=some (.int .i64 y4.bits)∧w'.cell? ⟨bc,oc + i * 7 + 3,none⟩=some (.string y4.name)∧w'.cell? ⟨bc,oc + i * 7 + 4,none⟩=some (.bool y4.opt)∧w'.cell? ⟨bc,oc + i * 7 + 5,none⟩=some (.bool y4.err)∧w'.cell? ⟨bc,oc + i * 7 + 6,none⟩=some (.bool z4)) ((exact HW.out _ exA)) (fail)
   all_goals
    go_wp2_with fail
    go_meet
    exact ⟨rfl,(Ext.refl wr).drew⟩
  case rest =>
   obtain ⟨rfl,X6⟩:=hcut
   cases e
   ·obtain rfl:R=false:=E1.out.symm
    go_wp2_with fail
    go_ret
    exact ⟨rfl,X.out.trans X6.out⟩
   ·have E2:Hid (eqN rt st=R):=E1.out
    go_wp2_with fail
    go_roundw
    case rel=>exact ⟨i + 1,rt,st,by first | rfl | (rw [hwi]; rfl),LS.out.mono (vp_ext X6.out),MS.out.mono (vp_ext X6.out),X.out.trans X6.out,E2⟩
    case measure=>(try rw [hwi]); rw [iof_succ,iof_nat]; exact Nat.sub_lt_sub_left hlt (Nat.lt_succ_self i)
theorem psameDecl_any (x y:Nd) (hlw:LW x) (w:World) (cs ds:Array Value) (p q:Nat → Prop) (hnx:Nv (vp p w) 5 x cs) (hny:Nv (vp q w) 5 y ds):Calls Tryz.prog 45 #[.agg cs,.agg ds] w fun e w'=>e=.returned (.bool (eqN x y))∧Ext w w':=by
 obtain ⟨f1,n1,p1,t1,o1,y1,m1,k1,a1,b1,d1,P1,cp1,A1,ca1,B1,cb1,D1,cd1,rfl,rfl,hp1,hv1,hd1⟩:=hnx.de1
 obtain ⟨f2,n2,p2,t2,o2,y2,m2,k2,a2,b2,d2,P2,cp2,A2,ca2,B2,cb2,D2,cd2,rfl,rfl,hp2,hv2,hd2⟩:=hny.de1
 obtain ⟨iE,iB,_⟩:=ps_all ((Nd.ex o1 y1 m1 k1 a1 b1 .nil).sz + d1.sz + 1)
 have hz:(Nd.ex o1 y1 m1 k1 a1 b1 .nil).sz < (Nd.ex o1 y1 m1 k1 a1 b1 .nil).sz + d1.sz + 1∧d1.sz < (Nd.ex o1 y1 m1 k1 a1 b1 .nil).sz + d1.sz + 1:=by omega
 have hlp:LW p1:=hlw.2.1
 have hlv:LW (.ex o1 y1 m1 k1 a1 b1 .nil):=hlw.2.2.1
 have hld:LW d1:=hlw.2.2.2.1
 have HP:Hid (∀ w1,Ext w w1 → Calls Tryz.prog 83 #[.slice P1 p1.len cp1,.slice P2 p2.len cp2] w1 fun e w'=>e=.returned (.bool (eqN p1 p2))∧Ext w1 w'):=fun w1 X=>eqp_any p1 p2 hlp w1 _ _ p q (hp1.mono (vp_ext X)) (hp2.mono (vp_ext X))
 have HV:Hid (∀ w1,Ext w w1 → Calls Tryz.prog 84 #[.agg #[.int .i64 o1,.int .i64 y1.base,.int .i64 y1.bits,.string y1.name,.bool y1.opt,.bool y1.err,.string m1,.int .i64 k1,.slice A1 a1.len ca1,.slice B1 b1.len cb1],.agg #[.int .i64 o2,.int .i64 y2.base,.int .i64 y2.bits,.string y2.name,.bool y2.opt,.bool y2.err,.string m2,.int .i64 k2,.slice A2 a2.len ca2,.slice B2 b2.len cb2]] w1 fun e w'=>e=.returned (.bool (eqN (.ex o1 y1 m1 k1 a1 b1 .nil) (.ex o2 y2 m2 k2 a2 b2 .nil)))∧Ext w1 w'):=fun w1 X=>iE _ _ hz.1 hlv rfl rfl w1 _ _ p q (hv1.mono (vp_ext X)) (hv2.mono (vp_ext X))
 have HD:Hid (∀ w1,Ext w w1 → Calls Tryz.prog 85 #[.slice D1 d1.len cd1,.slice D2 d2.len cd2] w1 fun e w'=>e=.returned (.bool (eqN d1 d2))∧Ext w1 w'):=fun w1 X=>iB _ _ hz.2 hld w1 _ _ p q (hd1.mono (vp_ext X)) (hd2.mono (vp_ext X))
 obtain ⟨R,hR⟩:∃ R,eqN (.de f1 n1 p1 t1 (.ex o1 y1 m1 k1 a1 b1 .nil) d1 .nil) (.de f2 n2 p2 t2 (.ex o2 y2 m2 k2 a2 b2 .nil) d2 .nil)=R:=⟨_,rfl⟩
 rw [hR]
 have HR:Hid ((f1 == f2 && (n1.toList == n2.toList && (eqN p1 p2 && (tyB t1 t2 && (eqN (.ex o1 y1 m1 k1 a1 b1 .nil) (.ex o2 y2 m2 k2 a2 b2 .nil) && eqN d1 d2)))))=R):=(Bool.and_true _).symm.trans hR
 have hq:=run_ty_eql t1 t2
 generalize eqN p1 p2=e1 at HP HR
 generalize eqN (.ex o1 y1 m1 k1 a1 b1 .nil) (.ex o2 y2 m2 k2 a2 b2 .nil)=e2 at HV HR
 generalize eqN d1 d2=e4 at HD HR
 generalize tyB t1 t2=e3 at hq HR
 have W0:Hid (Ext w ((w.alloc (.cells #[.bool f1,.string n1,.slice P1 p1.len cp1,.int .i64 t1.base,.int .i64 t1.bits,.string t1.name,.bool t1.opt,.bool t1.err,.int .i64 o1,.int .i64 y1.base,.int .i64 y1.bits,.string y1.name,.bool y1.opt,.bool y1.err,.string m1,.int .i64 k1,.slice A1 a1.len ca1,.slice B1 b1.len cb1,.slice D1 d1.len cd1] 38)).alloc (.cells #[.bool f2,.string n2,.slice P2 p2.len cp2,.int .i64 t2.base,.int .i64 t2.bits,.string t2.name,.bool t2.opt,.bool t2.err,.int .i64 o2,.int .i64 y2.base,.int .i64 y2.bits,.string y2.name,.bool y2.opt,.bool y2.err,.string m2,.int .i64 k2,.slice A2 a2.len ca2,.slice B2 b2.len cb2,.slice D2 d2.len cd2] 38))):=((Ext.refl w).alloc _).alloc _
 have K1:Hid (Blk ((w.alloc (.cells #[.bool f1,.string n1,.slice P1 p1.len cp1,.int .i64 t1.base,.int .i64 t1.bits,.string t1.name,.bool t1.opt,.bool t1.err,.int .i64 o1,.int .i64 y1.base,.int .i64 y1.bits,.string y1.name,.bool y1.opt,.bool y1.err,.string m1,.int .i64 k1,.slice A1 a1.len ca1,.slice B1 b1.len cb1,.slice D1 d1.len cd1] 38)).alloc (.cells #[.bool f2,.string n2,.slice P2 p2.len cp2,.int .i64 t2.base,.int .i64 t2.bits,.string t2.name,.bool t2.opt,.bool t2.err,.int .i64 o2,.int .i64 y2.base,.int .i64 y2.bits,.string y2.name,.bool y2.opt,.bool y2.err,.string m2,.int .i64 k2,.slice A2 a2.len ca2,.slice B2 b2.len cb2,.slice D2 d2.len cd2] 38)) w.heap.size 38 #[.bool f1,.string n1,.slice P1 p1.len cp1,.int .i64 t1.base,.int .i64 t1.bits,.string t1.name,.bool t1.opt,.bool t1.err,.int .i64 o1,.int .i64 y1.base,.int .i64 y1.bits,.string y1.name,.bool y1.opt,.bool y1.err,.string m1,.int .i64 k1,.slice A1 a1.len ca1,.slice B1 b1.len cb1,.slice D1 d1.len cd1]):=(Blk.new w _ _).alloc _
 have K2:Hid (Blk ((w.alloc (.cells #[.bool f1,.string n1,.slice P1 p1.len cp1,.int .i64 t1.base,.int .i64 t1.bits,.string t1.name,.bool t1.opt,.bool t1.err,.int .i64 o1,.int .i64 y1.base,.int .i64 y1.bits,.string y1.name,.bool y1.opt,.bool y1.err,.string m1,.int .i64 k1,.slice A1 a1.len ca1,.slice B1 b1.len cb1,.slice D1 d1.len cd1] 38)).alloc (.cells #[.bool f2,.string n2,.slice P2 p2.len cp2,.int .i64 t2.base,.int .i64 t2.bits,.string t2.name,.bool t2.opt,.bool t2.err,.int .i64 o2,.int .i64 y2.base,.int .i64 y2.bits,.string y2.name,.bool y2.opt,.bool y2.err,.string m2,.int .i64 k2,.slice A2 a2.len ca2,.slice B2 b2.len cb2,.slice D2 d2.len cd2] 38)) (w.heap.size + 1) 38 #[.bool f2,.string n2,.slice P2 p2.len cp2,.int .i64 t2.base,.int .i64 t2.bits,.string t2.name,.bool t2.opt,.bool t2.err,.int .i64 o2,.int .i64 y2.base,.int .i64 y2.bits,.string y2.name,.bool y2.opt,.bool y2.err,.string m2,.int .i64 k2,.slice A2 a2.len ca2,.slice B2 b2.len cb2,.slice D2 d2.len cd2]):=blk_new2 _ _ _ _
 clear hnx hny hp1 hv1 hd1 hp2 hv2 hd2 hR hz iE iB hlw hlp hlv hld
 go_enter Tryz.func45,Tryz.ntmps45
 go_upto_region 1 with fail
 generalize w.heap.size + 1=g2 at K2 ⊢
 generalize w.heap.size=g1 at K1 ⊢
 refine nmW fun w0 hw0=>?_
 rw [hw0] at W0 K1 K2
 clear hw0
 have q0:w0.cell? ⟨g1,0,none⟩=some (.bool f1):=(K1.out).cell 0; have q1:w0.cell? ⟨g1,1,none⟩=some (.string n1):=(K1.out).cell 1; have q2:w0.cell? ⟨g1,2,none⟩=some (.slice P1 p1.len cp1):=(K1.out).cell 2; have q3:w0.cell? ⟨g1,3,none⟩=some (.int .i64 t1.base):=(K1.out).cell 3; have q4:w0.cell? ⟨g1,4,none⟩=some (.int .i64 t1.bits):=(K1.out).cell 4; have q5:w0.cell? ⟨g1,5,none⟩=some (.string t1.name):=(K1.out).cell 5; have q6:w0.cell? ⟨g1,6,none⟩=some (.bool t1.opt):=(K1.out).cell 6; have q7:w0.cell? ⟨g1,7,none⟩=some (.bool t1.err):=(K1.out).cell 7; have q8:w0.cell? ⟨g1,8,none⟩=some (.int .i64 o1):=(K1.out).cell 8; have q9:w0.cell? ⟨g1,9,none⟩=some (.int .i64 y1.base):=(K1.out).cell 9; have q10:w0.cell? ⟨g1,10,none⟩=some (.int .i64 y1.bits):=(K1.out).cell 10; have q11:w0.cell? ⟨g1,11,none⟩=some (.string y1.name):=(K1.out).cell 11; have q12:w0.cell? ⟨g1,12,none⟩=some (.bool y1.opt):=(K1.out).cell 12; have q13:w0.cell? ⟨g1,13,none⟩=some (.bool y1.err):=(K1.out).cell 13; have q14:w0.cell? ⟨g1,14,none⟩=some (.string m1):=(K1.out).cell 14; have q15:w0.cell? ⟨g1,15,none⟩=some (.int .i64 k1):=(K1.out).cell 15; have q16:w0.cell? ⟨g1,16,none⟩=some (.slice A1 a1.len ca1):=(K1.out).cell 16; have q17:w0.cell? ⟨g1,17,none⟩=some (.slice B1 b1.len cb1):=(K1.out).cell 17; have q18:w0.cell? ⟨g1,18,none⟩=some (.slice D1 d1.len cd1):=(K1.out).cell 18
 have r0:w0.cell? ⟨g2,0,none⟩=some (.bool f2):=(K2.out).cell 0; have r1:w0.cell? ⟨g2,1,none⟩=some (.string n2):=(K2.out).cell 1; have r2:w0.cell? ⟨g2,2,none⟩=some (.slice P2 p2.len cp2):=(K2.out).cell 2; have r3:w0.cell? ⟨g2,3,none⟩=some (.int .i64 t2.base):=(K2.out).cell 3; have r4:w0.cell? ⟨g2,4,none⟩=some (.int .i64 t2.bits):=(K2.out).cell 4; have r5:w0.cell? ⟨g2,5,none⟩=some (.string t2.name):=(K2.out).cell 5; have r6:w0.cell? ⟨g2,6,none⟩=some (.bool t2.opt):=(K2.out).cell 6; have r7:w0.cell? ⟨g2,7,none⟩=some (.bool t2.err):=(K2.out).cell 7; have r8:w0.cell? ⟨g2,8,none⟩=some (.int .i64 o2):=(K2.out).cell 8; have r9:w0.cell? ⟨g2,9,none⟩=some (.int .i64 y2.base):=(K2.out).cell 9; have r10:w0.cell? ⟨g2,10,none⟩=some (.int .i64 y2.bits):=(K2.out).cell 10; have r11:w0.cell? ⟨g2,11,none⟩=some (.string y2.name):=(K2.out).cell 11; have r12:w0.cell? ⟨g2,12,none⟩=some (.bool y2.opt):=(K2.out).cell 12; have r13:w0.cell? ⟨g2,13,none⟩=some (.bool y2.err):=(K2.out).cell 13; have r14:w0.cell? ⟨g2,14,none⟩=some (.string m2):=(K2.out).cell 14; have r15:w0.cell? ⟨g2,15,none⟩=some (.int .i64 k2):=(K2.out).cell 15; have r16:w0.cell? ⟨g2,16,none⟩=some (.slice A2 a2.len ca2):=(K2.out).cell 16; have r17:w0.cell? ⟨g2,17,none⟩=some (.slice B2 b2.len cb2):=(K2.out).cell 17; have r18:w0.cell? ⟨g2,18,none⟩=some (.slice D2 d2.len cd2):=(K2.out).cell 18
 go_wp2_with (first
  | (go_at_call 83; refine (HP.out _ W0.out).mono ?_; rintro rr w5 ⟨rfl,x5⟩; have q3:w5.cell? ⟨g1,3,none⟩=some (.int .i64 t1.base):=(K1.out.ext (x5)).cell 3; have q4:w5.cell? ⟨g1,4,none⟩=some (.int .i64 t1.bits):=(K1.out.ext (x5)).cell 4; have q5:w5.cell? ⟨g1,5,none⟩=some (.string t1.name):=(K1.out.ext (x5)).cell 5; have q6:w5.cell? ⟨g1,6,none⟩=some (.bool t1.opt):=(K1.out.ext (x5)).cell 6; have q7:w5.cell? ⟨g1,7,none⟩=some (.bool t1.err):=(K1.out.ext (x5)).cell 7; have q8:w5.cell? ⟨g1,8,none⟩=some (.int .i64 o1):=(K1.out.ext (x5)).cell 8; have q9:w5.cell? ⟨g1,9,none⟩=some (.int .i64 y1.base):=(K1.out.ext (x5)).cell 9; have q10:w5.cell? ⟨g1,10,none⟩=some (.int .i64 y1.bits):=(K1.out.ext (x5)).cell 10; have q11:w5.cell? ⟨g1,11,none⟩=some (.string y1.name):=(K1.out.ext (x5)).cell 11; have q12:w5.cell? ⟨g1,12,none⟩=some (.bool y1.opt):=(K1.out.ext (x5)).cell 12; have q13:w5.cell? ⟨g1,13,none⟩=some (.bool y1.err):=(K1.out.ext (x5)).cell 13; have q14:w5.cell? ⟨g1,14,none⟩=some (.string m1):=(K1.out.ext (x5)).cell 14; have q15:w5.cell? ⟨g1,15,none⟩=some (.int .i64 k1):=(K1.out.ext (x5)).cell 15; have q16:w5.cell? ⟨g1,16,none⟩=some (.slice A1 a1.len ca1):=(K1.out.ext (x5)).cell 16; have q17:w5.cell? ⟨g1,17,none⟩=some (.slice B1 b1.len cb1):=(K1.out.ext (x5)).cell 17; have q18:w5.cell? ⟨g1,18,none⟩=some (.slice D1 d1.len cd1):=(K1.out.ext (x5)).cell 18; have r3:w5.cell? ⟨g2,3,none⟩=some (.int .i64 t2.base):=(K2.out.ext (x5)).cell 3; have r4:w5.cell? ⟨g2,4,none⟩=some (.int .i64 t2.bits):=(K2.out.ext (x5)).cell 4; have r5:w5.cell? ⟨g2,5,none⟩=some (.string t2.name):=(K2.out.ext (x5)).cell 5; have r6:w5.cell? ⟨g2,6,none⟩=some (.bool t2.opt):=(K2.out.ext (x5)).cell 6; have r7:w5.cell? ⟨g2,7,none⟩=some (.bool t2.err):=(K2.out.ext (x5)).cell 7; have r8:w5.cell? ⟨g2,8,none⟩=some (.int .i64 o2):=(K2.out.ext (x5)).cell 8; have r9:w5.cell? ⟨g2,9,none⟩=some (.int .i64 y2.base):=(K2.out.ext (x5)).cell 9; have r10:w5.cell? ⟨g2,10,none⟩=some (.int .i64 y2.bits):=(K2.out.ext (x5)).cell 10; have r11:w5.cell? ⟨g2,11,none⟩=some (.string y2.name):=(K2.out.ext (x5)).cell 11; have r12:w5.cell? ⟨g2,12,none⟩=some (.bool y2.opt):=(K2.out.ext (x5)).cell 12; have r13:w5.cell? ⟨g2,13,none⟩=some (.bool y2.err):=(K2.out.ext (x5)).cell 13; have r14:w5.cell? ⟨g2,14,none⟩=some (.string m2):=(K2.out.ext (x5)).cell 14; have r15:w5.cell? ⟨g2,15,none⟩=some (.int .i64 k2):=(K2.out.ext (x5)).cell 15; have r16:w5.cell? ⟨g2,16,none⟩=some (.slice A2 a2.len ca2):=(K2.out.ext (x5)).cell 16; have r17:w5.cell? ⟨g2,17,none⟩=some (.slice B2 b2.len cb2):=(K2.out.ext (x5)).cell 17; have r18:w5.cell? ⟨g2,18,none⟩=some (.slice D2 d2.len cd2):=(K2.out.ext (x5)).cell 18)
  | (go_at_call 84; refine (HV.out _ (W0.out.trans (x5))).mono ?_; rintro rr w6 ⟨rfl,x6⟩; have q18:w6.cell? ⟨g1,18,none⟩=some (.slice D1 d1.len cd1):=(K1.out.ext ((x5).trans x6)).cell 18; have r18:w6.cell? ⟨g2,18,none⟩=some (.slice D2 d2.len cd2):=(K2.out.ext ((x5).trans x6)).cell 18)
  | (go_at_call 85; refine (HD.out _ (W0.out.trans ((x5).trans x6))).mono ?_; rintro rr w7 ⟨rfl,x7⟩))
 all_goals
  go_ret
  exact ⟨ret_bool (by rw [← HR.out]; first | rfl | (simp [*]; done)),by first | exact W0.out | exact W0.out.trans (x5) | exact W0.out.trans ((x5).trans x6) | exact W0.out.trans (((x5).trans x6).trans x7)⟩
theorem psame_any (x y:Nd) (hlw:LW x) (w:World) (v u:Value) (p q:Nat → Prop) (hx:Sl (vp p w) v x 5) (hy:Sl (vp q w) u y 5):Calls Tryz.prog 18 #[v,u] w fun e w'=>e=.returned (.bool (eqN x y))∧Ext w w':=by
 have HI:Hid (∀ w1,Ext w w1 → Calls Tryz.prog 44 #[v,u,.func (.func 45) #[] #[]] w1 fun e w'=>e=.returned (.bool (eqN x y))∧Ext w1 w'):=fun w1 X=>eqf_D x y _ (Enters.of Tryz.func45 (by kernel_rfl) (by kernel_rfl)) hlw w1 v u p q (hx.mono (vp_ext X)) (hy.mono (vp_ext X)) (fun r s cs ds w2 h1 h2 h3 h4 X2 N1 N2=>psameDecl_any r s h2 w2 cs ds p q N1 N2)
 obtain ⟨A,c,rfl,_⟩:=hx.lp
 obtain ⟨A',c',rfl,_⟩:=hy.lp
 generalize eqN x y=R at HI ⊢
 clear hx hy hlw
 go_enter Tryz.func18,Tryz.ntmps18
 go_wp2_with (first
  | (go_at_call 44; refine (HI.out _ (Ext.refl _)).mono ?_; rintro e w1 ⟨rfl,x1⟩))
 go_ret
 exact ⟨rfl,x1⟩
end Go.Proofs.YtmmnhbhnjiajhaaGreatDoor.c
