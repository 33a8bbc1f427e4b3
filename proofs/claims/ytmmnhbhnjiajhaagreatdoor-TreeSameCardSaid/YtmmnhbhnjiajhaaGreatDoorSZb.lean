/- tree.sameExpr, sameStmt, sameCase, sameBlock: whether two nodes are equal. Condition: lists are no longer than memory reaches. -/
import Derived.Test.YtmmnhbhnjiajhaaGreatDoorSZa
namespace Go.Proofs.YtmmnhbhnjiajhaaGreatDoor.c
open Go.RowKit
set_option linter.unusedVariables false
set_option maxRecDepth 100000
set_option maxHeartbeats 6400000
set_option linter.unusedSimpArgs false
def PE (n:Nat):Prop:=∀ (x y:Nd),x.sz < n → LW x → x.len=1 → y.len=1 → ∀ (w:World) (cs ds:Array Value) (p q:Nat → Prop),Nv (vp p w) 0 x cs → Nv (vp q w) 0 y ds → Calls Tryz.prog 84 #[.agg cs,.agg ds] w fun e w'=>e=.returned (.bool (eqN x y))∧Ext w w'
def PS1 (n:Nat):Prop:=∀ (x y:Nd),x.sz < n → LW x → x.len=1 → y.len=1 → ∀ (w:World) (cs ds:Array Value) (p q:Nat → Prop),Nv (vp p w) 1 x cs → Nv (vp q w) 1 y ds → Calls Tryz.prog 135 #[.agg cs,.agg ds] w fun e w'=>e=.returned (.bool (eqN x y))∧Ext w w'
def PC1 (n:Nat):Prop:=∀ (x y:Nd),x.sz < n → LW x → x.len=1 → y.len=1 → ∀ (w:World) (cs ds:Array Value) (p q:Nat → Prop),Nv (vp p w) 3 x cs → Nv (vp q w) 3 y ds → Calls Tryz.prog 190 #[.agg cs,.agg ds] w fun e w'=>e=.returned (.bool (eqN x y))∧Ext w w'
def PB1 (n:Nat):Prop:=∀ (x y:Nd),x.sz < n → LW x → ∀ (w:World) (v u:Value) (p q:Nat → Prop),Sl (vp p w) v x 1 → Sl (vp q w) u y 1 → Calls Tryz.prog 85 #[v,u] w fun e w'=>e=.returned (.bool (eqN x y))∧Ext w w'
theorem pb_step {n:Nat} (ihS:PS1 n):PB1 n:=by
 intro x y hsz hlw w v u p q hx hy
 have HI:Hid (∀ w1,Ext w w1 → Calls Tryz.prog 134 #[v,u,.func (.func 135) #[] #[]] w1 fun e w'=>e=.returned (.bool (eqN x y))∧Ext w1 w'):=fun w1 X=>eqf_S x y _ (Enters.of Tryz.func135 (by kernel_rfl) (by kernel_rfl)) hlw w1 v u p q (hx.mono (vp_ext X)) (hy.mono (vp_ext X)) (fun r s cs ds w2 h1 h2 h3 h4 X2 N1 N2=>ihS r s (by omega) h2 h3 h4 w2 cs ds p q N1 N2)
 obtain ⟨A,c,rfl,_⟩:=hx.lp
 obtain ⟨A',c',rfl,_⟩:=hy.lp
 generalize eqN x y=R at HI ⊢
 clear hx hy hlw hsz ihS
 go_enter Tryz.func85,Tryz.ntmps85
 go_wp2_with (first
  | (go_at_call 134; refine (HI.out _ (Ext.refl _)).mono ?_; rintro e w1 ⟨rfl,x1⟩))
 go_ret
 exact ⟨rfl,x1⟩

theorem pe_step {n:Nat} (ihE:PE n) (ihB:PB1 n):PE (n + 1):=by
 intro x y hsz hlw h1 h2 w cs ds p q hnx hny
 obtain rfl | ⟨o1,t1,n1,k1,a1,b1,r,rfl⟩:=hnx.1.ex
 ·cases h1
 obtain rfl:r=.nil:=tl_one h1
 obtain rfl | ⟨o2,t2,n2,k2,a2,b2,r,rfl⟩:=hny.1.ex
 ·cases h2
 obtain rfl:r=.nil:=tl_one h2
 obtain ⟨va,vb,rfl,ha1,hb1⟩:=nv_exI hnx
 obtain ⟨A1,ca1,rfl,_⟩:=ha1.lp
 obtain ⟨B1,cb1,rfl,_⟩:=hb1.lp
 obtain ⟨va,vb,rfl,ha2,hb2⟩:=nv_exI hny
 obtain ⟨A2,ca2,rfl,_⟩:=ha2.lp
 obtain ⟨B2,cb2,rfl,_⟩:=hb2.lp
 have hz:a1.sz < n∧b1.sz < n:=by simp only [Nd.sz] at hsz; omega
 have hla:LW a1:=hlw.2.1
 have hlb:LW b1:=hlw.2.2.1
 have HA:Hid (∀ w1,Ext w w1 → Calls Tryz.prog 133 #[.slice A1 a1.len ca1,.slice A2 a2.len ca2,.func (.func 84) #[] #[]] w1 fun e w'=>e=.returned (.bool (eqN a1 a2))∧Ext w1 w'):=fun w1 X=>eqf_E a1 a2 _ (Enters.of Tryz.func84 (by kernel_rfl) (by kernel_rfl)) hla w1 _ _ p q (ha1.mono (vp_ext X)) (ha2.mono (vp_ext X)) (fun r s cs ds w2 h1 h2 h3 h4 X2 N1 N2=>ihE r s (by omega) h2 h3 h4 w2 cs ds p q N1 N2)
 have HB:Hid (∀ w1,Ext w w1 → Calls Tryz.prog 85 #[.slice B1 b1.len cb1,.slice B2 b2.len cb2] w1 fun e w'=>e=.returned (.bool (eqN b1 b2))∧Ext w1 w'):=fun w1 X=>ihB b1 b2 hz.2 hlb w1 _ _ p q (hb1.mono (vp_ext X)) (hb2.mono (vp_ext X))
 obtain ⟨R,hR⟩:∃ R,eqN (.ex o1 t1 n1 k1 a1 b1 .nil) (.ex o2 t2 n2 k2 a2 b2 .nil)=R:=⟨_,rfl⟩
 rw [hR]
 have HR:Hid ((o1 == o2 && (tyB t1 t2 && (n1.toList == n2.toList && (k1 == k2 && (eqN a1 a2 && eqN b1 b2)))))=R):=(Bool.and_true _).symm.trans hR
 have hq:=run_ty_eql t1 t2
 generalize eqN a1 a2=e1 at HA HR
 generalize eqN b1 b2=e2 at HB HR
 generalize tyB t1 t2=e3 at hq HR
 have W0:Hid (Ext w ((w.alloc (.cells #[.int .i64 o1,.int .i64 t1.base,.int .i64 t1.bits,.string t1.name,.bool t1.opt,.bool t1.err,.string n1,.int .i64 k1,.slice A1 a1.len ca1,.slice B1 b1.len cb1] 36)).alloc (.cells #[.int .i64 o2,.int .i64 t2.base,.int .i64 t2.bits,.string t2.name,.bool t2.opt,.bool t2.err,.string n2,.int .i64 k2,.slice A2 a2.len ca2,.slice B2 b2.len cb2] 36))):=((Ext.refl w).alloc _).alloc _
 have K1:Hid (Blk ((w.alloc (.cells #[.int .i64 o1,.int .i64 t1.base,.int .i64 t1.bits,.string t1.name,.bool t1.opt,.bool t1.err,.string n1,.int .i64 k1,.slice A1 a1.len ca1,.slice B1 b1.len cb1] 36)).alloc (.cells #[.int .i64 o2,.int .i64 t2.base,.int .i64 t2.bits,.string t2.name,.bool t2.opt,.bool t2.err,.string n2,.int .i64 k2,.slice A2 a2.len ca2,.slice B2 b2.len cb2] 36)) w.heap.size 36 #[.int .i64 o1,.int .i64 t1.base,.int .i64 t1.bits,.string t1.name,.bool t1.opt,.bool t1.err,.string n1,.int .i64 k1,.slice A1 a1.len ca1,.slice B1 b1.len cb1]):=(Blk.new w _ _).alloc _
 have K2:Hid (Blk ((w.alloc (.cells #[.int .i64 o1,.int .i64 t1.base,.int .i64 t1.bits,.string t1.name,.bool t1.opt,.bool t1.err,.string n1,.int .i64 k1,.slice A1 a1.len ca1,.slice B1 b1.len cb1] 36)).alloc (.cells #[.int .i64 o2,.int .i64 t2.base,.int .i64 t2.bits,.string t2.name,.bool t2.opt,.bool t2.err,.string n2,.int .i64 k2,.slice A2 a2.len ca2,.slice B2 b2.len cb2] 36)) (w.heap.size + 1) 36 #[.int .i64 o2,.int .i64 t2.base,.int .i64 t2.bits,.string t2.name,.bool t2.opt,.bool t2.err,.string n2,.int .i64 k2,.slice A2 a2.len ca2,.slice B2 b2.len cb2]):=blk_new2 _ _ _ _
 clear hnx hny ha1 hb1 ha2 hb2 hsz h1 h2 hR hz ihE ihB hlw hla hlb
 go_enter Tryz.func84,Tryz.ntmps84
 go_upto_region 1 with fail
 generalize w.heap.size + 1=g2 at K2 ⊢
 generalize w.heap.size=g1 at K1 ⊢
 refine nmW fun w0 hw0=>?_
 rw [hw0] at W0 K1 K2
 clear hw0
 have q0:w0.cell? ⟨g1,0,none⟩=some (.int .i64 o1):=(K1.out).cell 0; have q1:w0.cell? ⟨g1,1,none⟩=some (.int .i64 t1.base):=(K1.out).cell 1; have q2:w0.cell? ⟨g1,2,none⟩=some (.int .i64 t1.bits):=(K1.out).cell 2; have q3:w0.cell? ⟨g1,3,none⟩=some (.string t1.name):=(K1.out).cell 3; have q4:w0.cell? ⟨g1,4,none⟩=some (.bool t1.opt):=(K1.out).cell 4; have q5:w0.cell? ⟨g1,5,none⟩=some (.bool t1.err):=(K1.out).cell 5; have q6:w0.cell? ⟨g1,6,none⟩=some (.string n1):=(K1.out).cell 6; have q7:w0.cell? ⟨g1,7,none⟩=some (.int .i64 k1):=(K1.out).cell 7; have q8:w0.cell? ⟨g1,8,none⟩=some (.slice A1 a1.len ca1):=(K1.out).cell 8; have q9:w0.cell? ⟨g1,9,none⟩=some (.slice B1 b1.len cb1):=(K1.out).cell 9
 have r0:w0.cell? ⟨g2,0,none⟩=some (.int .i64 o2):=(K2.out).cell 0; have r1:w0.cell? ⟨g2,1,none⟩=some (.int .i64 t2.base):=(K2.out).cell 1; have r2:w0.cell? ⟨g2,2,none⟩=some (.int .i64 t2.bits):=(K2.out).cell 2; have r3:w0.cell? ⟨g2,3,none⟩=some (.string t2.name):=(K2.out).cell 3; have r4:w0.cell? ⟨g2,4,none⟩=some (.bool t2.opt):=(K2.out).cell 4; have r5:w0.cell? ⟨g2,5,none⟩=some (.bool t2.err):=(K2.out).cell 5; have r6:w0.cell? ⟨g2,6,none⟩=some (.string n2):=(K2.out).cell 6; have r7:w0.cell? ⟨g2,7,none⟩=some (.int .i64 k2):=(K2.out).cell 7; have r8:w0.cell? ⟨g2,8,none⟩=some (.slice A2 a2.len ca2):=(K2.out).cell 8; have r9:w0.cell? ⟨g2,9,none⟩=some (.slice B2 b2.len cb2):=(K2.out).cell 9
 go_wp2_with (first
  | (go_at_call 133; refine (HA.out _ W0.out).mono ?_; rintro rr w5 ⟨rfl,x5⟩; have q9:w5.cell? ⟨g1,9,none⟩=some (.slice B1 b1.len cb1):=(K1.out.ext (x5)).cell 9; have r9:w5.cell? ⟨g2,9,none⟩=some (.slice B2 b2.len cb2):=(K2.out.ext (x5)).cell 9)
  | (go_at_call 85; refine (HB.out _ (W0.out.trans (x5))).mono ?_; rintro rr w6 ⟨rfl,x6⟩))
 all_goals
  go_ret
  exact ⟨ret_bool (by rw [← HR.out]; first | rfl | (simp [*]; done)),by first | exact W0.out | exact W0.out.trans (x5) | exact W0.out.trans ((x5).trans x6)⟩
theorem ps_step {n:Nat} (ihE:PE n) (ihB:PB1 n) (ihC:PC1 n):PS1 (n + 1):=by
 intro x y hsz hlw h1 h2 w cs ds p q hnx hny
 obtain ⟨o1,n1,t1,a1,b1,c1,r,rfl⟩:=hnx.1.st1 (by rw [h1]; exact Nat.one_pos)
 obtain rfl:r=.nil:=tl_one h1
 obtain ⟨o2,n2,t2,a2,b2,c2,r,rfl⟩:=hny.1.st1 (by rw [h2]; exact Nat.one_pos)
 obtain rfl:r=.nil:=tl_one h2
 obtain ⟨va,vb,vc,rfl,ha1,hb1,hc1⟩:=nv_stI hnx
 obtain ⟨A1,ca1,rfl,_⟩:=ha1.lp
 obtain ⟨B1,cb1,rfl,_⟩:=hb1.lp
 obtain ⟨C1,cc1,rfl,_⟩:=hc1.lp
 obtain ⟨va,vb,vc,rfl,ha2,hb2,hc2⟩:=nv_stI hny
 obtain ⟨A2,ca2,rfl,_⟩:=ha2.lp
 obtain ⟨B2,cb2,rfl,_⟩:=hb2.lp
 obtain ⟨C2,cc2,rfl,_⟩:=hc2.lp
 have hz:a1.sz < n∧b1.sz < n∧c1.sz < n:=by simp only [Nd.sz] at hsz; omega
 have hla:LW a1:=hlw.2.1
 have hlb:LW b1:=hlw.2.2.1
 have hlc:LW c1:=hlw.2.2.2.1
 have HA:Hid (∀ w1,Ext w w1 → Calls Tryz.prog 133 #[.slice A1 a1.len ca1,.slice A2 a2.len ca2,.func (.func 84) #[] #[]] w1 fun e w'=>e=.returned (.bool (eqN a1 a2))∧Ext w1 w'):=fun w1 X=>eqf_E a1 a2 _ (Enters.of Tryz.func84 (by kernel_rfl) (by kernel_rfl)) hla w1 _ _ p q (ha1.mono (vp_ext X)) (ha2.mono (vp_ext X)) (fun r s cs ds w2 h1 h2 h3 h4 X2 N1 N2=>ihE r s (by omega) h2 h3 h4 w2 cs ds p q N1 N2)
 have HB:Hid (∀ w1,Ext w w1 → Calls Tryz.prog 188 #[.slice B1 b1.len cb1,.slice B2 b2.len cb2,.func (.func 85) #[] #[]] w1 fun e w'=>e=.returned (.bool (eqN b1 b2))∧Ext w1 w'):=fun w1 X=>eqf_B b1 b2 _ (Enters.of Tryz.func85 (by kernel_rfl) (by kernel_rfl)) hlb w1 _ _ p q (hb1.mono (vp_ext X)) (hb2.mono (vp_ext X)) (fun r s va vb w2 h1 h2 X2 N1 N2=>ihB r s (by omega) h2 w2 va vb p q N1 N2)
 have HC:Hid (∀ w1,Ext w w1 → Calls Tryz.prog 189 #[.slice C1 c1.len cc1,.slice C2 c2.len cc2,.func (.func 190) #[] #[]] w1 fun e w'=>e=.returned (.bool (eqN c1 c2))∧Ext w1 w'):=fun w1 X=>eqf_C c1 c2 _ (Enters.of Tryz.func190 (by kernel_rfl) (by kernel_rfl)) hlc w1 _ _ p q (hc1.mono (vp_ext X)) (hc2.mono (vp_ext X)) (fun r s cs ds w2 h1 h2 h3 h4 X2 N1 N2=>ihC r s (by omega) h2 h3 h4 w2 cs ds p q N1 N2)
 obtain ⟨R,hR⟩:∃ R,eqN (.st o1 n1 t1 a1 b1 c1 .nil) (.st o2 n2 t2 a2 b2 c2 .nil)=R:=⟨_,rfl⟩
 rw [hR]
 have HR:Hid ((o1 == o2 && (n1.toList == n2.toList && (tyB t1 t2 && (eqN a1 a2 && (eqN b1 b2 && eqN c1 c2)))))=R):=(Bool.and_true _).symm.trans hR
 have hq:=run_ty_eql t1 t2
 generalize eqN a1 a2=e1 at HA HR
 generalize eqN b1 b2=e2 at HB HR
 generalize eqN c1 c2=e4 at HC HR
 generalize tyB t1 t2=e3 at hq HR
 have W0:Hid (Ext w ((w.alloc (.cells #[.int .i64 o1,.string n1,.int .i64 t1.base,.int .i64 t1.bits,.string t1.name,.bool t1.opt,.bool t1.err,.slice A1 a1.len ca1,.slice B1 b1.len cb1,.slice C1 c1.len cc1] 44)).alloc (.cells #[.int .i64 o2,.string n2,.int .i64 t2.base,.int .i64 t2.bits,.string t2.name,.bool t2.opt,.bool t2.err,.slice A2 a2.len ca2,.slice B2 b2.len cb2,.slice C2 c2.len cc2] 44))):=((Ext.refl w).alloc _).alloc _
 have K1:Hid (Blk ((w.alloc (.cells #[.int .i64 o1,.string n1,.int .i64 t1.base,.int .i64 t1.bits,.string t1.name,.bool t1.opt,.bool t1.err,.slice A1 a1.len ca1,.slice B1 b1.len cb1,.slice C1 c1.len cc1] 44)).alloc (.cells #[.int .i64 o2,.string n2,.int .i64 t2.base,.int .i64 t2.bits,.string t2.name,.bool t2.opt,.bool t2.err,.slice A2 a2.len ca2,.slice B2 b2.len cb2,.slice C2 c2.len cc2] 44)) w.heap.size 44 #[.int .i64 o1,.string n1,.int .i64 t1.base,.int .i64 t1.bits,.string t1.name,.bool t1.opt,.bool t1.err,.slice A1 a1.len ca1,.slice B1 b1.len cb1,.slice C1 c1.len cc1]):=(Blk.new w _ _).alloc _
 have K2:Hid (Blk ((w.alloc (.cells #[.int .i64 o1,.string n1,.int .i64 t1.base,.int .i64 t1.bits,.string t1.name,.bool t1.opt,.bool t1.err,.slice A1 a1.len ca1,.slice B1 b1.len cb1,.slice C1 c1.len cc1] 44)).alloc (.cells #[.int .i64 o2,.string n2,.int .i64 t2.base,.int .i64 t2.bits,.string t2.name,.bool t2.opt,.bool t2.err,.slice A2 a2.len ca2,.slice B2 b2.len cb2,.slice C2 c2.len cc2] 44)) (w.heap.size + 1) 44 #[.int .i64 o2,.string n2,.int .i64 t2.base,.int .i64 t2.bits,.string t2.name,.bool t2.opt,.bool t2.err,.slice A2 a2.len ca2,.slice B2 b2.len cb2,.slice C2 c2.len cc2]):=blk_new2 _ _ _ _
 clear hnx hny ha1 hb1 hc1 ha2 hb2 hc2 hsz h1 h2 hR hz ihE ihB ihC hlw hla hlb hlc
 go_enter Tryz.func135,Tryz.ntmps135
 go_upto_region 1 with fail
 generalize w.heap.size + 1=g2 at K2 ⊢
 generalize w.heap.size=g1 at K1 ⊢
 refine nmW fun w0 hw0=>?_
 rw [hw0] at W0 K1 K2
 clear hw0
 have q0:w0.cell? ⟨g1,0,none⟩=some (.int .i64 o1):=(K1.out).cell 0; have q1:w0.cell? ⟨g1,1,none⟩=some (.string n1):=(K1.out).cell 1; have q2:w0.cell? ⟨g1,2,none⟩=some (.int .i64 t1.base):=(K1.out).cell 2; have q3:w0.cell? ⟨g1,3,none⟩=some (.int .i64 t1.bits):=(K1.out).cell 3; have q4:w0.cell? ⟨g1,4,none⟩=some (.string t1.name):=(K1.out).cell 4; have q5:w0.cell? ⟨g1,5,none⟩=some (.bool t1.opt):=(K1.out).cell 5; have q6:w0.cell? ⟨g1,6,none⟩=some (.bool t1.err):=(K1.out).cell 6; have q7:w0.cell? ⟨g1,7,none⟩=some (.slice A1 a1.len ca1):=(K1.out).cell 7; have q8:w0.cell? ⟨g1,8,none⟩=some (.slice B1 b1.len cb1):=(K1.out).cell 8; have q9:w0.cell? ⟨g1,9,none⟩=some (.slice C1 c1.len cc1):=(K1.out).cell 9
 have r0:w0.cell? ⟨g2,0,none⟩=some (.int .i64 o2):=(K2.out).cell 0; have r1:w0.cell? ⟨g2,1,none⟩=some (.string n2):=(K2.out).cell 1; have r2:w0.cell? ⟨g2,2,none⟩=some (.int .i64 t2.base):=(K2.out).cell 2; have r3:w0.cell? ⟨g2,3,none⟩=some (.int .i64 t2.bits):=(K2.out).cell 3; have r4:w0.cell? ⟨g2,4,none⟩=some (.string t2.name):=(K2.out).cell 4; have r5:w0.cell? ⟨g2,5,none⟩=some (.bool t2.opt):=(K2.out).cell 5; have r6:w0.cell? ⟨g2,6,none⟩=some (.bool t2.err):=(K2.out).cell 6; have r7:w0.cell? ⟨g2,7,none⟩=some (.slice A2 a2.len ca2):=(K2.out).cell 7; have r8:w0.cell? ⟨g2,8,none⟩=some (.slice B2 b2.len cb2):=(K2.out).cell 8; have r9:w0.cell? ⟨g2,9,none⟩=some (.slice C2 c2.len cc2):=(K2.out).cell 9
 go_wp2_with (first
  | (go_at_call 133; refine (HA.out _ W0.out).mono ?_; rintro rr w5 ⟨rfl,x5⟩; have q8:w5.cell? ⟨g1,8,none⟩=some (.slice B1 b1.len cb1):=(K1.out.ext (x5)).cell 8; have q9:w5.cell? ⟨g1,9,none⟩=some (.slice C1 c1.len cc1):=(K1.out.ext (x5)).cell 9; have r8:w5.cell? ⟨g2,8,none⟩=some (.slice B2 b2.len cb2):=(K2.out.ext (x5)).cell 8; have r9:w5.cell? ⟨g2,9,none⟩=some (.slice C2 c2.len cc2):=(K2.out.ext (x5)).cell 9)
  | (go_at_call 188; refine (HB.out _ (W0.out.trans (x5))).mono ?_; rintro rr w6 ⟨rfl,x6⟩; have q9:w6.cell? ⟨g1,9,none⟩=some (.slice C1 c1.len cc1):=(K1.out.ext ((x5).trans x6)).cell 9; have r9:w6.cell? ⟨g2,9,none⟩=some (.slice C2 c2.len cc2):=(K2.out.ext ((x5).trans x6)).cell 9)
  | (go_at_call 189; refine (HC.out _ (W0.out.trans ((x5).trans x6))).mono ?_; rintro rr w7 ⟨rfl,x7⟩))
 all_goals
  go_ret
  exact ⟨ret_bool (by rw [← HR.out]; first | rfl | (simp [*]; done)),by first | exact W0.out | exact W0.out.trans (x5) | exact W0.out.trans ((x5).trans x6) | exact W0.out.trans (((x5).trans x6).trans x7)⟩
theorem pc_step {n:Nat} (ihB:PB1 n):PC1 (n + 1):=by
 intro x y hsz hlw g1 g2 w cs ds p q hnx hny
 obtain ⟨l1,h1,b1,r,rfl⟩:=hnx.1.ca1 (by rw [g1]; exact Nat.one_pos)
 obtain rfl:r=.nil:=tl_one g1
 obtain ⟨l2,h2,b2,r,rfl⟩:=hny.1.ca1 (by rw [g2]; exact Nat.one_pos)
 obtain rfl:r=.nil:=tl_one g2
 obtain ⟨vb,rfl,hb1⟩:=nv_caI hnx
 obtain ⟨B1,cb1,rfl,_⟩:=hb1.lp
 obtain ⟨vb,rfl,hb2⟩:=nv_caI hny
 obtain ⟨B2,cb2,rfl,_⟩:=hb2.lp
 have hz:b1.sz < n:=by simp only [Nd.sz] at hsz; omega
 have hlb:LW b1:=hlw.2.1
 have HB:Hid (∀ w1,Ext w w1 → Calls Tryz.prog 85 #[.slice B1 b1.len cb1,.slice B2 b2.len cb2] w1 fun e w'=>e=.returned (.bool (eqN b1 b2))∧Ext w1 w'):=fun w1 X=>ihB b1 b2 hz hlb w1 _ _ p q (hb1.mono (vp_ext X)) (hb2.mono (vp_ext X))
 obtain ⟨R,hR⟩:∃ R,eqN (.ca l1 h1 b1 .nil) (.ca l2 h2 b2 .nil)=R:=⟨_,rfl⟩
 rw [hR]
 have HR:Hid ((l1 == l2 && (h1 == h2 && eqN b1 b2))=R):=(Bool.and_true _).symm.trans hR
 generalize eqN b1 b2=e2 at HB HR
 have W0:Hid (Ext w ((w.alloc (.cells #[.int .i64 l1,.int .i64 h1,.slice B1 b1.len cb1] 101)).alloc (.cells #[.int .i64 l2,.int .i64 h2,.slice B2 b2.len cb2] 101))):=((Ext.refl w).alloc _).alloc _
 have K1:Hid (Blk ((w.alloc (.cells #[.int .i64 l1,.int .i64 h1,.slice B1 b1.len cb1] 101)).alloc (.cells #[.int .i64 l2,.int .i64 h2,.slice B2 b2.len cb2] 101)) w.heap.size 101 #[.int .i64 l1,.int .i64 h1,.slice B1 b1.len cb1]):=(Blk.new w _ _).alloc _
 have K2:Hid (Blk ((w.alloc (.cells #[.int .i64 l1,.int .i64 h1,.slice B1 b1.len cb1] 101)).alloc (.cells #[.int .i64 l2,.int .i64 h2,.slice B2 b2.len cb2] 101)) (w.heap.size + 1) 101 #[.int .i64 l2,.int .i64 h2,.slice B2 b2.len cb2]):=blk_new2 _ _ _ _
 clear hnx hny hb1 hb2 hsz g1 g2 hR hz ihB hlw hlb
 go_enter Tryz.func190,Tryz.ntmps190
 go_upto_region 1 with fail
 generalize w.heap.size + 1=g2 at K2 ⊢
 generalize w.heap.size=g1 at K1 ⊢
 refine nmW fun w0 hw0=>?_
 rw [hw0] at W0 K1 K2
 clear hw0
 have q0:w0.cell? ⟨g1,0,none⟩=some (.int .i64 l1):=(K1.out).cell 0; have q1:w0.cell? ⟨g1,1,none⟩=some (.int .i64 h1):=(K1.out).cell 1; have q2:w0.cell? ⟨g1,2,none⟩=some (.slice B1 b1.len cb1):=(K1.out).cell 2
 have r0:w0.cell? ⟨g2,0,none⟩=some (.int .i64 l2):=(K2.out).cell 0; have r1:w0.cell? ⟨g2,1,none⟩=some (.int .i64 h2):=(K2.out).cell 1; have r2:w0.cell? ⟨g2,2,none⟩=some (.slice B2 b2.len cb2):=(K2.out).cell 2
 go_wp2_with (first
  | (go_at_call 85; refine (HB.out _ W0.out).mono ?_; rintro rr w5 ⟨rfl,x5⟩))
 all_goals
  go_ret
  exact ⟨ret_bool (by rw [← HR.out]; first | rfl | (simp [*]; done)),by first | exact W0.out | exact W0.out.trans (x5)⟩
theorem ps_all:∀ n,PE n∧PB1 n∧PC1 n
 | 0=>⟨fun x y h=>absurd h (by omega),fun x y h=>absurd h (by omega),fun x y h=>absurd h (by omega)⟩
 | n + 1 =>
  have ih:=ps_all n
  ⟨pe_step ih.1 ih.2.1,pb_step (ps_step ih.1 ih.2.1 ih.2.2),pc_step ih.2.1⟩
end Go.Proofs.YtmmnhbhnjiajhaaGreatDoor.c
