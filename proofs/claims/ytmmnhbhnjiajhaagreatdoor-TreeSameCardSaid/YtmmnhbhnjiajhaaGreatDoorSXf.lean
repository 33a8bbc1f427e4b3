/- The reference's sizes of lists of expressions: the plain size; one step of the induction. No condition. -/
import Derived.Test.YtmmnhbhnjiajhaaGreatDoorSWa
namespace Go.Proofs.YtmmnhbhnjiajhaaGreatDoor.c
open Go.RowKit
set_option linter.unusedVariables false
set_option maxRecDepth 100000
set_option maxHeartbeats 6400000
set_option linter.unusedSimpArgs false
structure Sz where
 s:Int
 e:Int
 d:Int
 m:Bool
def szC (s:Sz):Array Value:=#[.int .i64 s.s,.int .i64 s.e,.int .i64 s.d,.bool s.m]
def sz0:Sz:=⟨0,0,0,false⟩
def plS (a b:Sz):Sz:=⟨wrap64 (a.s + b.s),wrap64 (a.e + b.e),max a.d b.d,a.m || b.m⟩
def exZ (op:Int) (la:Nat) (s:Sz):Sz:=⟨s.s,wrap64 (s.e + 1),wrap64 (s.d + 1),s.m || (op == 2 && decide (4 < la))⟩
def stZ (lc:Nat) (s:Sz):Sz:=⟨wrap64 (s.s + 1),s.e,wrap64 (s.d + 1),s.m || decide (8 < lc)⟩
def szA:Nd → Sz → Sz
 | .nil,o=>o
 | .ex op _ _ _ a b tl,o=>szA tl (plS o (exZ op a.len (plS (szA a sz0) (szA b sz0))))
 | .st _ _ _ es bs cs tl,o=>szA tl (plS o (stZ cs.len (szA cs (szA bs (szA es sz0)))))
 | .bl b tl,o=>szA tl (plS o (szA b sz0))
 | .ca _ _ b tl,o=>szA tl (plS o (szA b sz0))
 | .pa _ _ _ tl,o=>szA tl o
 | .de _ _ _ _ _ _ tl,o=>szA tl o
theorem szC_one (s:Sz):∀ u ∈ (szC s).toList,u.oneCell'=true:=by
 simp only [szC,List.mem_cons,List.not_mem_nil,or_false]
 rintro u (rfl | rfl | rfl | rfl) <;> rfl
theorem blk_new3 (w:World) (o o2:Obj) (t:TypeId) (cs:Array Value):Blk (((w.alloc o).alloc o2).alloc (.cells cs t)) (w.heap.size + 1 + 1) t cs:=by
 have q:=blk_new2 (w.alloc o) o2 t cs
 rwa [size_alloc] at q
theorem plus_any (a b:Sz) (w:World):Calls Tryz.prog 82 #[.agg #[.int .i64 a.s,.int .i64 a.e,.int .i64 a.d,.bool a.m],.agg #[.int .i64 b.s,.int .i64 b.e,.int .i64 b.d,.bool b.m]] w fun e w'=>e=.returned (.agg #[.int .i64 (plS a b).s,.int .i64 (plS a b).e,.int .i64 (plS a b).d,.bool (plS a b).m])∧Ext w w':=by
 have HZ:Hid ((Tryz.prog.info? 88).map (·.size)=some 4):=by unfold Hid; kernel_rfl
 obtain ⟨a1,a2,a3,a4⟩:=a
 obtain ⟨b1,b2,b3,b4⟩:=b
 cases a4
 all_goals
  go_enter Tryz.func82,Tryz.ntmps82
  go_wp2_with fail
  exact bodyPost_ret (results_cell_row rfl _ _ (w.heap.size + 1 + 1) 88 #[.int .i64 (wrap64 (a1 + b1)),.int .i64 (wrap64 (a2 + b2)),.int .i64 (max a3 b3),.bool _] (0,0) _ rfl (blk_new3 _ _ _ _ _) Tryz.underlying88 rfl HZ.out) rfl ⟨rfl,exA⟩
def ZX (n:Nat):Prop:=∀ (x:Nd),x.sz < n → LW x → ∀ (w:World) (v:Value) (p:Nat → Prop),Sl (vp p w) v x 0 → Calls Tryz.prog 108 #[v] w fun e w'=>e=.returned (.agg #[.int .i64 (szA x sz0).s,.int .i64 (szA x sz0).e,.int .i64 (szA x sz0).d,.bool (szA x sz0).m])∧Ext w w'
def ZT (n:Nat):Prop:=∀ (x:Nd),x.sz < n → LW x → ∀ (w:World) (v:Value) (p:Nat → Prop),Sl (vp p w) v x 1 → Calls Tryz.prog 107 #[v] w fun e w'=>e=.returned (.agg #[.int .i64 (szA x sz0).s,.int .i64 (szA x sz0).e,.int .i64 (szA x sz0).d,.bool (szA x sz0).m])∧Ext w w'
theorem zx_step {n:Nat} (ihX:ZX n) (ihT:ZT n):ZX (n + 1):=by
 intro x hsz hlw w v p hsl
 have HZ:Hid ((Tryz.prog.info? 88).map (·.size)=some 4):=by unfold Hid; kernel_rfl
 obtain ⟨A,c,rfl,la⟩:=hsl.lp
 have hxl:=hlw.len
 have HLW:=Lib.hid hlw
 obtain ⟨R,hR⟩:∃ R,szA x sz0=R:=⟨_,rfl⟩
 rw [hR]
 generalize hN:x.len=N at *
 have hN1:N ≤ 4611686018427387904:=by omega
 have L0:=Lib.hid la
 have E0:=Lib.hid hR
 have hxs:x.sz ≤ n:=by omega
 have X0:Hid (Ext w ((w.alloc (.cells (szC sz0) 88)).alloc (.cells (szC sz0) 88))):=((Ext.refl w).alloc _).alloc _
 have K2:Hid (Blk ((w.alloc (.cells (szC sz0) 88)).alloc (.cells (szC sz0) 88)) w.heap.size 88 (szC sz0)):=(Blk.new w _ _).alloc _
 have K3:Hid (Blk ((w.alloc (.cells (szC sz0) 88)).alloc (.cells (szC sz0) 88)) (w.heap.size + 1) 88 (szC sz0)):=blk_new2 _ _ _ _
 have hg:w.heap.size ≠ w.heap.size + 1:=by omega
 have hgw:w.heap.size ≤ w.heap.size + 1:=by omega
 clear la hsl hsz hR hN hxl hlw
 unfold szC sz0 at X0 K2 K3
 go_enter Tryz.func108,Tryz.ntmps108
 go_upto_region 3 with fail
 refine nmW fun w0 hw0=>?_
 rw [hw0] at X0 K2 K3
 clear hw0
 generalize w.heap.size + 1=g3 at *
 generalize hg2:w.heap.size=g2 at K2 hg ⊢
 have hgx:w.heap.size ≤ g2:=Nat.le_of_eq hg2
 go_loopw [4] (fun u4 wr=>∃ (i:Nat) (r:Nd) (s:Sz),u4=.int .i64 i∧Hid (Lp (vp p w) A N 0 i r)∧Hid (Ext w wr)∧Hid (Blk wr g2 88 #[.int .i64 sz0.s,.int .i64 sz0.e,.int .i64 sz0.d,.bool sz0.m])∧Hid (Blk wr g3 88 #[.int .i64 s.s,.int .i64 s.e,.int .i64 s.d,.bool s.m])∧Hid (szA r s=R)∧r.sz ≤ n∧Hid (LW r)) (fun u4 _=>N - (intOf u4).toNat)
 case atStart=>exact ⟨0,x,sz0,rfl,L0,X0,K2,K3,E0,hxs,HLW⟩
 case round =>
  clear L0 X0 E0 hxs K2 K3 HLW
  obtain ⟨i,r,s,rfl,L,X,K2,K3,hE,hrz,hlr⟩:=hrel
  by_cases hlt:i < N
  case neg =>
   obtain rfl:=L.out.fin hlt
   have hltI:¬ (i:Int) < (N:Int):=by omega
   obtain rfl:s=R:=hE.out
   have q0:wr.cell? ⟨g3,0,none⟩=some (.int .i64 s.s):=K3.out.cell 0; have q1:wr.cell? ⟨g3,1,none⟩=some (.int .i64 s.e):=K3.out.cell 1; have q2:wr.cell? ⟨g3,2,none⟩=some (.int .i64 s.d):=K3.out.cell 2; have q3:wr.cell? ⟨g3,3,none⟩=some (.bool s.m):=K3.out.cell 3
   go_wp2_with (first
    | ((with_reducible show wpList _ _ _ (Oper.mk none (.store 88 (.tmp 2) _) _ _ _ _ :: _) _ _); refine wpList_store_row rfl _ _ _ rfl g2 rfl 88 #[.int .i64 sz0.s,.int .i64 sz0.e,.int .i64 sz0.d,.bool sz0.m] #[.int .i64 s.s,.int .i64 s.e,.int .i64 s.d,.bool s.m] K2.out rfl rfl (szC_one s) HZ.out ?_))
   exact bodyPost_ret (results_cell_row rfl _ _ g2 88 #[.int .i64 s.s,.int .i64 s.e,.int .i64 s.d,.bool s.m] (0,0) _ rfl (K2.out.row _) Tryz.underlying88 rfl HZ.out) rfl ⟨rfl,X.out.setRow hgx _⟩
  have hltI:(i:Int) < (N:Int):=by omega
  have hwi:wrap64 ((i:Int) + 1)=(i:Int) + 1:=IntWalk.wrap64_in _ (by omega)
  obtain ⟨o1,t1,n1,k1,a1,b1,r1,rfl⟩:=L.out.ex1 hlt
  obtain ⟨bb,oo,cs,rfl,hnx,hcx,L'⟩:=L.out.step hlt
  have hrs:a1.sz < n∧b1.sz < n∧r1.sz ≤ n:=by simp only [Nd.sz] at hrz; omega
  obtain ⟨va,vb,rfl,ha1,hb1⟩:=nv_exI hnx
  obtain ⟨A1,ca1,rfl,_⟩:=ha1.lp
  obtain ⟨B1,cb1,rfl,_⟩:=hb1.lp
  have LS:Hid (Lp (vp p w) (some ⟨bb,oo,none⟩) N 0 (i + 1) r1):=L'
  have HA:Hid (∀ w1,Ext w w1 → Calls Tryz.prog 108 #[.slice A1 a1.len ca1] w1 fun e w'=>e=.returned (.agg #[.int .i64 (szA a1 sz0).s,.int .i64 (szA a1 sz0).e,.int .i64 (szA a1 sz0).d,.bool (szA a1 sz0).m])∧Ext w1 w'):=fun w1 X=>ihX a1 hrs.1 hlr.out.2.1 w1 _ p (ha1.mono (vp_ext X))
  have HB:Hid (∀ w1,Ext w w1 → Calls Tryz.prog 107 #[.slice B1 b1.len cb1] w1 fun e w'=>e=.returned (.agg #[.int .i64 (szA b1 sz0).s,.int .i64 (szA b1 sz0).e,.int .i64 (szA b1 sz0).d,.bool (szA b1 sz0).m])∧Ext w1 w'):=fun w1 X=>ihT b1 hrs.2.1 hlr.out.2.2.1 w1 _ p (hb1.mono (vp_ext X))
  have E1:Hid (szA r1 (plS s (exZ o1 a1.len (plS (szA a1 sz0) (szA b1 sz0))))=R):=hE.out
  generalize szA a1 sz0=sa at *
  generalize szA b1 sz0=sb at *
  have HP:Hid (∀ w1,Calls Tryz.prog 82 #[.agg #[.int .i64 sa.s,.int .i64 sa.e,.int .i64 sa.d,.bool sa.m],.agg #[.int .i64 sb.s,.int .i64 sb.e,.int .i64 sb.d,.bool sb.m]] w1 fun e w'=>e=.returned (.agg #[.int .i64 (plS sa sb).s,.int .i64 (plS sa sb).e,.int .i64 (plS sa sb).d,.bool (plS sa sb).m])∧Ext w1 w'):=fun w1=>plus_any sa sb w1
  generalize plS sa sb=s5 at *
  have HW:Hid (∀ w',Ext wr w' → w'.cell? ⟨bb,oo + i * 10 + 8,none⟩=some (.slice A1 a1.len ca1)∧w'.cell? ⟨bb,oo + i * 10 + 9,none⟩=some (.slice B1 b1.len cb1)):=fun w' X2=>⟨row_at hcx (X.out.trans X2) (j:=8) rfl,row_at hcx (X.out.trans X2) (j:=9) rfl⟩
  have HQ0:Hid (∀ w',Ext wr w' → w'.cell? ⟨bb,oo + i * 10,none⟩=some (.int .i64 o1)):=fun w' X2=>row_at hcx (X.out.trans X2) (j:=0) rfl
  have HL1:Hid (LW r1):=hlr.out.tl
  clear hnx hcx L' L hE hrz ha1 hb1 hlr
  go_upto_region 5 with fail
  go_cut [5] from 12 to 24 (fun c wx=>∃ g5,c=.pointer (some ⟨g5,0,none⟩)∧Hid (Ext wr wx)∧Hid (Blk wx g5 88 #[.int .i64 s5.s,.int .i64 s5.e,.int .i64 s5.d,.bool s5.m])∧wr.heap.size ≤ g5)
  case first =>
   clear LS E1 HQ0 K2 K3
   refine eh_begin #[false,false,false,false,false,false,false,false,false,false,false,false,false,false,false] (fun w'=>Ext wr w') rfl (by kernel_rfl) (fun _ _ _ _ _ h=>h) (fun HQ=>?_)
   have hS0:Ext wr wr.drew:=(Ext.refl wr).drew
   refine eh_take 0 12 rfl HQ hS0 (by intro w1 hX; go_simp; try with_reducible rfl) ?_
   simp only [putL,List.set]
   refine eh_take 1 13 rfl HQ hS0 (by intro w1 hX; go_simp; try with_reducible rfl) ?_
   simp only [putL,List.set]
   refine eh_take 2 14 rfl HQ hS0 (by intro w1 hX; go_simp; try with_reducible rfl) ?_
   simp only [putL,List.set]
   refine eh_take 3 15 rfl HQ hS0 (by intro w1 hX; go_simp; try with_reducible rfl) ?_
   simp only [putL,List.set]
   refine eh_take 4 16 rfl HQ hS0 (fun w1 hX=>exec_ld1 rfl rfl (HW.out w1 hX).1 Tryz.underlying33 rfl) ?_
   simp only [putL,List.set]
   refine eh_take 6 18 rfl HQ hS0 (by intro w1 hX; go_simp; try with_reducible rfl) ?_
   simp only [putL,List.set]
   refine eh_take 7 19 rfl HQ hS0 (by intro w1 hX; go_simp; try with_reducible rfl) ?_
   simp only [putL,List.set]
   refine eh_take 8 20 rfl HQ hS0 (by intro w1 hX; go_simp; try with_reducible rfl) ?_
   simp only [putL,List.set]
   refine eh_take 9 21 rfl HQ hS0 (by intro w1 hX; go_simp; try with_reducible rfl) ?_
   simp only [putL,List.set]
   refine eh_take 10 22 rfl HQ hS0 (fun w1 hX=>exec_ld1 rfl rfl (HW.out w1 hX).2 Tryz.underlying34 rfl) ?_
   simp only [putL,List.set]
   refine eh_br (l:=[5,13]) (by simp) ?_
   intro j hj
   simp only [List.mem_cons,List.not_mem_nil,or_false] at hj
   rcases hj with rfl | rfl
   ·refine o_call 5 rfl rfl (by go_simp) (HA.out _ (X.out.trans (hS0))) ?_ ?_ ?_
    ·rintro rv wwa1 ⟨e0,xxa1⟩
     cases e0
     refine ⟨((hS0).trans xxa1),?_⟩
     show wpAnyH _ _ _ _ _ _ _ (Act.put _ (some 17) _) _
     simp only [putL,List.set]
     refine eh_br (l:=[11,13]) (by simp) ?_
     intro j hj
     simp only [List.mem_cons,List.not_mem_nil,or_false] at hj
     rcases hj with rfl | rfl
     ·refine o_call 11 rfl rfl (by go_simp) (HB.out _ (X.out.trans (((hS0).trans xxa1)))) ?_ ?_ ?_
      ·rintro rv wwb2 ⟨e0,xxb2⟩
       cases e0
       refine ⟨((((hS0).trans xxa1)).trans xxb2),?_⟩
       show wpAnyH _ _ _ _ _ _ _ (Act.put _ (some 23) _) _
       simp only [putL,List.set]
       refine eh_br (l:=[12,13]) (by simp) ?_
       intro j hj
       simp only [List.mem_cons,List.not_mem_nil,or_false] at hj
       rcases hj with rfl | rfl
       ·refine o_call 12 rfl rfl (by go_simp) (HP.out _) ?_ ?_ ?_
        ·rintro rv wwp3 ⟨e0,xxp3⟩
         cases e0
         refine ⟨((((((hS0).trans xxa1)).trans xxb2)).trans xxp3),?_⟩
         show wpAnyH _ _ _ _ _ _ _ (Act.put _ (some 24) _) _
         simp only [putL,List.set]
         refine eh_br (l:=[13]) (by simp) ?_
         intro j hj
         simp only [List.mem_cons,List.not_mem_nil,or_false] at hj
         subst hj
         refine o_val (w':=(World.alloc wwp3 (.cells (szC sz0) 88))) 13 5 rfl (v:=.pointer (some ⟨(wwp3).heap.size,0,none⟩)) (by go_simp; try rfl) ?_
         refine ⟨(((((((hS0).trans xxa1)).trans xxb2)).trans xxp3)).alloc _,?_⟩
         simp only [putL,List.set]
         refine eh_br (l:=[14]) (by simp) ?_
         intro j hj
         simp only [List.mem_cons,List.not_mem_nil,or_false] at hj
         subst hj
         refine o_wp 14 rfl rfl (wp_str _ _ _ rfl _ rfl _ (szC sz0) #[.int .i64 s5.s,.int .i64 s5.e,.int .i64 s5.d,.bool s5.m] ((Blk.new wwp3 88 (szC sz0))) rfl rfl (szC_one s5) HZ.out ?_)
         refine ⟨((((((((((hS0).trans xxa1)).trans xxb2)).trans xxp3)).alloc _)).setRow ((((((((hS0).trans xxa1)).trans xxb2)).trans xxp3)).size) _),?_⟩
         show wpAnyH _ _ _ _ _ _ _ _ _
         refine eh_end ?_
         go_wp2_with fail
         go_meet
         exact ⟨_,rfl,(((((((((((hS0).trans xxa1)).trans xxb2)).trans xxp3)).alloc _)).setRow ((((((((hS0).trans xxa1)).trans xxb2)).trans xxp3)).size) _)),((Blk.new wwp3 88 (szC sz0))).row _,(((((((hS0).trans xxa1)).trans xxb2)).trans xxp3)).size⟩
        ·rintro cc wwp3 ⟨e0,_⟩; cases e0
        ·rintro wwp3 ⟨e0,_⟩; cases e0
       ·refine o_val (w':=(World.alloc wwb2 (.cells (szC sz0) 88))) 13 5 rfl (v:=.pointer (some ⟨(wwb2).heap.size,0,none⟩)) (by go_simp; try rfl) ?_
        refine ⟨(((((hS0).trans xxa1)).trans xxb2)).alloc _,?_⟩
        simp only [putL,List.set]
        refine eh_br (l:=[12]) (by simp) ?_
        intro j hj
        simp only [List.mem_cons,List.not_mem_nil,or_false] at hj
        subst hj
        refine o_call 12 rfl rfl (by go_simp) (HP.out _) ?_ ?_ ?_
        ·rintro rv wwp4 ⟨e0,xxp4⟩
         cases e0
         refine ⟨((((((((hS0).trans xxa1)).trans xxb2)).alloc _)).trans xxp4),?_⟩
         show wpAnyH _ _ _ _ _ _ _ (Act.put _ (some 24) _) _
         simp only [putL,List.set]
         refine eh_br (l:=[14]) (by simp) ?_
         intro j hj
         simp only [List.mem_cons,List.not_mem_nil,or_false] at hj
         subst hj
         refine o_wp 14 rfl rfl (wp_str _ _ _ rfl _ rfl _ (szC sz0) #[.int .i64 s5.s,.int .i64 s5.e,.int .i64 s5.d,.bool s5.m] ((((Blk.new wwb2 88 (szC sz0))).ext xxp4)) rfl rfl (szC_one s5) HZ.out ?_)
         refine ⟨((((((((((hS0).trans xxa1)).trans xxb2)).alloc _)).trans xxp4)).setRow ((((((hS0).trans xxa1)).trans xxb2)).size) _),?_⟩
         show wpAnyH _ _ _ _ _ _ _ _ _
         refine eh_end ?_
         go_wp2_with fail
         go_meet
         exact ⟨_,rfl,(((((((((((hS0).trans xxa1)).trans xxb2)).alloc _)).trans xxp4)).setRow ((((((hS0).trans xxa1)).trans xxb2)).size) _)),((((Blk.new wwb2 88 (szC sz0))).ext xxp4)).row _,(((((hS0).trans xxa1)).trans xxb2)).size⟩
        ·rintro cc wwp4 ⟨e0,_⟩; cases e0
        ·rintro wwp4 ⟨e0,_⟩; cases e0
      ·rintro cc wwb2 ⟨e0,_⟩; cases e0
      ·rintro wwb2 ⟨e0,_⟩; cases e0
     ·refine o_val (w':=(World.alloc wwa1 (.cells (szC sz0) 88))) 13 5 rfl (v:=.pointer (some ⟨(wwa1).heap.size,0,none⟩)) (by go_simp; try rfl) ?_
      refine ⟨(((hS0).trans xxa1)).alloc _,?_⟩
      simp only [putL,List.set]
      refine eh_br (l:=[11]) (by simp) ?_
      intro j hj
      simp only [List.mem_cons,List.not_mem_nil,or_false] at hj
      subst hj
      refine o_call 11 rfl rfl (by go_simp) (HB.out _ (X.out.trans (((((hS0).trans xxa1)).alloc _)))) ?_ ?_ ?_
      ·rintro rv wwb5 ⟨e0,xxb5⟩
       cases e0
       refine ⟨((((((hS0).trans xxa1)).alloc _)).trans xxb5),?_⟩
       show wpAnyH _ _ _ _ _ _ _ (Act.put _ (some 23) _) _
       simp only [putL,List.set]
       refine eh_br (l:=[12]) (by simp) ?_
       intro j hj
       simp only [List.mem_cons,List.not_mem_nil,or_false] at hj
       subst hj
       refine o_call 12 rfl rfl (by go_simp) (HP.out _) ?_ ?_ ?_
       ·rintro rv wwp6 ⟨e0,xxp6⟩
        cases e0
        refine ⟨((((((((hS0).trans xxa1)).alloc _)).trans xxb5)).trans xxp6),?_⟩
        show wpAnyH _ _ _ _ _ _ _ (Act.put _ (some 24) _) _
        simp only [putL,List.set]
        refine eh_br (l:=[14]) (by simp) ?_
        intro j hj
        simp only [List.mem_cons,List.not_mem_nil,or_false] at hj
        subst hj
        refine o_wp 14 rfl rfl (wp_str _ _ _ rfl _ rfl _ (szC sz0) #[.int .i64 s5.s,.int .i64 s5.e,.int .i64 s5.d,.bool s5.m] ((((((Blk.new wwa1 88 (szC sz0))).ext xxb5)).ext xxp6)) rfl rfl (szC_one s5) HZ.out ?_)
        refine ⟨((((((((((hS0).trans xxa1)).alloc _)).trans xxb5)).trans xxp6)).setRow ((((hS0).trans xxa1)).size) _),?_⟩
        show wpAnyH _ _ _ _ _ _ _ _ _
        refine eh_end ?_
        go_wp2_with fail
        go_meet
        exact ⟨_,rfl,(((((((((((hS0).trans xxa1)).alloc _)).trans xxb5)).trans xxp6)).setRow ((((hS0).trans xxa1)).size) _)),((((((Blk.new wwa1 88 (szC sz0))).ext xxb5)).ext xxp6)).row _,(((hS0).trans xxa1)).size⟩
       ·rintro cc wwp6 ⟨e0,_⟩; cases e0
       ·rintro wwp6 ⟨e0,_⟩; cases e0
      ·rintro cc wwb5 ⟨e0,_⟩; cases e0
      ·rintro wwb5 ⟨e0,_⟩; cases e0
    ·rintro cc wwa1 ⟨e0,_⟩; cases e0
    ·rintro wwa1 ⟨e0,_⟩; cases e0
   ·refine o_val (w':=(World.alloc wr.drew (.cells (szC sz0) 88))) 13 5 rfl (v:=.pointer (some ⟨(wr.drew).heap.size,0,none⟩)) (by go_simp; try rfl) ?_
    refine ⟨(hS0).alloc _,?_⟩
    simp only [putL,List.set]
    refine eh_br (l:=[5]) (by simp) ?_
    intro j hj
    simp only [List.mem_cons,List.not_mem_nil,or_false] at hj
    subst hj
    refine o_call 5 rfl rfl (by go_simp) (HA.out _ (X.out.trans (((hS0).alloc _)))) ?_ ?_ ?_
    ·rintro rv wwa7 ⟨e0,xxa7⟩
     cases e0
     refine ⟨((((hS0).alloc _)).trans xxa7),?_⟩
     show wpAnyH _ _ _ _ _ _ _ (Act.put _ (some 17) _) _
     simp only [putL,List.set]
     refine eh_br (l:=[11]) (by simp) ?_
     intro j hj
     simp only [List.mem_cons,List.not_mem_nil,or_false] at hj
     subst hj
     refine o_call 11 rfl rfl (by go_simp) (HB.out _ (X.out.trans (((((hS0).alloc _)).trans xxa7)))) ?_ ?_ ?_
     ·rintro rv wwb8 ⟨e0,xxb8⟩
      cases e0
      refine ⟨((((((hS0).alloc _)).trans xxa7)).trans xxb8),?_⟩
      show wpAnyH _ _ _ _ _ _ _ (Act.put _ (some 23) _) _
      simp only [putL,List.set]
      refine eh_br (l:=[12]) (by simp) ?_
      intro j hj
      simp only [List.mem_cons,List.not_mem_nil,or_false] at hj
      subst hj
      refine o_call 12 rfl rfl (by go_simp) (HP.out _) ?_ ?_ ?_
      ·rintro rv wwp9 ⟨e0,xxp9⟩
       cases e0
       refine ⟨((((((((hS0).alloc _)).trans xxa7)).trans xxb8)).trans xxp9),?_⟩
       show wpAnyH _ _ _ _ _ _ _ (Act.put _ (some 24) _) _
       simp only [putL,List.set]
       refine eh_br (l:=[14]) (by simp) ?_
       intro j hj
       simp only [List.mem_cons,List.not_mem_nil,or_false] at hj
       subst hj
       refine o_wp 14 rfl rfl (wp_str _ _ _ rfl _ rfl _ (szC sz0) #[.int .i64 s5.s,.int .i64 s5.e,.int .i64 s5.d,.bool s5.m] ((((((((Blk.new wr.drew 88 (szC sz0))).ext xxa7)).ext xxb8)).ext xxp9)) rfl rfl (szC_one s5) HZ.out ?_)
       refine ⟨((((((((((hS0).alloc _)).trans xxa7)).trans xxb8)).trans xxp9)).setRow ((hS0).size) _),?_⟩
       show wpAnyH _ _ _ _ _ _ _ _ _
       refine eh_end ?_
       go_wp2_with fail
       go_meet
       exact ⟨_,rfl,(((((((((((hS0).alloc _)).trans xxa7)).trans xxb8)).trans xxp9)).setRow ((hS0).size) _)),((((((((Blk.new wr.drew 88 (szC sz0))).ext xxa7)).ext xxb8)).ext xxp9)).row _,(hS0).size⟩
      ·rintro cc wwp9 ⟨e0,_⟩; cases e0
      ·rintro wwp9 ⟨e0,_⟩; cases e0
     ·rintro cc wwb8 ⟨e0,_⟩; cases e0
     ·rintro wwb8 ⟨e0,_⟩; cases e0
    ·rintro cc wwa7 ⟨e0,_⟩; cases e0
    ·rintro wwa7 ⟨e0,_⟩; cases e0
  case rest =>
  obtain ⟨g5,rfl,X1,K5,hg5⟩:=hcut
  have h53:g3 ≠ g5:=by have:=K3.out.lt; omega
  have h52:g2 ≠ g5:=by have:=K2.out.lt; omega
  have h5w:w.heap.size ≤ g5:=by have:=X.out.size; omega
  have X2:=Lib.hid (X.out.trans X1.out)
  have K22:=Lib.hid (K2.out.ext X1.out)
  have K33:=Lib.hid (K3.out.ext X1.out)
  clear HA HB HP
  have q1:wc.cell? ⟨g5,1,none⟩=some (.int .i64 s5.e):=K5.out.cell 1
  have q2:wc.cell? ⟨g5,2,none⟩=some (.int .i64 s5.d):=K5.out.cell 2
  have qf:∀ i,wc.frozen? ⟨g5,i,none⟩=false:=K5.out.frozen
  go_upto_region 8 with fail
  refine nmW fun w8 hw8=>?_
  have X8:Hid (Ext w w8):=by rw [← hw8]; exact (X2.out.setCell (p:=⟨g5,1,none⟩) h5w _).setCell (p:=⟨g5,2,none⟩) h5w _
  have Y8:Hid (Ext wr w8):=by rw [← hw8]; exact (X1.out.setCell (p:=⟨g5,1,none⟩) hg5 _).setCell (p:=⟨g5,2,none⟩) hg5 _
  have K5a:Hid (Blk w8 g5 88 #[.int .i64 s5.s,.int .i64 (wrap64 (s5.e + 1)),.int .i64 (wrap64 (s5.d + 1)),.bool s5.m]):=by rw [← hw8]; exact (K5.out.set_ 1 _).set_ 2 _
  have K2a:Hid (Blk w8 g2 88 #[.int .i64 sz0.s,.int .i64 sz0.e,.int .i64 sz0.d,.bool sz0.m]):=by rw [← hw8]; exact (K22.out.far (p:=⟨g5,1,none⟩) h52 _).far (p:=⟨g5,2,none⟩) h52 _
  have K3a:Hid (Blk w8 g3 88 #[.int .i64 s.s,.int .i64 s.e,.int .i64 s.d,.bool s.m]):=by rw [← hw8]; exact (K33.out.far (p:=⟨g5,1,none⟩) h53 _).far (p:=⟨g5,2,none⟩) h53 _
  clear hw8 q1 q2 qf K5 K22 K33 X2 X1
  obtain ⟨mm,hmm⟩:∃ mm,(s5.m || (o1 == 2 && decide (4 < a1.len)))=mm:=⟨_,rfl⟩
  have HM:=Lib.hid hmm
  clear hmm
  go_cut [] from 33 to 52 (fun wx=>Hid (wx=w8.setCell ⟨g5,3,none⟩ (.bool mm)))
  case first =>
   have q3:w8.cell? ⟨g5,3,none⟩=some (.bool s5.m):=K5a.out.cell 3
   have qf:∀ i,w8.frozen? ⟨g5,i,none⟩=false:=K5a.out.frozen
   have q0:=HQ0.out w8 Y8.out
   have q8:=(HW.out w8 Y8.out).1
   generalize s5.m=m5 at *
   generalize a1.len=l1 at *
   clear LS E1 K2 K3 HQ0 HW X Y8 K5a K2a K3a X8
   go_wp2_with fail
   all_goals
    go_meet
    exact congrArg (fun b=>w8.setCell ⟨g5,3,none⟩ (.bool b)) (by rw [← HM.out]; first | rfl | (simp [*]; done) | (simp [*]; omega) | (rw [Bool.eq_iff_iff]; simp [*]; omega))
  case rest =>
  have hcut2:=hcut.out
  clear hcut
  subst hcut2
  have X9:Hid (Ext w (w8.setCell ⟨g5,3,none⟩ (.bool mm))):=X8.out.setCell (p:=⟨g5,3,none⟩) h5w _
  have K5b:Hid (Blk (w8.setCell ⟨g5,3,none⟩ (.bool mm)) g5 88 #[.int .i64 (exZ o1 a1.len s5).s,.int .i64 (exZ o1 a1.len s5).e,.int .i64 (exZ o1 a1.len s5).d,.bool (exZ o1 a1.len s5).m]):=by
   have h9:=K5a.out.set_ 3 (.bool mm)
   rw [← HM.out] at h9 ⊢
   exact h9
  have K2b:Hid (Blk (w8.setCell ⟨g5,3,none⟩ (.bool mm)) g2 88 #[.int .i64 sz0.s,.int .i64 sz0.e,.int .i64 sz0.d,.bool sz0.m]):=K2a.out.far (p:=⟨g5,3,none⟩) h52 _
  have K3b:Hid (Blk (w8.setCell ⟨g5,3,none⟩ (.bool mm)) g3 88 #[.int .i64 s.s,.int .i64 s.e,.int .i64 s.d,.bool s.m]):=K3a.out.far (p:=⟨g5,3,none⟩) h53 _
  generalize w8.setCell ⟨g5,3,none⟩ (.bool mm)=w9 at *
  generalize exZ o1 a1.len s5=s6 at *
  clear X8 Y8 K5a K2a K3a HM HQ0 HW K2 K3
  have q0:w9.cell? ⟨g3,0,none⟩=some (.int .i64 s.s):=K3b.out.cell 0; have q1:w9.cell? ⟨g3,1,none⟩=some (.int .i64 s.e):=K3b.out.cell 1; have q2:w9.cell? ⟨g3,2,none⟩=some (.int .i64 s.d):=K3b.out.cell 2; have q3:w9.cell? ⟨g3,3,none⟩=some (.bool s.m):=K3b.out.cell 3
  have y0:w9.cell? ⟨g5,0,none⟩=some (.int .i64 s6.s):=K5b.out.cell 0; have y1:w9.cell? ⟨g5,1,none⟩=some (.int .i64 s6.e):=K5b.out.cell 1; have y2:w9.cell? ⟨g5,2,none⟩=some (.int .i64 s6.d):=K5b.out.cell 2; have y3:w9.cell? ⟨g5,3,none⟩=some (.bool s6.m):=K5b.out.cell 3
  go_wp2_with (first
   | (go_at_call 82; refine (plus_any s s6 _).mono ?_; rintro rv w10 ⟨rfl,x10⟩; have K3c:=Lib.hid (K3b.out.ext x10))
   | ((with_reducible show wpList _ _ _ (Oper.mk none (.store 88 (.tmp 3) _) _ _ _ _ :: _) _ _); refine wpList_store_row rfl _ _ _ rfl g3 rfl 88 #[.int .i64 s.s,.int .i64 s.e,.int .i64 s.d,.bool s.m] #[.int .i64 (plS s s6).s,.int .i64 (plS s s6).e,.int .i64 (plS s s6).d,.bool (plS s s6).m] K3c.out rfl rfl (szC_one (plS s s6)) HZ.out ?_))
  go_roundw
  case rel=>exact ⟨i + 1,r1,plS s s6,by first | rfl | (rw [hwi]; rfl),LS,(X9.out.trans x10).setRow hgw _,(setRow_other _ g3 g2 _ hg).trans (K2b.out.ext x10),K3c.out.row _,E1,hrs.2.2,HL1⟩
  case measure=>(try rw [hwi]); rw [iof_succ,iof_nat]; exact Nat.sub_lt_sub_left hlt (Nat.lt_succ_self i)
end Go.Proofs.YtmmnhbhnjiajhaaGreatDoor.c
