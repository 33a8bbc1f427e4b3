/- The reference's zero expression, the size of a declaration. No condition. -/
import Derived.Test.YtmmnhbhnjiajhaaGreatDoorSXh
import Derived.Test.YtmmnhbhnjiajhaaGreatDoorSWa
namespace Go.Proofs.YtmmnhbhnjiajhaaGreatDoor.c
open Go.RowKit
set_option linter.unusedVariables false
set_option maxRecDepth 100000
set_option maxHeartbeats 6400000
set_option linter.unusedSimpArgs false
theorem putN (a:Act) (v:Value):Act.put a none v=a:=rfl
theorem nv_zero (V:Vw):Nv V 0 zNd #[.int .i64 0,.int .i64 0,.int .i64 0,.string ⟨#[]⟩,.bool false,.bool false,.string ⟨#[]⟩,.int .i64 0,.slice none 0 0,.slice none 0 0]:=⟨⟨rfl,.slice none 0 0,.slice none 0 0,[],rfl,Sl.nil V none 0 0,Sl.nil V none 0 1,rfl⟩,rfl⟩
theorem isZero_any (x:Nd) (hz:LW x) (h1:x.len=1) (w:World) (cs:Array Value) (p:Nat → Prop) (hnv:Nv (vp p w) 0 x cs):Calls Tryz.prog 100 #[.agg cs] w fun e w'=>e=.returned (.bool (eqN x zNd))∧Ext w w':=by
 have HI:Hid (∀ w1,Ext w w1 → Calls Tryz.prog 73 #[.agg cs,.agg #[.int .i64 0,.int .i64 0,.int .i64 0,.string ⟨#[]⟩,.bool false,.bool false,.string ⟨#[]⟩,.int .i64 0,.slice none 0 0,.slice none 0 0]] w1 fun e w'=>e=.returned (.bool (eqN x zNd))∧Ext w1 w'):=fun w1 X=>(eq_all (x.sz + 1)).1 x zNd (Nat.lt_succ_self _) hz h1 rfl w1 _ _ p (fun _=>True) (hnv.mono (vp_ext X)) (nv_zero _)
 obtain rfl | ⟨op,ty,nm,k,a,b,r,rfl⟩:=hnv.1.ex
 ·cases h1
 obtain rfl:r=.nil:=tl_one h1
 obtain ⟨va,vb,rfl,ha,hb⟩:=nv_exI hnv
 obtain ⟨A1,c1,rfl,_⟩:=ha.lp
 obtain ⟨A2,c2,rfl,_⟩:=hb.lp
 generalize eqN (.ex op ty nm k a b .nil) zNd=q at HI ⊢
 clear hnv ha hb h1 hz
 go_enter Tryz.func100,Tryz.ntmps100
 go_wp2_with (first
  | (go_at_call 73; refine (HI.out _ ((Ext.refl w).alloc _)).mono ?_; rintro e w1 ⟨rfl,x1⟩))
 go_ret
 exact ⟨rfl,exA⟩
def dcS (fn:Bool) (lp:Nat) (val b:Nd):Sz :=
 let s:=szA b sz0
 let s1:=if (!fn || !eqN val zNd)=true then plS s (szA val sz0) else s
 ⟨s1.s,s1.e,s1.d,s1.m || decide (4 < lp)⟩
def dcX:Nd → Sz
 | .de fn _ ps _ val b _=>dcS fn ps.len val b
 | _=>sz0
theorem dec_range {w:World} {g:Nat} {t:TypeId} {x0 x1 x2 x3 x4 x5 x6 x7 y0 y1 y2 y3 y4 y5 y6 y7 y8 y9 z:Value} (h:Blk w g t #[x0,x1,x2,x3,x4,x5,x6,x7,y0,y1,y2,y3,y4,y5,y6,y7,y8,y9,z]):w.rangeAt g 8 (#[y0,y1,y2,y3,y4,y5,y6,y7,y8,y9]:Array Value).toList:=fun j v hv=>by
 show w.cell? ⟨g,8 + j,none⟩=some v
 rw [h.cell]
 match j,hv with
 | 0,hv=>exact hv
 | 1,hv=>exact hv
 | 2,hv=>exact hv
 | 3,hv=>exact hv
 | 4,hv=>exact hv
 | 5,hv=>exact hv
 | 6,hv=>exact hv
 | 7,hv=>exact hv
 | 8,hv=>exact hv
 | 9,hv=>exact hv
 | j + 10,hv=>cases hv
theorem ofDecl_any (x:Nd) (hsz:LW x) (w:World) (cs:Array Value) (p:Nat → Prop) (hnx:Nv (vp p w) 5 x cs):Calls Tryz.prog 54 #[.agg cs] w fun e w'=>e=.returned (.agg #[.int .i64 (dcX x).s,.int .i64 (dcX x).e,.int .i64 (dcX x).d,.bool (dcX x).m])∧Ext w w':=by
 have HZ:Hid ((Tryz.prog.info? 88).map (·.size)=some 4):=by unfold Hid; kernel_rfl
 have HXE:Hid ((Tryz.prog.info? 36).map (·.size)=some 10):=by unfold Hid; kernel_rfl
 obtain ⟨f1,n1,p1,t1,o1,y1,m1,k1,a1,b1,d1,P1,cp1,A1,ca1,B1,cb1,D1,cd1,rfl,rfl,hp1,hv1,hd1⟩:=hnx.de1
 obtain ⟨iX,iT⟩:=sz_all ((Nd.ex o1 y1 m1 k1 a1 b1 .nil).sz + d1.sz + 1)
 have hz:(Nd.ex o1 y1 m1 k1 a1 b1 .nil).sz < (Nd.ex o1 y1 m1 k1 a1 b1 .nil).sz + d1.sz + 1∧d1.sz < (Nd.ex o1 y1 m1 k1 a1 b1 .nil).sz + d1.sz + 1:=by omega
 have hlv:LW (.ex o1 y1 m1 k1 a1 b1 .nil):=hsz.2.2.1
 have hld:LW d1:=hsz.2.2.2.1
 have HD:Hid (∀ w1,Ext w w1 → Calls Tryz.prog 107 #[.slice D1 d1.len cd1] w1 fun e w'=>e=.returned (.agg #[.int .i64 (szA d1 sz0).s,.int .i64 (szA d1 sz0).e,.int .i64 (szA d1 sz0).d,.bool (szA d1 sz0).m])∧Ext w1 w'):=fun w1 X=>iT _ hz.2 hld w1 _ p (hd1.mono (vp_ext X))
 have HV:Hid (∀ w1,Ext w w1 → Calls Tryz.prog 100 #[.agg #[.int .i64 o1,.int .i64 y1.base,.int .i64 y1.bits,.string y1.name,.bool y1.opt,.bool y1.err,.string m1,.int .i64 k1,.slice A1 a1.len ca1,.slice B1 b1.len cb1]] w1 fun e w'=>e=.returned (.bool (eqN (.ex o1 y1 m1 k1 a1 b1 .nil) zNd))∧Ext w1 w'):=fun w1 X=>isZero_any _ hlv rfl w1 _ p (hv1.mono (vp_ext X))
 have HX:Hid (∀ w1,Ext w w1 → ∀ g,Blk w1 g 36 #[.int .i64 o1,.int .i64 y1.base,.int .i64 y1.bits,.string y1.name,.bool y1.opt,.bool y1.err,.string m1,.int .i64 k1,.slice A1 a1.len ca1,.slice B1 b1.len cb1] → Calls Tryz.prog 108 #[.slice (some ⟨g,0,none⟩) 1 1] w1 fun e w'=>e=.returned (.agg #[.int .i64 (szA (.ex o1 y1 m1 k1 a1 b1 .nil) sz0).s,.int .i64 (szA (.ex o1 y1 m1 k1 a1 b1 .nil) sz0).e,.int .i64 (szA (.ex o1 y1 m1 k1 a1 b1 .nil) sz0).d,.bool (szA (.ex o1 y1 m1 k1 a1 b1 .nil) sz0).m])∧Ext w1 w'):=fun w1 X g hB=>iX _ hz.1 hlv w1 _ (fun b=>p b ∨ b=g) ((hv1.mono (vp_le (q:=fun b=>p b ∨ b=g) fun b hb hl=>⟨.inl hb,X.out.block b hl⟩)).sl hB (.inr rfl))
 obtain ⟨bz,hbz⟩:∃ bz,(!f1 || !eqN (.ex o1 y1 m1 k1 a1 b1 .nil) zNd)=bz:=⟨_,rfl⟩
 have HBZ:=Lib.hid hbz
 generalize hs:szA d1 sz0=s at HD
 generalize hsv:szA (.ex o1 y1 m1 k1 a1 b1 .nil) sz0=sv at HX
 obtain ⟨s1,hs1⟩:∃ s1,(if bz=true then plS s sv else s)=s1:=⟨_,rfl⟩
 have HS1:=Lib.hid hs1
 have HR:Hid (dcX (.de f1 n1 p1 t1 (.ex o1 y1 m1 k1 a1 b1 .nil) d1 .nil)=⟨s1.s,s1.e,s1.d,s1.m || decide (4 < p1.len)⟩):=by unfold Hid dcX dcS; simp only; rw [hbz,hs,hsv,← hs1]
 rw [HR.out]
 obtain ⟨mm,hmm⟩:∃ mm,(s1.m || decide (4 < p1.len))=mm:=⟨_,rfl⟩
 rw [hmm]
 have HM:=Lib.hid hmm
 clear hmm
 generalize eqN (.ex o1 y1 m1 k1 a1 b1 .nil) zNd=ez at HV HBZ
 have B0:Hid (Blk ((w.alloc (.cells #[.bool f1,.string n1,.slice P1 p1.len cp1,.int .i64 t1.base,.int .i64 t1.bits,.string t1.name,.bool t1.opt,.bool t1.err,.int .i64 o1,.int .i64 y1.base,.int .i64 y1.bits,.string y1.name,.bool y1.opt,.bool y1.err,.string m1,.int .i64 k1,.slice A1 a1.len ca1,.slice B1 b1.len cb1,.slice D1 d1.len cd1] 38)).alloc (.cells #[.int .i64 sz0.s,.int .i64 sz0.e,.int .i64 sz0.d,.bool sz0.m] 88)) w.heap.size 38 #[.bool f1,.string n1,.slice P1 p1.len cp1,.int .i64 t1.base,.int .i64 t1.bits,.string t1.name,.bool t1.opt,.bool t1.err,.int .i64 o1,.int .i64 y1.base,.int .i64 y1.bits,.string y1.name,.bool y1.opt,.bool y1.err,.string m1,.int .i64 k1,.slice A1 a1.len ca1,.slice B1 b1.len cb1,.slice D1 d1.len cd1]):=(Blk.new w _ _).alloc _
 have C0:Hid (Blk ((w.alloc (.cells #[.bool f1,.string n1,.slice P1 p1.len cp1,.int .i64 t1.base,.int .i64 t1.bits,.string t1.name,.bool t1.opt,.bool t1.err,.int .i64 o1,.int .i64 y1.base,.int .i64 y1.bits,.string y1.name,.bool y1.opt,.bool y1.err,.string m1,.int .i64 k1,.slice A1 a1.len ca1,.slice B1 b1.len cb1,.slice D1 d1.len cd1] 38)).alloc (.cells #[.int .i64 sz0.s,.int .i64 sz0.e,.int .i64 sz0.d,.bool sz0.m] 88)) (w.heap.size + 1) 88 #[.int .i64 sz0.s,.int .i64 sz0.e,.int .i64 sz0.d,.bool sz0.m]):=blk_new2 _ _ _ _
 have X0:Hid (Ext w ((w.alloc (.cells #[.bool f1,.string n1,.slice P1 p1.len cp1,.int .i64 t1.base,.int .i64 t1.bits,.string t1.name,.bool t1.opt,.bool t1.err,.int .i64 o1,.int .i64 y1.base,.int .i64 y1.bits,.string y1.name,.bool y1.opt,.bool y1.err,.string m1,.int .i64 k1,.slice A1 a1.len ca1,.slice B1 b1.len cb1,.slice D1 d1.len cd1] 38)).alloc (.cells #[.int .i64 sz0.s,.int .i64 sz0.e,.int .i64 sz0.d,.bool sz0.m] 88))):=((Ext.refl w).alloc _).alloc _
 have hgx:w.heap.size ≤ w.heap.size + 1:=by omega
 have hg12:w.heap.size < w.heap.size + 1:=by omega
 unfold sz0 at B0 C0 X0
 clear hnx hp1 hv1 hd1 hsz hz iX iT hlv hld hbz hs hsv hs1 HR
 go_enter Tryz.func54,Tryz.ntmps54
 go_upto_region 1 with fail
 refine nmW fun w0 hw0=>?_
 rw [hw0] at B0 C0 X0
 clear hw0
 generalize w.heap.size + 1=g2 at *
 generalize hg1:w.heap.size=g1 at B0 hg12 ⊢
 have q18:w0.cell? ⟨g1,18,none⟩=some (.slice D1 d1.len cd1):=B0.out.cell 18
 go_upto_region 2 with (first
  | (go_at_call 107; refine (HD.out _ X0.out).mono ?_; rintro rv w1 ⟨rfl,x1⟩)
  | ((with_reducible show wpList _ _ _ (Oper.mk none (.store 88 (.tmp 3) _) _ _ _ _ :: _) _ _); refine wpList_store_row rfl _ _ _ rfl w1.heap.size rfl 88 #[.int .i64 sz0.s,.int .i64 sz0.e,.int .i64 sz0.d,.bool sz0.m] #[.int .i64 s.s,.int .i64 s.e,.int .i64 s.d,.bool s.m] (Blk.new w1 _ _) rfl rfl (szC_one s) HZ.out ?_; refine nmW fun w5 hw5=>?_
     have X5:Hid (Ext w w5):=by rw [← hw5]; exact (X0.out.trans x1).trans (newRow w1 _ #[.int .i64 sz0.s,.int .i64 sz0.e,.int .i64 sz0.d,.bool sz0.m] #[.int .i64 s.s,.int .i64 s.e,.int .i64 s.d,.bool s.m]).1
     have K3a:Hid (Blk w5 w1.heap.size 88 #[.int .i64 s.s,.int .i64 s.e,.int .i64 s.d,.bool s.m]):=by rw [← hw5]; exact (newRow w1 _ #[.int .i64 sz0.s,.int .i64 sz0.e,.int .i64 sz0.d,.bool sz0.m] #[.int .i64 s.s,.int .i64 s.e,.int .i64 s.d,.bool s.m]).2
     have K2a:Hid (Blk w5 g2 88 #[.int .i64 sz0.s,.int .i64 sz0.e,.int .i64 sz0.d,.bool sz0.m]):=by rw [← hw5]; exact (C0.out.ext x1).ext (newRow w1 _ #[.int .i64 sz0.s,.int .i64 sz0.e,.int .i64 sz0.d,.bool sz0.m] #[.int .i64 s.s,.int .i64 s.e,.int .i64 s.d,.bool s.m]).1
     have K1a:Hid (Blk w5 g1 38 #[.bool f1,.string n1,.slice P1 p1.len cp1,.int .i64 t1.base,.int .i64 t1.bits,.string t1.name,.bool t1.opt,.bool t1.err,.int .i64 o1,.int .i64 y1.base,.int .i64 y1.bits,.string y1.name,.bool y1.opt,.bool y1.err,.string m1,.int .i64 k1,.slice A1 a1.len ca1,.slice B1 b1.len cb1,.slice D1 d1.len cd1]):=by rw [← hw5]; exact (B0.out.ext x1).ext (newRow w1 _ #[.int .i64 sz0.s,.int .i64 sz0.e,.int .i64 sz0.d,.bool sz0.m] #[.int .i64 s.s,.int .i64 s.e,.int .i64 s.d,.bool s.m]).1
     clear hw5))
 have h31:g1 ≠ w1.heap.size:=by have:=(B0.out.ext x1).lt; omega
 have h32:g2 ≠ w1.heap.size:=by have:=(C0.out.ext x1).lt; omega
 have h3w:w.heap.size ≤ w1.heap.size:=by have:=X0.out.size; have:=x1.size; omega
 generalize w1.heap.size=g3 at K3a h31 h32 h3w ⊢
 clear q18 HD B0 C0 X0 x1
 simp only [putN]
 go_cut [15] from 7 to 15 (fun c wx=>c=.bool bz∧Hid (Ext w5 wx))
 case first =>
  have q0:w5.cell? ⟨g1,0,none⟩=some (.bool f1):=K1a.out.cell 0; have q8:w5.cell? ⟨g1,8,none⟩=some (.int .i64 o1):=K1a.out.cell 8; have q9:w5.cell? ⟨g1,9,none⟩=some (.int .i64 y1.base):=K1a.out.cell 9; have q10:w5.cell? ⟨g1,10,none⟩=some (.int .i64 y1.bits):=K1a.out.cell 10; have q11:w5.cell? ⟨g1,11,none⟩=some (.string y1.name):=K1a.out.cell 11; have q12:w5.cell? ⟨g1,12,none⟩=some (.bool y1.opt):=K1a.out.cell 12; have q13:w5.cell? ⟨g1,13,none⟩=some (.bool y1.err):=K1a.out.cell 13; have q14:w5.cell? ⟨g1,14,none⟩=some (.string m1):=K1a.out.cell 14; have q15:w5.cell? ⟨g1,15,none⟩=some (.int .i64 k1):=K1a.out.cell 15; have q16:w5.cell? ⟨g1,16,none⟩=some (.slice A1 a1.len ca1):=K1a.out.cell 16; have q17:w5.cell? ⟨g1,17,none⟩=some (.slice B1 b1.len cb1):=K1a.out.cell 17
  clear HX HS1 K1a K2a K3a
  cases f1
  all_goals
   go_wp2_with (first
    | (go_at_call 100; refine (HV.out _ X5.out).mono ?_; rintro rv w6 ⟨rfl,x6⟩))
   go_meet
   exact ⟨congrArg Value.bool (by rw [← HBZ.out]; first | rfl | simp),by first | exact Ext.refl _ | exact x6⟩
 case rest =>
 obtain ⟨rfl,Y6⟩:=hcut
 have X6:=Lib.hid (X5.out.trans Y6.out)
 have K1:=Lib.hid (K1a.out.ext Y6.out)
 have K2:=Lib.hid (K2a.out.ext Y6.out)
 have K3:=Lib.hid (K3a.out.ext Y6.out)
 clear X5 Y6 K1a K2a K3a HV HBZ
 go_upto_if 15 with fail
 generalize wc=w6 at *
 go_cut [] from 16 to 21 (fun wx=>Hid (Ext w wx)∧Hid (Blk wx g1 38 #[.bool f1,.string n1,.slice P1 p1.len cp1,.int .i64 t1.base,.int .i64 t1.bits,.string t1.name,.bool t1.opt,.bool t1.err,.int .i64 o1,.int .i64 y1.base,.int .i64 y1.bits,.string y1.name,.bool y1.opt,.bool y1.err,.string m1,.int .i64 k1,.slice A1 a1.len ca1,.slice B1 b1.len cb1,.slice D1 d1.len cd1])∧Hid (Blk wx g2 88 #[.int .i64 sz0.s,.int .i64 sz0.e,.int .i64 sz0.d,.bool sz0.m])∧Hid (Blk wx g3 88 #[.int .i64 s1.s,.int .i64 s1.e,.int .i64 s1.d,.bool s1.m]))
 case first =>
  cases bz
  case false =>
   obtain rfl:s=s1:=HS1.out
   go_wp2_with fail
   go_meet
   exact ⟨X6,K1,K2,K3⟩
  case true =>
   obtain rfl:plS s sv=s1:=HS1.out
   go_upto_region 3 with fail
   refine eh_begin #[false,false,false,false,false,false,false] (fun w'=>Ext w w') rfl (by kernel_rfl) (fun _ _ _ _ _ h=>h) (fun HQ=>?_)
   have hS0:Ext w w6.drew:=X6.out.drew
   refine eh_take 1 17 rfl HQ hS0 (by intro w1 hX; go_simp; try with_reducible rfl) ?_
   simp only [putL,List.set]
   refine eh_br (l:=[0,2]) (by simp) ?_
   intro j hj
   simp only [List.mem_cons,List.not_mem_nil,or_false] at hj
   rcases hj with rfl | rfl
   ·refine o_val (w':=w6.drew) 0 16 rfl (v:=.agg #[.int .i64 s.s,.int .i64 s.e,.int .i64 s.d,.bool s.m]) (exec_ldr rfl rfl (((K3.out.drew)).range) Tryz.underlying88 rfl HZ.out) ?_
    refine ⟨hS0,?_⟩
    simp only [putL,List.set]
    refine eh_br (l:=[2]) (by simp) ?_
    intro j hj
    simp only [List.mem_cons,List.not_mem_nil,or_false] at hj
    subst hj
    refine o_val (w':=w6.drew) 2 18 rfl (v:=.agg #[.int .i64 o1,.int .i64 y1.base,.int .i64 y1.bits,.string y1.name,.bool y1.opt,.bool y1.err,.string m1,.int .i64 k1,.slice A1 a1.len ca1,.slice B1 b1.len cb1]) (exec_ldr (cs:=#[.int .i64 o1,.int .i64 y1.base,.int .i64 y1.bits,.string y1.name,.bool y1.opt,.bool y1.err,.string m1,.int .i64 k1,.slice A1 a1.len ca1,.slice B1 b1.len cb1]) rfl rfl (dec_range ((K1.out.drew))) Tryz.underlying36 rfl HXE.out) ?_
    refine ⟨hS0,?_⟩
    simp only [putL,List.set]
    refine eh_br (l:=[3]) (by simp) ?_
    intro j hj
    simp only [List.mem_cons,List.not_mem_nil,or_false] at hj
    subst hj
    refine o_wp 3 rfl rfl (wp_bsE _ rfl #[.int .i64 o1,.int .i64 y1.base,.int .i64 y1.bits,.string y1.name,.bool y1.opt,.bool y1.err,.string m1,.int .i64 k1,.slice A1 a1.len ca1,.slice B1 b1.len cb1] rfl rfl ?_)
    refine ⟨(hS0).alloc _,?_⟩
    show wpAnyH _ _ _ _ _ _ _ (Act.put _ (some 19) _) _
    simp only [putL,List.set]
    refine eh_br (l:=[4]) (by simp) ?_
    intro j hj
    simp only [List.mem_cons,List.not_mem_nil,or_false] at hj
    subst hj
    refine o_call 4 rfl rfl (by go_simp) (HX.out _ (((hS0).alloc _)) _ ((Blk.new w6.drew 36 #[.int .i64 o1,.int .i64 y1.base,.int .i64 y1.bits,.string y1.name,.bool y1.opt,.bool y1.err,.string m1,.int .i64 k1,.slice A1 a1.len ca1,.slice B1 b1.len cb1]))) ?_ ?_ ?_
    ·rintro rv wwa1 ⟨e0,xxa1⟩
     cases e0
     refine ⟨((((hS0).alloc _)).trans xxa1),?_⟩
     show wpAnyH _ _ _ _ _ _ _ (Act.put _ (some 20) _) _
     simp only [putL,List.set]
     refine eh_br (l:=[5]) (by simp) ?_
     intro j hj
     simp only [List.mem_cons,List.not_mem_nil,or_false] at hj
     subst hj
     refine o_call 5 rfl rfl (by go_simp) (plus_any s sv _) ?_ ?_ ?_
     ·rintro rv wwp2 ⟨e0,xxp2⟩
      cases e0
      refine ⟨((((((hS0).alloc _)).trans xxa1)).trans xxp2),?_⟩
      show wpAnyH _ _ _ _ _ _ _ (Act.put _ (some 21) _) _
      simp only [putL,List.set]
      refine eh_br (l:=[6]) (by simp) ?_
      intro j hj
      simp only [List.mem_cons,List.not_mem_nil,or_false] at hj
      subst hj
      refine o_wp 6 rfl rfl (wp_str _ _ _ rfl _ rfl _ #[.int .i64 s.s,.int .i64 s.e,.int .i64 s.d,.bool s.m] #[.int .i64 (plS s sv).s,.int .i64 (plS s sv).e,.int .i64 (plS s sv).d,.bool (plS s sv).m] ((((((((K3.out.drew)).alloc _)).ext xxa1)).ext xxp2)) rfl rfl (szC_one (plS s sv)) HZ.out ?_)
      refine ⟨((((((((hS0).alloc _)).trans xxa1)).trans xxp2)).setRow h3w _),?_⟩
      show wpAnyH _ _ _ _ _ _ _ _ _
      refine eh_end ?_
      go_wp2_with fail
      go_meet
      exact ⟨(((((((((hS0).alloc _)).trans xxa1)).trans xxp2)).setRow h3w _)),(setRow_other _ g3 g1 _ h31).trans ((((((((K1.out.drew)).alloc _)).ext xxa1)).ext xxp2)),(setRow_other _ g3 g2 _ h32).trans ((((((((K2.out.drew)).alloc _)).ext xxa1)).ext xxp2)),((((((((K3.out.drew)).alloc _)).ext xxa1)).ext xxp2)).row _⟩
     ·rintro cc wwp2 ⟨e0,_⟩; cases e0
     ·rintro wwp2 ⟨e0,_⟩; cases e0
    ·rintro cc wwa1 ⟨e0,_⟩; cases e0
    ·rintro wwa1 ⟨e0,_⟩; cases e0
   ·refine o_val (w':=w6.drew) 2 18 rfl (v:=.agg #[.int .i64 o1,.int .i64 y1.base,.int .i64 y1.bits,.string y1.name,.bool y1.opt,.bool y1.err,.string m1,.int .i64 k1,.slice A1 a1.len ca1,.slice B1 b1.len cb1]) (exec_ldr (cs:=#[.int .i64 o1,.int .i64 y1.base,.int .i64 y1.bits,.string y1.name,.bool y1.opt,.bool y1.err,.string m1,.int .i64 k1,.slice A1 a1.len ca1,.slice B1 b1.len cb1]) rfl rfl (dec_range ((K1.out.drew))) Tryz.underlying36 rfl HXE.out) ?_
    refine ⟨hS0,?_⟩
    simp only [putL,List.set]
    refine eh_br (l:=[0,3]) (by simp) ?_
    intro j hj
    simp only [List.mem_cons,List.not_mem_nil,or_false] at hj
    rcases hj with rfl | rfl
    ·refine o_val (w':=w6.drew) 0 16 rfl (v:=.agg #[.int .i64 s.s,.int .i64 s.e,.int .i64 s.d,.bool s.m]) (exec_ldr rfl rfl (((K3.out.drew)).range) Tryz.underlying88 rfl HZ.out) ?_
     refine ⟨hS0,?_⟩
     simp only [putL,List.set]
     refine eh_br (l:=[3]) (by simp) ?_
     intro j hj
     simp only [List.mem_cons,List.not_mem_nil,or_false] at hj
     subst hj
     refine o_wp 3 rfl rfl (wp_bsE _ rfl #[.int .i64 o1,.int .i64 y1.base,.int .i64 y1.bits,.string y1.name,.bool y1.opt,.bool y1.err,.string m1,.int .i64 k1,.slice A1 a1.len ca1,.slice B1 b1.len cb1] rfl rfl ?_)
     refine ⟨(hS0).alloc _,?_⟩
     show wpAnyH _ _ _ _ _ _ _ (Act.put _ (some 19) _) _
     simp only [putL,List.set]
     refine eh_br (l:=[4]) (by simp) ?_
     intro j hj
     simp only [List.mem_cons,List.not_mem_nil,or_false] at hj
     subst hj
     refine o_call 4 rfl rfl (by go_simp) (HX.out _ (((hS0).alloc _)) _ ((Blk.new w6.drew 36 #[.int .i64 o1,.int .i64 y1.base,.int .i64 y1.bits,.string y1.name,.bool y1.opt,.bool y1.err,.string m1,.int .i64 k1,.slice A1 a1.len ca1,.slice B1 b1.len cb1]))) ?_ ?_ ?_
     ·rintro rv wwa3 ⟨e0,xxa3⟩
      cases e0
      refine ⟨((((hS0).alloc _)).trans xxa3),?_⟩
      show wpAnyH _ _ _ _ _ _ _ (Act.put _ (some 20) _) _
      simp only [putL,List.set]
      refine eh_br (l:=[5]) (by simp) ?_
      intro j hj
      simp only [List.mem_cons,List.not_mem_nil,or_false] at hj
      subst hj
      refine o_call 5 rfl rfl (by go_simp) (plus_any s sv _) ?_ ?_ ?_
      ·rintro rv wwp4 ⟨e0,xxp4⟩
       cases e0
       refine ⟨((((((hS0).alloc _)).trans xxa3)).trans xxp4),?_⟩
       show wpAnyH _ _ _ _ _ _ _ (Act.put _ (some 21) _) _
       simp only [putL,List.set]
       refine eh_br (l:=[6]) (by simp) ?_
       intro j hj
       simp only [List.mem_cons,List.not_mem_nil,or_false] at hj
       subst hj
       refine o_wp 6 rfl rfl (wp_str _ _ _ rfl _ rfl _ #[.int .i64 s.s,.int .i64 s.e,.int .i64 s.d,.bool s.m] #[.int .i64 (plS s sv).s,.int .i64 (plS s sv).e,.int .i64 (plS s sv).d,.bool (plS s sv).m] ((((((((K3.out.drew)).alloc _)).ext xxa3)).ext xxp4)) rfl rfl (szC_one (plS s sv)) HZ.out ?_)
       refine ⟨((((((((hS0).alloc _)).trans xxa3)).trans xxp4)).setRow h3w _),?_⟩
       show wpAnyH _ _ _ _ _ _ _ _ _
       refine eh_end ?_
       go_wp2_with fail
       go_meet
       exact ⟨(((((((((hS0).alloc _)).trans xxa3)).trans xxp4)).setRow h3w _)),(setRow_other _ g3 g1 _ h31).trans ((((((((K1.out.drew)).alloc _)).ext xxa3)).ext xxp4)),(setRow_other _ g3 g2 _ h32).trans ((((((((K2.out.drew)).alloc _)).ext xxa3)).ext xxp4)),((((((((K3.out.drew)).alloc _)).ext xxa3)).ext xxp4)).row _⟩
      ·rintro cc wwp4 ⟨e0,_⟩; cases e0
      ·rintro wwp4 ⟨e0,_⟩; cases e0
     ·rintro cc wwa3 ⟨e0,_⟩; cases e0
     ·rintro wwa3 ⟨e0,_⟩; cases e0
    ·refine o_wp 3 rfl rfl (wp_bsE _ rfl #[.int .i64 o1,.int .i64 y1.base,.int .i64 y1.bits,.string y1.name,.bool y1.opt,.bool y1.err,.string m1,.int .i64 k1,.slice A1 a1.len ca1,.slice B1 b1.len cb1] rfl rfl ?_)
     refine ⟨(hS0).alloc _,?_⟩
     show wpAnyH _ _ _ _ _ _ _ (Act.put _ (some 19) _) _
     simp only [putL,List.set]
     refine eh_br (l:=[0,4]) (by simp) ?_
     intro j hj
     simp only [List.mem_cons,List.not_mem_nil,or_false] at hj
     rcases hj with rfl | rfl
     ·refine o_val (w':=(World.alloc w6.drew (.cells #[.int .i64 o1,.int .i64 y1.base,.int .i64 y1.bits,.string y1.name,.bool y1.opt,.bool y1.err,.string m1,.int .i64 k1,.slice A1 a1.len ca1,.slice B1 b1.len cb1] 36))) 0 16 rfl (v:=.agg #[.int .i64 s.s,.int .i64 s.e,.int .i64 s.d,.bool s.m]) (exec_ldr rfl rfl (((((K3.out.drew)).alloc _)).range) Tryz.underlying88 rfl HZ.out) ?_
      refine ⟨((hS0).alloc _),?_⟩
      simp only [putL,List.set]
      refine eh_br (l:=[4]) (by simp) ?_
      intro j hj
      simp only [List.mem_cons,List.not_mem_nil,or_false] at hj
      subst hj
      refine o_call 4 rfl rfl (by go_simp) (HX.out _ (((hS0).alloc _)) _ ((Blk.new w6.drew 36 #[.int .i64 o1,.int .i64 y1.base,.int .i64 y1.bits,.string y1.name,.bool y1.opt,.bool y1.err,.string m1,.int .i64 k1,.slice A1 a1.len ca1,.slice B1 b1.len cb1]))) ?_ ?_ ?_
      ·rintro rv wwa5 ⟨e0,xxa5⟩
       cases e0
       refine ⟨((((hS0).alloc _)).trans xxa5),?_⟩
       show wpAnyH _ _ _ _ _ _ _ (Act.put _ (some 20) _) _
       simp only [putL,List.set]
       refine eh_br (l:=[5]) (by simp) ?_
       intro j hj
       simp only [List.mem_cons,List.not_mem_nil,or_false] at hj
       subst hj
       refine o_call 5 rfl rfl (by go_simp) (plus_any s sv _) ?_ ?_ ?_
       ·rintro rv wwp6 ⟨e0,xxp6⟩
        cases e0
        refine ⟨((((((hS0).alloc _)).trans xxa5)).trans xxp6),?_⟩
        show wpAnyH _ _ _ _ _ _ _ (Act.put _ (some 21) _) _
        simp only [putL,List.set]
        refine eh_br (l:=[6]) (by simp) ?_
        intro j hj
        simp only [List.mem_cons,List.not_mem_nil,or_false] at hj
        subst hj
        refine o_wp 6 rfl rfl (wp_str _ _ _ rfl _ rfl _ #[.int .i64 s.s,.int .i64 s.e,.int .i64 s.d,.bool s.m] #[.int .i64 (plS s sv).s,.int .i64 (plS s sv).e,.int .i64 (plS s sv).d,.bool (plS s sv).m] ((((((((K3.out.drew)).alloc _)).ext xxa5)).ext xxp6)) rfl rfl (szC_one (plS s sv)) HZ.out ?_)
        refine ⟨((((((((hS0).alloc _)).trans xxa5)).trans xxp6)).setRow h3w _),?_⟩
        show wpAnyH _ _ _ _ _ _ _ _ _
        refine eh_end ?_
        go_wp2_with fail
        go_meet
        exact ⟨(((((((((hS0).alloc _)).trans xxa5)).trans xxp6)).setRow h3w _)),(setRow_other _ g3 g1 _ h31).trans ((((((((K1.out.drew)).alloc _)).ext xxa5)).ext xxp6)),(setRow_other _ g3 g2 _ h32).trans ((((((((K2.out.drew)).alloc _)).ext xxa5)).ext xxp6)),((((((((K3.out.drew)).alloc _)).ext xxa5)).ext xxp6)).row _⟩
       ·rintro cc wwp6 ⟨e0,_⟩; cases e0
       ·rintro wwp6 ⟨e0,_⟩; cases e0
      ·rintro cc wwa5 ⟨e0,_⟩; cases e0
      ·rintro wwa5 ⟨e0,_⟩; cases e0
     ·refine o_call 4 rfl rfl (by go_simp) (HX.out _ (((hS0).alloc _)) _ ((Blk.new w6.drew 36 #[.int .i64 o1,.int .i64 y1.base,.int .i64 y1.bits,.string y1.name,.bool y1.opt,.bool y1.err,.string m1,.int .i64 k1,.slice A1 a1.len ca1,.slice B1 b1.len cb1]))) ?_ ?_ ?_
      ·rintro rv wwa7 ⟨e0,xxa7⟩
       cases e0
       refine ⟨((((hS0).alloc _)).trans xxa7),?_⟩
       show wpAnyH _ _ _ _ _ _ _ (Act.put _ (some 20) _) _
       simp only [putL,List.set]
       refine eh_br (l:=[0]) (by simp) ?_
       intro j hj
       simp only [List.mem_cons,List.not_mem_nil,or_false] at hj
       subst hj
       refine o_val (w':=wwa7) 0 16 rfl (v:=.agg #[.int .i64 s.s,.int .i64 s.e,.int .i64 s.d,.bool s.m]) (exec_ldr rfl rfl (((((((K3.out.drew)).alloc _)).ext xxa7)).range) Tryz.underlying88 rfl HZ.out) ?_
       refine ⟨((((hS0).alloc _)).trans xxa7),?_⟩
       simp only [putL,List.set]
       refine eh_br (l:=[5]) (by simp) ?_
       intro j hj
       simp only [List.mem_cons,List.not_mem_nil,or_false] at hj
       subst hj
       refine o_call 5 rfl rfl (by go_simp) (plus_any s sv _) ?_ ?_ ?_
       ·rintro rv wwp8 ⟨e0,xxp8⟩
        cases e0
        refine ⟨((((((hS0).alloc _)).trans xxa7)).trans xxp8),?_⟩
        show wpAnyH _ _ _ _ _ _ _ (Act.put _ (some 21) _) _
        simp only [putL,List.set]
        refine eh_br (l:=[6]) (by simp) ?_
        intro j hj
        simp only [List.mem_cons,List.not_mem_nil,or_false] at hj
        subst hj
        refine o_wp 6 rfl rfl (wp_str _ _ _ rfl _ rfl _ #[.int .i64 s.s,.int .i64 s.e,.int .i64 s.d,.bool s.m] #[.int .i64 (plS s sv).s,.int .i64 (plS s sv).e,.int .i64 (plS s sv).d,.bool (plS s sv).m] ((((((((K3.out.drew)).alloc _)).ext xxa7)).ext xxp8)) rfl rfl (szC_one (plS s sv)) HZ.out ?_)
        refine ⟨((((((((hS0).alloc _)).trans xxa7)).trans xxp8)).setRow h3w _),?_⟩
        show wpAnyH _ _ _ _ _ _ _ _ _
        refine eh_end ?_
        go_wp2_with fail
        go_meet
        exact ⟨(((((((((hS0).alloc _)).trans xxa7)).trans xxp8)).setRow h3w _)),(setRow_other _ g3 g1 _ h31).trans ((((((((K1.out.drew)).alloc _)).ext xxa7)).ext xxp8)),(setRow_other _ g3 g2 _ h32).trans ((((((((K2.out.drew)).alloc _)).ext xxa7)).ext xxp8)),((((((((K3.out.drew)).alloc _)).ext xxa7)).ext xxp8)).row _⟩
       ·rintro cc wwp8 ⟨e0,_⟩; cases e0
       ·rintro wwp8 ⟨e0,_⟩; cases e0
      ·rintro cc wwa7 ⟨e0,_⟩; cases e0
      ·rintro wwa7 ⟨e0,_⟩; cases e0
 case rest =>
 obtain ⟨X7,K4,K5,K6⟩:=hcut
 clear X6 K1 K2 K3 HX HS1
 go_upto_region 4 with fail
 generalize wc=w7 at *
 go_cut [] from 22 to 30 (fun wx=>Hid (wx=w7.setCell ⟨g3,3,none⟩ (.bool mm)))
 case first =>
  have q3:w7.cell? ⟨g3,3,none⟩=some (.bool s1.m):=K6.out.cell 3
  have qf:∀ i,w7.frozen? ⟨g3,i,none⟩=false:=K6.out.frozen
  have q2:w7.cell? ⟨g1,2,none⟩=some (.slice P1 p1.len cp1):=K4.out.cell 2
  generalize s1.m=m5 at *
  generalize p1.len=l1 at *
  clear X7 K4 K5 K6
  go_wp2_with fail
  all_goals
   go_meet
   exact congrArg (fun b=>w7.setCell ⟨g3,3,none⟩ (.bool b)) (by rw [← HM.out]; first | rfl | (simp [*]; done) | (simp [*]; omega) | (rw [Bool.eq_iff_iff]; simp [*]; omega))
 case rest =>
 have hcut2:=hcut.out
 clear hcut
 subst hcut2
 have X9:Hid (Ext w (w7.setCell ⟨g3,3,none⟩ (.bool mm))):=X7.out.setCell (p:=⟨g3,3,none⟩) h3w _
 have K2b:Hid (Blk (w7.setCell ⟨g3,3,none⟩ (.bool mm)) g2 88 #[.int .i64 sz0.s,.int .i64 sz0.e,.int .i64 sz0.d,.bool sz0.m]):=K5.out.far (p:=⟨g3,3,none⟩) h32 _
 have K3b:Hid (Blk (w7.setCell ⟨g3,3,none⟩ (.bool mm)) g3 88 #[.int .i64 s1.s,.int .i64 s1.e,.int .i64 s1.d,.bool mm]):=K6.out.set_ 3 (.bool mm)
 generalize w7.setCell ⟨g3,3,none⟩ (.bool mm)=w9 at *
 clear X7 K4 K5 K6 HM
 have q0:w9.cell? ⟨g3,0,none⟩=some (.int .i64 s1.s):=K3b.out.cell 0
 have q1:w9.cell? ⟨g3,1,none⟩=some (.int .i64 s1.e):=K3b.out.cell 1
 have q2:w9.cell? ⟨g3,2,none⟩=some (.int .i64 s1.d):=K3b.out.cell 2
 have q3:w9.cell? ⟨g3,3,none⟩=some (.bool mm):=K3b.out.cell 3
 go_wp2_with (first
  | ((with_reducible show wpList _ _ _ (Oper.mk none (.store 88 (.tmp 2) _) _ _ _ _ :: _) _ _); refine wpList_store_row rfl _ _ _ rfl g2 rfl 88 #[.int .i64 sz0.s,.int .i64 sz0.e,.int .i64 sz0.d,.bool sz0.m] #[.int .i64 s1.s,.int .i64 s1.e,.int .i64 s1.d,.bool mm] K2b.out rfl rfl (szC_one ⟨s1.s,s1.e,s1.d,mm⟩) HZ.out ?_))
 exact bodyPost_ret (results_cell_row rfl _ _ g2 88 #[.int .i64 s1.s,.int .i64 s1.e,.int .i64 s1.d,.bool mm] (0,0) _ rfl (K2b.out.row _) Tryz.underlying88 rfl HZ.out) rfl ⟨rfl,X9.out.setRow hgx _⟩
end Go.Proofs.YtmmnhbhnjiajhaaGreatDoor.c
