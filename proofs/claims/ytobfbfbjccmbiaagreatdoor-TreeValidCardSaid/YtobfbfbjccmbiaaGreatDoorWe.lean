/- Which expressions are right: one step of the induction. The table strings.asciiSpace holds what its text lays. Which statements are right: one step of the induction. The table strings.asciiSpace holds what its text lays. Which declarations and programs are right: contracts of tree.isDecl, tree.Validate. The table strings.asciiSpace holds what its text lays. -/
import Derived.Test.YtobfbfbjccmbiaaGreatDoorWb
import Derived.Deep.CutRange
namespace Go.Proofs.YtobfbfbjccmbiaaGreatDoor.c
open Go.RowKit
set_option linter.unusedVariables false
set_option maxRecDepth 100000
set_option maxHeartbeats 6400000
set_option linter.unusedSimpArgs false
theorem vx_step {n:Nat} (hn:n ≤ 4611686018427387904) (ihX:VX n) (ihB:VB n):VX (n + 1):=by
 intro x hsz h1 w cs p g hnv
 have HSz:Hid ((Tryz.prog.info? 168).map (·.size)=some 5):=by unfold Hid; kernel_rfl
 obtain rfl | ⟨op,ty,nm,k,a,b,r,rfl⟩:=hnv.1.ex
 ·cases h1
 obtain rfl:r=.nil:=tl_one h1
 obtain ⟨va,vb,rfl,ha,hb⟩:=nv_exI hnv
 obtain ⟨A1,c1,rfl,_⟩:=ha.lp
 obtain ⟨A2,c2,rfl,_⟩:=hb.lp
 have hz:a.sz < n∧b.sz < n:=by simp only [Nd.sz] at hsz; omega
 have HA:Hid (∀ w1,Ext w w1 → Calls Tryz.prog 125 #[.slice A1 a.len c1,.func (.func 126) #[] #[]] w1 fun e w'=>e=.returned (.bool (!vd a))∧Ext w1 w'):=fun w1 X=>has_x1 hn ihX a hz.1 w1 _ p (g.ext X) (ha.mono (vp_ext X))
 have HB:Hid (∀ w1,Ext w w1 → Calls Tryz.prog 77 #[.slice A2 b.len c2] w1 fun e w'=>e=.returned (.bool (vd b))∧Ext w1 w'):=fun w1 X=>ihB b hz.2 w1 _ p (g.ext X) (hb.mono (vp_ext X))
 have HSh:=Lib.hid (shapeOf_any op)
 have HG:=Lib.hid g
 obtain ⟨R,hR⟩:∃ R,vd (.ex op ty nm k a b .nil)=R:=⟨_,rfl⟩
 rw [hR]
 have HR:Hid ((exV op ty nm k a.len b.len && (vd a && vd b))=R):=(Bool.and_true _).symm.trans hR
 clear hnv ha hb hsz h1 hR hz ihX ihB g
 generalize hka:vd a=ka at HA HR
 generalize hkb:vd b=kb at HB HR
 clear hka hkb
 cases hs:shS op with
 | none =>
  have hf:R=false:=by have:=HR.out; unfold exV at this; rw [hs] at this; exact this.symm
  subst hf
  unfold shO at HSh
  rw [hs] at HSh
  clear hs HR HA HB
  go_enter Tryz.func82,Tryz.ntmps82
  go_wp2_with (first
   | (go_at_call 123; refine (HSh.out _).mono ?_; rintro e w1 ⟨rfl,x1⟩; have X1:=Lib.hid (((Ext.refl w).alloc (.cells #[.int .i64 op,.int .i64 ty.base,.int .i64 ty.bits,.string ty.name,.bool ty.opt,.bool ty.err,.string nm,.int .i64 k,.slice A1 a.len c1,.slice A2 b.len c2] 44)).trans x1); clear x1)
   | ((with_reducible show wpList _ _ _ (Oper.mk none (.store 168 (.tmp 3) _) _ _ _ _ :: _) _ _); refine wpList_store_row rfl _ _ _ rfl w1.heap.size rfl 168 zSh zSh (Blk.new w1 _ zSh) rfl rfl (by simp only [zSh,List.mem_cons,List.not_mem_nil,or_false]; rintro u (rfl | rfl | rfl | rfl | rfl) <;> rfl) HSz.out ?_; refine nmW fun w3 hw3=>?_
      have X3:Hid (Ext w w3):=by rw [← hw3]; exact X1.out.trans (newRow w1 _ zSh zSh).1
      clear hw3))
  go_ret
  exact ⟨rfl,X3.out⟩
 | some s =>
  obtain ⟨args,kind,name,num,body⟩:=s
  unfold shO at HSh
  rw [hs] at HSh
  have HR1:Hid ((exV2 ⟨args,kind,name,num,body⟩ ty nm k a.len b.len && (ka && kb))=R):=by have:=HR.out; unfold exV at this; rw [hs] at this; exact this
  obtain ⟨kv,hkv⟩:∃ kv,kvS kind=kv:=⟨_,rfl⟩
  have h1k:kv.oneCell'=true:=by rw [← hkv]; unfold kvS; split <;> rfl
  have HKV:=Lib.hid hkv
  have HS1:Hid (∀ w1,Calls Tryz.prog 123 #[.int .i64 op] w1 fun e w'=>e=.returned (.tuple #[.agg #[.int .i64 args,kv,.bool name,.bool num,.bool body],.bool true])∧Ext w1 w'):=by
   unfold Hid
   rw [← hkv]
   exact HSh.out
  have HO:Hid (∀ u ∈ (#[.int .i64 args,kv,.bool name,.bool num,.bool body]:Array Value).toList,u.oneCell'=true):=by
   simp only [Hid,List.mem_cons,List.not_mem_nil,or_false]
   rintro u (rfl | rfl | rfl | rfl | rfl) <;> first | rfl | exact h1k
  obtain ⟨p2,hp2⟩:∃ p2,((decide (args < 0) || (a.len:Int) == args) && (body || b.len == 0) && (name == !emp nm) && (!name || isNameS nm))=p2:=⟨_,rfl⟩
  obtain ⟨p4,hp4⟩:∃ p4,(tkS kind ty && (num || k == 0) && (!num || isNumS ty k))=p4:=⟨_,rfl⟩
  have HR2:Hid (R=(p2 && p4 && (ka && kb))):=by
   have:=HR1.out
   unfold exV2 at this
   rw [← this,← hp2,← hp4]
   rfl
  have HP2:=Lib.hid hp2
  have HP4:=Lib.hid hp4
  clear hs HR HR1 hkv h1k HSh hp2 hp4
  have B0:Hid (Blk (w.alloc (.cells #[.int .i64 op,.int .i64 ty.base,.int .i64 ty.bits,.string ty.name,.bool ty.opt,.bool ty.err,.string nm,.int .i64 k,.slice A1 a.len c1,.slice A2 b.len c2] 44)) w.heap.size 44 #[.int .i64 op,.int .i64 ty.base,.int .i64 ty.bits,.string ty.name,.bool ty.opt,.bool ty.err,.string nm,.int .i64 k,.slice A1 a.len c1,.slice A2 b.len c2]):=Blk.new w _ _
  have X0:Hid (Ext w (w.alloc (.cells #[.int .i64 op,.int .i64 ty.base,.int .i64 ty.bits,.string ty.name,.bool ty.opt,.bool ty.err,.string nm,.int .i64 k,.slice A1 a.len c1,.slice A2 b.len c2] 44))):=(Ext.refl w).alloc _
  go_enter Tryz.func82,Tryz.ntmps82
  go_upto_region 1 with fail
  generalize w.heap.size=b1 at B0 ⊢
  refine nmW fun w0 hw0=>?_
  rw [hw0] at B0 X0
  clear hw0
  have q0:w0.cell? ⟨b1,0,none⟩=some (.int .i64 op):=B0.out.cell 0
  go_cut [3,4] from 3 to 10 (fun c d wx=>∃ b3,c=.pointer (some ⟨b3,0,none⟩)∧d=.bool true∧Hid (Ext w wx)∧Hid (Blk wx b1 44 #[.int .i64 op,.int .i64 ty.base,.int .i64 ty.bits,.string ty.name,.bool ty.opt,.bool ty.err,.string nm,.int .i64 k,.slice A1 a.len c1,.slice A2 b.len c2])∧Hid (Blk wx b3 168 #[.int .i64 args,kv,.bool name,.bool num,.bool body]))
  case first =>
   go_wp2_with (first
    | (go_at_call 123; refine (HS1.out _).mono ?_; rintro e w1 ⟨rfl,x1⟩; have X1:=Lib.hid (X0.out.trans x1); have B1:=Lib.hid (B0.out.ext x1); clear x1)
    | ((with_reducible show wpList _ _ _ (Oper.mk none (.store 168 (.tmp 3) _) _ _ _ _ :: _) _ _); refine wpList_store_row rfl _ _ _ rfl w1.heap.size rfl 168 zSh #[.int .i64 args,kv,.bool name,.bool num,.bool body] (Blk.new w1 _ zSh) rfl rfl HO.out HSz.out ?_; refine nmW fun w3 hw3=>?_
       have X3:Hid (Ext w w3):=by rw [← hw3]; exact X1.out.trans (newRow w1 _ zSh #[.int .i64 args,kv,.bool name,.bool num,.bool body]).1
       have B3:Hid (Blk w3 b1 44 #[.int .i64 op,.int .i64 ty.base,.int .i64 ty.bits,.string ty.name,.bool ty.opt,.bool ty.err,.string nm,.int .i64 k,.slice A1 a.len c1,.slice A2 b.len c2]):=by rw [← hw3]; exact B1.out.ext (newRow w1 _ zSh #[.int .i64 args,kv,.bool name,.bool num,.bool body]).1
       have K3:Hid (Blk w3 w1.heap.size 168 #[.int .i64 args,kv,.bool name,.bool num,.bool body]):=by rw [← hw3]; exact (newRow w1 _ zSh #[.int .i64 args,kv,.bool name,.bool num,.bool body]).2
       clear hw3))
   go_meet
   exact ⟨_,rfl,rfl,X3,B3,K3⟩
  case rest =>
  obtain ⟨b3,rfl,rfl,X3,B3,K3⟩:=hcut
  clear q0 X0 B0 HS1 HO HSz
  go_upto_region 2 with fail
  generalize wc=w3 at *
  go_cut [54] from 11 to 54 (fun c wx=>c=.bool (!p2)∧Hid (Ext w3 wx))
  case first =>
   have q0:w3.cell? ⟨b1,0,none⟩=some (.int .i64 op):=(B3.out).cell 0; have q1:w3.cell? ⟨b1,1,none⟩=some (.int .i64 ty.base):=(B3.out).cell 1; have q2:w3.cell? ⟨b1,2,none⟩=some (.int .i64 ty.bits):=(B3.out).cell 2; have q3:w3.cell? ⟨b1,3,none⟩=some (.string ty.name):=(B3.out).cell 3; have q4:w3.cell? ⟨b1,4,none⟩=some (.bool ty.opt):=(B3.out).cell 4; have q5:w3.cell? ⟨b1,5,none⟩=some (.bool ty.err):=(B3.out).cell 5; have q6:w3.cell? ⟨b1,6,none⟩=some (.string nm):=(B3.out).cell 6; have q7:w3.cell? ⟨b1,7,none⟩=some (.int .i64 k):=(B3.out).cell 7; have q8:w3.cell? ⟨b1,8,none⟩=some (.slice A1 a.len c1):=(B3.out).cell 8; have q9:w3.cell? ⟨b1,9,none⟩=some (.slice A2 b.len c2):=(B3.out).cell 9; have s0:w3.cell? ⟨b3,0,none⟩=some (.int .i64 args):=(K3.out).cell 0; have s1:w3.cell? ⟨b3,1,none⟩=some kv:=(K3.out).cell 1; have s2:w3.cell? ⟨b3,2,none⟩=some (.bool name):=(K3.out).cell 2; have s3:w3.cell? ⟨b3,3,none⟩=some (.bool num):=(K3.out).cell 3; have s4:w3.cell? ⟨b3,4,none⟩=some (.bool body):=(K3.out).cell 4
   clear HA HB HR2 HP4 HKV B3 K3
   have he:emp nm=(nm.toList == []):=by unfold emp; cases nm.toList <;> rfl
   rw [he] at HP2
   clear he
   go_wp2_with (first
    | (go_at_call 16; refine (isName_any nm _ (HG.out.ext X3.out)).mono ?_; rintro r w4 ⟨rfl,x4⟩))
   all_goals
    go_meet
    refine ⟨congrArg Value.bool ?_,?_⟩
    ·rw [← HP2.out]; first | (simp [*]; done) | (simp [*]; omega)
    ·first | exact Ext.refl _ | exact x4
  case rest =>
  obtain ⟨rfl,X4⟩:=hcut
  cases p2
  case false =>
   obtain rfl:R=false:=HR2.out
   go_wp2_with fail
   go_ret
   exact ⟨rfl,X3.out.trans X4.out⟩
  case true =>
  have HR3:Hid (R=(p4 && (ka && kb))):=HR2.out
  have X5:=Lib.hid (X3.out.trans X4.out)
  have B5:=Lib.hid (B3.out.ext X4.out)
  have K5:=Lib.hid (K3.out.ext X4.out)
  clear X3 X4 B3 K3 HR2 HP2
  go_upto_region 4 with fail
  generalize wc=w4 at *
  go_cut [98] from 55 to 98 (fun c wx=>c=.bool (!p4)∧Hid (Ext w4 wx))
  case first =>
   have q0:w4.cell? ⟨b1,0,none⟩=some (.int .i64 op):=(B5.out).cell 0; have q1:w4.cell? ⟨b1,1,none⟩=some (.int .i64 ty.base):=(B5.out).cell 1; have q2:w4.cell? ⟨b1,2,none⟩=some (.int .i64 ty.bits):=(B5.out).cell 2; have q3:w4.cell? ⟨b1,3,none⟩=some (.string ty.name):=(B5.out).cell 3; have q4:w4.cell? ⟨b1,4,none⟩=some (.bool ty.opt):=(B5.out).cell 4; have q5:w4.cell? ⟨b1,5,none⟩=some (.bool ty.err):=(B5.out).cell 5; have q6:w4.cell? ⟨b1,6,none⟩=some (.string nm):=(B5.out).cell 6; have q7:w4.cell? ⟨b1,7,none⟩=some (.int .i64 k):=(B5.out).cell 7; have q8:w4.cell? ⟨b1,8,none⟩=some (.slice A1 a.len c1):=(B5.out).cell 8; have q9:w4.cell? ⟨b1,9,none⟩=some (.slice A2 b.len c2):=(B5.out).cell 9; have s0:w4.cell? ⟨b3,0,none⟩=some (.int .i64 args):=(K5.out).cell 0; have s1:w4.cell? ⟨b3,1,none⟩=some kv:=(K5.out).cell 1; have s2:w4.cell? ⟨b3,2,none⟩=some (.bool name):=(K5.out).cell 2; have s3:w4.cell? ⟨b3,3,none⟩=some (.bool num):=(K5.out).cell 3; have s4:w4.cell? ⟨b3,4,none⟩=some (.bool body):=(K5.out).cell 4
   clear HA HB HR3
   rcases kind with _ | _ | _ | kind
   ·obtain rfl:.nilFunc=kv:=HKV.out
    have hq:=run_tz_neq ty
    have hf1:∀ w1,(binOp .eql 69 .nilFunc .nilFunc).run Tryz.prog w1=.ok (.bool true) w1:=fun _=>rfl
    have hf2:∀ w1,(binOp .neq 69 .nilFunc .nilFunc).run Tryz.prog w1=.ok (.bool false) w1:=fun _=>rfl
    have HP5:Hid ((tz ty && (num || k == 0) && (!num || isNumS ty k))=p4):=HP4.out
    have HN:=Lib.hid fun w1 (X:Ext w4 w1)=>isNum_any ty k w1 ((HG.out.ext X5.out).ext X)
    unfold tyA at HN
    generalize tz ty=z at *
    generalize isNumS ty k=ns at *
    clear HP4 B5 K5
    go_wp2_with (first
     | (go_at_call 124; refine (HN.out _ (Ext.refl _)).mono ?_; rintro r w6 ⟨rfl,x6⟩))
    all_goals
     go_meet
     refine ⟨congrArg Value.bool ?_,?_⟩
     ·rw [← HP5.out]; first | (simp [*]; done) | (simp [*]; omega)
     ·first | exact Ext.refl _ | exact x6
   ·obtain rfl:.func (.func 81) #[] #[]=kv:=HKV.out
    have hf1:∀ w1,(binOp .eql 69 (.func (.func 81) #[] #[]) .nilFunc).run Tryz.prog w1=.ok (.bool false) w1:=fun _=>rfl
    have hf2:∀ w1,(binOp .neq 69 (.func (.func 81) #[] #[]) .nilFunc).run Tryz.prog w1=.ok (.bool true) w1:=fun _=>rfl
    have HE:=Enters.of Tryz.func81 (by kernel_rfl) (by kernel_rfl)
    have HP5:Hid ((isPlainS ty && (num || k == 0) && (!num || isNumS ty k))=p4):=HP4.out
    have HN:=Lib.hid fun w1 (X:Ext w4 w1)=>isNum_any ty k w1 ((HG.out.ext X5.out).ext X)
    have HT:=Lib.hid fun w1 (X:Ext w4 w1)=>tPlain_any ty w1 ((HG.out.ext X5.out).ext X)
    unfold tyA at HN HT
    generalize isPlainS ty=z at *
    generalize isNumS ty k=ns at *
    clear HP4
    go_wp2_with (first
     | (simp only [HE _ _])
     | (go_at_call 81; refine (HT.out _ (Ext.refl _)).mono ?_; rintro r w5 ⟨rfl,x5⟩; have q1:w5.cell? ⟨b1,1,none⟩=some (.int .i64 ty.base):=(B5.out.ext x5).cell 1; have q2:w5.cell? ⟨b1,2,none⟩=some (.int .i64 ty.bits):=(B5.out.ext x5).cell 2; have q3:w5.cell? ⟨b1,3,none⟩=some (.string ty.name):=(B5.out.ext x5).cell 3; have q4:w5.cell? ⟨b1,4,none⟩=some (.bool ty.opt):=(B5.out.ext x5).cell 4; have q5:w5.cell? ⟨b1,5,none⟩=some (.bool ty.err):=(B5.out.ext x5).cell 5; have q7:w5.cell? ⟨b1,7,none⟩=some (.int .i64 k):=(B5.out.ext x5).cell 7; have s3:w5.cell? ⟨b3,3,none⟩=some (.bool num):=(K5.out.ext x5).cell 3)
     | (go_at_call 124; refine (HN.out _ x5).mono ?_; rintro r w6 ⟨rfl,x6⟩))
    all_goals
     go_meet
     refine ⟨congrArg Value.bool ?_,?_⟩
     ·rw [← HP5.out]; first | (simp [*]; done) | (simp [*]; omega)
     ·first | exact Ext.refl _ | exact x5 | exact x5.trans x6
   ·obtain rfl:.func (.func 162) #[] #[]=kv:=HKV.out
    have hf1:∀ w1,(binOp .eql 69 (.func (.func 162) #[] #[]) .nilFunc).run Tryz.prog w1=.ok (.bool false) w1:=fun _=>rfl
    have hf2:∀ w1,(binOp .neq 69 (.func (.func 162) #[] #[]) .nilFunc).run Tryz.prog w1=.ok (.bool true) w1:=fun _=>rfl
    have HE:=Enters.of Tryz.func162 (by kernel_rfl) (by kernel_rfl)
    have HP5:Hid ((isCountS ty && (num || k == 0) && (!num || isNumS ty k))=p4):=HP4.out
    have HN:=Lib.hid fun w1 (X:Ext w4 w1)=>isNum_any ty k w1 ((HG.out.ext X5.out).ext X)
    have HT:=Lib.hid fun w1 (X:Ext w4 w1)=>isCount_any ty w1 ((HG.out.ext X5.out).ext X)
    unfold tyA at HN HT
    generalize isCountS ty=z at *
    generalize isNumS ty k=ns at *
    clear HP4
    go_wp2_with (first
     | (simp only [HE _ _])
     | (go_at_call 162; refine (HT.out _ (Ext.refl _)).mono ?_; rintro r w5 ⟨rfl,x5⟩; have q1:w5.cell? ⟨b1,1,none⟩=some (.int .i64 ty.base):=(B5.out.ext x5).cell 1; have q2:w5.cell? ⟨b1,2,none⟩=some (.int .i64 ty.bits):=(B5.out.ext x5).cell 2; have q3:w5.cell? ⟨b1,3,none⟩=some (.string ty.name):=(B5.out.ext x5).cell 3; have q4:w5.cell? ⟨b1,4,none⟩=some (.bool ty.opt):=(B5.out.ext x5).cell 4; have q5:w5.cell? ⟨b1,5,none⟩=some (.bool ty.err):=(B5.out.ext x5).cell 5; have q7:w5.cell? ⟨b1,7,none⟩=some (.int .i64 k):=(B5.out.ext x5).cell 7; have s3:w5.cell? ⟨b3,3,none⟩=some (.bool num):=(K5.out.ext x5).cell 3)
     | (go_at_call 124; refine (HN.out _ x5).mono ?_; rintro r w6 ⟨rfl,x6⟩))
    all_goals
     go_meet
     refine ⟨congrArg Value.bool ?_,?_⟩
     ·rw [← HP5.out]; first | (simp [*]; done) | (simp [*]; omega)
     ·first | exact Ext.refl _ | exact x5 | exact x5.trans x6
   ·obtain rfl:.func (.func 163) #[] #[]=kv:=HKV.out
    have hf1:∀ w1,(binOp .eql 69 (.func (.func 163) #[] #[]) .nilFunc).run Tryz.prog w1=.ok (.bool false) w1:=fun _=>rfl
    have hf2:∀ w1,(binOp .neq 69 (.func (.func 163) #[] #[]) .nilFunc).run Tryz.prog w1=.ok (.bool true) w1:=fun _=>rfl
    have HE:=Enters.of Tryz.func163 (by kernel_rfl) (by kernel_rfl)
    have HP5:Hid ((isWholeS ty && (num || k == 0) && (!num || isNumS ty k))=p4):=HP4.out
    have HN:=Lib.hid fun w1 (X:Ext w4 w1)=>isNum_any ty k w1 ((HG.out.ext X5.out).ext X)
    have HT:=Lib.hid fun w1 (X:Ext w4 w1)=>isWhole_any ty w1 ((HG.out.ext X5.out).ext X)
    unfold tyA at HN HT
    generalize isWholeS ty=z at *
    generalize isNumS ty k=ns at *
    clear HP4
    go_wp2_with (first
     | (simp only [HE _ _])
     | (go_at_call 163; refine (HT.out _ (Ext.refl _)).mono ?_; rintro r w5 ⟨rfl,x5⟩; have q1:w5.cell? ⟨b1,1,none⟩=some (.int .i64 ty.base):=(B5.out.ext x5).cell 1; have q2:w5.cell? ⟨b1,2,none⟩=some (.int .i64 ty.bits):=(B5.out.ext x5).cell 2; have q3:w5.cell? ⟨b1,3,none⟩=some (.string ty.name):=(B5.out.ext x5).cell 3; have q4:w5.cell? ⟨b1,4,none⟩=some (.bool ty.opt):=(B5.out.ext x5).cell 4; have q5:w5.cell? ⟨b1,5,none⟩=some (.bool ty.err):=(B5.out.ext x5).cell 5; have q7:w5.cell? ⟨b1,7,none⟩=some (.int .i64 k):=(B5.out.ext x5).cell 7; have s3:w5.cell? ⟨b3,3,none⟩=some (.bool num):=(K5.out.ext x5).cell 3)
     | (go_at_call 124; refine (HN.out _ x5).mono ?_; rintro r w6 ⟨rfl,x6⟩))
    all_goals
     go_meet
     refine ⟨congrArg Value.bool ?_,?_⟩
     ·rw [← HP5.out]; first | (simp [*]; done) | (simp [*]; omega)
     ·first | exact Ext.refl _ | exact x5 | exact x5.trans x6
  case rest =>
  obtain ⟨rfl,X6⟩:=hcut
  cases p4
  case false =>
   obtain rfl:R=false:=HR3.out
   go_wp2_with fail
   go_ret
   exact ⟨rfl,X5.out.trans X6.out⟩
  case true =>
  have HR4:Hid (R=(ka && kb)):=HR3.out
  have X7:=Lib.hid (X5.out.trans X6.out)
  have B7:=Lib.hid (B5.out.ext X6.out)
  clear HR3 X5 X6 B5 K5 HP4 HKV
  have q8:wc.cell? ⟨b1,8,none⟩=some (.slice A1 a.len c1):=B7.out.cell 8
  cases ka <;> cases kb
  all_goals
   go_wp2_with (first
    | (go_at_call 125; refine (HA.out _ X7.out).mono ?_; rintro e w7 ⟨rfl,x7⟩; have q9:w7.cell? ⟨b1,9,none⟩=some (.slice A2 b.len c2):=(B7.out.ext x7).cell 9)
    | (go_at_call 77; refine (HB.out _ (X7.out.trans x7)).mono ?_; rintro e w8 ⟨rfl,x8⟩))
   go_ret
   exact ⟨ret_bool HR4.out.symm,by first | exact X7.out.trans x7 | exact X7.out.trans (x7.trans x8)⟩
def zFo:Array Value:=#[.bool false,.bool false,.int .i64 0,.int .i64 0,.int .i64 0,.int .i64 0,.bool false]
theorem exec_index {o:Oper} {a:Act} {w:World} {ty:TypeId} {x y:Operand} {u v i:Value} (ho:o.op=.index ty x y) (hx:a.eval x=u) (hy:a.eval y=i) (h:(Instr.index ty u i).run Tryz.prog w=.ok v w):(execOp a.eval o).run Tryz.prog w=.ok (.value v) w:=by
 simp only [execOp,ho,hx,hy]
 generalize Instr.index ty u i=s at h ⊢
 simp [h,Sem.run_bind,Result.andThen]
theorem vs_step {n:Nat} (hn:n ≤ 4611686018427387904) (ihX:VX n) (ihB:VB n):VS (n + 1):=by
 intro x hsz h1 w cs p g hnv
 have HSz:Hid ((Tryz.prog.info? 199).map (·.size)=some 7):=by unfold Hid; kernel_rfl
 have HC3:Hid ((Tryz.prog.info? 155).map (·.size)=some 3):=by unfold Hid; kernel_rfl
 obtain ⟨op,nm,ty,es,bs,cz,r,rfl⟩:=hnv.1.st1 (by omega)
 obtain rfl:r=.nil:=tl_one h1
 obtain ⟨va,vb,vc,rfl,ha,hb,hc⟩:=nv_stI hnv
 obtain ⟨A1,c1,rfl,_⟩:=ha.lp
 obtain ⟨A2,c2,rfl,_⟩:=hb.lp
 obtain ⟨A3,c3,rfl,lc⟩:=hc.lp
 have hz:es.sz < n∧bs.sz < n∧cz.sz < n:=by simp only [Nd.sz] at hsz; omega
 have hcl:=len_sz cz
 have HA:Hid (∀ w1,Ext w w1 → Calls Tryz.prog 125 #[.slice A1 es.len c1,.func (.func 159) #[] #[]] w1 fun e w'=>e=.returned (.bool (!vd es))∧Ext w1 w'):=fun w1 X=>has_s1 hn ihX es hz.1 w1 _ p (g.ext X) (ha.mono (vp_ext X))
 have HB:Hid (∀ w1,Ext w w1 → Calls Tryz.prog 160 #[.slice A2 bs.len c2,.func (.func 161) #[] #[]] w1 fun e w'=>e=.returned (.bool (!vd bs))∧Ext w1 w'):=fun w1 X=>has_s2 hn ihB bs hz.2.1 w1 _ p (g.ext X) (hb.mono (vp_ext X))
 have LC:=Lib.hid lc
 have HG:=Lib.hid g
 obtain ⟨R,hR⟩:∃ R,vd (.st op nm ty es bs cz .nil)=R:=⟨_,rfl⟩
 rw [hR]
 have HR:Hid ((stV op nm ty es.len bs.len cz.len && (vd cz && (vd es && vd bs)))=R):=(Bool.and_true _).symm.trans hR
 clear hnv ha hb hc lc hsz h1 hR ihX g
 generalize hke:vd es=ke at HA HR
 generalize hkb:vd bs=kb at HB HR
 clear hke hkb
 by_cases hop:op < 0 ∨ 17 < op
 ·have hf:R=false:=by
   have:=HR.out
   unfold stV at this
   rw [show (decide (0 ≤ op) && decide (op ≤ 17))=false by rw [Bool.eq_false_iff]; simp; omega] at this
   exact this.symm
  subst hf
  clear HR HA HB LC
  rcases hop with hop | hop
  ·go_enter Tryz.func121,Tryz.ntmps121
   go_wp2_with fail
   go_ret
   exact ⟨rfl,exA⟩
  ·have hop2:¬ op < 0:=by omega
   go_enter Tryz.func121,Tryz.ntmps121
   go_wp2_with fail
   go_ret
   exact ⟨rfl,exA⟩
 obtain ⟨io,rfl⟩:∃ io:Nat,op=(io:Int):=⟨op.toNat,by omega⟩
 have hio:io < 18:=by omega
 have g1:¬ (io:Int) < 0:=by omega
 have g2:¬ (17:Int) < (io:Int):=by omega
 have HF:=Lib.hid fun w1=>run_form hio w1
 obtain ⟨fo,hfo⟩:∃ fo,foS io=fo:=⟨_,rfl⟩
 rw [hfo] at HF
 obtain ⟨p2,hp2⟩:∃ p2,((fo.name == !emp nm) && (!fo.name || isNameS nm) && (if fo.kind then dclT io ty else tz ty))=p2:=⟨_,rfl⟩
 obtain ⟨p4,hp4⟩:∃ p4,(decide (fo.least ≤ es.len) && decide ((es.len:Int) ≤ fo.most) && decide (fo.lb ≤ bs.len) && decide ((bs.len:Int) ≤ fo.mb) && (fo.cases || cz.len == 0))=p4:=⟨_,rfl⟩
 have HR2:Hid (R=(p2 && p4 && (vd cz && (ke && kb)))):=by
  have:=HR.out
  unfold stV at this
  rw [show (decide (0 ≤ (io:Int)) && decide ((io:Int) ≤ 17))=true by simp; omega,Bool.true_and,Int.toNat_natCast,hfo] at this
  unfold stV2 at this
  rw [← this,← hp2,← hp4]
  rfl
 have HP2:=Lib.hid hp2
 have HP4:=Lib.hid hp4
 have HO:Hid (∀ u ∈ (foC fo).toList,u.oneCell'=true):=by
  simp only [Hid,foC,List.mem_cons,List.not_mem_nil,or_false]
  rintro u (rfl | rfl | rfl | rfl | rfl | rfl | rfl) <;> rfl
 clear HR hp2 hp4 hfo hop
 have B0:Hid (Blk (w.alloc (.cells #[.int .i64 io,.string nm,.int .i64 ty.base,.int .i64 ty.bits,.string ty.name,.bool ty.opt,.bool ty.err,.slice A1 es.len c1,.slice A2 bs.len c2,.slice A3 cz.len c3] 100)) w.heap.size 100 #[.int .i64 io,.string nm,.int .i64 ty.base,.int .i64 ty.bits,.string ty.name,.bool ty.opt,.bool ty.err,.slice A1 es.len c1,.slice A2 bs.len c2,.slice A3 cz.len c3]):=Blk.new w _ _
 have X0:Hid (Ext w (w.alloc (.cells #[.int .i64 io,.string nm,.int .i64 ty.base,.int .i64 ty.bits,.string ty.name,.bool ty.opt,.bool ty.err,.slice A1 es.len c1,.slice A2 bs.len c2,.slice A3 cz.len c3] 100))):=(Ext.refl w).alloc _
 go_enter Tryz.func121,Tryz.ntmps121
 go_upto_region 3 with fail
 generalize w.heap.size=b1 at B0 ⊢
 refine nmW fun w0 hw0=>?_
 rw [hw0] at B0 X0
 clear hw0
 go_cut [3] from 14 to 17 (fun c wx=>∃ b3,c=.pointer (some ⟨b3,0,none⟩)∧Hid (Blk wx b3 199 (foC fo))∧Hid (Ext w0 wx))
 case first =>
  have q0:w0.cell? ⟨b1,0,none⟩=some (.int .i64 io):=B0.out.cell 0
  have hfw:∀ w1,(Instr.index 200 (.agg foA) (.int .i64 io)).run Tryz.prog w1=.ok (.agg #[.bool fo.name,.bool fo.kind,.int .i64 fo.least,.int .i64 fo.most,.int .i64 fo.lb,.int .i64 fo.mb,.bool fo.cases]) w1:=HF.out
  clear HA HB LC HR2 HP2 HP4 HF hio g1 g2 hn ihB hz hcl
  unfold foC at HO
  refine rg_begin #[false,false,false,false,false,false] rfl (by kernel_rfl) (fun _ _ _ _ _ h=>h) (fun HQ=>?_)
  (refine ta 1 15 rfl HQ ?_; try simp only [putL,List.set])
  refine w_br (l:=[0,2,4]) (by simp) ?_
  intro j hj
  simp only [List.mem_cons,List.not_mem_nil,or_false] at hj
  rcases hj with rfl | rfl | rfl
  ·refine o_call 0 rfl rfl (by go_simp) (forms_any _) ?_ ?_ ?_
   ·rintro rv w1 ⟨e,x1⟩
    cases e
    show wpAny _ _ _ _ _ _ (Act.put _ (some 14) _) _
    simp only [putL,List.set]
    refine w_br (l:=[2,4]) (by simp) ?_
    intro j hj
    simp only [List.mem_cons,List.not_mem_nil,or_false] at hj
    rcases hj with rfl | rfl
    ·refine o_val 2 16 rfl (exec_ld1 rfl rfl ((B0.out.ext (((Ext.refl w0).drew).trans x1)).cell 0) Tryz.underlying3 rfl) ?_
     simp only [putL,List.set]
     refine w_br (l:=[3,4]) (by simp) ?_
     intro j hj
     simp only [List.mem_cons,List.not_mem_nil,or_false] at hj
     rcases hj with rfl | rfl
     ·refine o_val 3 17 rfl (exec_index rfl rfl rfl (hfw _)) ?_
      simp only [putL,List.set]
      refine w_br (l:=[4]) (by simp) ?_
      intro j hj
      simp only [List.mem_cons,List.not_mem_nil,or_false] at hj
      rcases hj with rfl
      refine o_val (w':=World.alloc w1 (.cells zFo 199)) 4 3 rfl (v:=.pointer (some ⟨(w1).heap.size,0,none⟩)) (by go_simp; try rfl) ?_
      simp only [putL,List.set]
      refine w_br (l:=[5]) (by simp) ?_
      intro j hj
      simp only [List.mem_cons,List.not_mem_nil,or_false] at hj
      subst hj
      refine o_wp 5 rfl rfl (wp_str _ _ _ rfl _ rfl _ zFo #[.bool fo.name,.bool fo.kind,.int .i64 fo.least,.int .i64 fo.most,.int .i64 fo.lb,.int .i64 fo.mb,.bool fo.cases] ((Blk.new w1 199 zFo)) rfl rfl HO.out HSz.out ?_)
      show wpAny _ _ _ _ _ _ _ _
      refine wp_end ?_
      go_wp2_with fail
      go_meet
      exact ⟨_,rfl,((Blk.new w1 199 zFo)).row _,((((Ext.refl w0).drew).trans x1).alloc _).setRow (Nat.le_trans (((Ext.refl w0).drew).trans x1).out.size (Nat.le_refl _)) _⟩
     ·refine o_val (w':=World.alloc w1 (.cells zFo 199)) 4 3 rfl (v:=.pointer (some ⟨(w1).heap.size,0,none⟩)) (by go_simp; try rfl) ?_
      simp only [putL,List.set]
      refine w_br (l:=[3]) (by simp) ?_
      intro j hj
      simp only [List.mem_cons,List.not_mem_nil,or_false] at hj
      rcases hj with rfl
      refine o_val 3 17 rfl (exec_index rfl rfl rfl (hfw _)) ?_
      simp only [putL,List.set]
      refine w_br (l:=[5]) (by simp) ?_
      intro j hj
      simp only [List.mem_cons,List.not_mem_nil,or_false] at hj
      subst hj
      refine o_wp 5 rfl rfl (wp_str _ _ _ rfl _ rfl _ zFo #[.bool fo.name,.bool fo.kind,.int .i64 fo.least,.int .i64 fo.most,.int .i64 fo.lb,.int .i64 fo.mb,.bool fo.cases] ((Blk.new w1 199 zFo)) rfl rfl HO.out HSz.out ?_)
      show wpAny _ _ _ _ _ _ _ _
      refine wp_end ?_
      go_wp2_with fail
      go_meet
      exact ⟨_,rfl,((Blk.new w1 199 zFo)).row _,((((Ext.refl w0).drew).trans x1).alloc _).setRow (Nat.le_trans (((Ext.refl w0).drew).trans x1).out.size (Nat.le_refl _)) _⟩
    ·refine o_val (w':=World.alloc w1 (.cells zFo 199)) 4 3 rfl (v:=.pointer (some ⟨(w1).heap.size,0,none⟩)) (by go_simp; try rfl) ?_
     simp only [putL,List.set]
     refine w_br (l:=[2]) (by simp) ?_
     intro j hj
     simp only [List.mem_cons,List.not_mem_nil,or_false] at hj
     rcases hj with rfl
     refine o_val 2 16 rfl (exec_ld1 rfl rfl ((B0.out.ext ((((Ext.refl w0).drew).trans x1).alloc _)).cell 0) Tryz.underlying3 rfl) ?_
     simp only [putL,List.set]
     refine w_br (l:=[3]) (by simp) ?_
     intro j hj
     simp only [List.mem_cons,List.not_mem_nil,or_false] at hj
     rcases hj with rfl
     refine o_val 3 17 rfl (exec_index rfl rfl rfl (hfw _)) ?_
     simp only [putL,List.set]
     refine w_br (l:=[5]) (by simp) ?_
     intro j hj
     simp only [List.mem_cons,List.not_mem_nil,or_false] at hj
     subst hj
     refine o_wp 5 rfl rfl (wp_str _ _ _ rfl _ rfl _ zFo #[.bool fo.name,.bool fo.kind,.int .i64 fo.least,.int .i64 fo.most,.int .i64 fo.lb,.int .i64 fo.mb,.bool fo.cases] ((Blk.new w1 199 zFo)) rfl rfl HO.out HSz.out ?_)
     show wpAny _ _ _ _ _ _ _ _
     refine wp_end ?_
     go_wp2_with fail
     go_meet
     exact ⟨_,rfl,((Blk.new w1 199 zFo)).row _,((((Ext.refl w0).drew).trans x1).alloc _).setRow (Nat.le_trans (((Ext.refl w0).drew).trans x1).out.size (Nat.le_refl _)) _⟩
   ·rintro c w1 ⟨e,_⟩; cases e
   ·rintro w1 ⟨e,_⟩; cases e
  ·refine o_val 2 16 rfl (exec_ld1 rfl rfl ((B0.out.ext ((Ext.refl w0).drew)).cell 0) Tryz.underlying3 rfl) ?_
   simp only [putL,List.set]
   refine w_br (l:=[0,4]) (by simp) ?_
   intro j hj
   simp only [List.mem_cons,List.not_mem_nil,or_false] at hj
   rcases hj with rfl | rfl
   ·refine o_call 0 rfl rfl (by go_simp) (forms_any _) ?_ ?_ ?_
    ·rintro rv w2 ⟨e,x2⟩
     cases e
     show wpAny _ _ _ _ _ _ (Act.put _ (some 14) _) _
     simp only [putL,List.set]
     refine w_br (l:=[3,4]) (by simp) ?_
     intro j hj
     simp only [List.mem_cons,List.not_mem_nil,or_false] at hj
     rcases hj with rfl | rfl
     ·refine o_val 3 17 rfl (exec_index rfl rfl rfl (hfw _)) ?_
      simp only [putL,List.set]
      refine w_br (l:=[4]) (by simp) ?_
      intro j hj
      simp only [List.mem_cons,List.not_mem_nil,or_false] at hj
      rcases hj with rfl
      refine o_val (w':=World.alloc w2 (.cells zFo 199)) 4 3 rfl (v:=.pointer (some ⟨(w2).heap.size,0,none⟩)) (by go_simp; try rfl) ?_
      simp only [putL,List.set]
      refine w_br (l:=[5]) (by simp) ?_
      intro j hj
      simp only [List.mem_cons,List.not_mem_nil,or_false] at hj
      subst hj
      refine o_wp 5 rfl rfl (wp_str _ _ _ rfl _ rfl _ zFo #[.bool fo.name,.bool fo.kind,.int .i64 fo.least,.int .i64 fo.most,.int .i64 fo.lb,.int .i64 fo.mb,.bool fo.cases] ((Blk.new w2 199 zFo)) rfl rfl HO.out HSz.out ?_)
      show wpAny _ _ _ _ _ _ _ _
      refine wp_end ?_
      go_wp2_with fail
      go_meet
      exact ⟨_,rfl,((Blk.new w2 199 zFo)).row _,((((Ext.refl w0).drew).trans x2).alloc _).setRow (Nat.le_trans (((Ext.refl w0).drew).trans x2).out.size (Nat.le_refl _)) _⟩
     ·refine o_val (w':=World.alloc w2 (.cells zFo 199)) 4 3 rfl (v:=.pointer (some ⟨(w2).heap.size,0,none⟩)) (by go_simp; try rfl) ?_
      simp only [putL,List.set]
      refine w_br (l:=[3]) (by simp) ?_
      intro j hj
      simp only [List.mem_cons,List.not_mem_nil,or_false] at hj
      rcases hj with rfl
      refine o_val 3 17 rfl (exec_index rfl rfl rfl (hfw _)) ?_
      simp only [putL,List.set]
      refine w_br (l:=[5]) (by simp) ?_
      intro j hj
      simp only [List.mem_cons,List.not_mem_nil,or_false] at hj
      subst hj
      refine o_wp 5 rfl rfl (wp_str _ _ _ rfl _ rfl _ zFo #[.bool fo.name,.bool fo.kind,.int .i64 fo.least,.int .i64 fo.most,.int .i64 fo.lb,.int .i64 fo.mb,.bool fo.cases] ((Blk.new w2 199 zFo)) rfl rfl HO.out HSz.out ?_)
      show wpAny _ _ _ _ _ _ _ _
      refine wp_end ?_
      go_wp2_with fail
      go_meet
      exact ⟨_,rfl,((Blk.new w2 199 zFo)).row _,((((Ext.refl w0).drew).trans x2).alloc _).setRow (Nat.le_trans (((Ext.refl w0).drew).trans x2).out.size (Nat.le_refl _)) _⟩
    ·rintro c w2 ⟨e,_⟩; cases e
    ·rintro w2 ⟨e,_⟩; cases e
   ·refine o_val (w':=World.alloc w0.drew (.cells zFo 199)) 4 3 rfl (v:=.pointer (some ⟨(w0.drew).heap.size,0,none⟩)) (by go_simp; try rfl) ?_
    simp only [putL,List.set]
    refine w_br (l:=[0]) (by simp) ?_
    intro j hj
    simp only [List.mem_cons,List.not_mem_nil,or_false] at hj
    rcases hj with rfl
    refine o_call 0 rfl rfl (by go_simp) (forms_any _) ?_ ?_ ?_
    ·rintro rv w3 ⟨e,x3⟩
     cases e
     show wpAny _ _ _ _ _ _ (Act.put _ (some 14) _) _
     simp only [putL,List.set]
     refine w_br (l:=[3]) (by simp) ?_
     intro j hj
     simp only [List.mem_cons,List.not_mem_nil,or_false] at hj
     rcases hj with rfl
     refine o_val 3 17 rfl (exec_index rfl rfl rfl (hfw _)) ?_
     simp only [putL,List.set]
     refine w_br (l:=[5]) (by simp) ?_
     intro j hj
     simp only [List.mem_cons,List.not_mem_nil,or_false] at hj
     subst hj
     refine o_wp 5 rfl rfl (wp_str _ _ _ rfl _ rfl _ zFo #[.bool fo.name,.bool fo.kind,.int .i64 fo.least,.int .i64 fo.most,.int .i64 fo.lb,.int .i64 fo.mb,.bool fo.cases] (((Blk.new w0.drew 199 zFo)).ext x3) rfl rfl HO.out HSz.out ?_)
     show wpAny _ _ _ _ _ _ _ _
     refine wp_end ?_
     go_wp2_with fail
     go_meet
     exact ⟨_,rfl,(((Blk.new w0.drew 199 zFo)).ext x3).row _,((((Ext.refl w0).drew).alloc _).trans x3).setRow (Nat.le_trans ((Ext.refl w0).drew).out.size (Nat.le_refl _)) _⟩
    ·rintro c w3 ⟨e,_⟩; cases e
    ·rintro w3 ⟨e,_⟩; cases e
  ·refine o_val (w':=World.alloc w0.drew (.cells zFo 199)) 4 3 rfl (v:=.pointer (some ⟨(w0.drew).heap.size,0,none⟩)) (by go_simp; try rfl) ?_
   simp only [putL,List.set]
   refine w_br (l:=[0,2]) (by simp) ?_
   intro j hj
   simp only [List.mem_cons,List.not_mem_nil,or_false] at hj
   rcases hj with rfl | rfl
   ·refine o_call 0 rfl rfl (by go_simp) (forms_any _) ?_ ?_ ?_
    ·rintro rv w4 ⟨e,x4⟩
     cases e
     show wpAny _ _ _ _ _ _ (Act.put _ (some 14) _) _
     simp only [putL,List.set]
     refine w_br (l:=[2]) (by simp) ?_
     intro j hj
     simp only [List.mem_cons,List.not_mem_nil,or_false] at hj
     rcases hj with rfl
     refine o_val 2 16 rfl (exec_ld1 rfl rfl ((B0.out.ext ((((Ext.refl w0).drew).alloc _).trans x4)).cell 0) Tryz.underlying3 rfl) ?_
     simp only [putL,List.set]
     refine w_br (l:=[3]) (by simp) ?_
     intro j hj
     simp only [List.mem_cons,List.not_mem_nil,or_false] at hj
     rcases hj with rfl
     refine o_val 3 17 rfl (exec_index rfl rfl rfl (hfw _)) ?_
     simp only [putL,List.set]
     refine w_br (l:=[5]) (by simp) ?_
     intro j hj
     simp only [List.mem_cons,List.not_mem_nil,or_false] at hj
     subst hj
     refine o_wp 5 rfl rfl (wp_str _ _ _ rfl _ rfl _ zFo #[.bool fo.name,.bool fo.kind,.int .i64 fo.least,.int .i64 fo.most,.int .i64 fo.lb,.int .i64 fo.mb,.bool fo.cases] (((Blk.new w0.drew 199 zFo)).ext x4) rfl rfl HO.out HSz.out ?_)
     show wpAny _ _ _ _ _ _ _ _
     refine wp_end ?_
     go_wp2_with fail
     go_meet
     exact ⟨_,rfl,(((Blk.new w0.drew 199 zFo)).ext x4).row _,((((Ext.refl w0).drew).alloc _).trans x4).setRow (Nat.le_trans ((Ext.refl w0).drew).out.size (Nat.le_refl _)) _⟩
    ·rintro c w4 ⟨e,_⟩; cases e
    ·rintro w4 ⟨e,_⟩; cases e
   ·refine o_val 2 16 rfl (exec_ld1 rfl rfl ((B0.out.ext (((Ext.refl w0).drew).alloc _)).cell 0) Tryz.underlying3 rfl) ?_
    simp only [putL,List.set]
    refine w_br (l:=[0]) (by simp) ?_
    intro j hj
    simp only [List.mem_cons,List.not_mem_nil,or_false] at hj
    rcases hj with rfl
    refine o_call 0 rfl rfl (by go_simp) (forms_any _) ?_ ?_ ?_
    ·rintro rv w5 ⟨e,x5⟩
     cases e
     show wpAny _ _ _ _ _ _ (Act.put _ (some 14) _) _
     simp only [putL,List.set]
     refine w_br (l:=[3]) (by simp) ?_
     intro j hj
     simp only [List.mem_cons,List.not_mem_nil,or_false] at hj
     rcases hj with rfl
     refine o_val 3 17 rfl (exec_index rfl rfl rfl (hfw _)) ?_
     simp only [putL,List.set]
     refine w_br (l:=[5]) (by simp) ?_
     intro j hj
     simp only [List.mem_cons,List.not_mem_nil,or_false] at hj
     subst hj
     refine o_wp 5 rfl rfl (wp_str _ _ _ rfl _ rfl _ zFo #[.bool fo.name,.bool fo.kind,.int .i64 fo.least,.int .i64 fo.most,.int .i64 fo.lb,.int .i64 fo.mb,.bool fo.cases] (((Blk.new w0.drew 199 zFo)).ext x5) rfl rfl HO.out HSz.out ?_)
     show wpAny _ _ _ _ _ _ _ _
     refine wp_end ?_
     go_wp2_with fail
     go_meet
     exact ⟨_,rfl,(((Blk.new w0.drew 199 zFo)).ext x5).row _,((((Ext.refl w0).drew).alloc _).trans x5).setRow (Nat.le_trans ((Ext.refl w0).drew).out.size (Nat.le_refl _)) _⟩
    ·rintro c w5 ⟨e,_⟩; cases e
    ·rintro w5 ⟨e,_⟩; cases e
 case rest =>
 obtain ⟨b3,rfl,K3,X1⟩:=hcut
 have X3:=Lib.hid (X0.out.trans X1.out)
 have B3:=Lib.hid (B0.out.ext X1.out)
 clear X0 B0 X1 HF HO HSz
 unfold foC at K3
 go_upto_region 4 with fail
 generalize wc=w4 at *
 go_cut [56] from 18 to 56 (fun c wx=>c=.bool (!p2)∧Hid (Ext w4 wx))
 case first =>
  have q0:w4.cell? ⟨b1,0,none⟩=some (.int .i64 io):=B3.out.cell 0; have q1:w4.cell? ⟨b1,1,none⟩=some (.string nm):=B3.out.cell 1; have q2:w4.cell? ⟨b1,2,none⟩=some (.int .i64 ty.base):=B3.out.cell 2; have q3:w4.cell? ⟨b1,3,none⟩=some (.int .i64 ty.bits):=B3.out.cell 3; have q4:w4.cell? ⟨b1,4,none⟩=some (.string ty.name):=B3.out.cell 4; have q5:w4.cell? ⟨b1,5,none⟩=some (.bool ty.opt):=B3.out.cell 5; have q6:w4.cell? ⟨b1,6,none⟩=some (.bool ty.err):=B3.out.cell 6; have q7:w4.cell? ⟨b1,7,none⟩=some (.slice A1 es.len c1):=B3.out.cell 7; have q8:w4.cell? ⟨b1,8,none⟩=some (.slice A2 bs.len c2):=B3.out.cell 8; have q9:w4.cell? ⟨b1,9,none⟩=some (.slice A3 cz.len c3):=B3.out.cell 9; have s0:w4.cell? ⟨b3,0,none⟩=some (.bool fo.name):=K3.out.cell 0; have s1:w4.cell? ⟨b3,1,none⟩=some (.bool fo.kind):=K3.out.cell 1; have s2:w4.cell? ⟨b3,2,none⟩=some (.int .i64 fo.least):=K3.out.cell 2; have s3:w4.cell? ⟨b3,3,none⟩=some (.int .i64 fo.most):=K3.out.cell 3; have s4:w4.cell? ⟨b3,4,none⟩=some (.int .i64 fo.lb):=K3.out.cell 4; have s5:w4.cell? ⟨b3,5,none⟩=some (.int .i64 fo.mb):=K3.out.cell 5; have s6:w4.cell? ⟨b3,6,none⟩=some (.bool fo.cases):=K3.out.cell 6
  have hq:=run_tz_neq ty
  have he:emp nm=(nm.toList == []):=by unfold emp; cases nm.toList <;> rfl
  have HN:=Lib.hid (isName_any nm w4 (HG.out.ext X3.out))
  have HD:=Lib.hid fun w1 (X:Ext w4 w1)=>isDeclared_any io ty w1 ((HG.out.ext X3.out).ext X)
  unfold tyA at HD
  rw [he] at HP2
  clear HA HB LC HR2 HP4 he
  generalize isNameS nm=ns at *
  generalize dclT io ty=dz at *
  generalize tz ty=z at *
  generalize fo.name=f0 at *
  generalize fo.kind=f1 at *
  go_wp2_with (first
   | (go_at_call 16; refine HN.out.mono ?_; rintro r w5 ⟨rfl,x5⟩; have q0:w5.cell? ⟨b1,0,none⟩=some (.int .i64 io):=(B3.out.ext x5).cell 0; have q2:w5.cell? ⟨b1,2,none⟩=some (.int .i64 ty.base):=(B3.out.ext x5).cell 2; have q3:w5.cell? ⟨b1,3,none⟩=some (.int .i64 ty.bits):=(B3.out.ext x5).cell 3; have q4:w5.cell? ⟨b1,4,none⟩=some (.string ty.name):=(B3.out.ext x5).cell 4; have q5:w5.cell? ⟨b1,5,none⟩=some (.bool ty.opt):=(B3.out.ext x5).cell 5; have q6:w5.cell? ⟨b1,6,none⟩=some (.bool ty.err):=(B3.out.ext x5).cell 6; have s1:w5.cell? ⟨b3,1,none⟩=some (.bool f1):=(K3.out.ext x5).cell 1)
   | (go_at_call 158; (first | refine (HD.out _ x5).mono ?_ | refine (HD.out _ (Ext.refl _)).mono ?_); rintro r w6 ⟨rfl,x6⟩))
  all_goals
   go_meet
   refine ⟨congrArg Value.bool ?_,?_⟩
   ·rw [← HP2.out]; first | (simp [*]; done) | (simp [*]; omega)
   ·first | exact Ext.refl _ | exact x5 | exact x6 | exact x5.trans x6
 case rest =>
 obtain ⟨rfl,X4⟩:=hcut
 cases p2
 case false =>
  obtain rfl:R=false:=HR2.out
  go_wp2_with fail
  go_ret
  exact ⟨rfl,X3.out.trans X4.out⟩
 case true =>
 have HR3:Hid (R=(p4 && (vd cz && (ke && kb)))):=HR2.out
 have X5:=Lib.hid (X3.out.trans X4.out)
 have B5:=Lib.hid (B3.out.ext X4.out)
 have K5:=Lib.hid (K3.out.ext X4.out)
 clear X3 X4 B3 K3 HR2 HP2
 go_upto_region 6 with fail
 generalize wc=w6 at *
 go_cut [97] from 57 to 97 (fun c wx=>c=.bool (!p4)∧wx=w6)
 case first =>
  have q0:w6.cell? ⟨b1,0,none⟩=some (.int .i64 io):=B5.out.cell 0; have q1:w6.cell? ⟨b1,1,none⟩=some (.string nm):=B5.out.cell 1; have q2:w6.cell? ⟨b1,2,none⟩=some (.int .i64 ty.base):=B5.out.cell 2; have q3:w6.cell? ⟨b1,3,none⟩=some (.int .i64 ty.bits):=B5.out.cell 3; have q4:w6.cell? ⟨b1,4,none⟩=some (.string ty.name):=B5.out.cell 4; have q5:w6.cell? ⟨b1,5,none⟩=some (.bool ty.opt):=B5.out.cell 5; have q6:w6.cell? ⟨b1,6,none⟩=some (.bool ty.err):=B5.out.cell 6; have q7:w6.cell? ⟨b1,7,none⟩=some (.slice A1 es.len c1):=B5.out.cell 7; have q8:w6.cell? ⟨b1,8,none⟩=some (.slice A2 bs.len c2):=B5.out.cell 8; have q9:w6.cell? ⟨b1,9,none⟩=some (.slice A3 cz.len c3):=B5.out.cell 9; have s0:w6.cell? ⟨b3,0,none⟩=some (.bool fo.name):=K5.out.cell 0; have s1:w6.cell? ⟨b3,1,none⟩=some (.bool fo.kind):=K5.out.cell 1; have s2:w6.cell? ⟨b3,2,none⟩=some (.int .i64 fo.least):=K5.out.cell 2; have s3:w6.cell? ⟨b3,3,none⟩=some (.int .i64 fo.most):=K5.out.cell 3; have s4:w6.cell? ⟨b3,4,none⟩=some (.int .i64 fo.lb):=K5.out.cell 4; have s5:w6.cell? ⟨b3,5,none⟩=some (.int .i64 fo.mb):=K5.out.cell 5; have s6:w6.cell? ⟨b3,6,none⟩=some (.bool fo.cases):=K5.out.cell 6
  clear HA HB LC HR3 B5 K5
  generalize fo.least=f2 at *
  generalize fo.most=f3 at *
  generalize fo.lb=f4 at *
  generalize fo.mb=f5 at *
  generalize fo.cases=f6 at *
  generalize es.len=n1 at *
  generalize bs.len=n2 at *
  generalize cz.len=n3 at *
  go_wp2_with fail
  all_goals
   go_meet
   refine ⟨congrArg Value.bool ?_,rfl⟩
   rw [← HP4.out]; first | (simp [*]; done) | (simp [*]; omega) | (rw [Bool.eq_iff_iff]; simp [*]; omega)
 case rest =>
 obtain ⟨rfl,rfl⟩:=hcut
 cases p4
 case false =>
  obtain rfl:R=false:=HR3.out
  go_wp2_with fail
  go_ret
  exact ⟨rfl,X5.out⟩
 case true =>
 have HR4:Hid (R=(vd cz && (ke && kb))):=HR3.out
 clear HR3 K5 HP4
 have q9:wc.cell? ⟨b1,9,none⟩=some (.slice A3 cz.len c3):=B5.out.cell 9
 have LC6:Hid (Lp (vp p wc) A3 cz.len 3 0 cz):=LC.out.mono (vp_ext X5.out)
 have hN1:cz.len ≤ 4611686018427387904:=by omega
 clear LC
 generalize hN:cz.len=N at *
 clear hN
 go_wp2_with fail
 clear q9
 go_loopw [101] (fun u wr=>∃ (i:Nat) (r:Nd),u=.int .i64 i∧Hid (Lp (vp p wr) A3 N 3 i r)∧Hid (Ext wc wr)∧Hid (vd r=vd cz)∧r.sz ≤ cz.sz) (fun u _=>N - (intOf u).toNat)
 case atStart=>exact ⟨0,cz,rfl,LC6,Ext.refl _,rfl,Nat.le_refl _⟩
 case round =>
  clear LC6
  obtain ⟨i,r,rfl,L,X,hE,hrz⟩:=hrel
  by_cases hlt:i < N
  ·have hrl:0 < r.len:=by have:=L.out.1; omega
   obtain ⟨lo,up,body,rt,rfl⟩:∃ l u b r',r=.ca l u b r':=by
    obtain ⟨_,ys,_,_,he⟩:=L.out
    exact he.ca1 hrl
   obtain ⟨b2,o2,xs,rfl,hnv,hc,L'⟩:=L.out.step hlt
   obtain ⟨vk,hxs,hbody⟩:=nv_caI hnv
   obtain ⟨Ak,ck,rfl,_⟩:=hbody.lp
   have hltI:(i:Int) < (N:Int):=by omega
   have hwi:wrap64 ((i:Int) + 1)=(i:Int) + 1:=IntWalk.wrap64_in _ (by omega)
   have hrs:body.sz < n∧rt.sz ≤ cz.sz:=by simp only [Nd.sz] at hrz; omega
   have NV:=Lib.hid hnv
   have HC:=Lib.hid hc
   have HXS:=Lib.hid hxs
   have LS:Hid (Lp (vp p wr) (some ⟨b2,o2,none⟩) N 3 (i + 1) rt):=L'
   have HI:=Lib.hid fun w1 (X2:Ext wr w1)=>ihB body hrs.1 w1 _ p (((HG.out.ext X5.out).ext X.out).ext X2) (hbody.mono (vp_ext X2))
   have E1:Hid ((caV lo up && vd body && vd rt)=vd cz):=hE.out
   generalize hvb:vd body=kb2 at HI E1
   clear hnv hc L' L hE hrz hbody hxs hvb hrl HA HB
   by_cases g1:lo < -2147483648
   ·go_wp2_with (first
     | ((with_reducible show wpList _ _ _ (Oper.mk (some 104) (.load 155 (.tmp 103)) _ _ _ _ :: _) _ _); refine wpList_load_mid rfl _ _ rfl _ _ rfl xs.toList _ (fun j v hv=>(vp_some (HC.out j v hv)).2) Tryz.underlying155 rfl (by rw [Array.length_toList,show xs.size=3 from NV.out.size]; exact HC3.out) ?_; rw [Array.toArray_toList])
     | ((with_reducible show wpList _ _ _ (Oper.mk none (.store 155 (.tmp 5) _) _ _ _ _ :: _) _ _); refine wpList_store_row rfl _ _ _ rfl wr.heap.size rfl 155 #[.int .i64 0,.int .i64 0,.slice none 0 0] xs (Blk.new wr _ _) rfl NV.out.size NV.out.one (by rw [show xs.size=3 from NV.out.size]; exact HC3.out) ?_; refine nmW fun w7 hw7=>?_
        have x7:Ext wr w7:=by rw [← hw7]; exact (newRow wr _ _ xs).1
        have k7:Blk w7 wr.heap.size 155 xs:=by rw [← hw7]; exact (newRow wr _ _ xs).2
        have q0:w7.cell? ⟨wr.heap.size,0,none⟩=some (.int .i64 lo):=by rw [k7.cell,HXS.out]; rfl
        have q1:w7.cell? ⟨wr.heap.size,1,none⟩=some (.int .i64 up):=by rw [k7.cell,HXS.out]; rfl
        have q2:w7.cell? ⟨wr.heap.size,2,none⟩=some (.slice Ak body.len ck):=by rw [k7.cell,HXS.out]; rfl
        clear hw7)
     | (go_at_call 77; refine (HI.out _ x7).mono ?_; rintro e w8 ⟨rfl,x8⟩))
    have HRf:R=false:=by rw [HR4.out,← E1.out]; simp [caV]; omega
    subst HRf
    go_ret
    exact ⟨rfl,(X5.out.trans X.out).trans x7⟩
   by_cases g2:2147483648 < up
   ·go_wp2_with (first
     | ((with_reducible show wpList _ _ _ (Oper.mk (some 104) (.load 155 (.tmp 103)) _ _ _ _ :: _) _ _); refine wpList_load_mid rfl _ _ rfl _ _ rfl xs.toList _ (fun j v hv=>(vp_some (HC.out j v hv)).2) Tryz.underlying155 rfl (by rw [Array.length_toList,show xs.size=3 from NV.out.size]; exact HC3.out) ?_; rw [Array.toArray_toList])
     | ((with_reducible show wpList _ _ _ (Oper.mk none (.store 155 (.tmp 5) _) _ _ _ _ :: _) _ _); refine wpList_store_row rfl _ _ _ rfl wr.heap.size rfl 155 #[.int .i64 0,.int .i64 0,.slice none 0 0] xs (Blk.new wr _ _) rfl NV.out.size NV.out.one (by rw [show xs.size=3 from NV.out.size]; exact HC3.out) ?_; refine nmW fun w7 hw7=>?_
        have x7:Ext wr w7:=by rw [← hw7]; exact (newRow wr _ _ xs).1
        have k7:Blk w7 wr.heap.size 155 xs:=by rw [← hw7]; exact (newRow wr _ _ xs).2
        have q0:w7.cell? ⟨wr.heap.size,0,none⟩=some (.int .i64 lo):=by rw [k7.cell,HXS.out]; rfl
        have q1:w7.cell? ⟨wr.heap.size,1,none⟩=some (.int .i64 up):=by rw [k7.cell,HXS.out]; rfl
        have q2:w7.cell? ⟨wr.heap.size,2,none⟩=some (.slice Ak body.len ck):=by rw [k7.cell,HXS.out]; rfl
        clear hw7)
     | (go_at_call 77; refine (HI.out _ x7).mono ?_; rintro e w8 ⟨rfl,x8⟩))
    have HRf:R=false:=by rw [HR4.out,← E1.out]; simp [caV]; omega
    subst HRf
    go_ret
    exact ⟨rfl,(X5.out.trans X.out).trans x7⟩
   by_cases g3:up < lo
   ·go_wp2_with (first
     | ((with_reducible show wpList _ _ _ (Oper.mk (some 104) (.load 155 (.tmp 103)) _ _ _ _ :: _) _ _); refine wpList_load_mid rfl _ _ rfl _ _ rfl xs.toList _ (fun j v hv=>(vp_some (HC.out j v hv)).2) Tryz.underlying155 rfl (by rw [Array.length_toList,show xs.size=3 from NV.out.size]; exact HC3.out) ?_; rw [Array.toArray_toList])
     | ((with_reducible show wpList _ _ _ (Oper.mk none (.store 155 (.tmp 5) _) _ _ _ _ :: _) _ _); refine wpList_store_row rfl _ _ _ rfl wr.heap.size rfl 155 #[.int .i64 0,.int .i64 0,.slice none 0 0] xs (Blk.new wr _ _) rfl NV.out.size NV.out.one (by rw [show xs.size=3 from NV.out.size]; exact HC3.out) ?_; refine nmW fun w7 hw7=>?_
        have x7:Ext wr w7:=by rw [← hw7]; exact (newRow wr _ _ xs).1
        have k7:Blk w7 wr.heap.size 155 xs:=by rw [← hw7]; exact (newRow wr _ _ xs).2
        have q0:w7.cell? ⟨wr.heap.size,0,none⟩=some (.int .i64 lo):=by rw [k7.cell,HXS.out]; rfl
        have q1:w7.cell? ⟨wr.heap.size,1,none⟩=some (.int .i64 up):=by rw [k7.cell,HXS.out]; rfl
        have q2:w7.cell? ⟨wr.heap.size,2,none⟩=some (.slice Ak body.len ck):=by rw [k7.cell,HXS.out]; rfl
        clear hw7)
     | (go_at_call 77; refine (HI.out _ x7).mono ?_; rintro e w8 ⟨rfl,x8⟩))
    have HRf:R=false:=by rw [HR4.out,← E1.out]; simp [caV]; omega
    subst HRf
    go_ret
    exact ⟨rfl,(X5.out.trans X.out).trans x7⟩
   cases kb2
   case false =>
    go_wp2_with (first
     | ((with_reducible show wpList _ _ _ (Oper.mk (some 104) (.load 155 (.tmp 103)) _ _ _ _ :: _) _ _); refine wpList_load_mid rfl _ _ rfl _ _ rfl xs.toList _ (fun j v hv=>(vp_some (HC.out j v hv)).2) Tryz.underlying155 rfl (by rw [Array.length_toList,show xs.size=3 from NV.out.size]; exact HC3.out) ?_; rw [Array.toArray_toList])
     | ((with_reducible show wpList _ _ _ (Oper.mk none (.store 155 (.tmp 5) _) _ _ _ _ :: _) _ _); refine wpList_store_row rfl _ _ _ rfl wr.heap.size rfl 155 #[.int .i64 0,.int .i64 0,.slice none 0 0] xs (Blk.new wr _ _) rfl NV.out.size NV.out.one (by rw [show xs.size=3 from NV.out.size]; exact HC3.out) ?_; refine nmW fun w7 hw7=>?_
        have x7:Ext wr w7:=by rw [← hw7]; exact (newRow wr _ _ xs).1
        have k7:Blk w7 wr.heap.size 155 xs:=by rw [← hw7]; exact (newRow wr _ _ xs).2
        have q0:w7.cell? ⟨wr.heap.size,0,none⟩=some (.int .i64 lo):=by rw [k7.cell,HXS.out]; rfl
        have q1:w7.cell? ⟨wr.heap.size,1,none⟩=some (.int .i64 up):=by rw [k7.cell,HXS.out]; rfl
        have q2:w7.cell? ⟨wr.heap.size,2,none⟩=some (.slice Ak body.len ck):=by rw [k7.cell,HXS.out]; rfl
        clear hw7)
     | (go_at_call 77; refine (HI.out _ x7).mono ?_; rintro e w8 ⟨rfl,x8⟩))
    have HRf:R=false:=by rw [HR4.out,← E1.out]; simp
    subst HRf
    go_ret
    exact ⟨rfl,(X5.out.trans X.out).trans (x7.trans x8)⟩
   case true =>
    have hcv:caV lo up=true:=by unfold caV; simp; omega
    have E2:Hid (vd rt=vd cz):=by have:=E1.out; rw [hcv] at this; exact this
    clear E1 hcv
    go_wp2_with (first
     | ((with_reducible show wpList _ _ _ (Oper.mk (some 104) (.load 155 (.tmp 103)) _ _ _ _ :: _) _ _); refine wpList_load_mid rfl _ _ rfl _ _ rfl xs.toList _ (fun j v hv=>(vp_some (HC.out j v hv)).2) Tryz.underlying155 rfl (by rw [Array.length_toList,show xs.size=3 from NV.out.size]; exact HC3.out) ?_; rw [Array.toArray_toList])
     | ((with_reducible show wpList _ _ _ (Oper.mk none (.store 155 (.tmp 5) _) _ _ _ _ :: _) _ _); refine wpList_store_row rfl _ _ _ rfl wr.heap.size rfl 155 #[.int .i64 0,.int .i64 0,.slice none 0 0] xs (Blk.new wr _ _) rfl NV.out.size NV.out.one (by rw [show xs.size=3 from NV.out.size]; exact HC3.out) ?_; refine nmW fun w7 hw7=>?_
        have x7:Ext wr w7:=by rw [← hw7]; exact (newRow wr _ _ xs).1
        have k7:Blk w7 wr.heap.size 155 xs:=by rw [← hw7]; exact (newRow wr _ _ xs).2
        have q0:w7.cell? ⟨wr.heap.size,0,none⟩=some (.int .i64 lo):=by rw [k7.cell,HXS.out]; rfl
        have q1:w7.cell? ⟨wr.heap.size,1,none⟩=some (.int .i64 up):=by rw [k7.cell,HXS.out]; rfl
        have q2:w7.cell? ⟨wr.heap.size,2,none⟩=some (.slice Ak body.len ck):=by rw [k7.cell,HXS.out]; rfl
        clear hw7)
     | (go_at_call 77; refine (HI.out _ x7).mono ?_; rintro e w8 ⟨rfl,x8⟩))
    go_roundw
    case rel=>exact ⟨i + 1,rt,by first | rfl | (rw [hwi]; rfl),LS.out.mono (vp_ext (x7.trans x8)),X.out.trans (x7.trans x8),E2,hrs.2⟩
    case measure=>(try rw [hwi]); rw [iof_succ,iof_nat]; exact Nat.sub_lt_sub_left hlt (Nat.lt_succ_self i)
  ·obtain rfl:=L.out.fin hlt
   have hltI:¬ (i:Int) < (N:Int):=by omega
   have HR5:Hid (R=(ke && kb)):=by have:=HR4.out; rw [← hE.out] at this; exact this
   have X7:=Lib.hid (X5.out.trans X.out)
   have B7:=Lib.hid (B5.out.ext X.out)
   have q7:wr.cell? ⟨b1,7,none⟩=some (.slice A1 es.len c1):=B7.out.cell 7
   clear hE hrz HR4 L
   cases ke <;> cases kb
   all_goals
    go_wp2_with (first
     | (go_at_call 125; refine (HA.out _ X7.out).mono ?_; rintro e w7 ⟨rfl,x7⟩; have q8:w7.cell? ⟨b1,8,none⟩=some (.slice A2 bs.len c2):=(B7.out.ext x7).cell 8)
     | (go_at_call 160; refine (HB.out _ (X7.out.trans x7)).mono ?_; rintro e w8 ⟨rfl,x8⟩))
    go_ret
    exact ⟨ret_bool HR5.out.symm,by first | exact X7.out.trans x7 | exact X7.out.trans (x7.trans x8)⟩
theorem vd_all:∀ n,n ≤ 4611686018427387904 → VX n∧VS n∧VB n
 | 0,_=>⟨fun x h=>absurd h (by omega),fun x h=>absurd h (by omega),fun x h=>absurd h (by omega)⟩
 | n + 1,h =>
  have ih:=vd_all n (by omega)
  have hs:=vs_step (by omega) ih.1 ih.2.2
  ⟨vx_step (by omega) ih.1 ih.2.2,hs,vb_step h hs⟩
theorem Elems.pa1 {V:Vw} {x:Nd} {xs:List Value} (h:Elems V x 4 xs) (hl:0 < x.len):∃ nm t kn r,x=.pa nm t kn r:=by
 cases x with
 | nil=>simp [Nd.len] at hl
 | pa nm t kn r=>exact ⟨_,_,_,_,rfl⟩
 | ex=>exact absurd h.1 (by decide)
 | st=>exact absurd h.1 (by decide)
 | bl=>exact absurd h.1 (by decide)
 | ca=>exact absurd h.1 (by decide)
 | de=>exact absurd h.1 (by decide)
theorem nv_paI {V:Vw} {nm:ByteArray} {ty:Ty} {kn:Bool} {cs:Array Value} (h:Nv V 4 (.pa nm ty kn .nil) cs):cs=#[.string nm,.int .i64 ty.base,.int .i64 ty.bits,.string ty.name,.bool ty.opt,.bool ty.err,.bool kn]:=by
 obtain ⟨⟨_,r,e,h3⟩,_⟩:=h
 obtain rfl:r=[]:=h3
 rw [← Array.toArray_toList (xs:=cs),e]; rfl
theorem clo_d1 (x:Nd) (h1:x.len=1) (w:World) (cs:Array Value) (p:Nat → Prop) (g:Laid w) (hnv:Nv (vp p w) 4 x cs):Calls Tryz.prog 79 #[.agg cs] w fun e w'=>e=.returned (.bool (!vd x))∧Ext w w':=by
 obtain ⟨nm,ty,kn,r,rfl⟩:=hnv.1.pa1 (by omega)
 obtain rfl:r=.nil:=tl_one h1
 obtain rfl:=nv_paI hnv
 have HI:Hid (∀ w1,Ext w w1 → Calls Tryz.prog 80 #[.agg #[.string nm,.int .i64 ty.base,.int .i64 ty.bits,.string ty.name,.bool ty.opt,.bool ty.err,.bool kn]] w1 fun e w'=>e=.returned (.bool (paV nm ty kn))∧Ext w1 w'):=fun w1 X=>isParam_any nm ty kn w1 (g.ext X)
 rw [show vd (.pa nm ty kn .nil)=paV nm ty kn from Bool.and_true _]
 generalize paV nm ty kn=q at HI ⊢
 clear hnv h1 g
 go_enter Tryz.func79,Tryz.ntmps79
 go_wp2_with (first
  | (go_at_call 80; refine (HI.out _ ((Ext.refl w).alloc _)).mono ?_; rintro e w1 ⟨rfl,x1⟩))
 go_ret
 exact ⟨rfl,exA⟩
theorem has_d1 (a:Nd) (ha:a.sz ≤ 4611686018427387904) (w:World) (v:Value) (p:Nat → Prop) (g:Laid w) (hsl:Sl (vp p w) v a 4):Calls Tryz.prog 78 #[v,.func (.func 79) #[] #[]] w fun e w'=>e=.returned (.bool (!vd a))∧Ext w w':=by
 rw [← any_vd]
 exact cont_P a (fun y=>!vd y) _ (Enters.of Tryz.func79 (by kernel_rfl) (by kernel_rfl)) w v p ha hsl fun y cs w1 h2 h3 X N=>clo_d1 y h3 w1 cs p (g.ext X) N
theorem Nv.de1 {V:Vw} {x:Nd} {cs:Array Value} (h:Nv V 5 x cs):∃ fn nm ps ty op ty2 nm2 k ea eb b Ap cp A1 c1 A2 c2 Ab cb,x=.de fn nm ps ty (.ex op ty2 nm2 k ea eb .nil) b .nil∧cs=#[.bool fn,.string nm,.slice Ap ps.len cp,.int .i64 ty.base,.int .i64 ty.bits,.string ty.name,.bool ty.opt,.bool ty.err,.int .i64 op,.int .i64 ty2.base,.int .i64 ty2.bits,.string ty2.name,.bool ty2.opt,.bool ty2.err,.string nm2,.int .i64 k,.slice A1 ea.len c1,.slice A2 eb.len c2,.slice Ab b.len cb]∧Sl V (.slice Ap ps.len cp) ps 4∧Nv V 0 (.ex op ty2 nm2 k ea eb .nil) #[.int .i64 op,.int .i64 ty2.base,.int .i64 ty2.bits,.string ty2.name,.bool ty2.opt,.bool ty2.err,.string nm2,.int .i64 k,.slice A1 ea.len c1,.slice A2 eb.len c2]∧Sl V (.slice Ab b.len cb) b 1:=by
 obtain ⟨fn,nm,ps,ty,val,b,r,rfl⟩:=h.1.de1 (by rw [h.2]; decide)
 obtain rfl:r=.nil:=tl_one h.2
 obtain ⟨vps,ys,vb,rfl,hps,hval,hb⟩:=nv_deI h
 obtain ⟨Ap,cp,rfl,_⟩:=hps.lp
 obtain ⟨Ab,cb,rfl,_⟩:=hb.lp
 obtain rfl | ⟨op,ty2,nm2,k,ea,eb,r,rfl⟩:=hval.1.ex
 ·cases hval.2
 obtain rfl:r=.nil:=tl_one hval.2
 obtain ⟨va,vc,rfl,ha,hc⟩:=nv_exI hval
 obtain ⟨A1,c1,rfl,_⟩:=ha.lp
 obtain ⟨A2,c2,rfl,_⟩:=hc.lp
 exact ⟨fn,nm,ps,ty,op,ty2,nm2,k,ea,eb,b,Ap,cp,A1,c1,A2,c2,Ab,cb,rfl,rfl,hps,hval,hb⟩
theorem isDecl_any (x:Nd) (hx:x.sz ≤ 4611686018427387903) (w:World) (cs:Array Value) (p:Nat → Prop) (g:Laid w) (hnv:Nv (vp p w) 5 x cs):Calls Tryz.prog 44 #[.agg cs] w fun e w'=>e=.returned (.bool (vd x))∧Ext w w':=by
 obtain ⟨fn,nm,ps,ty,op,ty2,nm2,k,ea,eb,b,Ap,cp,A1,c1,A2,c2,Ab,cb,rfl,rfl,hps,hval,hb⟩:=hnv.de1
 have hz:ps.sz ≤ 4611686018427387904∧(Nd.ex op ty2 nm2 k ea eb .nil).sz < 4611686018427387904∧b.sz < 4611686018427387904:=by simp only [Nd.sz] at hx ⊢; omega
 obtain ⟨vX,vS,vB⟩:=vd_all 4611686018427387904 (Nat.le_refl _)
 have HP:Hid (∀ w1,Ext w w1 → Calls Tryz.prog 78 #[.slice Ap ps.len cp,.func (.func 79) #[] #[]] w1 fun e w'=>e=.returned (.bool (!vd ps))∧Ext w1 w'):=fun w1 X=>has_d1 ps hz.1 w1 _ p (g.ext X) (hps.mono (vp_ext X))
 have HV:Hid (∀ w1,Ext w w1 → Calls Tryz.prog 82 #[.agg #[.int .i64 op,.int .i64 ty2.base,.int .i64 ty2.bits,.string ty2.name,.bool ty2.opt,.bool ty2.err,.string nm2,.int .i64 k,.slice A1 ea.len c1,.slice A2 eb.len c2]] w1 fun e w'=>e=.returned (.bool (vd (.ex op ty2 nm2 k ea eb .nil)))∧Ext w1 w'):=fun w1 X=>vX _ hz.2.1 rfl w1 _ p (g.ext X) (hval.mono (vp_ext X))
 have HB:Hid (∀ w1,Ext w w1 → Calls Tryz.prog 77 #[.slice Ab b.len cb] w1 fun e w'=>e=.returned (.bool (vd b))∧Ext w1 w'):=fun w1 X=>vB b hz.2.2 w1 _ p (g.ext X) (hb.mono (vp_ext X))
 have HE:=Lib.hid (isEmpty_any op ty2 nm2 k A1 A2 ea.len eb.len c1 c2)
 have HN:=Lib.hid fun w1 (X:Ext w w1)=>isName_any nm w1 (g.ext X)
 have HT:=Lib.hid fun w1 (X:Ext w w1)=>isTy ty w1 (g.ext X)
 have HL:=Lib.hid fun w1 (X:Ext w w1)=>tPlain_any ty w1 (g.ext X)
 unfold tyA at HT HL
 obtain ⟨R,hR⟩:∃ R,vd (.de fn nm ps ty (.ex op ty2 nm2 k ea eb .nil) b .nil)=R:=⟨_,rfl⟩
 rw [hR]
 have HR:Hid (R=(isNameS nm && (isTypeS ty && ty.base != 4) && (if fn then emX op ty2 nm2 k ea.len eb.len && (vd b && vd ps) else (ps.len == 0 && b.len == 0 && isPlainS ty && ((ty.base == 2 || ty.base == 3) || ty.base == 1)) && vd (.ex op ty2 nm2 k ea eb .nil)))):=hR.symm.trans (Bool.and_true _)
 clear hnv hps hval hb hx hz vX vS vB hR g
 generalize vd (.ex op ty2 nm2 k ea eb .nil)=kx at HV HR
 generalize vd b=kb at HB HR
 generalize vd ps=kp at HP HR
 generalize emX op ty2 nm2 k ea.len eb.len=ke at HE HR
 generalize isNameS nm=kn at HN HR
 generalize isTypeS ty=kt at HT HR
 generalize isPlainS ty=kl at HL HR
 have B0:Hid (Blk (w.alloc (.cells #[.bool fn,.string nm,.slice Ap ps.len cp,.int .i64 ty.base,.int .i64 ty.bits,.string ty.name,.bool ty.opt,.bool ty.err,.int .i64 op,.int .i64 ty2.base,.int .i64 ty2.bits,.string ty2.name,.bool ty2.opt,.bool ty2.err,.string nm2,.int .i64 k,.slice A1 ea.len c1,.slice A2 eb.len c2,.slice Ab b.len cb] 47)) w.heap.size 47 #[.bool fn,.string nm,.slice Ap ps.len cp,.int .i64 ty.base,.int .i64 ty.bits,.string ty.name,.bool ty.opt,.bool ty.err,.int .i64 op,.int .i64 ty2.base,.int .i64 ty2.bits,.string ty2.name,.bool ty2.opt,.bool ty2.err,.string nm2,.int .i64 k,.slice A1 ea.len c1,.slice A2 eb.len c2,.slice Ab b.len cb]):=Blk.new w _ _
 have X0:Hid (Ext w (w.alloc (.cells #[.bool fn,.string nm,.slice Ap ps.len cp,.int .i64 ty.base,.int .i64 ty.bits,.string ty.name,.bool ty.opt,.bool ty.err,.int .i64 op,.int .i64 ty2.base,.int .i64 ty2.bits,.string ty2.name,.bool ty2.opt,.bool ty2.err,.string nm2,.int .i64 k,.slice A1 ea.len c1,.slice A2 eb.len c2,.slice Ab b.len cb] 47))):=(Ext.refl w).alloc _
 obtain ⟨p1,hp1⟩:∃ p1,(kn && (kt && ty.base != 4))=p1:=⟨_,rfl⟩
 have HP1:=Lib.hid hp1
 have HR1:Hid (R=(p1 && (if fn then ke && (kb && kp) else (ps.len == 0 && b.len == 0 && kl && ((ty.base == 2 || ty.base == 3) || ty.base == 1)) && kx))):=by rw [HR.out,hp1]; rfl
 clear HR hp1
 go_enter Tryz.func44,Tryz.ntmps44
 go_upto_region 1 with fail
 generalize w.heap.size=b1 at B0 ⊢
 refine nmW fun w0 hw0=>?_
 rw [hw0] at B0 X0
 clear hw0
 go_cut [18] from 3 to 18 (fun c wx=>c=.bool (!p1)∧Hid (Ext w0 wx))
 case first =>
  have q1:w0.cell? ⟨b1,1,none⟩=some (.string nm):=B0.out.cell 1; have q3:w0.cell? ⟨b1,3,none⟩=some (.int .i64 ty.base):=B0.out.cell 3; have q4:w0.cell? ⟨b1,4,none⟩=some (.int .i64 ty.bits):=B0.out.cell 4; have q5:w0.cell? ⟨b1,5,none⟩=some (.string ty.name):=B0.out.cell 5; have q6:w0.cell? ⟨b1,6,none⟩=some (.bool ty.opt):=B0.out.cell 6; have q7:w0.cell? ⟨b1,7,none⟩=some (.bool ty.err):=B0.out.cell 7
  clear HP HV HB HE HL HR1
  go_wp2_with (first
   | (go_at_call 16; refine (HN.out _ X0.out).mono ?_; rintro r w1 ⟨rfl,x1⟩; have q3:w1.cell? ⟨b1,3,none⟩=some (.int .i64 ty.base):=(B0.out.ext x1).cell 3; have q4:w1.cell? ⟨b1,4,none⟩=some (.int .i64 ty.bits):=(B0.out.ext x1).cell 4; have q5:w1.cell? ⟨b1,5,none⟩=some (.string ty.name):=(B0.out.ext x1).cell 5; have q6:w1.cell? ⟨b1,6,none⟩=some (.bool ty.opt):=(B0.out.ext x1).cell 6; have q7:w1.cell? ⟨b1,7,none⟩=some (.bool ty.err):=(B0.out.ext x1).cell 7)
   | (go_at_call 32; refine (HT.out _ (X0.out.trans x1)).mono ?_; rintro r w2 ⟨rfl,x2⟩; have q3:w2.cell? ⟨b1,3,none⟩=some (.int .i64 ty.base):=(B0.out.ext (x1.trans x2)).cell 3))
  all_goals
   go_meet
   refine ⟨congrArg Value.bool ?_,?_⟩
   ·rw [← HP1.out]; first | rfl | (simp [*]; done) | (simp [*,bne]; done)
   ·first | exact x1 | exact x1.trans x2
 case rest =>
 obtain ⟨rfl,X1⟩:=hcut
 have X2:=Lib.hid (X0.out.trans X1.out)
 have B2:=Lib.hid (B0.out.ext X1.out)
 clear X0 B0 X1 HN HT HP1
 cases p1
 case false =>
  obtain rfl:R=false:=HR1.out
  go_wp2_with fail
  go_ret
  exact ⟨rfl,X2.out⟩
 case true =>
 have q0:wc.cell? ⟨b1,0,none⟩=some (.bool fn):=B2.out.cell 0; have q1:wc.cell? ⟨b1,1,none⟩=some (.string nm):=B2.out.cell 1; have q2:wc.cell? ⟨b1,2,none⟩=some (.slice Ap ps.len cp):=B2.out.cell 2; have q3:wc.cell? ⟨b1,3,none⟩=some (.int .i64 ty.base):=B2.out.cell 3; have q4:wc.cell? ⟨b1,4,none⟩=some (.int .i64 ty.bits):=B2.out.cell 4; have q5:wc.cell? ⟨b1,5,none⟩=some (.string ty.name):=B2.out.cell 5; have q6:wc.cell? ⟨b1,6,none⟩=some (.bool ty.opt):=B2.out.cell 6; have q7:wc.cell? ⟨b1,7,none⟩=some (.bool ty.err):=B2.out.cell 7; have q8:wc.cell? ⟨b1,8,none⟩=some (.int .i64 op):=B2.out.cell 8; have q9:wc.cell? ⟨b1,9,none⟩=some (.int .i64 ty2.base):=B2.out.cell 9; have q10:wc.cell? ⟨b1,10,none⟩=some (.int .i64 ty2.bits):=B2.out.cell 10; have q11:wc.cell? ⟨b1,11,none⟩=some (.string ty2.name):=B2.out.cell 11; have q12:wc.cell? ⟨b1,12,none⟩=some (.bool ty2.opt):=B2.out.cell 12; have q13:wc.cell? ⟨b1,13,none⟩=some (.bool ty2.err):=B2.out.cell 13; have q14:wc.cell? ⟨b1,14,none⟩=some (.string nm2):=B2.out.cell 14; have q15:wc.cell? ⟨b1,15,none⟩=some (.int .i64 k):=B2.out.cell 15; have q16:wc.cell? ⟨b1,16,none⟩=some (.slice A1 ea.len c1):=B2.out.cell 16; have q17:wc.cell? ⟨b1,17,none⟩=some (.slice A2 eb.len c2):=B2.out.cell 17; have q18:wc.cell? ⟨b1,18,none⟩=some (.slice Ab b.len cb):=B2.out.cell 18
 cases fn
 case true =>
  have HR2:Hid (R=(ke && (kb && kp))):=HR1.out
  clear HR1 HV HL
  go_wp2_with (first
   | (go_at_call 76; refine (HE.out _).mono ?_; rintro r w3 ⟨rfl,x3⟩; have q2:w3.cell? ⟨b1,2,none⟩=some (.slice Ap ps.len cp):=(B2.out.ext x3).cell 2; have q18:w3.cell? ⟨b1,18,none⟩=some (.slice Ab b.len cb):=(B2.out.ext x3).cell 18)
   | (go_at_call 77; refine (HB.out _ (X2.out.trans x3)).mono ?_; rintro r w4 ⟨rfl,x4⟩; have q2:w4.cell? ⟨b1,2,none⟩=some (.slice Ap ps.len cp):=(B2.out.ext (x3.trans x4)).cell 2)
   | (go_at_call 78; refine (HP.out _ (X2.out.trans (x3.trans x4))).mono ?_; rintro r w5 ⟨rfl,x5⟩))
  all_goals
   go_ret
   exact ⟨ret_bool (by rw [HR2.out]; first | rfl | (simp [*]; done)),by first | exact X2.out.trans x3 | exact X2.out.trans (x3.trans x4) | exact X2.out.trans ((x3.trans x4).trans x5)⟩
 case false =>
  have HR2:Hid (R=((ps.len == 0 && b.len == 0 && kl && ((ty.base == 2 || ty.base == 3) || ty.base == 1)) && kx)):=HR1.out
  clear HR1 HB HP HE
  have HM:=Lib.hid (isNumbers_any ty.base)
  generalize (ty.base == 2 || ty.base == 3)=km at HM HR2
  go_wp2_with (first
   | (go_at_call 81; refine (HL.out _ X2.out).mono ?_; rintro r w3 ⟨rfl,x3⟩; have q3:w3.cell? ⟨b1,3,none⟩=some (.int .i64 ty.base):=(B2.out.ext x3).cell 3; have q8:w3.cell? ⟨b1,8,none⟩=some (.int .i64 op):=(B2.out.ext x3).cell 8; have q9:w3.cell? ⟨b1,9,none⟩=some (.int .i64 ty2.base):=(B2.out.ext x3).cell 9; have q10:w3.cell? ⟨b1,10,none⟩=some (.int .i64 ty2.bits):=(B2.out.ext x3).cell 10; have q11:w3.cell? ⟨b1,11,none⟩=some (.string ty2.name):=(B2.out.ext x3).cell 11; have q12:w3.cell? ⟨b1,12,none⟩=some (.bool ty2.opt):=(B2.out.ext x3).cell 12; have q13:w3.cell? ⟨b1,13,none⟩=some (.bool ty2.err):=(B2.out.ext x3).cell 13; have q14:w3.cell? ⟨b1,14,none⟩=some (.string nm2):=(B2.out.ext x3).cell 14; have q15:w3.cell? ⟨b1,15,none⟩=some (.int .i64 k):=(B2.out.ext x3).cell 15; have q16:w3.cell? ⟨b1,16,none⟩=some (.slice A1 ea.len c1):=(B2.out.ext x3).cell 16; have q17:w3.cell? ⟨b1,17,none⟩=some (.slice A2 eb.len c2):=(B2.out.ext x3).cell 17)
   | (go_at_call 63; refine (HM.out _).mono ?_; rintro r w4 ⟨rfl,rfl⟩)
   | (go_at_call 82; refine (HV.out _ (X2.out.trans x3)).mono ?_; rintro r w5 ⟨rfl,x5⟩))
  all_goals
   go_ret
   exact ⟨ret_bool (by rw [HR2.out]; first | rfl | (simp [*]; done) | (simp [*]; omega)),by first | exact X2.out | exact X2.out.trans x3 | exact X2.out.trans (x3.trans x5)⟩
theorem clo_v1 (x:Nd) (hx:x.sz ≤ 4611686018427387903) (w:World) (cs:Array Value) (p:Nat → Prop) (g:Laid w) (hnv:Nv (vp p w) 5 x cs):Calls Tryz.prog 43 #[.agg cs] w fun e w'=>e=.returned (.bool (!vd x))∧Ext w w':=by
 have HI:Hid (∀ w1,Ext w w1 → Calls Tryz.prog 44 #[.agg cs] w1 fun e w'=>e=.returned (.bool (vd x))∧Ext w1 w'):=fun w1 X=>isDecl_any x hx w1 cs p (g.ext X) (hnv.mono (vp_ext X))
 have HZ:Hid ((Tryz.prog.info? 47).map (·.size)=some 19):=by unfold Hid; kernel_rfl
 have hsz:cs.size=19:=hnv.size
 generalize vd x=q at HI ⊢
 clear hnv hx g
 go_enter Tryz.func43,Tryz.ntmps43
 go_wp2_with (first
  | ((with_reducible show wpList _ _ _ (Oper.mk (some 3) (.load 47 (.tmp 1)) _ _ _ _ :: _) _ _); refine wpList_ldb rfl _ _ rfl w.heap.size 47 cs rfl (Blk.new w _ cs) _ Tryz.underlying47 rfl (by rw [hsz]; exact HZ.out) ?_)
  | (go_at_call 44; refine (HI.out _ ((Ext.refl w).alloc _)).mono ?_; rintro e w1 ⟨rfl,x1⟩))
 go_ret
 exact ⟨rfl,((Ext.refl w).alloc _).trans x1⟩
def vldS (x:Nd):Int:=if largeS x=true then 3 else if vd x=true then 0 else 1
theorem validate_any (x:Nd) (hx:x.sz ≤ 4611686018427387903) (w:World) (v:Value) (p:Nat → Prop) (g:Laid w) (hsl:Sl (vp p w) v x 5) (hp:∀ b,p b → b < w.heap.size):Calls Tryz.prog 19 #[v] w fun e w'=>e=.returned (.int .i64 (vldS x))∧Ext w w':=by
 have HL:=Lib.hid (isLarge_any x hx w v p hsl hp)
 have HC:Hid (∀ w1,Ext w w1 → Calls Tryz.prog 42 #[v,.func (.func 43) #[] #[]] w1 fun e w'=>e=.returned (.bool (!vd x))∧Ext w1 w'):=fun w1 X=>by
  rw [← any_vd]
  exact cont_D x (fun y=>!vd y) _ (Enters.of Tryz.func43 (by kernel_rfl) (by kernel_rfl)) w1 v p (by omega) (hsl.mono (vp_ext X)) fun y cs w2 h2 h3 X2 N=>clo_v1 y (by omega) w2 cs p ((g.ext X).ext X2) N
 obtain ⟨A,c,rfl,_⟩:=hsl.lp
 unfold vldS
 generalize largeS x=lg at *
 generalize vd x=q at *
 clear hsl hx hp g
 cases lg <;> cases q
 all_goals
  go_enter Tryz.func19,Tryz.ntmps19
  go_wp2_with (first
   | (go_at_call 22; refine HL.out.mono ?_; rintro e w1 ⟨rfl,x1⟩)
   | (go_at_call 42; refine (HC.out _ x1).mono ?_; rintro e w2 ⟨rfl,x2⟩))
  go_ret
  exact ⟨rfl,exA⟩
end Go.Proofs.YtobfbfbjccmbiaaGreatDoor.c
