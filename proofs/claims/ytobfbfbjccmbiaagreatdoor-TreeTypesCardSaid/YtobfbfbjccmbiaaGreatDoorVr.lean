/- Contract: the type with a text, by the reference. Texts are no longer than memory reaches. -/
import Derived.Test.YtobfbfbjccmbiaaGreatDoorVa
namespace Go.Proofs.YtobfbfbjccmbiaaGreatDoor.c
open Go.RowKit
set_option linter.unusedVariables false
set_option maxRecDepth 100000
set_option maxHeartbeats 1600000
set_option linter.unusedSimpArgs false
theorem ba_eq {a b:ByteArray} (h:a.data.toList=b.data.toList):a=b:=ByteArray.ext (Array.ext' h)
theorem cut_s {s s1:ByteArray} {c:UInt8} {er:Bool} (h:cutB s.data.toList c=(er,s1.data.toList)):(∃ h0:0 < s.size,(s[0].toNat:Int)=c.toNat∧er=true∧s1=s.extract 1 s.size) ∨ (∃ h0:0 < s.size,¬ (s[0].toNat:Int)=c.toNat∧er=false∧s1=s) ∨ (¬ 0 < s.size∧er=false∧s1=s):=by
 by_cases h0:0 < s.size
 ·rw [data_cons s h0] at h
  unfold cutB at h
  simp only at h
  by_cases hc:s[0]=c
  ·rw [if_pos hc] at h
   obtain ⟨e1,e2⟩:=Prod.mk.inj h
   exact .inl ⟨h0,by rw [hc],e1.symm,(ba_eq e2).symm⟩
  ·rw [if_neg hc,← data_cons s h0] at h
   obtain ⟨e1,e2⟩:=Prod.mk.inj h
   exact .inr (.inl ⟨h0,fun e=>hc (UInt8.toNat_inj.1 (by omega)),e1.symm,(ba_eq e2).symm⟩)
 ·have hn:s.data.toList=[]:=List.eq_nil_of_length_eq_zero (by rw [← Lib.size_eq]; omega)
  rw [hn] at h
  obtain ⟨e1,e2⟩:=Prod.mk.inj h
  exact .inr (.inr ⟨h0,e1.symm,(ba_eq (hn.trans e2)).symm⟩)
theorem rreadType_any (s:ByteArray) (w:World) (hs:s.size ≤ 4611686018427387904):Calls Tryz.prog 13 #[.string s] w fun e w'=>e=.returned (.tuple #[.agg (tyA (rdE s.data.toList).1),.int .i64 (rdE s.data.toList).2])∧Ext w w':=by
 have HZ:Hid ((Tryz.prog.info? 30).map (·.size)=some 5):=by unfold Hid; kernel_rfl
 rw [rdE_eq]
 obtain ⟨er,r1,hp⟩:∃ a b,cutB s.data.toList 33=(a,b):=⟨_,_,rfl⟩
 rw [hp]
 simp only
 obtain ⟨s1,rfl⟩:∃ s1:ByteArray,s1.data.toList=r1:=⟨⟨r1.toArray⟩,by simp⟩
 obtain ⟨op,r2,hq⟩:∃ a b,cutB s1.data.toList 63=(a,b):=⟨_,_,rfl⟩
 rw [hq]
 simp only
 obtain ⟨s2,rfl⟩:∃ s2:ByteArray,s2.data.toList=r2:=⟨⟨r2.toArray⟩,by simp⟩
 rw [show (⟨s2.data.toList.toArray⟩:ByteArray)=s2 by simp]
 have H1:=Lib.hid (cut_s hp)
 have H2:=Lib.hid (cut_s hq)
 have hs1:s1.size ≤ 4611686018427387904:=by
  have:=cutB_len s.data.toList 33
  rw [hp] at this
  rw [Lib.size_eq] at hs ⊢
  exact Nat.le_trans this hs
 clear hp hq
 obtain ⟨⟨ba,bb,bn,bo,be⟩,ok,hbs⟩:∃ b k,baseS s2=(b,k):=⟨_,_,rfl⟩
 rw [hbs]
 simp only
 generalize hit:isTypeS ⟨ba,bb,bn,op,er⟩=it at *
 obtain ⟨T,kk,hT⟩:∃ T k,(if ok=true∧it=true then ((⟨ba,bb,bn,op,er⟩,0):Ty × Int) else (tZ,2))=(T,k):=⟨_,_,rfl⟩
 rw [hT]
 have HT:=Lib.hid hT
 clear hT
 have B0:Hid (Blk (w.alloc (.cells zTy 30)) w.heap.size 30 zTy):=Blk.new w _ zTy
 go_enter Tryz.func13,Tryz.ntmps13
 go_upto_region 3 with fail
 go_cut [17] from 10 to 17 (fun c wx=>c=.bool er∧wx=w.alloc (.cells zTy 30))
 case first =>
  clear hit hbs B0
  rcases H1.out with ⟨h0,hc,rfl,rfl⟩ | ⟨h0,hc,rfl,rfl⟩ | ⟨h0,rfl,rfl⟩
  all_goals
   clear H1 H2
   (try have hc':(s[0].toNat:Int)=33:=hc)
   (try have hc':¬ (s[0].toNat:Int)=33:=hc)
   clear hs1
   go_wp2_with fail
   all_goals
    go_meet
    exact ⟨congrArg Value.bool (by first | rfl | exact beq_eq_false_iff_ne.2 hc),rfl⟩
 case rest =>
 obtain ⟨rfl,rfl⟩:=hcut
 go_upto_if 17 with fail
 go_cut [4,5] from 18 to 20 (fun a b wx=>a=.string s1∧b=.bool er∧wx=w.alloc (.cells zTy 30))
 case first =>
  clear hit hbs B0
  rcases H1.out with ⟨h0,hc,rfl,rfl⟩ | ⟨h0,hc,rfl,rfl⟩ | ⟨h0,rfl,rfl⟩
  all_goals
   clear H1 H2
   go_wp2_with fail
   go_meet
   exact ⟨rfl,rfl,rfl⟩
 case rest =>
 obtain ⟨rfl,rfl,rfl⟩:=hcut
 go_upto_region 6 with fail
 go_cut [27] from 20 to 27 (fun c wx=>c=.bool op∧wx=w.alloc (.cells zTy 30))
 case first =>
  clear hit hbs B0
  rcases H2.out with ⟨h0,hc,rfl,rfl⟩ | ⟨h0,hc,rfl,rfl⟩ | ⟨h0,rfl,rfl⟩
  all_goals
   clear H1 H2
   (try have hc':(s1[0].toNat:Int)=63:=hc)
   (try have hc':¬ (s1[0].toNat:Int)=63:=hc)
   clear hs1
   go_wp2_with fail
   all_goals
    go_meet
    exact ⟨congrArg Value.bool (by first | rfl | exact beq_eq_false_iff_ne.2 hc),rfl⟩
 case rest =>
 obtain ⟨rfl,rfl⟩:=hcut
 go_upto_if 27 with fail
 go_cut [4,6] from 28 to 30 (fun a b wx=>a=.string s2∧b=.bool op∧wx=w.alloc (.cells zTy 30))
 case first =>
  clear hit hbs B0
  rcases H2.out with ⟨h0,hc,rfl,rfl⟩ | ⟨h0,hc,rfl,rfl⟩ | ⟨h0,rfl,rfl⟩
  all_goals
   clear H1 H2
   go_wp2_with fail
   go_meet
   exact ⟨rfl,rfl,rfl⟩
 case rest =>
 obtain ⟨rfl,rfl,rfl⟩:=hcut
 clear H1 H2 hs hs1
 cases ok
 ·obtain ⟨rfl,rfl⟩:=Prod.mk.inj ((if_neg (by simp)).symm.trans HT.out)
  go_wp2_with (first
   | (go_at_call 33; refine (rbased_any _ _).mono ?_; rw [hbs]; simp only [tyA]; rintro r w2 ⟨rfl,x2⟩; have y2:=x2.facts; have z2:=x2.z0; have x4:=x2.alloc (.cells #[.int .i64 ba,.int .i64 bb,.string bn,.bool op,.bool er] 30))
   | ((with_reducible show wpList _ _ _ (Oper.mk none (.store 30 (.tmp 2) _) _ _ _ _ :: _) _ _); refine wpList_store_row rfl _ _ _ rfl w.heap.size rfl _ zTy (tyA tZ) (B0.out.ext x4) rfl rfl (tyA_one _) HZ.out ?_))
  exact bodyPost_ret (results_row_tmp rfl _ _ w.heap.size _ (tyA tZ) (0,0) _ rfl ((B0.out.ext x4).row _) Tryz.underlying30 rfl HZ.out _ rfl) rfl ⟨rfl,(((Ext.refl w).alloc _).trans x4).setRow (Nat.le_refl _) _⟩
 cases it
 ·obtain ⟨rfl,rfl⟩:=Prod.mk.inj ((if_neg (by simp)).symm.trans HT.out)
  go_wp2_with (first
   | (go_at_call 33; refine (rbased_any _ _).mono ?_; rw [hbs]; simp only [tyA]; rintro r w2 ⟨rfl,x2⟩; have y2:=x2.facts; have z2:=x2.z0; have x4:=x2.alloc (.cells #[.int .i64 ba,.int .i64 bb,.string bn,.bool op,.bool er] 30))
   | (go_at_call 34; refine (refIsType_any _ _ _ _ _ _).mono ?_; rw [hit]; rintro r w3 ⟨rfl,x3⟩; have x4:=(x2.alloc _).trans x3; have B3:=Lib.hid ((Blk.new w2 30 #[.int .i64 ba,.int .i64 bb,.string bn,.bool op,.bool er]).ext x3); have q0:w3.cell? ⟨w2.heap.size,0,none⟩=some (.int .i64 ba):=B3.out.cell 0; have q1:w3.cell? ⟨w2.heap.size,1,none⟩=some (.int .i64 bb):=B3.out.cell 1; have q2:w3.cell? ⟨w2.heap.size,2,none⟩=some (.string bn):=B3.out.cell 2; have q3:w3.cell? ⟨w2.heap.size,3,none⟩=some (.bool op):=B3.out.cell 3; have q4:w3.cell? ⟨w2.heap.size,4,none⟩=some (.bool er):=B3.out.cell 4)
   | ((with_reducible show wpList _ _ _ (Oper.mk none (.store 30 (.tmp 2) _) _ _ _ _ :: _) _ _); refine wpList_store_row rfl _ _ _ rfl w.heap.size rfl _ zTy (tyA tZ) (B0.out.ext x4) rfl rfl (tyA_one _) HZ.out ?_))
  exact bodyPost_ret (results_row_tmp rfl _ _ w.heap.size _ (tyA tZ) (0,0) _ rfl ((B0.out.ext x4).row _) Tryz.underlying30 rfl HZ.out _ rfl) rfl ⟨rfl,(((Ext.refl w).alloc _).trans x4).setRow (Nat.le_refl _) _⟩
 ·obtain ⟨rfl,rfl⟩:=Prod.mk.inj ((if_pos (by simp)).symm.trans HT.out)
  go_wp2_with (first
   | (go_at_call 33; refine (rbased_any _ _).mono ?_; rw [hbs]; simp only [tyA]; rintro r w2 ⟨rfl,x2⟩; have y2:=x2.facts; have z2:=x2.z0; have x4:=x2.alloc (.cells #[.int .i64 ba,.int .i64 bb,.string bn,.bool op,.bool er] 30))
   | (go_at_call 34; refine (refIsType_any _ _ _ _ _ _).mono ?_; rw [hit]; rintro r w3 ⟨rfl,x3⟩; have x4:=(x2.alloc _).trans x3; have B3:=Lib.hid ((Blk.new w2 30 #[.int .i64 ba,.int .i64 bb,.string bn,.bool op,.bool er]).ext x3); have q0:w3.cell? ⟨w2.heap.size,0,none⟩=some (.int .i64 ba):=B3.out.cell 0; have q1:w3.cell? ⟨w2.heap.size,1,none⟩=some (.int .i64 bb):=B3.out.cell 1; have q2:w3.cell? ⟨w2.heap.size,2,none⟩=some (.string bn):=B3.out.cell 2; have q3:w3.cell? ⟨w2.heap.size,3,none⟩=some (.bool op):=B3.out.cell 3; have q4:w3.cell? ⟨w2.heap.size,4,none⟩=some (.bool er):=B3.out.cell 4)
   | ((with_reducible show wpList _ _ _ (Oper.mk none (.store 30 (.tmp 2) _) _ _ _ _ :: _) _ _); refine wpList_store_row rfl _ _ _ rfl w.heap.size rfl _ zTy (tyA ⟨ba,bb,bn,op,er⟩) (B0.out.ext x4) rfl rfl (tyA_one _) HZ.out ?_))
  exact bodyPost_ret (results_row_tmp rfl _ _ w.heap.size _ (tyA ⟨ba,bb,bn,op,er⟩) (0,0) _ rfl ((B0.out.ext x4).row _) Tryz.underlying30 rfl HZ.out _ rfl) rfl ⟨rfl,(((Ext.refl w).alloc _).trans x4).setRow (Nat.le_refl _) _⟩
end Go.Proofs.YtobfbfbjccmbiaaGreatDoor.c
