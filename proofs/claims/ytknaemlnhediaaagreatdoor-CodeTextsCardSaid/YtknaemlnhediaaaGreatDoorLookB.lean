/- Contracts of code.look's closures: bad, reach. Conditions: lengths. -/
import Derived.Test.YtknaemlnhediaaaGreatDoorLook
namespace Go.Proofs.YtknaemlnhediaaaGreatDoor.c
open Go.RowKit
set_option linter.unusedVariables false
set_option maxRecDepth 100000
set_option maxHeartbeats 1600000
set_option linter.unusedSimpArgs false
theorem enters_bad:Enters 188 := Enters.of Tryz.func188 (by kernel_rfl) (by kernel_rfl)
theorem enters_reach:Enters 189 := Enters.of Tryz.func189 (by kernel_rfl) (by kernel_rfl)
theorem info_point:(Tryz.prog.info? 210).map (fun i=>(i.zero,i.size,i.bytes))=some (some (.agg #[.int .i64 0,.int .i64 0]),2,16):=by kernel_rfl
theorem zero_bool (w:World):(zeroValue 4).run Tryz.prog w=.ok (.bool false) w:=by kernel_rfl
theorem zero_int (w:World):(zeroValue 3).run Tryz.prog w=.ok (.int .i64 0) w:=by kernel_rfl
theorem bad_any (w0 w:World) (f:Fc) (v:Value) (S T:List (Int × Int)) (H:Int → Option Int) (wr at':Int) (s:LkSt w0 w f v S T H wr) :
  Calls Tryz.prog 188 #[.int .i64 at',.pointer (some ⟨w0.heap.size + 6,0,none⟩)] w fun e w'=>e=.returned (.tuple #[])∧LkSt w0 w' f v S T H (minS wr at')∧LkKeep w0 w w' v v∧w.heap.size ≤ w'.heap.size:=by
 have c6:=s.wcell.cell 0
 have f6:=s.wcell.frozen 0
 have sz:=s.sz
 have HS:=Lib.hid s
 clear s
 simp only [List.getElem?_toArray,List.getElem?_cons_zero] at c6
 go_enter Tryz.func188,Tryz.ntmps188
 go_wp2
 all_goals
  go_end0
  first
   | exact ⟨rfl,(by rw [show minS wr at'=at' from by simp [minS, *]]; exact HS.out.wrong at'),LkKeep.wrong _,by simp⟩
   | exact ⟨rfl,(by rw [show minS wr at'=wr from by (unfold minS; rw [decide_eq_false (by omega),decide_eq_false (by omega)]; rfl)]; exact HS.out),LkKeep.ext (Ext.refl _),Nat.le_refl _⟩
theorem reach_any (w0 w:World) (f:Fc) (v:Value) (S T:List (Int × Int)) (H:Int → Option Int) (wr a ht:Int) (s:LkSt w0 w f v S T H wr) (hT:T.length ≤ 1000000) (ha0:0 ≤ a) (ha1:a ≤ 1000000) (hh0:0 ≤ ht) (hh1:ht ≤ 1000000) :
  Calls Tryz.prog 189 #[.agg #[.int .i64 a,.int .i64 ht],.pointer (some ⟨w0.heap.size + 2,0,none⟩),.pointer (some ⟨w0.heap.size + 5,0,none⟩)] w fun e w'=>e=.returned (.tuple #[]) ∧
   ∃ v',LkSt w0 w' f v' (addS S (a,ht)) (addT S T (a,ht)) H wr∧LkKeep w0 w w' v v'∧w.heap.size ≤ w'.heap.size:=by
 have c2:=s.scell.cell 0
 have c5:=s.tcell.cell 0
 have f5:=s.tcell.frozen 0
 have sz:=s.sz
 obtain ⟨lk,hkey⟩:=keyOf_pt (a:=a) (h:=ht) (by omega) (by omega) (by omega) (by omega)
 have z2:w0.heap.size + 2 < w.heap.size:=by omega
 have z5:w0.heap.size + 5 < w.heap.size:=by omega
 have HK:=Lib.hid hkey
 have HS:=Lib.hid s
 clear s hkey
 simp only [List.getElem?_toArray,List.getElem?_cons_zero] at c2 c5
 by_cases hm:(a,ht) ∈ S
 ·have hrun:(Instr.lookup 184 (.map (some (w0.heap.size + 1))) (.agg #[.int .i64 a,.int .i64 ht]) false).run Tryz.prog (w.alloc (.cells #[.int .i64 a,.int .i64 ht] 210))=.ok (.bool true) (w.alloc (.cells #[.int .i64 a,.int .i64 ht] 210)):=by
   obtain ⟨n,hn⟩:=(HS.out.alloc (.cells #[.int .i64 a,.int .i64 ht] 210)).seen
   rw [hn.look key_point Tryz.underlying184 zero_bool HK.out false,show seenV S (.agg #[.int .i64 a,.int .i64 ht])=some (.bool true) from seenV_in hm]
   rfl
  have HM:=Lib.hid hm
  clear hm
  go_enter Tryz.func189,Tryz.ntmps189
  go_wp2_with fail
  go_end0
  rw [addS_in HM.out,addT_in HM.out]
  exact ⟨rfl,v,HS.out.alloc _,LkKeep.alloc _,by simp⟩
 ·have hrun:(Instr.lookup 184 (.map (some (w0.heap.size + 1))) (.agg #[.int .i64 a,.int .i64 ht]) false).run Tryz.prog (w.alloc (.cells #[.int .i64 a,.int .i64 ht] 210))=.ok (.bool false) (w.alloc (.cells #[.int .i64 a,.int .i64 ht] 210)):=by
   obtain ⟨n,hn⟩:=(HS.out.alloc (.cells #[.int .i64 a,.int .i64 ht] 210)).seen
   rw [hn.look key_point Tryz.underlying184 zero_bool HK.out false,show seenV S (.agg #[.int .i64 a,.int .i64 ht])=none from seenV_out hm]
   rfl
  obtain ⟨i0,hi0,hz0,hz1,hz2⟩:=info_parts info_point
  have HI:=Lib.hid hi0; have HZ0:=Lib.hid hz0; have HZ1:=Lib.hid hz1; have HZ2:=Lib.hid hz2
  clear hi0 hz0 hz1 hz2
  have HM:=Lib.hid hm
  clear hm
  obtain ⟨n,hn⟩:=(HS.out.alloc (.cells #[.int .i64 a,.int .i64 ht] 210)).seen
  have HN:=Lib.hid hn
  clear hn
  have HPB:=Lib.hid (Blk.new w 210 #[.int .i64 a,.int .i64 ht])
  have zp:w.heap.size ≠ w0.heap.size + 1:=by omega
  go_enter Tryz.func189,Tryz.ntmps189
  go_wp2_with (first
   | (at_mapUpdate; refine wpList_store_map rfl _ _ _ 184 (.inl rfl) (V':=seenV ((a,ht) :: S)) key_point Tryz.underlying184 HN.out rfl (key:=.agg #[.int .i64 a,.int .i64 ht]) rfl rfl HK.out (seenV_in (List.mem_cons_self ..)) (fun x hx=>seenV_cons hx) ?_
      intro w1 m1 g1 s1
      have ST:Hid (LkSt w0 w1 f v ((a,ht) :: S) T H wr):=(HS.out.alloc _).mapped g1 (.inl rfl) ⟨_,m1⟩ (let ⟨m,hm⟩:=(HS.out.alloc _).hts; ⟨m,hm.grown g1 (by simp)⟩)
      have e5:=ST.out.tcell.cell 0
      have pb:=HPB.out.grown g1 (by simp; omega)
      have d0:=pb.cell 0
      have d1:=pb.cell 1
      have z9:w.heap.size < w1.heap.size:=pb.lt
      have z8:w0.heap.size + 5 < w1.heap.size:=ST.out.tcell.lt
      have HG1:=Lib.hid g1
      have HKP:=Lib.hid ((LkKeep.alloc (w0:=w0) (w:=w) (v:=v) (.cells #[.int .i64 a,.int .i64 ht] 210)).trans (LkKeep.mapped g1 (.inl rfl)))
      clear m1 g1 pb s1
      simp only [List.getElem?_toArray,List.getElem?_cons_zero,List.getElem?_cons_succ] at e5 d0 d1)
   | (at_builtin; refine wpList_push rfl _ _ 234 rfl 210 i0 _ Tryz.underlying234 HI.out HZ0.out HZ1.out HZ2.out rfl (ST.out.alloc _).que rfl hT ⟨w1.heap.size,0,none⟩ 1 a ht rfl (World.news_of_block (cs:=#[.int .i64 a,.int .i64 ht]) (heap_alloc_new w1 _)) (by simp; omega) ?_
      intro v2 w2 q2 g2 o2
      have S2:Hid (LkSt w0 (w2.setCell ⟨w0.heap.size + 5,0,none⟩ v2) f v2 ((a,ht) :: S) (T ++ [(a,ht)]) H wr):=(ST.out.alloc _).pushed g2 q2 o2
      have K2:Hid (LkKeep w0 (w1.alloc (.cells #[.int .i64 a,.int .i64 ht] 210)) (w2.setCell ⟨w0.heap.size + 5,0,none⟩ v2) v v2):=LkKeep.pushed g2 o2
      have bb:=(ST.out.alloc (.cells #[.int .i64 a,.int .i64 ht] 210)).tcell.grown g2 (fun e=>(ST.out.alloc (.cells #[.int .i64 a,.int .i64 ht] 210)).qne.1 e.symm)
      have b0:=bb.cell 0
      have b1:=bb.frozen 0
      have b2:=g2.size
      obtain ⟨gq,oq,cq,hv2,_,_,_⟩:=q2.slice
      clear bb q2 g2 o2
      generalize (T ++ [(a,ht)]).length=nq at hv2
      subst hv2
      simp only [List.getElem?_toArray,List.getElem?_cons_zero,List.getElem?_cons_succ] at b0))
  go_end0
  rw [addS_out HM.out,addT_out HM.out]
  exact ⟨rfl,_,S2.out,HKP.out.trans ((LkKeep.alloc _).trans K2.out),by have:=HG1.out.size; simp at *; omega⟩
end Go.Proofs.YtknaemlnhediaaaGreatDoor.c
