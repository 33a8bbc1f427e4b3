/- tree.copyBlock: the same statements in new memory that may be written. Condition: what is copied lies in elder memory. -/
import Derived.Test.YtmmnhbhnjiajhaaGreatDoorSYd
import Derived.Test.YtmmnhbhnjiajhaaGreatDoorSUi
namespace Go.Proofs.YtmmnhbhnjiajhaaGreatDoor.c
open Go.RowKit
set_option linter.unusedVariables false
set_option maxRecDepth 100000
set_option maxHeartbeats 6400000
set_option linter.unusedSimpArgs false
section
variable {ops:Array Oper} {rest:List Oper} {o:Oper} {a:Act} {Q:Exit → Act → World → Prop} {w:World}
theorem wpList_bsB (hgd:o.guard=none) (x:Operand) (ho:o.op=.buildSlice 41 1 #[(0,x)]) (A:Option Addr) (n c:Nat) (hx:a.eval x=.slice A n c) (h:wpList Tryz.prog ops Q rest (a.put o.dst (.slice (some ⟨w.heap.size,0,none⟩) 1 1)) (w.alloc (.cells #[.slice A n c] 34))):wpList Tryz.prog ops Q (o :: rest) a w :=
 wpList_plain hgd fun _ hK=>wp_bsB x ho A n c hx (hK _ _ h)
theorem wpList_bsC (hgd:o.guard=none) (x:Operand) (ho:o.op=.buildSlice 42 1 #[(0,x)]) (d e f:Value) (hx:a.eval x=.agg #[d,e,f]) (h:wpList Tryz.prog ops Q rest (a.put o.dst (.slice (some ⟨w.heap.size,0,none⟩) 1 1)) (w.alloc (.cells #[d,e,f] 101))):wpList Tryz.prog ops Q (o :: rest) a w :=
 wpList_plain hgd fun _ hK=>wp_bsC x ho d e f hx (hK _ _ h)
end
theorem nv_bl2 {V:Vw} {b:Nd} {vb:Value} (h:Sl V vb b 1):Nv V 2 (.bl b .nil) #[vb]:=⟨⟨rfl,vb,[],rfl,h,rfl⟩,rfl⟩
theorem nv_ca2 {V:Vw} {lo hi:Int} {b:Nd} {vb:Value} (h:Sl V vb b 1):Nv V 3 (.ca lo hi b .nil) #[.int .i64 lo,.int .i64 hi,vb]:=⟨⟨rfl,vb,[],rfl,h,rfl⟩,rfl⟩
structure CpB (w:World) (t:TypeId) (ds:Array Value) (wr:World):Prop where
 ext:Ext w wr
 box:Blk wr w.heap.size t ds
theorem CpB.to {w wr w2:World} {t:TypeId} {ds:Array Value} (h:CpB w t ds wr) (y:Ext wr w2):CpB w t ds w2:=⟨h.ext.trans y,h.box.ext y⟩
theorem CpB.put {w wr:World} {t:TypeId} {ds:Array Value} (h:CpB w t ds wr) (i:Nat) (u:Value):CpB w t (ds.setIfInBounds i u) (wr.setCell ⟨w.heap.size,i,none⟩ u) :=
 ⟨h.ext.setCell (p:=⟨w.heap.size,i,none⟩) (Nat.le_refl _) u,h.box.set_ i u⟩
theorem CpB.new (w:World) (t:TypeId) (zs ds:Array Value):CpB w t ds ((w.alloc (.cells zs t)).setRow w.heap.size ds):=⟨(newRow w t zs ds).1,(newRow w t zs ds).2⟩
theorem far_set {w:World} {g lo i:Nat} (u:Value) (h:g < lo):∀ b,lo ≤ b → b < w.heap.size → (w.setCell ⟨g,i,none⟩ u).heap[b]?=w.heap[b]?:=fun b hb _=>Below.heap_setCell _ _ _ _ (by show b ≠ g; omega)
theorem cpb_step {n:Nat} (ihE:CPE n) (ihB:CPB n):CPB (n + 1):=by
 intro x hsz hlw w v p hp hsl
 have HZ:Hid ((Tryz.prog.info? 44).map (·.size)=some 10):=by unfold Hid; kernel_rfl
 have HC3:Hid ((Tryz.prog.info? 101).map (·.size)=some 3):=by unfold Hid; kernel_rfl
 obtain ⟨A,c,rfl,la⟩:=hsl.lp
 have hby:x.len * 136 ≤ 140737488355328:=hsl.bytes hlw
 generalize hN:x.len=N at *
 have HLW:=Lib.hid hlw
 have C0:Hid (CpL p 44 1 w A N 0 x x sl0 .nil w):=CpL.init la
 have HP:=Lib.hid hp
 have HN:=Lib.hid hN
 have hxs:x.sz ≤ n:=by omega
 clear la hsl hN hp hsz hlw
 go_enter Tryz.func39,Tryz.ntmps39
 go_wp2_with fail
 go_loopw [3,14] (fun v u wr=>∃ (i:Nat) (r acc:Nd),u=.int .i64 i∧Hid (CpL p 44 1 w A N i x r v acc wr)∧r.sz ≤ n) (fun _ u _=>N - (intOf u).toNat)
 case atStart=>exact ⟨0,x,.nil,rfl,C0,hxs⟩
 case round =>
  clear C0
  obtain ⟨i,r,acc,rfl,K,hrz⟩:=hrel
  by_cases hlt:i < N
  ·have hrl:0 < r.len:=by have:=K.out.L.1; omega
   obtain ⟨op,nm,ty,es,bs,cs,tl,rfl⟩:∃ o n t a b c r',r=.st o n t a b c r':=by
    obtain ⟨_,xs,_,_,he⟩:=K.out.L
    exact he.st1 hrl
   obtain ⟨bb,o,ds,hA,hnv,hc,_⟩:=K.out.L.step hlt
   obtain ⟨va,vb,vc,hds,ha,hb,hcs⟩:=nv_stI hnv
   obtain rfl:ds=stC op nm ty va vb vc:=hds
   have hltI:(i:Int) < (N:Int):=by omega
   have hwi:wrap64 ((i:Int) + 1)=(i:Int) + 1:=IntWalk.wrap64_in _ (by omega)
   have hz1:es.sz < n∧bs.sz < n∧cs.sz < n∧tl.sz ≤ n:=by simp only [Nd.sz] at hrz; omega
   have hal:(acc.len + 1) * 136 ≤ 140737488355328:=by have:=K.out.room hlt; have:=HN.out; omega
   have hlr:=K.out.lw HLW.out
   have HLE:=Lib.hid (show LW es from hlr.2.1)
   have HLB:=Lib.hid (show LW bs from hlr.2.2.1)
   have HLC:=Lib.hid (show LW cs from hlr.2.2.2.1)
   have HL:Hid (bs.len * 24 ≤ 140737488355328∧cs.len * 40 ≤ 140737488355328):=⟨hb.bytes HLB.out,hcs.bytes HLC.out⟩
   clear hlr
   obtain ⟨A2,c2,rfl,_⟩:=hb.lp
   obtain ⟨A3,c3,rfl,_⟩:=hcs.lp
   have NV:=Lib.hid hnv
   have HC:=Lib.hid hc
   have Ha:=Lib.hid ha
   have Hb:=Lib.hid hb
   have Hc:=Lib.hid hcs
   subst hA
   clear hnv hc hrz ha hb hcs
   go_wp2_with (first
    | ((with_reducible show wpList _ _ _ (Oper.mk (some 17) (.load 44 (.tmp 16)) _ _ _ _ :: _) _ _); refine wpList_load_mid rfl _ _ rfl _ _ rfl (stC op nm ty va (.slice A2 bs.len c2) (.slice A3 cs.len c3)).toList _ (fun j v hv=>(vp_some (HC.out j v hv)).2) Tryz.underlying44 rfl HZ.out ?_; rw [Array.toArray_toList])
    | ((with_reducible show wpList _ _ _ (Oper.mk none (.store 44 (.tmp 5) _) _ _ _ _ :: _) _ _); refine wpList_store_row rfl _ _ _ rfl wr.heap.size rfl 44 zSt (stC op nm ty va (.slice A2 bs.len c2) (.slice A3 cs.len c3)) (Blk.new wr _ zSt) rfl NV.out.size NV.out.one HZ.out ?_; refine nmW fun w3 hw3=>?_
       have B3:Hid (CpB wr 44 (stC op nm ty va (.slice A2 bs.len c2) (.slice A3 cs.len c3)) w3):=by rw [← hw3]; exact CpB.new wr _ zSt _
       have hz3:w3.heap.size=wr.heap.size + 1:=by rw [← hw3]; simp
       have q7:w3.cell? ⟨wr.heap.size,7,none⟩=some va:=B3.out.box.cell 7
       clear hw3)
    | (go_at_call 75; refine (ihE es hz1.1 HLE.out _ va p (fun b hb=>Nat.lt_of_lt_of_le (HP.out b hb) (K.out.ext.trans B3.out.ext).size) (Ha.out.mono (vp_ext B3.out.ext))).mono ?_; rintro e w4 ⟨ua,rfl,hua,x4⟩
       obtain ⟨Aa,na,ka,rfl,_⟩:=Sl.shape hua
       have B4:=Lib.hid (B3.out.to x4)
       have hz4:=x4.size
       have q7':w4.cell? ⟨wr.heap.size,7,none⟩=some va:=B4.out.box.cell 7
       have qf:=B4.out.box.frozen
       have hl4:=B4.out.box.lt
       have B5:Hid (CpB wr 44 (stC op nm ty (.slice Aa na ka) (.slice A2 bs.len c2) (.slice A3 cs.len c3)) (w4.setCell ⟨wr.heap.size,7,none⟩ (.slice Aa na ka))):=B4.out.put 7 (.slice Aa na ka)
       have q8:(w4.setCell ⟨wr.heap.size,7,none⟩ (.slice Aa na ka)).cell? ⟨wr.heap.size,8,none⟩=some (.slice A2 bs.len c2):=B5.out.box.cell 8))
   obtain ⟨wo,rfl⟩:∃ wo,wo=wr:=⟨wr,rfl⟩
   have U5:Hid (Sl (vp (fz (wo.heap.size + 1) (w4.setCell ⟨wo.heap.size,7,none⟩ (.slice Aa na ka))) (w4.setCell ⟨wo.heap.size,7,none⟩ (.slice Aa na ka))) (.slice Aa na ka) es 0):=by
    rw [hz3] at hua
    exact hua.fk (far_set (.slice Aa na ka) (Nat.lt_succ_self _)) (Nat.le_refl _)
   have hz5:wo.heap.size + 1 ≤ (w4.setCell ⟨wo.heap.size,7,none⟩ (.slice Aa na ka)).heap.size:=by rw [setCell_sz]; omega
   clear q7 q7' qf hl4 q8 hua B4 B3 x4 hz4 hz3
   generalize w4.setCell ⟨wo.heap.size,7,none⟩ (.slice Aa na ka)=wb at B5 U5 hz5 ⊢
   have L2:Hid (CpL p 34 2 wb A2 bs.len 0 bs bs sl0 .nil wb):=by
    obtain ⟨A2',c2',e2,l2⟩:=(Hb.out.mono (vp_ext B5.out.ext)).lp
    cases e2
    exact CpL.init l2
   have HPb:Hid (∀ b,p b → b < wb.heap.size):=fun b hb=>Nat.lt_of_lt_of_le (HP.out b hb) (K.out.ext.trans B5.out.ext).size
   go_loopw [6,25] (fun v2 u wr=>∃ (j:Nat) (rb acc2:Nd),u=.int .i64 j∧Hid (CpL p 34 2 wb A2 bs.len j bs rb v2 acc2 wr)∧rb.sz ≤ bs.sz) (fun _ u _=>bs.len - (intOf u).toNat)
   case atStart=>exact ⟨0,bs,.nil,rfl,L2,Nat.le_refl _⟩
   case round =>
    clear L2
    obtain ⟨j,rb,acc2,rfl,K2,hrz⟩:=hrel
    by_cases hlj:j < bs.len
    ·have hrl:0 < rb.len:=by have:=K2.out.L.1; omega
     obtain ⟨body,rt,rfl⟩:∃ b r',rb=.bl b r':=by
      obtain ⟨_,ys,_,_,he⟩:=K2.out.L
      exact he.bl1 hrl
     obtain ⟨b2,o2,xs,hA2,hnv,hc,_⟩:=K2.out.L.step hlj
     obtain ⟨vk,rfl,hbody⟩:=nv_blI hnv
     have hljI:(j:Int) < (bs.len:Int):=by omega
     have hrs:body.sz < n∧rt.sz ≤ bs.sz:=by simp only [Nd.sz] at hrz; omega
     have hwj:wrap64 ((j:Int) + 1)=(j:Int) + 1:=IntWalk.wrap64_in _ (by have:=HL.out; omega)
     have qk:wr.cell? ⟨b2,o2 + j,none⟩=some vk:=by have:=(vp_some (hc 0 vk rfl)).2; rwa [show o2 + j * szK 2 + 0=o2 + j from (congrArg (o2 + ·) (Nat.mul_one j))] at this
     have HB:=Lib.hid hbody
     have hal2:(acc2.len + 1) * 24 ≤ 140737488355328:=by have:=K2.out.room hlj; have:=HL.out; omega
     have HLBD:=Lib.hid (show LW body from (K2.out.lw HLB.out).2.1)
     clear hnv hc hrz hbody
     subst hA2
     go_wp2_with (first
      | (go_at_call 39; refine (ihB body hrs.1 HLBD.out wr vk p (fun b hb=>Nat.lt_of_lt_of_le (HPb.out b hb) K2.out.ext.size) HB.out).mono ?_; rintro e w5 ⟨u,rfl,hu,x5⟩; obtain ⟨Au,nu,cu,rfl,_⟩:=Sl.shape hu)
      | ((with_reducible show wpList _ _ _ (Oper.mk (some 32) (.buildSlice _ _ _) _ _ _ _ :: _) _ _); refine wpList_bsB rfl _ rfl Au nu cu rfl ?_)
      | ((with_reducible show wpList _ _ _ (Oper.mk (some 33) (.call _) _ _ _ _ :: _) _ _)
         have C4:=Lib.hid (K2.out.to (x5.alloc (.cells #[.slice Au nu cu] 34)))
         obtain ⟨ys,o1,o3⟩:=C4.out.gz
         refine wpList_app2 Tryz.underlying41 infoBl rfl (by decide) (by decide) rfl _ _ rfl wb.heap.size _ acc2.len ys rfl o1 _ _ #[.slice Au nu cu] rfl (Blk.new w5 _ _) rfl (nv_bl2 hu).one hal2 C4.out.ext.size ?_
         intro v' w' r1 r2 r3))
     go_roundw
     case rel=>exact ⟨j + 1,rt,acc2.app (.bl body .nil),by first | rfl | (rw [hwj]; rfl),C4.out.put hlj HPb.out o1 o3 ((nv_bl2 hu).fx ((Ext.refl w5).alloc _) (Nat.le_refl _)) K2.out.ext.size (fun g hg=>(K2.out.gz.own_lt hg).2) r1 r2 r3,hrs.2⟩
     case measure=>(try rw [hwj]); rw [iof_succ,iof_nat]; exact Nat.sub_lt_sub_left hlj (Nat.lt_succ_self j)
    ·obtain rfl:=K2.out.L.fin hlj
     have hljI:¬ (j:Int) < (bs.len:Int):=by omega
     have B6:=Lib.hid (B5.out.to K2.out.ext)
     have q9:wr.cell? ⟨wo.heap.size,9,none⟩=some (.slice A3 cs.len c3):=B6.out.box.cell 9
     have U6:=Lib.hid (U5.out.fx K2.out.ext (Nat.le_refl _))
     have V6:=Lib.hid (K2.out.fin)
     have hz6:wo.heap.size + 1 ≤ wr.heap.size:=Nat.le_trans hz5 K2.out.ext.size
     have HPd:Hid (∀ b,p b → b < wr.heap.size):=fun b hb=>Nat.lt_of_lt_of_le (HPb.out b hb) K2.out.ext.size
     have L3:Hid (CpL p 101 3 wr A3 cs.len 0 cs cs sl0 .nil wr):=by
      obtain ⟨A3',c3',e3,l3⟩:=(Hc.out.mono (vp_ext B6.out.ext)).lp
      cases e3
      exact CpL.init l3
     clear U5 hrz
     go_wp2_with fail
     clear q9
     rename_i ub
     obtain ⟨wd,rfl⟩:∃ wd,wd=wr:=⟨wr,rfl⟩
     go_loopw [9,38] (fun v3 u wr=>∃ (j:Nat) (rc acc3:Nd),u=.int .i64 j∧Hid (CpL p 101 3 wd A3 cs.len j cs rc v3 acc3 wr)∧rc.sz ≤ cs.sz) (fun _ u _=>cs.len - (intOf u).toNat)
     case atStart=>exact ⟨0,cs,.nil,rfl,L3,Nat.le_refl _⟩
     case round =>
      clear L3
      obtain ⟨j,rc,acc3,rfl,K3,hrz⟩:=hrel
      by_cases hlj:j < cs.len
      ·have hrl:0 < rc.len:=by have:=K3.out.L.1; omega
       obtain ⟨lo,up,body,rt,rfl⟩:∃ l u b r',rc=.ca l u b r':=by
        obtain ⟨_,ys,_,_,he⟩:=K3.out.L
        exact he.ca1 hrl
       obtain ⟨b2,o2,xs,hA3,hnv,hc,_⟩:=K3.out.L.step hlj
       obtain ⟨vk,hxs,hbody⟩:=nv_caI hnv
       subst hxs
       have hljI:(j:Int) < (cs.len:Int):=by omega
       have hrs:body.sz < n∧rt.sz ≤ cs.sz:=by simp only [Nd.sz] at hrz; omega
       have hwj:wrap64 ((j:Int) + 1)=(j:Int) + 1:=IntWalk.wrap64_in _ (by have:=HL.out; omega)
       have NV3:=Lib.hid hnv
       have HC4:=Lib.hid hc
       have HB:=Lib.hid hbody
       have hal3:(acc3.len + 1) * 40 ≤ 140737488355328:=by have:=K3.out.room hlj; have:=HL.out; omega
       have HLBD:=Lib.hid (show LW body from (K3.out.lw HLC.out).2.1)
       clear hnv hc hrz hbody
       subst hA3
       go_wp2_with (first
        | ((with_reducible show wpList _ _ _ (Oper.mk (some 41) (.load 101 (.tmp 40)) _ _ _ _ :: _) _ _); refine wpList_load_mid rfl _ _ rfl _ _ rfl [.int .i64 lo,.int .i64 up,vk] _ (fun j v hv=>(vp_some (HC4.out j v hv)).2) Tryz.underlying101 rfl HC3.out ?_)
        | ((with_reducible show wpList _ _ _ (Oper.mk none (.store 101 (.tmp 11) _) _ _ _ _ :: _) _ _); refine wpList_store_row rfl _ _ _ rfl wr.heap.size rfl 101 #[.int .i64 0,.int .i64 0,.slice none 0 0] #[.int .i64 lo,.int .i64 up,vk] (Blk.new wr _ _) rfl rfl NV3.out.one HC3.out ?_; refine nmW fun w3 hw3=>?_
           have D3:Hid (CpB wr 101 #[.int .i64 lo,.int .i64 up,vk] w3):=by rw [← hw3]; exact CpB.new wr _ _ _
           have hz3:w3.heap.size=wr.heap.size + 1:=by rw [← hw3]; simp
           have q2:w3.cell? ⟨wr.heap.size,2,none⟩=some vk:=D3.out.box.cell 2
           clear hw3)
        | (go_at_call 39; refine (ihB body hrs.1 HLBD.out w3 vk p (fun b hb=>Nat.lt_of_lt_of_le (HPd.out b hb) (K3.out.ext.trans D3.out.ext).size) (HB.out.mono (vp_ext D3.out.ext))).mono ?_; rintro e w5 ⟨u,rfl,hu,x5⟩
           obtain ⟨Au,nu,cu,rfl,_⟩:=Sl.shape hu
           have D5:=Lib.hid (D3.out.to x5)
           have q2':w5.cell? ⟨wr.heap.size,2,none⟩=some vk:=D5.out.box.cell 2
           have qf:=D5.out.box.frozen
           have hl5:=D5.out.box.lt
           have D6:Hid (CpB wr 101 #[.int .i64 lo,.int .i64 up,.slice Au nu cu] (w5.setCell ⟨wr.heap.size,2,none⟩ (.slice Au nu cu))):=D5.out.put 2 (.slice Au nu cu))
        | ((with_reducible show wpList _ _ _ (Oper.mk (some 47) (.load 101 (.tmp 11)) _ _ _ _ :: _) _ _); refine wpList_ldb rfl _ _ rfl wr.heap.size 101 #[.int .i64 lo,.int .i64 up,.slice Au nu cu] rfl D6.out.box _ Tryz.underlying101 rfl HC3.out ?_)
        | ((with_reducible show wpList _ _ _ (Oper.mk (some 48) (.buildSlice _ _ _) _ _ _ _ :: _) _ _); refine wpList_bsC rfl _ rfl (.int .i64 lo) (.int .i64 up) (.slice Au nu cu) rfl ?_)
        | ((with_reducible show wpList _ _ _ (Oper.mk (some 49) (.call _) _ _ _ _ :: _) _ _)
           have C4:=Lib.hid (K3.out.to (D6.out.ext.alloc (.cells #[.int .i64 lo,.int .i64 up,.slice Au nu cu] 101)))
           obtain ⟨ys,o1,o3⟩:=C4.out.gz
           refine wpList_app2 Tryz.underlying42 infoCa rfl (by decide) (by decide) rfl _ _ rfl wd.heap.size _ acc3.len ys rfl o1 _ _ #[.int .i64 lo,.int .i64 up,.slice Au nu cu] rfl (Blk.new _ _ _) rfl (nv_ca2 hu).one hal3 C4.out.ext.size ?_
           intro v' w' r1 r2 r3))
       go_roundw
       case rel =>
        rw [hz3] at hu
        exact ⟨j + 1,rt,acc3.app (.ca lo up body .nil),by first | rfl | (rw [hwj]; rfl),C4.out.put hlj HPd.out o1 o3 (((nv_ca2 hu).fk (far_set (.slice Au nu cu) (Nat.lt_succ_self _)) (Nat.le_refl _)).fx ((Ext.refl _).alloc _) (Nat.le_refl _)) (Nat.le_succ_of_le K3.out.ext.size) (fun g hg=>Nat.lt_succ_of_lt (K3.out.gz.own_lt hg).2) r1 r2 r3,hrs.2⟩
       case measure=>(try rw [hwj]); rw [iof_succ,iof_nat]; exact Nat.sub_lt_sub_left hlj (Nat.lt_succ_self j)
      ·obtain rfl:=K3.out.L.fin hlj
       have hljI:¬ (j:Int) < (cs.len:Int):=by omega
       rename_i uc
       have B8:=Lib.hid (B6.out.to K3.out.ext)
       have U8:=Lib.hid (U6.out.fx K3.out.ext (Nat.le_refl _))
       have V8:=Lib.hid (V6.out.fx K3.out.ext hz5)
       have W8:=Lib.hid (K3.out.fin.fk (lo':=wo.heap.size + 1) (fun _ _ _=>rfl) hz6)
       obtain ⟨Ab,nb,kb,rfl,_⟩:=Sl.shape V8.out
       obtain ⟨Ac,nc,kc,rfl,_⟩:=Sl.shape W8.out
       have q8:wr.cell? ⟨wo.heap.size,8,none⟩=some (.slice A2 bs.len c2):=B8.out.box.cell 8
       have q9:wr.cell? ⟨wo.heap.size,9,none⟩=some (.slice A3 cs.len c3):=B8.out.box.cell 9
       have qf:=B8.out.box.frozen
       have hl8:=B8.out.box.lt
       have B9:Hid (CpB wo 44 (stC op nm ty (.slice Aa na ka) (.slice Ab nb kb) (.slice A3 cs.len c3)) (wr.setCell ⟨wo.heap.size,8,none⟩ (.slice Ab nb kb))):=B8.out.put 8 (.slice Ab nb kb)
       have q9':(wr.setCell ⟨wo.heap.size,8,none⟩ (.slice Ab nb kb)).cell? ⟨wo.heap.size,9,none⟩=some (.slice A3 cs.len c3):=B9.out.box.cell 9
       have qf9:=B9.out.box.frozen
       have hl9:=B9.out.box.lt
       have B10:Hid (CpB wo 44 (stC op nm ty (.slice Aa na ka) (.slice Ab nb kb) (.slice Ac nc kc)) ((wr.setCell ⟨wo.heap.size,8,none⟩ (.slice Ab nb kb)).setCell ⟨wo.heap.size,9,none⟩ (.slice Ac nc kc))):=B9.out.put 9 (.slice Ac nc kc)
       have N10:Hid (Nv (vp (fz (wo.heap.size + 1) ((wr.setCell ⟨wo.heap.size,8,none⟩ (.slice Ab nb kb)).setCell ⟨wo.heap.size,9,none⟩ (.slice Ac nc kc))) ((wr.setCell ⟨wo.heap.size,8,none⟩ (.slice Ab nb kb)).setCell ⟨wo.heap.size,9,none⟩ (.slice Ac nc kc))) 1 (stN op nm ty es bs cs) (stC op nm ty (.slice Aa na ka) (.slice Ab nb kb) (.slice Ac nc kc))) :=
        ((nv_st U8.out V8.out W8.out).fk (far_set (.slice Ab nb kb) (Nat.lt_succ_self _)) (Nat.le_refl _)).fk (far_set (.slice Ac nc kc) (Nat.lt_succ_self _)) (Nat.le_refl _)
       clear hrz U6 V6 U8 V8 W8 B6 B8
       go_wp2_with (first
        | ((with_reducible show wpList _ _ _ (Oper.mk (some 56) (.load 44 (.tmp 5)) _ _ _ _ :: _) _ _); refine wpList_ldb rfl _ _ rfl wo.heap.size 44 (stC op nm ty (.slice Aa na ka) (.slice Ab nb kb) (.slice Ac nc kc)) rfl B10.out.box _ Tryz.underlying44 rfl HZ.out ?_)
        | ((with_reducible show wpList _ _ _ (Oper.mk (some 57) (.buildSlice _ _ _) _ _ _ _ :: _) _ _); refine wpList_bsS rfl _ rfl (stC op nm ty (.slice Aa na ka) (.slice Ab nb kb) (.slice Ac nc kc)) rfl rfl ?_)
        | ((with_reducible show wpList _ _ _ (Oper.mk (some 58) (.call _) _ _ _ _ :: _) _ _)
           have C4:=Lib.hid (K.out.to (B10.out.ext.alloc (.cells (stC op nm ty (.slice Aa na ka) (.slice Ab nb kb) (.slice Ac nc kc)) 44)))
           obtain ⟨ys,o1,o3⟩:=C4.out.gz
           refine wpList_app2 Tryz.underlying34 infoSt rfl (by decide) (by decide) rfl _ _ rfl w.heap.size _ acc.len ys rfl o1 _ _ (stC op nm ty (.slice Aa na ka) (.slice Ab nb kb) (.slice Ac nc kc)) rfl (Blk.new _ _ _) rfl N10.out.one hal C4.out.ext.size ?_
           intro v' w' r1 r2 r3))
       go_roundw
       case rel=>exact ⟨i + 1,tl,acc.app (stN op nm ty es bs cs),by first | rfl | (rw [hwi]; rfl),C4.out.put hlt HP.out o1 o3 (N10.out.fx ((Ext.refl _).alloc _) (Nat.le_refl _)) (Nat.le_succ_of_le K.out.ext.size) (fun g hg=>Nat.lt_succ_of_lt (K.out.gz.own_lt hg).2) r1 r2 r3,hz1.2.2.2⟩
       case measure=>(try rw [hwi]); rw [iof_succ,iof_nat]; exact Nat.sub_lt_sub_left hlt (Nat.lt_succ_self i)
  ·obtain rfl:=K.out.L.fin hlt
   have hltI:¬ (i:Int) < (N:Int):=by omega
   go_wp2_with fail
   go_ret
   exact ⟨_,rfl,K.out.fin,K.out.ext⟩
theorem cp_all:∀ n,CPX n∧CPE n∧CPB n
 | 0=>⟨fun x h=>absurd h (by omega),fun x h=>absurd h (by omega),fun x h=>absurd h (by omega)⟩
 | n + 1=>by
  have ih:=cp_all n
  have hX:=cpx_step ih.2.1 ih.2.2
  exact ⟨hX,cpe_step hX,cpb_step ih.2.1 ih.2.2⟩
end Go.Proofs.YtmmnhbhnjiajhaaGreatDoor.c
