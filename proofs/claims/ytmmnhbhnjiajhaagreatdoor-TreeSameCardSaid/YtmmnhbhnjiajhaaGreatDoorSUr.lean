/- A parameter. -/
import Derived.Test.YtmmnhbhnjiajhaaGreatDoorSUq
namespace Go.Proofs.YtmmnhbhnjiajhaaGreatDoor.c
open Go.RowKit
set_option linter.unusedVariables false
set_option maxRecDepth 100000
set_option maxHeartbeats 3200000
set_option linter.unusedSimpArgs false
def paS2 (L:List Tok) (kn:Bool) (a:Nat):Option Rs:=nam L a (wnt L (a + 1) ⟨#[58]⟩ (thnT (typS L (a + 2) false true false true kn true) fun t b=>some (.ok (.pa (tx L a) t kn .nil) b)))
def paS (L:List Tok) (a:Nat):Option Rs:=if tx L a=⟨#[99,111,109,112,116,105,109,101]⟩ then paS2 L true (a + 1) else paS2 L false a
def zPa:Array Value:=#[.string ⟨#[]⟩,.int .i64 0,.int .i64 0,.string ⟨#[]⟩,.bool false,.bool false,.bool false]
def paC (nm:ByteArray) (ty:Ty) (kn:Bool):Array Value:=#[.string nm,.int .i64 ty.base,.int .i64 ty.bits,.string ty.name,.bool ty.opt,.bool ty.err,.bool kn]
theorem paC_one (nm:ByteArray) (ty:Ty) (kn:Bool):∀ u ∈ (paC nm ty kn).toList,u.oneCell'=true:=by
 simp only [paC,List.mem_cons,List.not_mem_nil,or_false]
 rintro u (rfl | rfl | rfl | rfl | rfl | rfl | rfl) <;> rfl
theorem nv_pa {V:Vw} {nm:ByteArray} {ty:Ty} {kn:Bool}:Nv V 4 (.pa nm ty kn .nil) (paC nm ty kn):=⟨⟨rfl,[],rfl,rfl⟩,rfl⟩
theorem par_any (t:Ty) (kn:Bool) (w:World) (h:isTypeS t=true) (q:Nat) (hq:Blk w q 4 #[.bool kn]):Calls Tryz.prog 173 #[.agg (tyA t),.pointer (some ⟨q,0,none⟩)] w fun r w'=>r=.returned (.bool (alS false true kn true t.base))∧Ext w w':=by
 have hb:=base_in h
 obtain ⟨ba,hba⟩:∃ ba,t.base=ba:=⟨_,rfl⟩
 have hql:=hq.lt
 have q0:w.cell? ⟨q,0,none⟩=some (.bool kn):=hq.cell 0
 unfold tyA
 rw [hba] at hb ⊢
 clear hba h hq
 cases kn <;> rcases hb with rfl | rfl | rfl | rfl | rfl | rfl
 all_goals
  go_enter Tryz.func173,Tryz.ntmps173
  go_wp2_with fail
  go_ret
  exact ⟨rfl,exA⟩
theorem typ_par {C:Cx} {a:Nat} {w:World} (h:PS C a w) (kn:Bool) (q:Nat) (hq:Blk w q 4 #[.bool kn]) (hm:q ≠ C.m):Calls Tryz.prog 116 #[Pp C,.agg #[.bool false,.bool true,.func (.func 173) #[] #[.pointer (some ⟨q,0,none⟩)]]] w (OutY C w (typS C.L a false true false true kn true)) :=
 typed_any h false true false true kn true _ _ enters_par fun ty w1 h1 h2 h3 px x=>par_any ty kn w1 h1 q (hq.px px hm)
section
variable {P:Program} {ops:Array Oper} {Q:Exit → Act → World → Prop} {md:Region.Mode} {fuel:Nat} {listed:Array Bool} {a:Act} {w w':World} {op:Op} {ty:TypeId} {ps:String} {af:Array Edge} {g:Option (Nat × Bool)} {K:Act → World → Prop}
theorem w_br {l:List Nat} (hl:l ≠ []) (h:∀ j ∈ l,Go.wpOp P ops Q j (wpAny P md ops Q fuel (listed.setIfInBounds j true)) a w) (hre:(Region.ready md ops listed == l)=true:=by kernel_rfl):wpAny P md ops Q (fuel + 1) listed a w:=by
 have e:=beq_iff_eq.1 hre
 exact ⟨fun h0=>absurd (e.symm.trans h0) hl,fun j hj=>h j (by rw [← e]; exact hj)⟩
theorem o_val (i t:Nat) {v:Value} (hi:ops[i]?=some ⟨some t,op,ty,ps,af,g⟩) (he:(execOp a.eval ⟨some t,op,ty,ps,af,g⟩).run P w=.ok (.value v) w') (h:K (a.put (some t) v) w') (hw:Region.wanted ⟨some t,op,ty,ps,af,g⟩ (yielded ops a.tmps)=true:=by rfl):Go.wpOp P ops Q i K a w:=by
 unfold Go.wpOp
 simp only [hi,hw,if_true,Oper.wp,he,Oper.upon]
 exact .inl h
theorem o_wp (i:Nat) {o:Oper} (hi:ops[i]?=some o) (hgd:o.guard=none) (h:o.wp P a w K Q):Go.wpOp P ops Q i K a w:=by
 unfold Go.wpOp
 have hw:Region.wanted o (yielded ops a.tmps)=true:=by simp [Region.wanted,hgd]
 simp only [hi,hw,if_true]
 exact .inl h
theorem o_call (i:Nat) {o:Oper} {F:FuncId} {args:Array Value} {Q2:Ending → World → Prop} (hi:ops[i]?=some o) (hgd:o.guard=none) (he:(execOp a.eval o).run P w=.ok (.enter F args) w) (hc:Calls P F args w Q2)
  (hr:∀ v w',Q2 (.returned v) w' → K (a.put o.dst v) w') (hp:∀ c w',Q2 (.panicked c) w' → Q (.panic c) a w') (ho:∀ w',¬ Q2 .outgrown w'):Go.wpOp P ops Q i K a w:=by
 refine o_wp i hi hgd ?_
 simp only [Oper.wp,he,Oper.upon]
 refine hc.mono fun e w' h=>?_
 cases e with
 | returned v=>exact hr v w' h
 | panicked c=>exact hp c w' h
 | outgrown=>exact (ho w' h).elim
end
theorem built_pa (kn:Bool) (nm:ByteArray):Tryz.prog.built 40 [(2,.bool kn),(0,.string nm)]=some (paC nm tZ kn):=by kernel_rfl
section
variable {C:Cx} {w wr:World} {b g:Nat} {t:TypeId} {zv:Array Value} {ty:Ty} {nm:ByteArray} {kn:Bool}
theorem Rd.row {cs:Array Value} (h:Rd C w t zv g cs b wr) (hm:C.m < w.heap.size) (ds:Array Value):Rd C w t zv g ds b (wr.setRow g ds) :=
 have:=h.hg
 ⟨h.mv.row (by omega) hm ds,(setRow_other _ _ _ _ (by omega)).trans h.res,h.hg,h.box.row ds⟩
theorem Rd.typP (h:Rd C w t zv g (paC nm ty kn) b wr) (hm:C.m < w.heap.size) (ty:Ty) :
  Rd C w t zv g (paC nm ty kn) b (((((wr.setCell ⟨g,1,none⟩ (.int .i64 ty.base)).setCell ⟨g,2,none⟩ (.int .i64 ty.bits)).setCell ⟨g,3,none⟩ (.string ty.name)).setCell ⟨g,4,none⟩ (.bool ty.opt)).setCell ⟨g,5,none⟩ (.bool ty.err)) :=
 ((((h.set_ hm 1 (.int .i64 ty.base)).set_ hm 2 (.int .i64 ty.bits)).set_ hm 3 (.string ty.name)).set_ hm 4 (.bool ty.opt)).set_ hm 5 (.bool ty.err)
theorem Rd.fiveP (h:Rd C w t zv g (paC nm ty kn) b wr):(∀ i,wr.frozen? ⟨g,i,none⟩=false)∧wr.cell? ⟨g,1,none⟩=some (.int .i64 ty.base)∧wr.cell? ⟨g,2,none⟩=some (.int .i64 ty.bits)∧wr.cell? ⟨g,3,none⟩=some (.string ty.name)∧wr.cell? ⟨g,4,none⟩=some (.bool ty.opt)∧wr.cell? ⟨g,5,none⟩=some (.bool ty.err) :=
 ⟨h.box.frozen,h.box.cell 1,h.box.cell 2,h.box.cell 3,h.box.cell 4,h.box.cell 5⟩
end
theorem param_any {C:Cx} {a:Nat} {w:World} (h:PS C a w):Calls Tryz.prog 120 #[Pp C] w (Out C w 4 (paS C.L a)):=by
 have HZ:Hid ((Tryz.prog.info? 40).map (·.size)=some 7):=by unfold Hid; kernel_rfl
 have hlt:=h.lt
 have R0:Hid (Rx C w 40 zPa a (w.alloc (.cells zPa 40))):=Rx.init h _ _
 clear h
 go_enter Tryz.func120,Tryz.ntmps120
 go_upto_region 1 with fail
 go_cut [3] from 5 to 6 (fun c wx=>∃ kn a1 q,c=.pointer (some ⟨q,0,none⟩)∧Hid (paS C.L a=paS2 C.L kn a1)∧Hid (Rx C w 40 zPa a1 wx)∧Hid (Blk wx q 4 #[.bool kn])∧w.heap.size < q)
 case first =>
  go_wp2_with (first
   | (go_at_call 113; refine (next_any R0.out.ps ⟨#[99,111,109,112,116,105,109,101]⟩ (by decide)).mono ?_; rintro r w1 (⟨h1,rfl,m1⟩ | ⟨h1,rfl,m1⟩) <;> (have R1:=Lib.hid (R0.out.to m1 hlt))))
  ·go_meet
   exact ⟨true,a + 1,w1.heap.size,rfl,if_pos h1,R1.out.ext ((Ext.refl w1).alloc _),Blk.new _ _ _,R1.out.lt⟩
  ·go_meet
   exact ⟨false,a,w1.heap.size,rfl,if_neg h1,R1.out.ext ((Ext.refl w1).alloc _),Blk.new _ _ _,R1.out.lt⟩
 case rest =>
  obtain ⟨kn,a1,q,rfl,E,R1,B1,hq⟩:=hcut
  clear R0
  have k0:wc.cell? ⟨q,0,none⟩=some (.bool kn):=B1.out.cell 0
  have hql:=B1.out.lt
  have hmq:q ≠ C.m:=by omega
  go_upto_region 2 with fail
  go_cut [4] from 7 to 10 (fun c wx=>∃ g,c=.pointer (some ⟨g,0,none⟩)∧Hid (Rd C w 40 zPa g (paC (tx C.L a1) tZ kn) (a1 + 1) wx)∧Hid (Blk wx q 4 #[.bool kn])∧Hid (isW C.L a1=true))
  case first =>
   have R1d:=Lib.hid (R1.out.ext (Ext.refl wc).drew)
   have R1e:=Lib.hid (R1d.out.ext ((Ext.refl wc.drew).alloc (.cells zPa 40)))
   have B1d:=Lib.hid (B1.out.ext (Ext.refl wc).drew)
   have B1e:=Lib.hid (B1d.out.ext ((Ext.refl wc.drew).alloc (.cells zPa 40)))
   refine rg_begin #[false,false,false,false,false,false] rfl (by kernel_rfl) (fun _ _ _ _ _ h=>h) (fun HQ=>?_)
   (refine ta 1 8 rfl HQ ?_; try simp only [putL,List.set])
   refine w_br (l:=[0,2,4]) (by simp) ?_
   intro j hj
   simp only [List.mem_cons,List.not_mem_nil,or_false] at hj
   rcases hj with rfl | rfl | rfl
   ·refine o_val 0 7 rfl (exec_ld1 rfl rfl (B1d.out.cell 0) Tryz.underlying4 rfl) ?_
    simp only [putL,List.set]
    refine w_br (l:=[2,4]) (by simp) ?_
    intro j hj
    simp only [List.mem_cons,List.not_mem_nil,or_false] at hj
    rcases hj with rfl | rfl
    ·refine o_call 2 rfl rfl (by go_simp) (name_any R1d.out.ps) ?_ ?_ ?_
     ·rintro rv w1 (⟨hn,e,m1⟩ | ⟨_,e,_⟩)
      ·cases e
       have Rs1:=Lib.hid (R1d.out.to m1 hlt)
       have B1:=Lib.hid (B1d.out.px m1.px hmq)
       show wpAny _ _ _ _ _ _ (Act.put _ (some 9) _) _
       simp only [putL,List.set]
       refine w_br (l:=[3,4]) (by simp) ?_
       intro j hj
       simp only [List.mem_cons,List.not_mem_nil,or_false] at hj
       rcases hj with rfl | rfl
       ·refine o_wp 3 rfl rfl (wp_bld _ _ rfl [(2,.bool kn),(0,.string (tx C.L a1))] (by simp only [List.map_toArray,List.map_cons,List.map_nil]; rfl) (built_pa _ _) ?_)
        show wpAny _ _ _ _ _ _ (Act.put _ (some 10) _) _
        simp only [putL,List.set]
        refine w_br (l:=[4]) (by simp) ?_
        intro j hj
        simp only [List.mem_cons,List.not_mem_nil,or_false] at hj
        subst hj
        have D2:=Lib.hid (Rd.init Rs1.out zPa)
        have hqg:=B1.out.lt
        have B2:=Lib.hid (B1.out.ext ((Ext.refl _).alloc (.cells zPa 40)))
        refine o_val (w':=World.alloc w1 (.cells zPa 40)) 4 4 rfl (v:=.pointer (some ⟨(w1).heap.size,0,none⟩)) (by go_simp; try rfl) ?_
        simp only [putL,List.set]
        refine w_br (l:=[5]) (by simp) ?_
        intro j hj
        simp only [List.mem_cons,List.not_mem_nil,or_false] at hj
        subst hj
        have hgl:=D2.out.hg
        have hgb:=D2.out.box.lt
        refine o_wp 5 rfl rfl (wp_str _ _ _ rfl _ rfl _ zPa (paC (tx C.L a1) tZ kn) D2.out.box rfl rfl (paC_one _ _ _) HZ.out ?_)
        show wpAny _ _ _ _ _ _ _ _
        refine wp_end ?_
        go_wp2_with fail
        go_meet
        exact ⟨_,rfl,D2.out.row hlt _,(setRow_other _ _ _ _ (Nat.ne_of_lt hqg)).trans B2.out,hn⟩
       ·have D3:=Lib.hid (Rd.init Rs1.out zPa)
        have hqg:=B1.out.lt
        have B3:=Lib.hid (B1.out.ext ((Ext.refl _).alloc (.cells zPa 40)))
        refine o_val (w':=World.alloc w1 (.cells zPa 40)) 4 4 rfl (v:=.pointer (some ⟨(w1).heap.size,0,none⟩)) (by go_simp; try rfl) ?_
        simp only [putL,List.set]
        refine w_br (l:=[3]) (by simp) ?_
        intro j hj
        simp only [List.mem_cons,List.not_mem_nil,or_false] at hj
        subst hj
        refine o_wp 3 rfl rfl (wp_bld _ _ rfl [(2,.bool kn),(0,.string (tx C.L a1))] (by simp only [List.map_toArray,List.map_cons,List.map_nil]; rfl) (built_pa _ _) ?_)
        show wpAny _ _ _ _ _ _ (Act.put _ (some 10) _) _
        simp only [putL,List.set]
        refine w_br (l:=[5]) (by simp) ?_
        intro j hj
        simp only [List.mem_cons,List.not_mem_nil,or_false] at hj
        subst hj
        have hgl:=D3.out.hg
        have hgb:=D3.out.box.lt
        refine o_wp 5 rfl rfl (wp_str _ _ _ rfl _ rfl _ zPa (paC (tx C.L a1) tZ kn) D3.out.box rfl rfl (paC_one _ _ _) HZ.out ?_)
        show wpAny _ _ _ _ _ _ _ _
        refine wp_end ?_
        go_wp2_with fail
        go_meet
        exact ⟨_,rfl,D3.out.row hlt _,(setRow_other _ _ _ _ (Nat.ne_of_lt hqg)).trans B3.out,hn⟩
      ·cases e
     ·rintro c w1 (⟨_,e,_⟩ | ⟨hn,e,m1⟩)
      ·cases e
      ·cases e
       exact And.intro rfl (fin_bad (R1d.out.to m1 hlt).mv (E.out.trans (if_neg (by rw [hn]; exact Bool.false_ne_true))))
     ·rintro w1 (⟨_,e,_⟩ | ⟨_,e,_⟩) <;> cases e
    ·have D4:=Lib.hid (Rd.init R1d.out zPa)
     have hqg:=B1d.out.lt
     have B4:=Lib.hid (B1d.out.ext ((Ext.refl _).alloc (.cells zPa 40)))
     refine o_val (w':=World.alloc wc.drew (.cells zPa 40)) 4 4 rfl (v:=.pointer (some ⟨(wc.drew).heap.size,0,none⟩)) (by go_simp; try rfl) ?_
     simp only [putL,List.set]
     refine w_br (l:=[2]) (by simp) ?_
     intro j hj
     simp only [List.mem_cons,List.not_mem_nil,or_false] at hj
     subst hj
     refine o_call 2 rfl rfl (by go_simp) (name_any D4.out.ps) ?_ ?_ ?_
     ·rintro rv w5 (⟨hn,e,m5⟩ | ⟨_,e,_⟩)
      ·cases e
       have Ds5:=Lib.hid (D4.out.to m5 hlt)
       have B5:=Lib.hid (B4.out.px m5.px hmq)
       show wpAny _ _ _ _ _ _ (Act.put _ (some 9) _) _
       simp only [putL,List.set]
       refine w_br (l:=[3]) (by simp) ?_
       intro j hj
       simp only [List.mem_cons,List.not_mem_nil,or_false] at hj
       subst hj
       refine o_wp 3 rfl rfl (wp_bld _ _ rfl [(2,.bool kn),(0,.string (tx C.L a1))] (by simp only [List.map_toArray,List.map_cons,List.map_nil]; rfl) (built_pa _ _) ?_)
       show wpAny _ _ _ _ _ _ (Act.put _ (some 10) _) _
       simp only [putL,List.set]
       refine w_br (l:=[5]) (by simp) ?_
       intro j hj
       simp only [List.mem_cons,List.not_mem_nil,or_false] at hj
       subst hj
       have hgl:=Ds5.out.hg
       have hgb:=Ds5.out.box.lt
       refine o_wp 5 rfl rfl (wp_str _ _ _ rfl _ rfl _ zPa (paC (tx C.L a1) tZ kn) Ds5.out.box rfl rfl (paC_one _ _ _) HZ.out ?_)
       show wpAny _ _ _ _ _ _ _ _
       refine wp_end ?_
       go_wp2_with fail
       go_meet
       exact ⟨_,rfl,Ds5.out.row hlt _,(setRow_other _ _ _ _ (Nat.ne_of_lt hqg)).trans B5.out,hn⟩
      ·cases e
     ·rintro c w5 (⟨_,e,_⟩ | ⟨hn,e,m5⟩)
      ·cases e
      ·cases e
       exact And.intro rfl (fin_bad (D4.out.to m5 hlt).mv (E.out.trans (if_neg (by rw [hn]; exact Bool.false_ne_true))))
     ·rintro w5 (⟨_,e,_⟩ | ⟨_,e,_⟩) <;> cases e
   ·refine o_call 2 rfl rfl (by go_simp) (name_any R1d.out.ps) ?_ ?_ ?_
    ·rintro rv w6 (⟨hn,e,m6⟩ | ⟨_,e,_⟩)
     ·cases e
      have Rs6:=Lib.hid (R1d.out.to m6 hlt)
      have B6:=Lib.hid (B1d.out.px m6.px hmq)
      show wpAny _ _ _ _ _ _ (Act.put _ (some 9) _) _
      simp only [putL,List.set]
      refine w_br (l:=[0,4]) (by simp) ?_
      intro j hj
      simp only [List.mem_cons,List.not_mem_nil,or_false] at hj
      rcases hj with rfl | rfl
      ·refine o_val 0 7 rfl (exec_ld1 rfl rfl (B6.out.cell 0) Tryz.underlying4 rfl) ?_
       simp only [putL,List.set]
       refine w_br (l:=[3,4]) (by simp) ?_
       intro j hj
       simp only [List.mem_cons,List.not_mem_nil,or_false] at hj
       rcases hj with rfl | rfl
       ·refine o_wp 3 rfl rfl (wp_bld _ _ rfl [(2,.bool kn),(0,.string (tx C.L a1))] (by simp only [List.map_toArray,List.map_cons,List.map_nil]; rfl) (built_pa _ _) ?_)
        show wpAny _ _ _ _ _ _ (Act.put _ (some 10) _) _
        simp only [putL,List.set]
        refine w_br (l:=[4]) (by simp) ?_
        intro j hj
        simp only [List.mem_cons,List.not_mem_nil,or_false] at hj
        subst hj
        have D7:=Lib.hid (Rd.init Rs6.out zPa)
        have hqg:=B6.out.lt
        have B7:=Lib.hid (B6.out.ext ((Ext.refl _).alloc (.cells zPa 40)))
        refine o_val (w':=World.alloc w6 (.cells zPa 40)) 4 4 rfl (v:=.pointer (some ⟨(w6).heap.size,0,none⟩)) (by go_simp; try rfl) ?_
        simp only [putL,List.set]
        refine w_br (l:=[5]) (by simp) ?_
        intro j hj
        simp only [List.mem_cons,List.not_mem_nil,or_false] at hj
        subst hj
        have hgl:=D7.out.hg
        have hgb:=D7.out.box.lt
        refine o_wp 5 rfl rfl (wp_str _ _ _ rfl _ rfl _ zPa (paC (tx C.L a1) tZ kn) D7.out.box rfl rfl (paC_one _ _ _) HZ.out ?_)
        show wpAny _ _ _ _ _ _ _ _
        refine wp_end ?_
        go_wp2_with fail
        go_meet
        exact ⟨_,rfl,D7.out.row hlt _,(setRow_other _ _ _ _ (Nat.ne_of_lt hqg)).trans B7.out,hn⟩
       ·have D8:=Lib.hid (Rd.init Rs6.out zPa)
        have hqg:=B6.out.lt
        have B8:=Lib.hid (B6.out.ext ((Ext.refl _).alloc (.cells zPa 40)))
        refine o_val (w':=World.alloc w6 (.cells zPa 40)) 4 4 rfl (v:=.pointer (some ⟨(w6).heap.size,0,none⟩)) (by go_simp; try rfl) ?_
        simp only [putL,List.set]
        refine w_br (l:=[3]) (by simp) ?_
        intro j hj
        simp only [List.mem_cons,List.not_mem_nil,or_false] at hj
        subst hj
        refine o_wp 3 rfl rfl (wp_bld _ _ rfl [(2,.bool kn),(0,.string (tx C.L a1))] (by simp only [List.map_toArray,List.map_cons,List.map_nil]; rfl) (built_pa _ _) ?_)
        show wpAny _ _ _ _ _ _ (Act.put _ (some 10) _) _
        simp only [putL,List.set]
        refine w_br (l:=[5]) (by simp) ?_
        intro j hj
        simp only [List.mem_cons,List.not_mem_nil,or_false] at hj
        subst hj
        have hgl:=D8.out.hg
        have hgb:=D8.out.box.lt
        refine o_wp 5 rfl rfl (wp_str _ _ _ rfl _ rfl _ zPa (paC (tx C.L a1) tZ kn) D8.out.box rfl rfl (paC_one _ _ _) HZ.out ?_)
        show wpAny _ _ _ _ _ _ _ _
        refine wp_end ?_
        go_wp2_with fail
        go_meet
        exact ⟨_,rfl,D8.out.row hlt _,(setRow_other _ _ _ _ (Nat.ne_of_lt hqg)).trans B8.out,hn⟩
      ·have D9:=Lib.hid (Rd.init Rs6.out zPa)
       have hqg:=B6.out.lt
       have B9:=Lib.hid (B6.out.ext ((Ext.refl _).alloc (.cells zPa 40)))
       refine o_val (w':=World.alloc w6 (.cells zPa 40)) 4 4 rfl (v:=.pointer (some ⟨(w6).heap.size,0,none⟩)) (by go_simp; try rfl) ?_
       simp only [putL,List.set]
       refine w_br (l:=[0]) (by simp) ?_
       intro j hj
       simp only [List.mem_cons,List.not_mem_nil,or_false] at hj
       subst hj
       refine o_val 0 7 rfl (exec_ld1 rfl rfl (B9.out.cell 0) Tryz.underlying4 rfl) ?_
       simp only [putL,List.set]
       refine w_br (l:=[3]) (by simp) ?_
       intro j hj
       simp only [List.mem_cons,List.not_mem_nil,or_false] at hj
       subst hj
       refine o_wp 3 rfl rfl (wp_bld _ _ rfl [(2,.bool kn),(0,.string (tx C.L a1))] (by simp only [List.map_toArray,List.map_cons,List.map_nil]; rfl) (built_pa _ _) ?_)
       show wpAny _ _ _ _ _ _ (Act.put _ (some 10) _) _
       simp only [putL,List.set]
       refine w_br (l:=[5]) (by simp) ?_
       intro j hj
       simp only [List.mem_cons,List.not_mem_nil,or_false] at hj
       subst hj
       have hgl:=D9.out.hg
       have hgb:=D9.out.box.lt
       refine o_wp 5 rfl rfl (wp_str _ _ _ rfl _ rfl _ zPa (paC (tx C.L a1) tZ kn) D9.out.box rfl rfl (paC_one _ _ _) HZ.out ?_)
       show wpAny _ _ _ _ _ _ _ _
       refine wp_end ?_
       go_wp2_with fail
       go_meet
       exact ⟨_,rfl,D9.out.row hlt _,(setRow_other _ _ _ _ (Nat.ne_of_lt hqg)).trans B9.out,hn⟩
     ·cases e
    ·rintro c w6 (⟨_,e,_⟩ | ⟨hn,e,m6⟩)
     ·cases e
     ·cases e
      exact And.intro rfl (fin_bad (R1d.out.to m6 hlt).mv (E.out.trans (if_neg (by rw [hn]; exact Bool.false_ne_true))))
    ·rintro w6 (⟨_,e,_⟩ | ⟨_,e,_⟩) <;> cases e
   ·have D10:=Lib.hid (Rd.init R1d.out zPa)
    have hqg:=B1d.out.lt
    have B10:=Lib.hid (B1d.out.ext ((Ext.refl _).alloc (.cells zPa 40)))
    refine o_val (w':=World.alloc wc.drew (.cells zPa 40)) 4 4 rfl (v:=.pointer (some ⟨(wc.drew).heap.size,0,none⟩)) (by go_simp; try rfl) ?_
    simp only [putL,List.set]
    refine w_br (l:=[0,2]) (by simp) ?_
    intro j hj
    simp only [List.mem_cons,List.not_mem_nil,or_false] at hj
    rcases hj with rfl | rfl
    ·refine o_val 0 7 rfl (exec_ld1 rfl rfl (B10.out.cell 0) Tryz.underlying4 rfl) ?_
     simp only [putL,List.set]
     refine w_br (l:=[2]) (by simp) ?_
     intro j hj
     simp only [List.mem_cons,List.not_mem_nil,or_false] at hj
     subst hj
     refine o_call 2 rfl rfl (by go_simp) (name_any D10.out.ps) ?_ ?_ ?_
     ·rintro rv w11 (⟨hn,e,m11⟩ | ⟨_,e,_⟩)
      ·cases e
       have Ds11:=Lib.hid (D10.out.to m11 hlt)
       have B11:=Lib.hid (B10.out.px m11.px hmq)
       show wpAny _ _ _ _ _ _ (Act.put _ (some 9) _) _
       simp only [putL,List.set]
       refine w_br (l:=[3]) (by simp) ?_
       intro j hj
       simp only [List.mem_cons,List.not_mem_nil,or_false] at hj
       subst hj
       refine o_wp 3 rfl rfl (wp_bld _ _ rfl [(2,.bool kn),(0,.string (tx C.L a1))] (by simp only [List.map_toArray,List.map_cons,List.map_nil]; rfl) (built_pa _ _) ?_)
       show wpAny _ _ _ _ _ _ (Act.put _ (some 10) _) _
       simp only [putL,List.set]
       refine w_br (l:=[5]) (by simp) ?_
       intro j hj
       simp only [List.mem_cons,List.not_mem_nil,or_false] at hj
       subst hj
       have hgl:=Ds11.out.hg
       have hgb:=Ds11.out.box.lt
       refine o_wp 5 rfl rfl (wp_str _ _ _ rfl _ rfl _ zPa (paC (tx C.L a1) tZ kn) Ds11.out.box rfl rfl (paC_one _ _ _) HZ.out ?_)
       show wpAny _ _ _ _ _ _ _ _
       refine wp_end ?_
       go_wp2_with fail
       go_meet
       exact ⟨_,rfl,Ds11.out.row hlt _,(setRow_other _ _ _ _ (Nat.ne_of_lt hqg)).trans B11.out,hn⟩
      ·cases e
     ·rintro c w11 (⟨_,e,_⟩ | ⟨hn,e,m11⟩)
      ·cases e
      ·cases e
       exact And.intro rfl (fin_bad (D10.out.to m11 hlt).mv (E.out.trans (if_neg (by rw [hn]; exact Bool.false_ne_true))))
     ·rintro w11 (⟨_,e,_⟩ | ⟨_,e,_⟩) <;> cases e
    ·refine o_call 2 rfl rfl (by go_simp) (name_any D10.out.ps) ?_ ?_ ?_
     ·rintro rv w12 (⟨hn,e,m12⟩ | ⟨_,e,_⟩)
      ·cases e
       have Ds12:=Lib.hid (D10.out.to m12 hlt)
       have B12:=Lib.hid (B10.out.px m12.px hmq)
       show wpAny _ _ _ _ _ _ (Act.put _ (some 9) _) _
       simp only [putL,List.set]
       refine w_br (l:=[0]) (by simp) ?_
       intro j hj
       simp only [List.mem_cons,List.not_mem_nil,or_false] at hj
       subst hj
       refine o_val 0 7 rfl (exec_ld1 rfl rfl (B12.out.cell 0) Tryz.underlying4 rfl) ?_
       simp only [putL,List.set]
       refine w_br (l:=[3]) (by simp) ?_
       intro j hj
       simp only [List.mem_cons,List.not_mem_nil,or_false] at hj
       subst hj
       refine o_wp 3 rfl rfl (wp_bld _ _ rfl [(2,.bool kn),(0,.string (tx C.L a1))] (by simp only [List.map_toArray,List.map_cons,List.map_nil]; rfl) (built_pa _ _) ?_)
       show wpAny _ _ _ _ _ _ (Act.put _ (some 10) _) _
       simp only [putL,List.set]
       refine w_br (l:=[5]) (by simp) ?_
       intro j hj
       simp only [List.mem_cons,List.not_mem_nil,or_false] at hj
       subst hj
       have hgl:=Ds12.out.hg
       have hgb:=Ds12.out.box.lt
       refine o_wp 5 rfl rfl (wp_str _ _ _ rfl _ rfl _ zPa (paC (tx C.L a1) tZ kn) Ds12.out.box rfl rfl (paC_one _ _ _) HZ.out ?_)
       show wpAny _ _ _ _ _ _ _ _
       refine wp_end ?_
       go_wp2_with fail
       go_meet
       exact ⟨_,rfl,Ds12.out.row hlt _,(setRow_other _ _ _ _ (Nat.ne_of_lt hqg)).trans B12.out,hn⟩
      ·cases e
     ·rintro c w12 (⟨_,e,_⟩ | ⟨hn,e,m12⟩)
      ·cases e
      ·cases e
       exact And.intro rfl (fin_bad (D10.out.to m12 hlt).mv (E.out.trans (if_neg (by rw [hn]; exact Bool.false_ne_true))))
     ·rintro w12 (⟨_,e,_⟩ | ⟨_,e,_⟩) <;> cases e
  case rest =>
   clear R1 B1 k0 hql
   obtain ⟨g,rfl,D,B2,hn⟩:=hcut
   go_wp2_with (first
    | (go_at_call 115; refine (want_any D.out.ps ⟨#[58]⟩ (by decide)).mono ?_; rintro r w3 (⟨h3,rfl,m3⟩ | ⟨h3,rfl,m3⟩) <;> (have D3:=Lib.hid (D.out.to m3 hlt)) <;> (have B3:=Lib.hid (B2.out.px m3.px hmq)))
    | (go_at_call 116; refine (typ_par D3.out.ps kn q B3.out hmq).mono ?_; rintro r w5 (⟨ty,b5,ht,rfl,m5⟩ | ⟨b5,ht,rfl,m5⟩) <;> (have D5:=Lib.hid (D3.out.to m5 hlt)) <;> (obtain ⟨ff,f1,f2,f3,f4,f5⟩:=Rd.fiveP D5.out))
    | ((with_reducible show wpList _ _ _ (Oper.mk (some 18) (.load 40 (.tmp 4)) _ _ _ _ :: _) _ _)
       have D6:=Lib.hid (Rd.typP D5.out hlt ty)
       refine wpList_ldb rfl _ _ rfl _ _ (paC (tx C.L a1) ty kn) rfl D6.out.box _ Tryz.underlying40 rfl HZ.out ?_)
    | ((with_reducible show wpList _ _ _ (Oper.mk none (.store 40 (.tmp 2) _) _ _ _ _ :: _) _ _); refine wpList_store_row rfl _ _ _ rfl _ rfl _ zPa _ D6.out.res rfl rfl (paC_one _ _ _) HZ.out ?_))
   ·refine bodyPost_ret (results_cell_row rfl _ _ w.heap.size _ (paC (tx C.L a1) ty kn) (0,0) _ rfl (D6.out.res.row _) Tryz.underlying40 rfl HZ.out) rfl ?_
    exact D6.out.fin hlt (nv_pa (V:=vp (w.heap.size < ·) _)) (fun i hi=>hi) (E.out.trans ((if_pos hn.out).trans ((if_pos h3).trans (by rw [ht.out]; rfl))))
   ·exact And.intro rfl (fin_bad D5.out.mv (E.out.trans ((if_pos hn.out).trans ((if_pos h3).trans (by rw [ht.out]; rfl)))))
   ·exact And.intro rfl (fin_bad D3.out.mv (E.out.trans ((if_pos hn.out).trans (if_neg h3))))
end Go.Proofs.YtmmnhbhnjiajhaaGreatDoor.c
