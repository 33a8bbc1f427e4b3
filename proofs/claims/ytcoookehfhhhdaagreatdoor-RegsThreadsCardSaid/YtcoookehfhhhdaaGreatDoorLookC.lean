/- Contract of code.look. Conditions: what right code is good for. -/
import Derived.Test.YtcoookehfhhhdaaGreatDoorQue
import Derived.Test.YtcoookehfhhhdaaGreatDoorFuncs
import Derived.Deep.LoopGhost
namespace Go.Proofs.YtcoookehfhhhdaaGreatDoor.c
open Go.RowKit
set_option linter.unusedVariables false
set_option maxRecDepth 100000
set_option maxHeartbeats 6400000
set_option linter.unusedSimpArgs false
theorem stepOf_cells (x:Cd) (w:World):Calls Tryz.prog 86 #[.agg #[.int .i64 x.op,.int .i64 x.a,.int .i64 x.b,.int .i64 x.ty.base,.int .i64 x.ty.bits,.string x.ty.name,.bool x.ty.opt,.bool x.ty.err,.string x.name]] w fun e w'=>e=.returned (.agg #[.int .i64 (takesS x),.int .i64 (putsS x),.bool (goesS x)])∧Ext w w':=stepOf_any x w
theorem seenV_nil (x:Value):seenV [] x=none:=by
 unfold seenV
 rw [if_neg]
 rintro ⟨p,hp,_⟩
 cases hp
theorem LkSt.begin (f:Fc) (w w1:World) (hs1:w1.heap.size=w.heap.size + 2) (m1:MapAt w1 109 (w.heap.size + 1) 1 (seenV [(0,0)])) (g1:((w.alloc (.cells #[.string f.name,.int .i64 f.params,.int .i64 f.places,.int .i64 f.ty.base,.int .i64 f.ty.bits,.string f.ty.name,.bool f.ty.opt,.bool f.ty.err,.slice f.A f.code.length f.cap] 48)).alloc (.map #[] 0)).grownBy w1 (some (w.heap.size + 1))) :
  LkSt w (((((w1.alloc (.cells #[.map (some (w.heap.size + 1))] 102)).alloc (.map #[] 0)).alloc (.cells #[.int .i64 0,.int .i64 0] 109)).alloc (.cells #[.slice (some ⟨w.heap.size + 4,0,none⟩) 1 1] 143)).alloc (.cells #[.int .i64 (-1)] 3)) f (.slice (some ⟨w.heap.size + 4,0,none⟩) 1 1) [(0,0)] [(0,0)] (fun _=>none) (-1):=by
 have a1:FcBox w1 w.heap.size f:=⟨((Blk.new w _ _).alloc _).grown g1 (by simp)⟩
 have x1:Ext w w1:=(((Ext.refl w).alloc _).alloc _).grown g1 (fun k e=>by cases e; omega)
 have e2:Blk (w1.alloc (.cells #[.map (some (w.heap.size + 1))] 102)) (w.heap.size + 2) 102 #[.map (some (w.heap.size + 1))]:=by rw [← hs1]; exact Blk.new _ _ _
 have e3:MapAt ((w1.alloc (.cells #[.map (some (w.heap.size + 1))] 102)).alloc (.map #[] 0)) 3 (w.heap.size + 3) 0 (hV fun _=>none):=by
  have h:=MapAt.made (w1.alloc (.cells #[.map (some (w.heap.size + 1))] 102)) 3
  rw [size_alloc,hs1] at h
  have e:(hV fun _=>none)=(fun _=>none:Value → Option Value):=by
   funext x
   unfold hV
   split <;> rfl
  rw [e]
  exact h
 have e4:=Blk.new ((w1.alloc (.cells #[.map (some (w.heap.size + 1))] 102)).alloc (.map #[] 0)) 109 #[.int .i64 0,.int .i64 0]
 rw [size_alloc,size_alloc,hs1] at e4
 have e5:=Blk.new (((w1.alloc (.cells #[.map (some (w.heap.size + 1))] 102)).alloc (.map #[] 0)).alloc (.cells #[.int .i64 0,.int .i64 0] 109)) 143 #[.slice (some ⟨w.heap.size + 4,0,none⟩) 1 1]
 rw [size_alloc,size_alloc,size_alloc,hs1] at e5
 have e6:=Blk.new ((((w1.alloc (.cells #[.map (some (w.heap.size + 1))] 102)).alloc (.map #[] 0)).alloc (.cells #[.int .i64 0,.int .i64 0] 109)).alloc (.cells #[.slice (some ⟨w.heap.size + 4,0,none⟩) 1 1] 143)) 3 #[.int .i64 (-1)]
 rw [size_alloc,size_alloc,size_alloc,size_alloc,hs1] at e6
 refine ⟨((((x1.alloc _).alloc _).alloc _).alloc _).alloc _,by simp [hs1],a1.ext (((((Ext.refl _).alloc _).alloc _).alloc _).alloc _ |>.alloc _),⟨1,m1.ext (((((Ext.refl _).alloc _).alloc _).alloc _).alloc _ |>.alloc _)⟩,(((e2.alloc _).alloc _).alloc _).alloc _,⟨0,e3.ext ((((Ext.refl _).alloc _).alloc _).alloc _)⟩,e5.alloc _,?_,?_,e6⟩
 ·exact (Que.new (Nat.le_refl _) e4).ext (((Ext.refl _).alloc _).alloc _)
 ·constructor <;> simp [Value.ownBlock]
theorem size_setCell (w:World) (a:Addr) (u:Value):(w.setCell a u).heap.size=w.heap.size:=by simp
theorem look_any (f:Fc) (w:World) (hC:CdAt w f.A f.code) (sn:Sane f.code) :
  Calls Tryz.prog 46 #[f.val] w fun e w'=>∃ mb S wr,e=.returned (.tuple #[.map (some mb),.int .i64 wr])∧Ext w w'∧w.heap.size ≤ mb∧(∃ n,MapAt w' 109 mb n (seenV S))∧S.Nodup∧(∀ q,q ∈ S ↔ Reach f.code q)∧Least (BadIn f.code (Reach f.code)) wr:=by
 obtain ⟨w1,hrun,m1,g1,s1⟩:=(MapAt.made (w.alloc (.cells #[.string f.name,.int .i64 f.params,.int .i64 f.places,.int .i64 f.ty.base,.int .i64 f.ty.bits,.string f.ty.name,.bool f.ty.opt,.bool f.ty.err,.slice f.A f.code.length f.cap] 48)) 109).store (V':=seenV [(0,0)]) key_point Tryz.underlying102 (keyOf_pt (a:=0) (h:=0) (by decide) (by decide) (by decide) (by decide)).choose_spec (.bool true) (seenV_in (p:=(0,0)) (List.mem_singleton.2 rfl)) (fun x hx=>(seenV_cons hx).trans (seenV_nil x))
 rw [size_alloc] at hrun m1 g1
 have hs1:w1.heap.size=w.heap.size + 2:=by rw [s1,size_alloc,size_alloc]
 clear s1
 have M1:=Lib.hid m1
 have G1:=Lib.hid g1
 have HC:=Lib.hid hC
 have SN:=Lib.hid sn
 clear m1 g1 hC sn
 have hmm:=@run_makeMap Tryz.prog
 unfold Fc.val
 go_enter Tryz.func46,Tryz.ntmps46
 go_wp2_with fail
 simp only [show w.heap.size + 2 + 1=w.heap.size + 3 from rfl,show w.heap.size + 3 + 1=w.heap.size + 4 from rfl,show w.heap.size + 4 + 1=w.heap.size + 5 from rfl,show w.heap.size + 5 + 1=w.heap.size + 6 from rfl]
 go_loopg [] (lkMs f.code [(0,0)] [(0,0)]) (fun k wr=>∃ v S T H wg,LkSt w wr f v S T H wg∧LkInv f.code S T H wg∧lkMs f.code S T ≤ k)
 case atStart=>exact ⟨_,_,_,_,_,LkSt.begin f w w1 hs1 M1.out G1.out,LkInv.start,Nat.le_refl _⟩
 case round =>
  clear hs1 M1 G1 hmm hrun
  obtain ⟨v,S,T,H,wg,st,iv,hk⟩:=hrel
  cases T with
  | nil =>
   have c5:=st.tcell.cell 0
   have c6:=st.wcell.cell 0
   have c4:=st.scell.cell 0
   obtain ⟨g,off,cap,hv,_,_,_⟩:=st.que.slice
   obtain ⟨hr,hl⟩:=iv.end_
   subst hv
   have HR:=Lib.hid hr
   have HL:=Lib.hid hl
   have ST:=Lib.hid st
   have IV:=Lib.hid iv
   clear hr hl st iv hk
   simp only [List.getElem?_toArray,List.getElem?_cons_zero,List.length_nil] at c4 c5 c6
   go_wp2_with fail
   go_quiet (fail)
   go_wp2_with fail
   go_ret2
   exact ⟨_,S,wg,rfl,ST.out.ext.drewN _,by omega,(let ⟨n,hn⟩:=ST.out.seen; ⟨n,hn.keep rfl⟩),IV.out.nd,HR.out,HL.out⟩
  | cons p T =>
   obtain ⟨hp,hnT,hsT⟩:=iv.head
   obtain ⟨i1,i2,i3,i4⟩:=hp.inb SN.out
   obtain ⟨l1,l2⟩:=iv.lens SN.out
   have hfew:=SN.out.few
   simp only [List.length_cons] at l2
   obtain ⟨x,hx⟩:∃ x,x=xAt f.code p:=⟨_,rfl⟩
   have hxm:x ∈ f.code:=by rw [hx]; exact xAt_mem ⟨i1,i2,i3,i4⟩
   obtain ⟨t1,t2,t3⟩:=SN.out.each x hxm
   have hpu:=puts_le x
   obtain ⟨g,off,cap,a2,c2,hv,hg,hob,q0,q1,hsl,hq,hob2⟩:=st.que.pop
   obtain ⟨pa,ph⟩:=p
   simp only [] at i1 i2 i3 i4 q0 q1
   obtain ⟨n,hn⟩:∃ n:Nat,pa=n:=⟨pa.toNat,by omega⟩
   subst hn
   obtain ⟨bc,oc,hac,hbc,y0,y1,y2,y3,y4,y5,y6,y7,y8⟩:=HC.out.at_ (k:=n) (by omega) (x:=x) (by rw [hx]; unfold xAt; rfl)
   have c5:=st.tcell.cell 0
   have f5:=st.tcell.frozen 0
   have sz:=st.sz
   have z5:w.heap.size + 5 < wr.heap.size:=by omega
   have fb:=st.fbox.cells.2.2.2.2.2.2.2.2
   generalize hnT2:T.length=nT at *
   simp only [List.getElem?_toArray,List.getElem?_cons_zero] at c5
   subst hv
   have ST:=Lib.hid ((st.pop hq (by rw [hob2,hob])).alloc (.cells #[.int .i64 (n:Int),.int .i64 ph] 109))
   have PB:Hid (Blk ((wr.setCell ⟨w.heap.size + 5,0,none⟩ (.slice a2 nT c2)).alloc (.cells #[.int .i64 (n:Int),.int .i64 ph] 109)) wr.heap.size 109 #[.int .i64 (n:Int),.int .i64 ph]∧(Value.slice a2 nT c2).ownBlock ≠ some wr.heap.size) :=
    ⟨by have h:=Blk.new (wr.setCell ⟨w.heap.size + 5,0,none⟩ (.slice a2 nT c2)) 109 #[.int .i64 (n:Int),.int .i64 ph]; rwa [size_setCell] at h,by rw [hob2]; intro e; cases e; exact absurd hg (Nat.lt_irrefl _)⟩
   obtain ⟨hh,hhe⟩:∃ hh,hh=(H n).getD 0:=⟨_,rfl⟩
   obtain ⟨is,hie⟩:∃ is,is=(H n).isSome:=⟨_,rfl⟩
   have hlk:(Instr.lookup 111 (.map (some (w.heap.size + 3))) (.int .i64 (n:Int)) true).run Tryz.prog ((wr.setCell ⟨w.heap.size + 5,0,none⟩ (.slice a2 nT c2)).alloc (.cells #[.int .i64 (n:Int),.int .i64 ph] 109))=.ok (.tuple #[.int .i64 hh,.bool is]) ((wr.setCell ⟨w.heap.size + 5,0,none⟩ (.slice a2 nT c2)).alloc (.cells #[.int .i64 (n:Int),.int .i64 ph] 109)):=by
    obtain ⟨m,hm⟩:=ST.out.hts
    obtain ⟨l,hl⟩:=keyOf_i (i:=(n:Int)) (by omega) (by omega)
    rw [hm.look key_int Tryz.underlying111 zero_int hl true,hhe,hie]
    cases hH:H n <;> simp [hV,hH]
   have W1:=Lib.hid (show wr1S H (n,ph) wg=bif is && (hh != ph) then minS wg n else wg from by rw [hie,hhe]; rfl)
   have IV:=Lib.hid iv
   have HX:=Lib.hid hx
   clear iv st hq hp hsT hnT hx hie hhe
   have HY:Hid (∀ w':World,Ext w w' → w'.cell? ⟨bc,oc + n * 9,none⟩=some (.int .i64 x.op)∧w'.cell? ⟨bc,oc + n * 9 + 1,none⟩=some (.int .i64 x.a)∧w'.cell? ⟨bc,oc + n * 9 + 2,none⟩=some (.int .i64 x.b)∧w'.cell? ⟨bc,oc + n * 9 + 3,none⟩=some (.int .i64 x.ty.base) ∧
     w'.cell? ⟨bc,oc + n * 9 + 4,none⟩=some (.int .i64 x.ty.bits)∧w'.cell? ⟨bc,oc + n * 9 + 5,none⟩=some (.string x.ty.name)∧w'.cell? ⟨bc,oc + n * 9 + 6,none⟩=some (.bool x.ty.opt)∧w'.cell? ⟨bc,oc + n * 9 + 7,none⟩=some (.bool x.ty.err)∧w'.cell? ⟨bc,oc + n * 9 + 8,none⟩=some (.string x.name)) :=
    fun w' e=>⟨(e.cell hbc).trans y0,(e.cell hbc).trans y1,(e.cell hbc).trans y2,(e.cell hbc).trans y3,(e.cell hbc).trans y4,(e.cell hbc).trans y5,(e.cell hbc).trans y6,(e.cell hbc).trans y7,(e.cell hbc).trans y8⟩
   clear y0 y1 y2 y3 y4 y5 y6 y7 y8
   have HLT:Hid (∀ q,(addT S T q).length ≤ 1000000):=fun q=>by
    by_cases h:q ∈ S
    ·rw [addT_in h]; omega
    ·rw [addT_out h,List.length_append]; simp; omega
   have HAC:=Lib.hid hac
   clear hac
   have tok1:True:=trivial
   have tok2:True:=trivial
   have szp:w.heap.size + 7 ≤ wr.heap.size:=sz
   clear sz
   go_wp2_with (first
    | (go_at_call 84
       have _t:=tok1
       refine (bad_any w _ f _ _ _ _ _ _ ST.out).mono ?_
       rintro r w3 ⟨rfl,st3,kp3,z3⟩
       have PB:=Lib.hid (kp3 _ _ _ szp PB.out.2 PB.out.1)
       have ST:=Lib.hid st3
       have d0:=PB.out.1.cell 0
       have d1:=PB.out.1.cell 1
       clear tok1 st3 kp3
       simp only [List.getElem?_toArray,List.getElem?_cons_zero,List.getElem?_cons_succ] at d0 d1)
    | (at_mapUpdate
       obtain ⟨m,hm⟩:=ST.out.hts
       obtain ⟨l,hl⟩:=keyOf_i (i:=(n:Int)) (by omega) (by omega)
       refine wpList_store_map rfl _ _ _ 111 (.inl rfl) (V':=hV (updH H n ph)) key_int Tryz.underlying111 hm rfl (key:=.int .i64 (n:Int)) rfl rfl hl (hV_same _ _ _) (fun x hx=>hV_upd _ _ _ _ hx) ?_
       intro w4 m4 g4 s4
       try clear d0 d1
       clear fb c5 f5 q0 q1 hsl hlk z5
       have PB:=Lib.hid ((LkKeep.mapped (v:=(Value.slice a2 nT c2)) g4 (.inr rfl)) _ _ _ szp PB.out.2 PB.out.1)
       have ST:=Lib.hid (ST.out.mapped (H':=updH H n ph) g4 (.inr rfl) (let ⟨m,hm⟩:=ST.out.seen; ⟨m,hm.grown g4 (by simp)⟩) ⟨_,m4⟩)
       obtain ⟨y0,y1,y2,y3,y4,y5,y6,y7,y8⟩:=HY.out w4 ST.out.ext
       have fb:=ST.out.fbox.cells.2.2.2.2.2.2.2.2
       have d0:=PB.out.1.cell 0
       have d1:=PB.out.1.cell 1
       have z4:=PB.out.1.lt
       have zb4:w.heap.size < w4.heap.size:=by have:=ST.out.sz; omega
       clear s4 g4 m4 hm hl
       try clear tok1
       rw [HAC.out] at fb
       simp only [List.getElem?_toArray,List.getElem?_cons_zero,List.getElem?_cons_succ] at d0 d1)
    | (go_at_call 86
       refine (stepOf_cells x _).mono ?_
       rintro r w5 ⟨rfl,x5⟩
       clear y0 y1 y2 y3 y4 y5 y6 y7 y8 d0 d1 fb
       have XB:=Lib.hid ((Blk.new w4 63 #[.int .i64 x.op,.int .i64 x.a,.int .i64 x.b,.int .i64 x.ty.base,.int .i64 x.ty.bits,.string x.ty.name,.bool x.ty.opt,.bool x.ty.err,.string x.name]).ext x5)
       have PB:=Lib.hid (And.intro ((PB.out.1.alloc _).ext x5) PB.out.2)
       have ST:=Lib.hid ((ST.out.alloc _).ext' x5)
       have fb:=ST.out.fbox.cells.2.2.2.2.2.2.2.2
       have d0:=PB.out.1.cell 0
       have d1:=PB.out.1.cell 1
       have x0:=XB.out.cell 0
       have x1:=XB.out.cell 1
       have z5a:=PB.out.1.lt
       have z5b:=XB.out.lt
       have zb5:w.heap.size < w5.heap.size:=by have:=ST.out.sz; omega
       clear x5
       rw [HAC.out] at fb
       simp only [List.getElem?_toArray,List.getElem?_cons_zero,List.getElem?_cons_succ] at d0 d1 x0 x1)
    | (go_at_call 23; refine (leads_any _ _).mono ?_; rintro r w' ⟨rfl,rfl⟩)
    | (go_at_call 84
       first
        | refine (bad_any w _ f _ _ _ _ _ _ (ST.out.alloc _)).mono ?_
        | refine (bad_any w _ f _ _ _ _ _ _ ST.out).mono ?_
       rintro r w8 ⟨rfl,st8,kp8,z8⟩
       clear d0 d1 fb
       have ST:=Lib.hid st8
       clear st8 kp8)
    | (go_at_call 85
       have _t:=tok2
       have hld:=t3 (by assumption)
       refine (reach_any w _ f _ _ _ _ _ _ _ (ST.out.alloc _) (by omega) (by omega) (by omega) (by first | omega | (have h12:=lead12 (by assumption); omega)) (by first | omega | (have h12:=lead12 (by assumption); omega))).mono ?_
       rintro r w7 ⟨rfl,v7,st7,kp7,z7⟩
       clear d0 d1 fb x0 x1
       have PB:=Lib.hid (kp7 _ _ _ szp PB.out.2 (PB.out.1.alloc _))
       have SB:=Lib.hid (kp7 _ _ _ (by have:=ST.out.sz; omega) (fun e=>absurd (ST.out.que.block e).2 (Nat.lt_irrefl _)) (Blk.new w5 147 #[.int .i64 (takesS x),.int .i64 (putsS x),.bool (goesS x)]))
       have ST:=Lib.hid st7
       have fb:=ST.out.fbox.cells.2.2.2.2.2.2.2.2
       have d0:=PB.out.1.cell 0
       have d1:=PB.out.1.cell 1
       have s2:=SB.out.1.cell 2
       clear tok2 st7 kp7
       rw [HAC.out] at fb
       simp only [List.getElem?_toArray,List.getElem?_cons_zero,List.getElem?_cons_succ] at d0 d1 s2)
    | (go_at_call 85
       first
        | refine (reach_any w _ f _ _ _ _ _ _ _ (ST.out.alloc _) (by omega) (by omega) (by omega) (by omega) (by omega)).mono ?_
        | refine (reach_any w _ f _ _ _ _ _ _ _ ST.out (HLT.out _) (by omega) (by omega) (by omega) (by omega)).mono ?_
       rintro r w9 ⟨rfl,v9,st9,kp9,z9⟩
       clear d0 d1 fb
       have ST:=Lib.hid st9
       clear st9 kp9))
   all_goals
    have e0:x=xAt f.code ((n:Int),ph):=HX.out
    first
     | (have ok:okH (xAt f.code ((n:Int),ph)) ph=false:=by
          rw [← e0]; unfold okH
          first
           | (rw [decide_eq_true (show ph < takesS x by omega)]; rfl)
           | (rw [decide_eq_true (show 64 < ph by omega),Bool.or_true]; rfl)
        have e:=LkInv.bad SN.out IV.out ok
        have e2:=e.2
        have e1:=e.1
        first
         | (have hw:wr1S H ((n:Int),ph) wg=minS wg n:=by rw [W1.out,show is=true by assumption,show (hh != ph)=true by assumption]; rfl
            rw [hw] at e1)
         | (have hw:wr1S H ((n:Int),ph) wg=wg:=by rw [W1.out,show is=true by assumption,show (hh != ph)=false by assumption]; rfl
            rw [hw] at e1)
         | (have hw:wr1S H ((n:Int),ph) wg=wg:=by rw [W1.out,show is=false by assumption]; rfl
            rw [hw] at e1)
        go_roundg (gk - 1)
        case measure=>omega
        case rel=>first | exact ⟨_,_,_,_,_,ST.out,e1,by omega⟩ | exact ⟨_,_,_,_,_,ST.out.alloc _,e1,by omega⟩)
     | (have ok:okH (xAt f.code ((n:Int),ph)) ph=true:=by
          rw [← e0]; unfold okH
          rw [decide_eq_false (show ¬ ph < takesS x by omega),decide_eq_false (show ¬ 64 < ph by omega)]; rfl
        have go0:(!goesS x)=true:=by assumption
        have go:goesS x=false:=by simpa using go0
        have e:=LkInv.stop SN.out IV.out ok (by rw [← e0]; exact go)
        have e2:=e.2
        have e1:=e.1
        rw [← e0] at e1 e2
        first
         | (have hw:wr1S H ((n:Int),ph) wg=minS wg n:=by rw [W1.out,show is=true by assumption,show (hh != ph)=true by assumption]; rfl
            rw [hw] at e1)
         | (have hw:wr1S H ((n:Int),ph) wg=wg:=by rw [W1.out,show is=true by assumption,show (hh != ph)=false by assumption]; rfl
            rw [hw] at e1)
         | (have hw:wr1S H ((n:Int),ph) wg=wg:=by rw [W1.out,show is=false by assumption]; rfl
            rw [hw] at e1)
        first
         | (have h5:leadsS x.op=true:=by assumption
            have h6:(x.op == 12)=true:=by assumption
            simp only [S1,T1,leadH,behS,h5,h6,cond_true,cond_false] at e1 e2)
         | (have h5:leadsS x.op=true:=by assumption
            have h6:(x.op == 12)=false:=by assumption
            simp only [S1,T1,leadH,behS,h5,h6,cond_true,cond_false] at e1 e2)
         | (have h5:leadsS x.op=false:=by assumption
            simp only [S1,T1,leadH,behS,h5,cond_true,cond_false] at e1 e2)
        go_roundg (gk - 1)
        case measure=>omega
        case rel=>first | exact ⟨_,_,_,_,_,ST.out,e1,by omega⟩ | exact ⟨_,_,_,_,_,ST.out.alloc _,e1,by omega⟩)
     | (have ok:okH (xAt f.code ((n:Int),ph)) ph=true:=by
          rw [← e0]; unfold okH
          rw [decide_eq_false (show ¬ ph < takesS x by omega),decide_eq_false (show ¬ 64 < ph by omega)]; rfl
        have go0:(!goesS x)=false:=by assumption
        have go:goesS x=true:=by simpa using go0
        have hend:((n:Int) + 1 == (f.code.length:Int))=true:=by assumption
        have e:=LkInv.fall SN.out IV.out ok (by rw [← e0]; exact go) (eq_of_beq hend)
        have e2:=e.2
        have e1:=e.1
        rw [← e0] at e1 e2
        first
         | (have hw:wr1S H ((n:Int),ph) wg=minS wg n:=by rw [W1.out,show is=true by assumption,show (hh != ph)=true by assumption]; rfl
            rw [hw] at e1)
         | (have hw:wr1S H ((n:Int),ph) wg=wg:=by rw [W1.out,show is=true by assumption,show (hh != ph)=false by assumption]; rfl
            rw [hw] at e1)
         | (have hw:wr1S H ((n:Int),ph) wg=wg:=by rw [W1.out,show is=false by assumption]; rfl
            rw [hw] at e1)
        first
         | (have h5:leadsS x.op=true:=by assumption
            have h6:(x.op == 12)=true:=by assumption
            simp only [S1,T1,leadH,behS,h5,h6,cond_true,cond_false] at e1 e2)
         | (have h5:leadsS x.op=true:=by assumption
            have h6:(x.op == 12)=false:=by assumption
            simp only [S1,T1,leadH,behS,h5,h6,cond_true,cond_false] at e1 e2)
         | (have h5:leadsS x.op=false:=by assumption
            simp only [S1,T1,leadH,behS,h5,cond_true,cond_false] at e1 e2)
        go_roundg (gk - 1)
        case measure=>omega
        case rel=>first | exact ⟨_,_,_,_,_,ST.out,e1,by omega⟩ | exact ⟨_,_,_,_,_,ST.out.alloc _,e1,by omega⟩)
     | (have ok:okH (xAt f.code ((n:Int),ph)) ph=true:=by
          rw [← e0]; unfold okH
          rw [decide_eq_false (show ¬ ph < takesS x by omega),decide_eq_false (show ¬ 64 < ph by omega)]; rfl
        have go0:(!goesS x)=false:=by assumption
        have go:goesS x=true:=by simpa using go0
        have hend:((n:Int) + 1 == (f.code.length:Int))=false:=by assumption
        have e:=LkInv.on SN.out IV.out ok (by rw [← e0]; exact go) (by simpa using hend)
        have e2:=e.2
        have e1:=e.1
        rw [← e0] at e1 e2
        first
         | (have hw:wr1S H ((n:Int),ph) wg=minS wg n:=by rw [W1.out,show is=true by assumption,show (hh != ph)=true by assumption]; rfl
            rw [hw] at e1)
         | (have hw:wr1S H ((n:Int),ph) wg=wg:=by rw [W1.out,show is=true by assumption,show (hh != ph)=false by assumption]; rfl
            rw [hw] at e1)
         | (have hw:wr1S H ((n:Int),ph) wg=wg:=by rw [W1.out,show is=false by assumption]; rfl
            rw [hw] at e1)
        first
         | (have h5:leadsS x.op=true:=by assumption
            have h6:(x.op == 12)=true:=by assumption
            simp only [S1,T1,leadH,behS,h5,h6,cond_true,cond_false] at e1 e2)
         | (have h5:leadsS x.op=true:=by assumption
            have h6:(x.op == 12)=false:=by assumption
            simp only [S1,T1,leadH,behS,h5,h6,cond_true,cond_false] at e1 e2)
         | (have h5:leadsS x.op=false:=by assumption
            simp only [S1,T1,leadH,behS,h5,cond_true,cond_false] at e1 e2)
        go_roundg (gk - 1)
        case measure=>omega
        case rel=>first | exact ⟨_,_,_,_,_,ST.out,e1,by omega⟩ | exact ⟨_,_,_,_,_,ST.out.alloc _,e1,by omega⟩)
end Go.Proofs.YtcoookehfhhhdaaGreatDoor.c
