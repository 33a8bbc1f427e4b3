/- Contracts of the program's set.list, Live, dead and Dead. The table strings.asciiSpace holds what its text lays; lengths are bounded. -/
import Derived.Test.YtknaemlnhediaaaGreatDoorGlive
import Derived.Test.YtknaemlnhediaaaGreatDoorIq
import Derived.Test.YtknaemlnhediaaaGreatDoorLiveP
import Derived.Test.YtknaemlnhediaaaGreatDoorSlots
namespace Go.Proofs.YtknaemlnhediaaaGreatDoor.c
open Go.RowKit
set_option linter.unusedVariables false
set_option maxRecDepth 100000
set_option maxHeartbeats 12800000
set_option linter.unusedSimpArgs false
noncomputable def deadF (c:List Rg) (j:Nat):Nat → Value:=fun z=>.bool (decide (z < j) && deadB c z)
structure DdSt (w0 w:World) (bx gn gH n:Nat) (F:Array Value) (T:List (Nat → Bool)) (c:List Rg) (j:Nat):Prop where
 ext:Ext w0 w
 box:Blk w bx 59 F
 row:RowAt w gn 4 n (deadF c j)
 tab:RecRow w gH 175 6 setC T
 lo:w0.heap.size ≤ bx∧bx < gn∧gn < gH
section
variable {w0 w w':World} {bx gn gH n:Nat} {F:Array Value} {T:List (Nat → Bool)} {c:List Rg} {j:Nat}
theorem DdSt.ext' (s:DdSt w0 w bx gn gH n F T c j) (x:Ext w w'):DdSt w0 w' bx gn gH n F T c j:=⟨s.ext.trans x,s.box.ext x,s.row.ext x,s.tab.ext x,s.lo⟩
theorem DdSt.skip (s:DdSt w0 w bx gn gH n F T c j) (h:deadB c j=false):DdSt w0 w bx gn gH n F T c (j + 1):=by
 refine ⟨s.ext,s.box,s.row.same fun z hz=>?_,s.tab,s.lo⟩
 unfold deadF
 by_cases e:z=j
 ·subst e; rw [h]; simp
 ·congr 2
  exact decide_eq_decide.2 (by omega)
theorem DdSt.mark (s:DdSt w0 w bx gn gH n F T c j) {b:Bool} (h:deadB c j=b):DdSt w0 (w.setCell ⟨gn,j,none⟩ (.bool b)) bx gn gH n F T c (j + 1):=by
 have h2:=s.lo
 refine ⟨s.ext.setCell (by show _ ≤ gn; omega) _,s.box.far (by show bx ≠ gn; omega) _,s.row.set_ fun z hz=>?_,s.tab.far (by show gH ≠ gn; omega) _,s.lo⟩
 unfold deadF
 by_cases e:z=j
 ·subst e; rw [if_pos rfl,h]; simp
 ·rw [if_neg e]
  congr 2
  exact decide_eq_decide.2 (by omega)
theorem DdSt.fcells (s:DdSt w0 w bx gn gH n F T c j) {a0 a1 a2 a3 a4 a5 a6 a7 a8:Value} (h:F=#[a0,a1,a2,a3,a4,a5,a6,a7,a8]) :
  w.cell? ⟨bx,0,none⟩=some a0∧w.cell? ⟨bx,1,none⟩=some a1∧w.cell? ⟨bx,2,none⟩=some a2∧w.cell? ⟨bx,3,none⟩=some a3∧w.cell? ⟨bx,4,none⟩=some a4∧w.cell? ⟨bx,5,none⟩=some a5∧w.cell? ⟨bx,6,none⟩=some a6∧w.cell? ⟨bx,7,none⟩=some a7∧w.cell? ⟨bx,8,none⟩=some a8:=by
 have b:=s.box
 subst h
 exact ⟨b.cell 0,b.cell 1,b.cell 2,b.cell 3,b.cell 4,b.cell 5,b.cell 6,b.cell 7,b.cell 8⟩
end
theorem gdead_any (l:List Rf) (f:Rf) (w:World) (g:GoodF l f) (hC:RgAt w f.A f.code) :
  Calls Tryz.prog 118 #[f.val] w fun e w'=>∃ b:Nat,e=.returned (.slice (some ⟨b,0,none⟩) f.code.length f.code.length)∧RowAt w' b 4 f.code.length (fun z=>.bool (deadB f.code z))∧w.heap.size ≤ b∧Ext w w':=by
 obtain ⟨n,hn⟩:∃ n,n=f.code.length:=⟨_,rfl⟩
 have hfew:n ≤ 6000:=by have:=g.few; omega
 obtain ⟨b,off,hA,hb,_⟩:=hC.top (by have:=g.pos; omega)
 have HGX:Hid (∀ p,p < n → GoodX l f (f.code.getD p default)):=fun p hp=>g.at_ (getD_mem (by omega))
 have HLV:Hid (∀ w1,Ext w w1 → Calls Tryz.prog 115 #[.agg #[.string f.name,.int .i64 f.params,.int .i64 f.regs,.int .i64 f.ty.base,.int .i64 f.ty.bits,.string f.ty.name,.bool f.ty.opt,.bool f.ty.err,.slice f.A n f.cap]] w1 fun e w'=>∃ (b:Nat) (H:List (Nat → Bool)),w1.heap.size ≤ b∧e=.returned (.slice (some ⟨b,0,none⟩) n n)∧H.length=n∧RecRow w' b 175 6 setC H∧(∀ p,p < n → ∀ r,r < 6 → tabB H p r=liveB f.code p (r:Nat))∧Ext w1 w'):=fun w1 x=>by
  have h:=glive_any l f w1 g (hC.ext x)
  unfold Rf.val at h
  rwa [← hn] at h
 have HRG:Hid (f.regs ≤ 6):=g.reg.2
 unfold Rf.val
 rw [← hn]
 rw [hA] at hC HLV ⊢
 have HC:=Lib.hid hC
 have HN:=Lib.hid hn
 have HZ:Hid ((Tryz.prog.info? 67).map (·.size)=some 11):=by unfold Hid; kernel_rfl
 have HZ6:Hid ((Tryz.prog.info? 175).map (·.size)=some 6):=by unfold Hid; kernel_rfl
 have hmk:=fun W=>run_make_row' (P:=Tryz.prog) 135 4 (.bool false) 1 Tryz.underlying135 info_bool2 rfl .i64 .i64 n (by omega) (by omega) W
 clear hC hn hA hb g
 go_enter Tryz.func118,Tryz.ntmps118
 go_wp2_with (first
  | (go_at_call 115
     refine (HLV.out _ exA).mono ?_
     rintro r w2 ⟨gH,H,hgH,rfl,hHl,hrow,hlv,x2⟩
     have HHL:=Lib.hid hHl
     have HRW:=Lib.hid hrow
     have HLB:=Lib.hid hlv
     have X2:=Lib.hid x2
     have HGH:Hid (w.heap.size + 1 < gH):=by unfold Hid; simp at hgH; omega
     clear hHl hrow hlv x2 hgH))
 clear hmk HLV
 obtain ⟨F,hF⟩:∃ F:Array Value,F=#[.string f.name,.int .i64 f.params,.int .i64 f.regs,.int .i64 f.ty.base,.int .i64 f.ty.bits,.string f.ty.name,.bool f.ty.opt,.bool f.ty.err,.slice (some ⟨b,off,none⟩) n f.cap]:=⟨_,rfl⟩
 have C0:Hid (DdSt w w2 w.heap.size (w.heap.size + 1) gH n F H f.code 0):=by
  have b1:=((Blk.new w 59 F).alloc (.cells (madeCells #[.bool false] n) 4))
  have r1:=RowAt.made (w.alloc (.cells F 59)) 4 (.bool false) n
  rw [hF] at b1 r1 ⊢
  have e1:(w.alloc (.cells #[.string f.name,.int .i64 f.params,.int .i64 f.regs,.int .i64 f.ty.base,.int .i64 f.ty.bits,.string f.ty.name,.bool f.ty.opt,.bool f.ty.err,.slice (some ⟨b,off,none⟩) n f.cap] 59)).heap.size=w.heap.size + 1:=by simp
  rw [e1] at r1
  exact ⟨(((Ext.refl w).alloc _).alloc _).trans X2.out,b1.ext X2.out,(r1.ext X2.out).same fun z hz=>by unfold deadF; simp,HRW.out,Nat.le_refl _,Nat.lt_succ_self _,HGH.out⟩
 have HFF:=Lib.hid hF
 clear hF X2
 have HLO:Hid (w.heap.size ≤ w.heap.size + 1):=Nat.le_succ _
 generalize hgn:w.heap.size + 1=gn at C0 HLO ⊢
 generalize hbx:w.heap.size=bx at C0 ⊢
 clear hgn hbx
 clear HRW HGH
 go_loopw [14] (fun i wr=>∃ j:Nat,j ≤ n∧i=.int .i64 j∧DdSt w wr bx gn gH n F H f.code j) (fun i _=>n - (intOf i).toNat)
 case atStart=>exact ⟨0,Nat.zero_le _,rfl,C0.out⟩
 case round =>
  clear C0
  obtain ⟨j,hj,rfl,st⟩:=hrel
  have ST:=Lib.hid st
  by_cases hlt:j < n
  ·obtain ⟨x,hx⟩:∃ x,x=f.code.getD j default:=⟨_,rfl⟩
   obtain ⟨s,hs⟩:∃ s,s=H.getD j default:=⟨_,rfl⟩
   obtain ⟨y0,y1,y2,y3,y4,y5⟩:=st.tab.six (by have:=HHL.out; omega) hs
   have zH:=st.tab.lt
   have HDB:Hid (deadB f.code j=(idleB x.op && !liveB f.code j x.d)):=by unfold Hid; rw [deadB_eq,← hx]
   have HSR:Hid (∀ r,r < 6 → s r=liveB f.code j (r:Nat)):=fun r hr=>by
    have h:=HLB.out j hlt r hr
    rw [← h,hs]
    unfold tabB
    rw [List.getD,List.getD,List.getElem?_eq_getElem (by have:=HHL.out; omega)]
    rfl
   obtain ⟨p0,p1,p2,p3,p4,p5,p6,p7,p8⟩:=st.fcells HFF.out
   have zb:=st.box.lt
   obtain ⟨hb1,d0,d1,d2,d3,d4,d5,d6,d7,d8,d9,d10⟩:=(HC.out.ext st.ext).cells (by have:=HN.out; omega) hx
   have gx:=HGX.out j hlt
   rw [← hx] at gx
   have HXX:=Lib.hid hx
   clear st hx hs p0 p1 p2 p3 p4 p5 p6 p7
   cases hid:idleB x.op with
   | true =>
    have hreg:=idle_reg gx hid
    obtain ⟨dn,hdn⟩:∃ dn:Nat,x.d=dn:=⟨x.d.toNat,by omega⟩
    have hd6:dn < 6:=by have:=HRG.out; omega
    have hsd:Hid (deadB f.code j=!s dn):=by unfold Hid; rw [HDB.out,hid,hdn,HSR.out dn hd6,Bool.true_and]
    have HSD:=Lib.hid hsd.out
    have HDN:=Lib.hid hdn
    have h1i:IntKind.i64.wrap ((j:Int) + 1)=(j:Int) + 1:=IntWalk.i64_in _ (by omega)
    obtain ⟨sd,hsd2⟩:∃ b,s dn=b:=⟨_,rfl⟩
    rw [hsd2] at HSD
    have HS2:=Lib.hid hsd2
    have n0:=ST.out.row.cell hlt
    have f0:=ST.out.row.frozen j
    have zn:=ST.out.row.lt
    rw [hdn] at d1
    clear gx HDB HSR hreg hsd hsd2 hdn
    obtain ⟨t0,h0⟩:∃ t,(x.op == 0)=t:=⟨_,rfl⟩
    obtain ⟨t1,h1⟩:∃ t,(x.op == 1)=t:=⟨_,rfl⟩
    obtain ⟨t2,h2⟩:∃ t,(x.op == 2)=t:=⟨_,rfl⟩
    obtain ⟨t3,h3⟩:∃ t,(x.op == 3)=t:=⟨_,rfl⟩
    obtain ⟨t6,h6⟩:∃ t,(x.op == 6)=t:=⟨_,rfl⟩
    obtain ⟨t16,h16⟩:∃ t,(x.op == 16)=t:=⟨_,rfl⟩
    unfold idleB at hid
    rw [h0,h1,h2,h3,h6,h16] at hid
    cases t0
    case' false=>cases t1
    case' false.false=>cases t2
    case' false.false.false=>cases t3
    case' false.false.false.false=>cases t6
    case' false.false.false.false.false=>cases t16
    case false.false.false.false.false.false=>cases hid
    all_goals
     clear hid
     go_wp2_with (first
      | ((with_reducible show wpList _ _ _ (Oper.mk none (.store 175 (.tmp 5) (.tmp 18)) _ _ _ _ :: _) _ _)
         refine store_new 175 _ _ rfl _ _ rfl rfl rfl rfl HZ6.out (by intro v hv; simp at hv; rcases hv with rfl | rfl | rfl | rfl | rfl | rfl <;> rfl) ?_
         intro w3 x3 B3
         have X3:=Lib.hid x3
         have BS:=Lib.hid B3
         have S3:=Lib.hid (ST.out.ext' x3)
         clear p8 zb hb1 d0 d1 d2 d3 d4 d5 d6 d7 d8 d9 d10
         obtain ⟨p0,p1,p2,p3,p4,p5,p6,p7,p8⟩:=S3.out.fcells HFF.out
         have zb:=S3.out.box.lt
         obtain ⟨hb1,d0,d1,d2,d3,d4,d5,d6,d7,d8,d9,d10⟩:=(HC.out.ext S3.out.ext).cells (x:=x) (by have:=HN.out; omega) HXX.out
         clear B3 x3 p0 p1 p2 p3 p4 p5 p6 p7 y0 y1 y2 y3 y4 y5 n0 f0 zn zH)
      | ((with_reducible show wpList _ _ _ (Oper.mk none (.store 67 (.tmp 6) (.tmp 23)) _ _ _ _ :: _) _ _)
         refine store_new 67 _ _ rfl _ _ rfl rfl rfl rfl HZ.out (rg_one x) ?_
         intro w4 x4 B4
         have S4:=Lib.hid (S3.out.ext' x4)
         have b6:=BS.out.ext x4
         have q0:=b6.cell dn
         rw [show (#[.bool (s 0),.bool (s 1),.bool (s 2),.bool (s 3),.bool (s 4),.bool (s 5)]:Array Value)[dn]?=some (.bool (s dn)) from setV_get hd6,HS2.out] at q0
         have zq:=b6.lt
         obtain ⟨e0,e1,e2,e3,e4,e5,e6,e7,e8,e9,e10⟩:=rg_cells x B4
         rw [HDN.out] at e1
         have zb4:=B4.lt
         have n0:=S4.out.row.cell hlt
         have f0:=S4.out.row.frozen j
         have zn:=S4.out.row.lt
         clear B4 x4 b6 e2 e3 e4 e5 e6 e7 e8 e9 p8 zb hb1 d0 d1 d2 d3 d4 d5 d6 d7 d8 d9 d10))
     case roundEnd=>exact ⟨⟨j + 1,by omega,by go_num,S4.out.mark HSD.out⟩,by simp [intOf]; omega⟩
   | false =>
    have HDF:Hid (deadB f.code j=false):=by unfold Hid; rw [HDB.out,hid,Bool.false_and]
    unfold idleB at hid
    simp only [Bool.or_eq_false_iff] at hid
    obtain ⟨h0,h1,h2,h3,h6,h16⟩:=hid
    clear gx HDB HSR
    go_wp2_with (first
     | ((with_reducible show wpList _ _ _ (Oper.mk none (.store 175 (.tmp 5) (.tmp 18)) _ _ _ _ :: _) _ _)
        refine store_new 175 _ _ rfl _ _ rfl rfl rfl rfl HZ6.out (by intro v hv; simp at hv; rcases hv with rfl | rfl | rfl | rfl | rfl | rfl <;> rfl) ?_
        intro w3 x3 B3
        have S3:=Lib.hid (ST.out.ext' x3)
        clear p8 zb hb1 d0 d1 d2 d3 d4 d5 d6 d7 d8 d9 d10
        obtain ⟨p0,p1,p2,p3,p4,p5,p6,p7,p8⟩:=S3.out.fcells HFF.out
        have zb:=S3.out.box.lt
        obtain ⟨hb1,d0,d1,d2,d3,d4,d5,d6,d7,d8,d9,d10⟩:=(HC.out.ext S3.out.ext).cells (x:=x) (by have:=HN.out; omega) HXX.out
        clear B3 x3 p0 p1 p2 p3 p4 p5 p6 p7 y0 y1 y2 y3 y4 y5 zH)
     | ((with_reducible show wpList _ _ _ (Oper.mk none (.store 67 (.tmp 6) (.tmp 23)) _ _ _ _ :: _) _ _)
        refine store_new 67 _ _ rfl _ _ rfl rfl rfl rfl HZ.out (rg_one x) ?_
        intro w4 x4 B4
        have S4:=Lib.hid (S3.out.ext' x4)
        obtain ⟨e0,e1,e2,e3,e4,e5,e6,e7,e8,e9,e10⟩:=rg_cells x B4
        have zb4:=B4.lt
        clear B4 x4 e1 e2 e3 e4 e5 e6 e7 e8 e9 p8 zb hb1 d0 d1 d2 d3 d4 d5 d6 d7 d8 d9 d10))
    case roundEnd=>exact ⟨⟨j + 1,by omega,by go_num,S4.out.skip HDF.out⟩,by simp [intOf]; omega⟩
  ·obtain rfl:j=n:=by omega
   clear st
   go_wp2_with fail
   go_ret
   refine ⟨gn,rfl,ST.out.row.same fun z hz=>?_,HLO.out,ST.out.ext⟩
   unfold deadF
   rw [decide_eq_true hz,Bool.true_and]
end Go.Proofs.YtknaemlnhediaaaGreatDoor.c
