/- Contract of code.Thread. The table strings.asciiSpace holds what its text lays; sizes are bounded. -/
import Derived.Test.YtcoookehfhhhdaaGreatDoorClone
import Derived.Test.YtcoookehfhhhdaaGreatDoorUns
import Derived.Test.YtcoookehfhhhdaaGreatDoorKi
import Derived.BigRegion
namespace Go.Proofs.YtcoookehfhhhdaaGreatDoor.c
open Go.RowKit
set_option linter.unusedVariables false
set_option maxRecDepth 100000
set_option maxHeartbeats 6400000
set_option linter.unusedSimpArgs false
def ThrRet (l:List Fc) (er:Int) (e:Ending) (w w':World):Prop :=
 ∃ v m A' cap',e=.returned (.tuple #[v,.int .i64 er])∧v=.slice A' m.length cap'∧FcAt w' A' m∧(er=0 → ThrL l m)∧(er ≠ 0 → m=[])∧Ext w w'
theorem fc_one (f:Fc):∀ u ∈ (List.range 9).map (fcC f),u.oneCell'=true:=by
 intro u hu
 obtain ⟨j,hj,rfl⟩:=List.mem_map.1 hu
 have hj':=List.mem_range.1 hj
 match j,hj' with
 | 0,_ | 1,_ | 2,_ | 3,_ | 4,_ | 5,_ | 6,_ | 7,_ | 8,_=>rfl
theorem cThread_any (A:Option Addr) (cap:Nat) (l:List Fc) (w:World) (g:Laid w) (hA:FcAt w A l) (hl:l.length ≤ 9223372036854775806) (hc:l.length ≤ 48 → countS l ≤ 9223372036854775806) (hfl:∀ f,f ∈ l → f.code.length ≤ 9223372036854775806) :
  Calls Tryz.prog 7 #[.slice A l.length cap] w fun e w'=>ThrRet l (checkE l).2.2 e w w':=by
 have HCC:=Lib.hid (cCheck_any A cap l w g hA hl hc hfl)
 have HA:=Lib.hid hA
 clear hA hfl hc
 unfold ThrRet
 by_cases h0:(checkE l).2.2=0
 ·obtain ⟨hv,hun⟩:=check_ok h0
  rw [check_zero h0] at HCC ⊢
  have hl48:=(valid_parts hv).1
  have HV:=Lib.hid hv
  have HZF:Hid ((Tryz.prog.info? 48).map (·.size)=some 9):=by unfold Hid; kernel_rfl
  obtain ⟨i0,hi0,hz0,hz1,hz2⟩:=info_parts info_func
  have HI:=Lib.hid hi0; have HZ0:=Lib.hid hz0; have HZ1:=Lib.hid hz1; have HZ2:=Lib.hid hz2
  obtain ⟨len,hlen⟩:∃ len,len=l.length:=⟨_,rfl⟩
  have HLn:=Lib.hid hlen
  rw [← hlen] at hl hl48 HCC ⊢
  clear hlen hv hun h0 hi0 hz0 hz1 hz2
  simp only [] at HCC ⊢
  go_enter Tryz.func7,Tryz.ntmps7
  go_wp2_with (first
   | (go_at_call 20
      refine (HCC.out).mono ?_
      rintro r w1 ⟨rfl,x1⟩
      have X1:=Lib.hid x1
      clear x1))
  go_loopw [7,27] (fun v i wr=>∃ k M,k ≤ len∧i=.int .i64 (k:Nat)∧M.length=k∧ThSt w1 wr v M∧∀ j,j < k → Thrd (l.getD j default) (M.getD j default)) (fun _ i _=>len - (intOf i).toNat)
  case atStart=>exact ⟨0,[],Nat.zero_le _,rfl,rfl,ThSt.start _,fun j hj=>by omega⟩
  case round =>
   obtain ⟨k,M,hk,rfl,hM,st,hth⟩:=hrel
   have ST:=Lib.hid st
   have HTH:=Lib.hid hth
   clear st hth
   by_cases hlt:k < len
   ·obtain ⟨f,hf⟩:∃ f,f=l.getD k default:=⟨_,rfl⟩
    have hkl:k < l.length:=by have:=HLn.out; omega
    have hsn:Sane f.code:=sane_of HV.out (by rw [hf]; exact getD_mem hkl)
    have hfew:=hsn.few
    have hpos:=hsn.pos
    obtain ⟨b,off,rfl,hb,c0,c1,c2,c3,c4,c5,c6,c7,c8,hcd⟩:=(HA.out.ext (X1.out.trans ST.out.ext)).at_ (k:=k) hkl hf
    obtain ⟨nc,hnc⟩:∃ nc,nc=f.code.length:=⟨_,rfl⟩
    have HNC:=Lib.hid hnc
    have SN:=Lib.hid hsn
    have HCD:=Lib.hid hcd
    have HF:=Lib.hid hf
    rw [← hnc] at c8 hfew hpos
    clear hnc hsn hcd hf
    have hmk:=fun W=>run_make_row' (P:=Tryz.prog) 65 3 (.int .i64 0) 8 Tryz.underlying65 info_int rfl .i64 .i64 nc (by omega) (by omega) W
    go_wp2_with (first
     | (go_at_call 21
        refine (copied_any f.name f.params f.places f.ty f.A f.cap f.code _ HNC.out (HCD.out.ext exL) (by omega) hfew).mono ?_
        rintro r w2 ⟨gc,cap2,rfl,hg2,hr2,x2⟩
        have HBX:Hid (Blk w2 wr.heap.size 48 #[.string f.name,.int .i64 f.params,.int .i64 f.places,.int .i64 f.ty.base,.int .i64 f.ty.bits,.string f.ty.name,.bool f.ty.opt,.bool f.ty.err,.slice f.A nc f.cap]):=(Blk.new _ _ _).ext x2
        have HX2:Hid (Ext wr w2):=((Ext.refl wr).alloc _).trans x2
        have HR2:=Lib.hid hr2
        have hgc:wr.heap.size < gc:=by simp at hg2; omega
        clear hr2 x2 hg2 c0 c1 c2 c3 c4 c5 c6 c7 c8)
     | (refine wpList_store_row rfl 48 _ _ rfl wr.heap.size rfl 48 #[.string f.name,.int .i64 f.params,.int .i64 f.places,.int .i64 f.ty.base,.int .i64 f.ty.bits,.string f.ty.name,.bool f.ty.opt,.bool f.ty.err,.slice f.A nc f.cap] #[.string f.name,.int .i64 f.params,.int .i64 f.places,.int .i64 f.ty.base,.int .i64 f.ty.bits,.string f.ty.name,.bool f.ty.opt,.bool f.ty.err,.slice (some ⟨gc,0,none⟩) nc cap2] HBX.out rfl rfl ?_ HZF.out ?_
        ·intro v hv
         simp at hv
         rcases hv with rfl | rfl | rfl | rfl | rfl | rfl | rfl | rfl | rfl <;> rfl
        have BX3:Hid (Blk (w2.setRow wr.heap.size #[.string f.name,.int .i64 f.params,.int .i64 f.places,.int .i64 f.ty.base,.int .i64 f.ty.bits,.string f.ty.name,.bool f.ty.opt,.bool f.ty.err,.slice (some ⟨gc,0,none⟩) nc cap2]) wr.heap.size 48 #[.string f.name,.int .i64 f.params,.int .i64 f.places,.int .i64 f.ty.base,.int .i64 f.ty.bits,.string f.ty.name,.bool f.ty.opt,.bool f.ty.err,.slice (some ⟨gc,0,none⟩) nc cap2]):=HBX.out.row _
        have X3:Hid (Ext wr (w2.setRow wr.heap.size #[.string f.name,.int .i64 f.params,.int .i64 f.places,.int .i64 f.ty.base,.int .i64 f.ty.bits,.string f.ty.name,.bool f.ty.opt,.bool f.ty.err,.slice (some ⟨gc,0,none⟩) nc cap2])):=HX2.out.setRow (Nat.le_refl _) _
        have R3:Hid (CdRow (w2.setRow wr.heap.size #[.string f.name,.int .i64 f.params,.int .i64 f.places,.int .i64 f.ty.base,.int .i64 f.ty.bits,.string f.ty.name,.bool f.ty.opt,.bool f.ty.err,.slice (some ⟨gc,0,none⟩) nc cap2]) gc f.code):=HR2.out.keep (setRow_other _ _ _ _ (by omega))
        generalize w2.setRow wr.heap.size #[.string f.name,.int .i64 f.params,.int .i64 f.places,.int .i64 f.ty.base,.int .i64 f.ty.bits,.string f.ty.name,.bool f.ty.opt,.bool f.ty.err,.slice (some ⟨gc,0,none⟩) nc cap2]=w3 at BX3 X3 R3 ⊢
        have e8:=BX3.out.cell 8
        have z3:=BX3.out.lt
        simp only [List.getElem?_toArray,List.getElem?_cons_zero,List.getElem?_cons_succ] at e8))
    have HE0:Hid (RowAt (w3.alloc (.cells (madeCells #[.int .i64 0] nc) 3)) w3.heap.size 3 nc (endF f.code 0)):=(RowAt.made w3 3 (.int .i64 0) nc).same fun j hj=>endF_zero _ _
    obtain ⟨bf,hbf⟩:∃ bf,bf=wr.heap.size:=⟨_,rfl⟩
    rw [← hbf] at BX3 hgc z3 e8 ⊢
    have HBF:=Lib.hid hbf
    have hg3:gc < w3.heap.size:=R3.out.lt
    clear hbf hmk e8 HBX HR2 HX2
    go_loopw [12,13,41] (fun _ _ i w4=>∃ q:Nat,q ≤ nc∧i=.int .i64 q∧Ext w3 w4∧RowAt w4 w3.heap.size 3 nc (endF f.code q)) (fun _ _ i _=>nc - (intOf i).toNat)
    case atStart=>exact ⟨0,Nat.zero_le _,rfl,(Ext.refl _).alloc _,HE0.out⟩
    case round =>
     clear HE0
     obtain ⟨q,hq,rfl,x4,he⟩:=hrel
     have X4:=Lib.hid x4
     have HE4:=Lib.hid he
     have zx:=x4.size
     clear x4 he
     by_cases hlq:q < nc
     ·have hqf:q < f.code.length:=by have:=HNC.out; omega
      obtain ⟨x,hxx⟩:∃ x,x=f.code.getD q default:=⟨_,rfl⟩
      have hxm:x ∈ f.code:=by rw [hxx]; exact getD_mem hqf
      obtain ⟨b5,o5,he5,hb5,d0,d1,d2,d3,d4,d5,d6,d7,d8⟩:=(R3.out.ext X4.out).at_.at_ (k:=q) hqf hxx
      cases he5
      simp only [Nat.zero_add] at d0 d1 d2 d3 d4 d5 d6 d7 d8
      have HX:=Lib.hid hxx
      have HXM:=Lib.hid hxm
      clear hxx hxm
      go_wp2_with (first
       | (go_at_call 23; refine (leads_any _ _).mono ?_; rintro r w' ⟨rfl,rfl⟩)
       | (go_at_call 22
          have hld:leadsS x.op=true:=by assumption
          refine (end_any bf gc cap2 f.code x.a _ HNC.out ((BX3.out.ext (X4.out.alloc _)).cell 8) (by simp; omega) (R3.out.ext (X4.out.alloc _)).at_ SN.out ((SN.out.each x HXM.out).2.2 hld)).mono ?_
          rintro r w6 ⟨rfl,x6⟩
          have X6:=Lib.hid ((X4.out.alloc _).trans x6)
          have HE6:=Lib.hid ((HE4.out.ext ((Ext.refl _).alloc _)).ext x6)
          have n0:=HE6.out.cell hlq
          have n1:=HE6.out.frozen q
          have n2:=HE6.out.lt
          unfold endF at n0
          clear x6))
      case roundEnd =>
       have hld:leadsS x.op=true:=by assumption
       refine ⟨⟨q + 1,by omega,by go_num,X6.out.setCell (Nat.le_refl _) _,HE6.out.set_ fun j hj=>?_⟩,by simp [intOf]; omega⟩
       rw [HX.out] at hld ⊢
       exact endF_hit f.code hld
      case roundEnd =>
       have hld:leadsS x.op=false:=by assumption
       refine ⟨⟨q + 1,by omega,by go_num,X4.out.alloc _,(HE4.out.ext ((Ext.refl _).alloc _)).same fun j hj=>?_⟩,by simp [intOf]; omega⟩
       rw [HX.out] at hld
       exact endF_miss f.code hld
     ·obtain rfl:q=nc:=by omega
      have e8:=(BX3.out.ext X4.out).cell 8
      have zb:=(BX3.out.ext X4.out).lt
      simp only [List.getElem?_toArray,List.getElem?_cons_zero,List.getElem?_cons_succ] at e8
      go_wp2_with fail
      have R4:Hid (CdRow wr gc (thrTo f.code 0)):=by rw [thrTo_zero]; exact R3.out.ext X4.out
      have BX4:=Lib.hid (BX3.out.ext X4.out)
      have BL:Hid (Below bf w3 wr):=X4.out.out.mono (by omega)
      clear e8 zb
      go_loopw [14,15,60] (fun _ _ i w5=>∃ p:Nat,p ≤ q∧i=.int .i64 p∧Below bf w3 w5∧Blk w5 bf 48 _∧RowAt w5 w3.heap.size 3 q (endF f.code q)∧CdRow w5 gc (thrTo f.code p)) (fun _ _ i _=>q - (intOf i).toNat)
      case atStart=>exact ⟨0,Nat.zero_le _,rfl,BL.out,BX4.out,HE4.out,R4.out⟩
      case round =>
       clear R4 BX4 BL
       obtain ⟨p,hp,rfl,bl,bx,he,hr⟩:=hrel
       have BL:=Lib.hid bl
       have BX:=Lib.hid bx
       have HE:=Lib.hid he
       have HR:=Lib.hid hr
       by_cases hlp:p < q
       ·have hpf:p < f.code.length:=by have:=HNC.out; omega
        have hpf2:p < (thrTo f.code p).length:=by rw [thrTo_len]; exact hpf
        obtain ⟨x,hxx⟩:∃ x,x=f.code.getD p default:=⟨_,rfl⟩
        obtain ⟨b5,o5,he5,hb5,d0,d1,d2,d3,d4,d5,d6,d7,d8⟩:=hr.at_.at_ (k:=p) hpf2 (x:=x) (by rw [thrTo_get _ hpf]; exact hxx)
        cases he5
        simp only [Nat.zero_add] at d0 d1 d2 d3 d4 d5 d6 d7 d8
        have e8:=bx.cell 8
        have zb:=bx.lt
        have n0:=he.cell hlp
        have n2:=he.lt
        have f1:=hr.frozen (p * 9 + 1)
        simp only [List.getElem?_toArray,List.getElem?_cons_zero,List.getElem?_cons_succ] at e8
        have HX:=Lib.hid hxx
        obtain ⟨zz,hzz⟩:∃ zz:Int,endF f.code q p=.int .i64 zz:=⟨_,rfl⟩
        rw [hzz] at n0
        have HZZ:=Lib.hid hzz
        clear bl bx he hr hxx hzz
        go_wp2_with (first
         | (go_at_call 23; refine (leads_any _ _).mono ?_; rintro r w' ⟨rfl,rfl⟩))
        ·go_region
         go_wp2_with fail
         case roundEnd =>
          have hld:leadsS x.op=true:=by assumption
          have xe:∀ w':World,Ext w' (w'.alloc (.cells #[.int .i64 x.op,.int .i64 x.a,.int .i64 x.b,.int .i64 x.ty.base,.int .i64 x.ty.bits,.string x.ty.name,.bool x.ty.opt,.bool x.ty.err,.string x.name] 63)).drew:=fun w'=>((Ext.refl _).alloc _).drew
          have hz:zz=lastS f.code x.a:=by
           have h:=HZZ.out
           rw [endF_at f.code hlp (by rw [← HX.out]; exact hld),← HX.out] at h
           exact ((Value.int.inj h).2).symm
          refine ⟨⟨p + 1,by omega,by go_num,((BL.out.setCell (by simp; omega) _).alloc (by have:=BL.out.size; simp; omega) _).drew,((BX.out.far (by simp; omega) _).alloc _).drew,(HE.out.far (by simp; omega) _).ext (xe _),?_⟩,by simp [intOf]; omega⟩
          have h:=HR.out.set_ hpf2 zz
          rw [thrTo_get _ hpf,← HX.out] at h
          rw [thrTo_next _ hpf,← HX.out]
          have e:thrX f.code x={ x with a:=zz }:=by unfold thrX; rw [if_pos hld,hz]
          rw [e]
          exact h.ext (xe _)
        ·have hld:leadsS x.op=false:=by assumption
         refine ⟨⟨p + 1,by omega,by go_num,BL.out.alloc (by have:=BL.out.size; omega) _,BX.out.alloc _,HE.out.ext ((Ext.refl _).alloc _),?_⟩,by simp [intOf]; omega⟩
         rw [thrTo_same _ hpf (by unfold thrX; rw [← HX.out,hld]; rfl)]
         exact HR.out.ext ((Ext.refl _).alloc _)
       ·obtain rfl:p=q:=by omega
        have e8:=bx.cell 8
        have zb:=bx.lt
        have q0:=bx.cell 0
        have q1:=bx.cell 1
        have q2:=bx.cell 2
        have q3:=bx.cell 3
        have q4:=bx.cell 4
        have q5:=bx.cell 5
        have q6:=bx.cell 6
        have q7:=bx.cell 7
        simp only [List.getElem?_toArray,List.getElem?_cons_zero,List.getElem?_cons_succ] at e8 q0 q1 q2 q3 q4 q5 q6 q7
        have X5:=Lib.hid (Ext.mk (X3.out.out.trans (by rw [← HBF.out]; exact BL.out)))
        have ST5:=Lib.hid ((ST.out.ext' X5.out).ext' ((Ext.refl wr).alloc (.cells #[.string f.name,.int .i64 f.params,.int .i64 f.places,.int .i64 f.ty.base,.int .i64 f.ty.bits,.string f.ty.name,.bool f.ty.opt,.bool f.ty.err,.slice (some ⟨gc,0,none⟩) p cap2] 48)))
        obtain ⟨fN,hfN⟩:∃ fN:Fc,fN={ f with A:=some ⟨gc,0,none⟩,cap:=cap2,code:=thr f.code }:=⟨_,rfl⟩
        have HN:Hid ((List.range 9).map (fcC fN)=[.string f.name,.int .i64 f.params,.int .i64 f.places,.int .i64 f.ty.base,.int .i64 f.ty.bits,.string f.ty.name,.bool f.ty.opt,.bool f.ty.err,.slice (some ⟨gc,0,none⟩) p cap2]):=by
         have e:fN.code.length=p:=by rw [hfN]; show (thr f.code).length=p; rw [thr_len,HNC.out]
         have e2:(List.range 9).map (fcC fN)=[.string fN.name,.int .i64 fN.params,.int .i64 fN.places,.int .i64 fN.ty.base,.int .i64 fN.ty.bits,.string fN.ty.name,.bool fN.ty.opt,.bool fN.ty.err,.slice fN.A fN.code.length fN.cap]:=rfl
         rw [e2,e,hfN]
         exact Lib.hid rfl
        have HRN:Hid (CdRow (wr.alloc (.cells #[.string f.name,.int .i64 f.params,.int .i64 f.places,.int .i64 f.ty.base,.int .i64 f.ty.bits,.string f.ty.name,.bool f.ty.opt,.bool f.ty.err,.slice (some ⟨gc,0,none⟩) p cap2] 48)) gc fN.code):=by
         have h:=HR.out
         rw [thrTo_all _ (by have:=HNC.out; omega)] at h
         rw [hfN]
         exact h.ext ((Ext.refl _).alloc _)
        have HFN:=Lib.hid hfN
        have hML:M.length + 1 ≤ 48:=by omega
        clear bl bx he hr hfN
        go_wp2_with (first
         | (at_builtin
            refine wpList_append_own _ rfl _ _ 22 rfl w1.heap.size 48 i0 _ 9 96 Tryz.underlying22 HI.out HZ0.out HZ1.out HZ2.out rfl (by decide) _ _ _ rfl ST5.out.own ⟨wr.heap.size,0,none⟩ 1 1 [.string f.name,.int .i64 f.params,.int .i64 f.places,.int .i64 f.ty.base,.int .i64 f.ty.bits,.string f.ty.name,.bool f.ty.opt,.bool f.ty.err,.slice (some ⟨gc,0,none⟩) p cap2] rfl rfl ?c1 ?c2 ?c3 ?c4 ?c5 ?_))
        case c1 =>
         intro j2 u hj2
         rw [Addr.add_lit,Nat.zero_add]
         rw [(Blk.new wr 48 _).cell]
         simpa using hj2
        case c2=>rw [← HN.out]; exact fc_one fN
        case c3=>unfold maxLen; omega
        case c4=>omega
        case c5=>have:=ST5.out.ext.size; omega
        intro v' w7 ow7 g7 _
        rw [← HN.out,← hM] at ow7
        have ST7:=Lib.hid (ST5.out.pushed g7 ow7 (f:=fN) (by rw [HFN.out]) HRN.out)
        clear ow7 g7
        go_wp2_with fail
        refine ⟨⟨k + 1,M ++ [fN],by omega,by go_num,by simp [hM],ST7.out,fun j hj=>?_⟩,by simp [intOf]; omega⟩
        rcases Nat.lt_or_ge j k with h | h
        ·have h2:=HTH.out j h
         rwa [show (M ++ [fN]).getD j default=M.getD j default by simp only [List.getD]; rw [List.getElem?_append_left (by omega)]]
        ·obtain rfl:j=k:=by omega
         have e:(M ++ [fN]).getD j default=fN:=by simp only [List.getD]; rw [List.getElem?_append_right (by omega),hM,Nat.sub_self]; rfl
         rw [e,← HF.out,HFN.out]
         exact ⟨rfl,rfl,rfl,rfl,rfl⟩
   ·go_wp2_with fail
    obtain ⟨A',cap',hv,hfc⟩:=ST.out.out
    subst hv
    go_ret2
    exact ⟨_,M,A',cap',rfl,rfl,hfc,fun _=>⟨by rw [hM]; have:=HLn.out; omega,fun j hj=>HTH.out j (by have:=HLn.out; omega)⟩,fun h=>absurd rfl h,X1.out.trans ST.out.ext⟩
 ·generalize checkE l=ce at *
  obtain ⟨e1,e2,e3⟩:=ce
  simp only [] at h0 HCC ⊢
  have hb:(e3 != 0)=true:=by simpa using h0
  obtain ⟨len,hlen⟩:∃ len,len=l.length:=⟨_,rfl⟩
  rw [← hlen] at hl HCC ⊢
  clear hlen
  go_enter Tryz.func7,Tryz.ntmps7
  go_wp2_with (first
   | (go_at_call 20; refine (HCC.out).mono ?_; rintro r w1 ⟨rfl,x1⟩))
  go_ret2
  exact ⟨_,[],none,0,rfl,rfl,⟨At.nil _ _ _ _,fun f hf=>by cases hf⟩,fun h=>absurd h h0,fun _=>rfl,exL⟩
end Go.Proofs.YtcoookehfhhhdaaGreatDoor.c
