/- Contract of the reference's Validate over register code. Conditions: lengths. Contract of the reference's room: how many slots a function needs. Conditions: right code. Contract of the reference's Long over register code. Conditions: lengths. Contract of the reference's given: the errors of code, a name and args. Conditions: lengths. What a call of register code comes to, told plainly; the two runs of the code that known looks at. No condition. -/
import Derived.Test.YtknaemlnhediaaaGreatDoorRvk
import Derived.Test.YtknaemlnhediaaaGreatDoorFlow
import Derived.Test.YtknaemlnhediaaaGreatDoorRinst
import Derived.Test.YtknaemlnhediaaaGreatDoorRgD
import Derived.Test.YtknaemlnhediaaaGreatDoorAri
namespace Go.Proofs.YtknaemlnhediaaaGreatDoor.c
open Go.RowKit
set_option linter.unusedVariables false
set_option maxRecDepth 100000
set_option maxHeartbeats 6400000
set_option linter.unusedSimpArgs false
theorem enters_hparams:Enters 84 := Enters.of Tryz.func84 (by kernel_rfl) (by kernel_rfl)
theorem enters_hisReg:Enters 83 := Enters.of Tryz.func83 (by kernel_rfl) (by kernel_rfl)
theorem inB_iff2 {n lo hi:Int} (h:inB n lo hi=true):lo ≤ n∧n ≤ hi:=by
 unfold inB at h
 simpa using h
def instX (l:List Rf) (f:Rf) (x:Rg):Bool:=instR (callB l x.name x.args.length) f.regs f.code.length x
theorem hValidate_any (A:Option Addr) (cap:Nat) (l:List Rf) {len:Nat} (w:World) (hlen:len=l.length) (hA:RfAt w A l) (hl:len ≤ 9223372036854775806) (hc:len ≤ 48 → countR l ≤ 9223372036854775806) (hin:RgsIn l) :
  Calls Tryz.prog 25 #[.slice A len cap] w fun e w'=>e=.returned (.int .i64 (validR l))∧Ext w w':=by
 have HA:=Lib.hid hA
 have HIN:=Lib.hid hin
 have HLn:=Lib.hid hlen
 clear hA hin hlen
 by_cases h1:48 < (len:Int)
 ·have HV:=Lib.hid (validR_large (l:=l) (.inl (by have:=HLn.out; omega)))
  clear hc
  go_enter Tryz.func25,Tryz.ntmps25
  go_wp2_with fail
  go_ret
  exact ⟨ret_int HV.out.symm,Ext.refl _⟩
 ·have hcc:=hc (by omega)
  clear hc
  by_cases h2:6000 < (countR l:Int)
  ·have HV:=Lib.hid (validR_large (l:=l) (.inr (by omega)))
   go_enter Tryz.func25,Tryz.ntmps25
   go_wp2_with (first | (go_at_call 71; refine (hcount_any A cap l _ HLn.out HA.out hl hcc).mono ?_; rintro r w' ⟨rfl,rfl⟩))
   go_ret
   exact ⟨ret_int HV.out.symm,Ext.refl _⟩
  ·have H0:Hid (¬ (48 < l.length ∨ 6000 < countR l)):=by
    rintro (h | h)
    ·have:=HLn.out; omega
    ·omega
   go_enter Tryz.func25,Tryz.ntmps25
   go_wp2_with (first | (go_at_call 71; refine (hcount_any A cap l _ HLn.out HA.out hl hcc).mono ?_; rintro r w' ⟨rfl,rfl⟩))
   go_loopw [3] (fun i wr=>∃ k:Nat,k ≤ len∧i=.int .i64 k∧okToR l k∧Ext w wr) (fun i _=>len - (intOf i).toNat)
   case atStart=>exact ⟨0,Nat.zero_le _,rfl,fun j hj=>by omega,Ext.refl _⟩
   case round =>
    obtain ⟨k,hk,rfl,hok,hx⟩:=hrel
    have HK:=Lib.hid hok
    have HX:=Lib.hid hx
    clear hok hx
    by_cases hlt:k < len
    ·obtain ⟨f,hf⟩:∃ f,f=l.getD k default:=⟨_,rfl⟩
     obtain ⟨b,off,rfl,hb,c0,c1,c2,c3,c4,c5,c6,c7,c8,hcd⟩:=(HA.out.ext HX.out).at_ (k:=k) (by rw [← HLn.out]; exact hlt) hf
     have hself:=indexR_self l k (by rw [← HLn.out]; exact hlt)
     rw [← hf] at hself
     obtain ⟨q,hq⟩:∃ q,q=indexR l f.name:=⟨_,rfl⟩
     rw [← hq] at hself
     have hq1:=hself.1
     have hq2:=hself.2
     have hmem:f ∈ l:=by rw [hf]; exact getD_mem (by rw [← HLn.out]; exact hlt)
     have hfl9:f.code.length ≤ 1000000:=by have:=countR_mem hmem; omega
     have HQI:=Lib.hid hq
     have HF:=Lib.hid hf
     have HM:=Lib.hid hmem
     have HCD:=Lib.hid hcd
     clear hf hcd hself hq hmem
     have HB:Hid (¬ (fcR l f=true∧q=(k:Int)) → validR l=1):=fun h=>validR_bad H0.out (by rw [← HLn.out]; exact hlt) (by rw [← HF.out,← HQI.out]; exact h)
     have HFC:=Lib.hid (show fcR l f=(isNameS f.name && (inB f.params 0 4 && (inB f.regs 1 6 && (isRanS f.ty && (decide (1 ≤ f.code.length) && (f.code.all (fun x=>instR (callB l x.name x.args.length) f.regs f.code.length x) && !goesR (f.code.getD (f.code.length - 1) default).op)))))) from rfl)
     go_wp2_with (first
      | (go_at_call 79; refine (refIsName_any _ _).mono ?_; rintro r w1 ⟨rfl,x1⟩; have y1:=x1.facts; have z1:=x1.z0)
      | (go_at_call 80; refine (hfound_any _ cap l _ _ HLn.out (HA.out.ext (HX.out.trans exA)) hl).mono ?_; rw [← HQI.out]; rintro r w' ⟨rfl,rfl⟩)
      | (go_at_call 81; refine (hwithin_any _ _ _ _).mono ?_; rintro r w' ⟨rfl,rfl⟩)
      | (go_at_call 82; refine (hisRan_ty f.ty _).mono ?_; rintro r w2 ⟨rfl,x2⟩; have y2:=x2.facts; have z2:=x2.size))
     all_goals
      first
       | (have h9:isNameS f.name=false:=by assumption
          go_ret
          exact ⟨ret_int (HB.out (by rw [HFC.out,h9]; simp)).symm,HX.out.trans exA⟩)
       | (have h9:q < (k:Int):=by assumption
          go_ret
          exact ⟨ret_int (HB.out (by omega)).symm,HX.out.trans exA⟩)
       | (have h9:inB f.params 0 4=false:=by assumption
          go_ret
          exact ⟨ret_int (HB.out (by rw [HFC.out,h9]; simp)).symm,HX.out.trans exA⟩)
       | (have h9:inB f.regs 1 6=false:=by assumption
          go_ret
          exact ⟨ret_int (HB.out (by rw [HFC.out,h9]; simp)).symm,HX.out.trans exA⟩)
       | (have h9:isRanS f.ty=false:=by assumption
          go_ret
          exact ⟨ret_int (HB.out (by rw [HFC.out,h9]; simp)).symm,HX.out.trans exA⟩)
       | (have h9:(f.code.length:Int) < 1:=by assumption
          go_ret
          exact ⟨ret_int (HB.out (by rw [HFC.out,decide_eq_false (by omega)]; simp)).symm,HX.out.trans exA⟩)
       | skip
     have e1:isNameS f.name=true:=by assumption
     have e2:inB f.params 0 4=true:=by assumption
     have e3:inB f.regs 1 6=true:=by assumption
     have e4:isRanS f.ty=true:=by assumption
     have e5:(1:Int) ≤ (f.code.length:Int):=by assumption
     have HFC2:Hid (fcR l f=(f.code.all (fun x=>instR (callB l x.name x.args.length) f.regs f.code.length x) && !goesR (f.code.getD (f.code.length - 1) default).op)):=by rw [HFC.out,e1,e2,e3,e4,decide_eq_true (by omega)]; rfl
     have hxr:Ext (wr.alloc (.cells #[.string f.name,.int .i64 f.params,.int .i64 f.regs,.int .i64 f.ty.base,.int .i64 f.ty.bits,.string f.ty.name,.bool f.ty.opt,.bool f.ty.err,.slice f.A f.code.length f.cap] 59)) w2:=exA
     have HX2:=Lib.hid (HX.out.trans (((Ext.refl _).alloc _).trans hxr))
     have HXR:=Lib.hid (((Ext.refl wr).alloc _).trans hxr)
     have HBK:=Lib.hid ((Blk.new wr 59 #[.string f.name,.int .i64 f.params,.int .i64 f.regs,.int .i64 f.ty.base,.int .i64 f.ty.bits,.string f.ty.name,.bool f.ty.opt,.bool f.ty.err,.slice f.A f.code.length f.cap]).ext hxr)
     have hr6:=inB_iff2 e3
     rw [e4]
     clear e1 e2 e3 e4 hxr y1 y2 z1 z2 x1 x2 c0 c1 c2 c3 c4 c5 c6 c7 c8 HFC
     obtain ⟨n,hn⟩:∃ n,n=f.code.length:=⟨_,rfl⟩
     rw [← hn] at hfl9 e5 HBK ⊢
     have HNl:=Lib.hid hn
     clear hn
     generalize wr.heap.size=zf at HBK ⊢
     go_loopw [6] (fun i wq=>∃ m:Nat,m ≤ n∧i=.int .i64 m∧(f.code.take m).all (fun x=>instR (callB l x.name x.args.length) f.regs f.code.length x)=true∧Ext w2 wq) (fun i _=>n - (intOf i).toNat)
     case atStart=>exact ⟨0,Nat.zero_le _,rfl,rfl,Ext.refl _⟩
     case round =>
      obtain ⟨m,hm,rfl,hall,hxm⟩:=hrel
      have HALL:=Lib.hid hall
      have XM:=Lib.hid hxm
      clear hall hxm
      have hbm:=HBK.out.ext XM.out
      have f8:=hbm.cell 8
      have zfl:=hbm.lt
      simp only [List.getElem?_toArray,List.getElem?_cons_zero,List.getElem?_cons_succ] at f8
      clear hbm
      by_cases hlm:m < n
      ·obtain ⟨x,hx9⟩:∃ x,x=f.code.getD m default:=⟨_,rfl⟩
       have hmn:m < f.code.length:=by rw [← HNl.out]; exact hlm
       obtain ⟨bc,oc,hac,hbc,_⟩:=(HCD.out.ext (HXR.out.trans XM.out)).at_ (k:=m) hmn hx9
       rw [hac] at f8
       have HAC:=Lib.hid hac
       have HX9:=Lib.hid hx9
       have HX9m:Hid (x ∈ f.code):=by rw [hx9]; exact getD_mem hmn
       clear hac hx9
       go_wp2_with fail
       have HD:Hid (∀ w',Ext wr w' → (w'.cell? ⟨zf,2,none⟩=some (.int .i64 f.regs))∧(w'.cell? ⟨zf,8,none⟩=some (.slice (some ⟨bc,oc,none⟩) n f.cap))∧w'.cell? ⟨bc,oc + m * 11,none⟩=some (.int .i64 x.op)∧w'.cell? ⟨bc,oc + m * 11 + 1,none⟩=some (.int .i64 x.d)∧w'.cell? ⟨bc,oc + m * 11 + 2,none⟩=some (.int .i64 x.a)∧w'.cell? ⟨bc,oc + m * 11 + 3,none⟩=some (.int .i64 x.b)∧w'.cell? ⟨bc,oc + m * 11 + 4,none⟩=some (.int .i64 x.ty.base)∧w'.cell? ⟨bc,oc + m * 11 + 5,none⟩=some (.int .i64 x.ty.bits)∧w'.cell? ⟨bc,oc + m * 11 + 6,none⟩=some (.string x.ty.name)∧w'.cell? ⟨bc,oc + m * 11 + 7,none⟩=some (.bool x.ty.opt)∧w'.cell? ⟨bc,oc + m * 11 + 8,none⟩=some (.bool x.ty.err)∧w'.cell? ⟨bc,oc + m * 11 + 9,none⟩=some (.string x.name)∧w'.cell? ⟨bc,oc + m * 11 + 10,none⟩=some (.slice x.A x.args.length x.cap)):=fun w' xx=>by
        have hb2:=HBK.out.ext (XM.out.trans xx)
        obtain ⟨bc2,oc2,hac2,_,d0,d1,d2,d3,d4,d5,d6,d7,d8,d9,d10,_⟩:=(HCD.out.ext (HXR.out.trans (XM.out.trans xx))).at_ (k:=m) hmn HX9.out
        rw [HAC.out] at hac2
        cases hac2
        exact ⟨hb2.cell 2,by rw [← HAC.out]; exact hb2.cell 8,d0,d1,d2,d3,d4,d5,d6,d7,d8,d9,d10⟩
       have HST:∀ (i:Nat) (l':Array Bool) (w':World),Ext wr w' ↔ Ext wr w':=fun _ _ _=>Iff.rfl
       have HCP:Hid (∀ (l':Array Bool) (w':World),Ext wr w' → Calls Tryz.prog 84 #[.slice (some ⟨b,off,none⟩) len cap,.string x.name] w' fun e w''=>e=.returned (.int .i64 (parR l x.name))∧Ext wr w''):=fun l' w' h=>(hparams_any _ cap l x.name w' HLn.out (HA.out.ext (HX2.out.trans (XM.out.trans h))) hl).mono fun e w'' z=>⟨z.1,by rw [← z.2]; exact h⟩
       have HCR:Hid (∀ (l':Array Bool) (w':World),Ext wr w' → Calls Tryz.prog 83 #[(.agg #[.int .i64 x.op,.int .i64 x.d,.int .i64 x.a,.int .i64 x.b,.int .i64 x.ty.base,.int .i64 x.ty.bits,.string x.ty.name,.bool x.ty.opt,.bool x.ty.err,.string x.name,.slice x.A x.args.length x.cap]),.int .i64 f.regs,.int .i64 n,.int .i64 (parR l x.name)] w' fun e w''=>e=.returned (.bool (instX l f x))∧Ext wr w''):=fun l' w' h=>by
        have h2:=hisReg_any f.regs n (parR l x.name) (callB l x.name x.args.length) x w' hr6.1 hr6.2 (by omega) (by omega) ((HIN.out f HM.out x HX9m.out).2) (((HCD.out.ext (HXR.out.trans (XM.out.trans h))).sub x HX9m.out)) (par_call l x.name x.args.length)
        rw [show instX l f x=instR (callB l x.name x.args.length) f.regs n x by unfold instX; rw [HNl.out]]
        exact h2.mono fun e w'' z=>⟨z.1,h.trans z.2⟩
       clear f8 hbc
       refine flow_begin (fun _ w'=>Ext wr w') #[false,false,false,false,false,false,false,false,false,false,false,false,false,false,false,false,false,false] rfl (by kernel_rfl) (fun _ _ _ _ _ h=>h) ((Ext.refl _).drew) (fun HQ=>?_)
       (refine tt 0 68 rfl HQ (HST 0) ?_; try simp only [putL,List.set])
       (refine tt 1 69 rfl HQ (HST 1) ?_; try simp only [putL,List.set])
       (refine tt 2 70 rfl HQ (HST 2) ?_; try simp only [putL,List.set])
       (refine tt 3 71 rfl HQ (HST 3) ?_; try simp only [putL,List.set])
       (refine tt 4 72 rfl HQ (HST 4) ?_; try simp only [putL,List.set])
       (refine tt 5 73 rfl HQ (HST 5) ?_; try simp only [putL,List.set])
       (refine tt 6 74 rfl HQ (HST 6) ?_; try simp only [putL,List.set])
       (refine tt 7 75 rfl HQ (HST 7) ?_; try simp only [putL,List.set])
       (refine tt 8 76 rfl HQ (HST 8) ?_; try simp only [putL,List.set])
       (refine tt 9 77 rfl HQ (HST 9) ?_; try simp only [putL,List.set])
       (refine tt 10 78 rfl HQ (HST 10) ?_; try simp only [putL,List.set])
       (refine tt 11 79 rfl HQ (HST 11) ?_; try simp only [putL,List.set])
       (refine tt 12 80 rfl HQ (HST 12) ?_; try simp only [putL,List.set])
       (refine tt 13 81 rfl HQ (HST 13) ?_; try simp only [putL,List.set])
       (refine tt 14 82 rfl HQ (HST 14) ?_; try simp only [putL,List.set])
       (refine tc 15 83 rfl (by kernel_rfl) HQ (HST 15) (by rfl) (fun l w' hF=>?_) ((HCP.out)) ?_; (focus (have hq:=HD.out _ hF; go_simp; try simp only [enters_hparams _ _])); try simp only [putL,List.set])
       (refine tc 16 84 rfl (by kernel_rfl) HQ (HST 16) (by rfl) (fun l w' hF=>?_) ((HCR.out)) ?_; (focus (have hq:=HD.out _ hF; go_simp; try simp only [enters_hisReg _ _])); try simp only [putL,List.set])
       (refine tt 17 85 rfl HQ (HST 17) ?_; try simp only [putL,List.set])
       refine flow_done (by kernel_rfl) ?_
       intro w3 x3
       have X3:=Lib.hid (XM.out.trans x3)
       have htk:Hid ((f.code.take (m + 1)).all (fun x=>instR (callB l x.name x.args.length) f.regs f.code.length x)=instX l f x):=by
        unfold Hid
        rw [List.take_succ_eq_append_getElem hmn,List.all_append,HALL.out,HX9.out]
        simp [List.getD,List.getElem?_eq_getElem hmn,instX]
       clear HD HST HCP HCR HQ x3
       cases hin9:instX l f x
       ·have HIN9:=Lib.hid hin9
        go_wp2_with fail
        go_ret
        refine ⟨ret_int (HB.out ?_).symm,HX2.out.trans X3.out⟩
        intro hh
        have h1:=hh.1
        rw [HFC2.out,Bool.and_eq_true,List.all_eq_true] at h1
        have h2:=h1.1 x HX9m.out
        have h3:=HIN9.out
        unfold instX at h3
        rw [h3] at h2
        cases h2
       ·have HIN9:=Lib.hid hin9
        go_wp2_with fail
        go_roundw
        case rel=>exact ⟨m + 1,by omega,by go_num,by rw [htk.out,HIN9.out],X3.out⟩
        case measure=>simp [intOf]; omega
      ·have hall9:f.code.all (fun x=>instR (callB l x.name x.args.length) f.regs f.code.length x)=true:=by
        have:=HALL.out
        rwa [List.take_of_length_le (by have:=HNl.out; omega)] at this
       obtain ⟨lx,hlx⟩:∃ lx,lx=f.code.getD (f.code.length - 1) default:=⟨_,rfl⟩
       have hpos2:f.code.length - 1 < f.code.length:=by have:=HNl.out; omega
       obtain ⟨bc,oc,hac,hbc,d0,_⟩:=(HCD.out.ext (HXR.out.trans XM.out)).at_ (k:=f.code.length - 1) hpos2 hlx
       rw [hac] at f8
       have hnn:f.code.length - 1=n - 1:=by rw [HNl.out]
       rw [hnn] at d0
       have hsub:IntKind.i64.wrap ((n:Int) - 1)=((n - 1:Nat):Int):=by rw [IntWalk.i64_in _ (by omega)]; omega
       have hsub2:wrap64 ((n:Int) - 1)=((n - 1:Nat):Int):=by unfold wrap64; omega
       have hlt9:((n - 1:Nat):Int) < (n:Int):=by omega
       have HFC3:Hid (fcR l f=!goesR lx.op):=by unfold Hid; rw [HFC2.out,hall9,Bool.true_and,hlx]
       have HGO:Hid (goesR lx.op=(lx.op != 12 && (lx.op != 15 && lx.op != 17))):=rfl
       clear hlx hall9 hac hnn
       rcases (show lx.op=12 ∨ lx.op=15 ∨ lx.op=17 ∨ (lx.op ≠ 12∧lx.op ≠ 15∧lx.op ≠ 17) by omega) with h | h | h | ⟨h1,h2,h3⟩
       case' inl=>have q12:(lx.op != 12)=false:=(by rw [h]; rfl); have q15:(lx.op != 15)=true:=(by rw [h]; rfl)
       case' inl=>have q17:(lx.op != 17)=true:=(by rw [h]; rfl); have HGF:Hid (goesR lx.op=false):=(by unfold Hid; rw [h]; rfl); clear h
       case' inr.inl=>have q12:(lx.op != 12)=true:=(by rw [h]; rfl); have q15:(lx.op != 15)=false:=(by rw [h]; rfl)
       case' inr.inl=>have q17:(lx.op != 17)=true:=(by rw [h]; rfl); have HGF:Hid (goesR lx.op=false):=(by unfold Hid; rw [h]; rfl); clear h
       case' inr.inr.inl=>have q12:(lx.op != 12)=true:=(by rw [h]; rfl); have q15:(lx.op != 15)=true:=(by rw [h]; rfl)
       case' inr.inr.inl=>have q17:(lx.op != 17)=false:=(by rw [h]; rfl); have HGF:Hid (goesR lx.op=false):=(by unfold Hid; rw [h]; rfl); clear h
       case' inr.inr.inr=>have q12:(lx.op != 12)=true:=bne_iff_ne.2 h1; have q15:(lx.op != 15)=true:=bne_iff_ne.2 h2
       case' inr.inr.inr =>
        have q17:(lx.op != 17)=true:=bne_iff_ne.2 h3
        have HGT:Hid (goesR lx.op=true):=by unfold Hid goesR; rw [q12,q15,q17]; rfl
        clear h1 h2 h3
        go_wp2_with fail
        go_ret
        exact ⟨ret_int (HB.out (by rw [HFC3.out,HGT.out]; simp)).symm,HX2.out.trans XM.out⟩
       all_goals
        go_wp2_with fail
        have hqk:q=(k:Int):=by omega
        refine ⟨⟨k + 1,by omega,by go_num,?_,HX2.out.trans XM.out⟩,by simp [intOf]; omega⟩
        intro j hj
        rcases Nat.lt_or_ge j k with h | h
        ·exact HK.out j h
        ·obtain rfl:j=k:=by omega
         rw [← HF.out,← HQI.out]
         exact ⟨by rw [HFC3.out,HGF.out]; rfl,hqk⟩
    ·go_wp2_with fail
     go_ret
     exact ⟨ret_int (validR_good H0.out (by have h:=HK.out; obtain rfl:k=len:=(by omega); rw [← HLn.out]; exact h)).symm,HX.out⟩
theorem roomL_in {l:List Rf} {f:Rf} (g:GoodF l f) (k:Nat):0 ≤ roomL f.params (f.code.take k)∧roomL f.params (f.code.take k) ≤ 300:=by
 refine ⟨by have:=(roomL_ge (f.code.take k) f.params).1; have:=g.par; omega,roomL_le _ (by have:=g.par; omega) fun x hx=>?_⟩
 have gx:=g.at_ (List.mem_of_mem_take hx)
 refine ⟨fun h=>?_,fun a ha=>by have:=gx.args a ha; omega⟩
 have ha:=gx.a
 rw [show (partsR x.op).2.1=2 by rcases h with h | h <;> rw [h] <;> rfl] at ha
 have:=isPartB_slot ha
 omega
theorem room_any (l:List Rf) (f:Rf) (w:World) (g:GoodF l f) (hC:RgAt w f.A f.code) (hal:∀ x,x ∈ f.code → x.args.length ≤ 9223372036854775806) :
  Calls Tryz.prog 142 #[f.val] w fun e w'=>e=.returned (.int .i64 (roomR f))∧Ext w w':=by
 obtain ⟨nc,hnc⟩:∃ nc,nc=f.code.length:=⟨_,rfl⟩
 have hfew:nc ≤ 6000:=by have:=g.few; omega
 unfold Rf.val
 rw [← hnc]
 have HAL:=Lib.hid hal
 clear hal
 have HC:=Lib.hid hC
 have HG:=Lib.hid g
 have HNC:=Lib.hid hnc
 have BF:=Lib.hid (Blk.new w 59 #[.string f.name,.int .i64 f.params,.int .i64 f.regs,.int .i64 f.ty.base,.int .i64 f.ty.bits,.string f.ty.name,.bool f.ty.opt,.bool f.ty.err,.slice f.A nc f.cap])
 have X0:Hid (Ext w (w.alloc (.cells #[.string f.name,.int .i64 f.params,.int .i64 f.regs,.int .i64 f.ty.base,.int .i64 f.ty.bits,.string f.ty.name,.bool f.ty.opt,.bool f.ty.err,.slice f.A nc f.cap] 59))):=(Ext.refl w).alloc _
 obtain ⟨fa,hfa⟩:∃ fa,fa=f.A:=⟨_,rfl⟩
 rw [← hfa] at HC BF X0 ⊢
 clear hC g hnc hfa
 go_enter Tryz.func142,Tryz.ntmps142
 go_wp2_with fail
 generalize (w.alloc (.cells #[.string f.name,.int .i64 f.params,.int .i64 f.regs,.int .i64 f.ty.base,.int .i64 f.ty.bits,.string f.ty.name,.bool f.ty.opt,.bool f.ty.err,.slice fa nc f.cap] 59))=w1 at BF X0 ⊢
 go_loopw [3,4] (fun n i wr=>∃ k:Nat,k ≤ nc∧i=.int .i64 k∧n=.int .i64 (roomL f.params (f.code.take k))∧Ext w1 wr) (fun _ i _=>nc - (intOf i).toNat)
 case atStart=>exact ⟨0,Nat.zero_le _,rfl,rfl,Ext.refl _⟩
 case round =>
  obtain ⟨k,hk,rfl,rfl,hx⟩:=hrel
  have HX:=Lib.hid hx
  have f8:=(BF.out.ext hx).cell 8
  have zf:=(BF.out.ext hx).lt
  simp only [List.getElem?_toArray,List.getElem?_cons_zero,List.getElem?_cons_succ] at f8
  have hin:=roomL_in HG.out k
  obtain ⟨n,hn⟩:∃ n,n=roomL f.params (f.code.take k):=⟨_,rfl⟩
  rw [← hn] at hin ⊢
  have HN:=Lib.hid hn
  clear hx hn
  by_cases hlt:k < nc
  ·have hkl:k < f.code.length:=by have:=HNC.out; omega
   obtain ⟨x,hxx⟩:∃ x,x=f.code.getD k default:=⟨_,rfl⟩
   obtain ⟨b,off,rfl,hb,d0,d1,d2,d3,d4,d5,d6,d7,d8,d9,d10,hna⟩:=(HC.out.ext (X0.out.trans HX.out)).at_ (k:=k) hkl hxx
   have HGX:Hid (GoodX l f x):=HG.out.at_ (by rw [hxx]; exact getD_mem hkl)
   have HXX:=Lib.hid hxx
   have HNA:=Lib.hid hna
   obtain ⟨na,hnl⟩:∃ na,na=x.args.length:=⟨_,rfl⟩
   obtain ⟨xa,hxa⟩:∃ xa,xa=x.A:=⟨_,rfl⟩
   rw [← hnl,← hxa] at d10
   have HNL:=Lib.hid hnl
   rw [← hxa] at HNA
   have hax:=HGX.out.a
   have hwx:(x.op=3 ∨ x.op=4) → wrap64 (x.a + 1)=x.a + 1:=fun h=>by
    rw [show (partsR x.op).2.1=2 by rcases h with h | h <;> rw [h] <;> rfl] at hax
    have:=isPartB_slot hax
    exact (by unfold wrap64; omega)
   have HRB:Hid ((x.op=3 ∨ x.op=4) → roomB n x=max n (wrap64 (x.a + 1))):=fun h=>by unfold roomB; rw [if_pos h,hwx h]
   have HRC:Hid (¬ (x.op=3 ∨ x.op=4) → roomB n x=n):=fun h=>by unfold roomB; rw [if_neg h]
   have hna9:na ≤ 9223372036854775806:=by have:=HAL.out x (by rw [hxx]; exact getD_mem hkl); omega
   have BX:=Lib.hid (Blk.new wr 67 #[.int .i64 x.op,.int .i64 x.d,.int .i64 x.a,.int .i64 x.b,.int .i64 x.ty.base,.int .i64 x.ty.bits,.string x.ty.name,.bool x.ty.opt,.bool x.ty.err,.string x.name,.slice xa na x.cap])
   have XX:Hid (Ext wr (wr.alloc (.cells #[.int .i64 x.op,.int .i64 x.d,.int .i64 x.a,.int .i64 x.b,.int .i64 x.ty.base,.int .i64 x.ty.bits,.string x.ty.name,.bool x.ty.opt,.bool x.ty.err,.string x.name,.slice xa na x.cap] 67))):=(Ext.refl wr).alloc _
   clear hxx hna hnl hxa hax hwx
   rcases (show x.op=3 ∨ x.op=4 ∨ (x.op ≠ 3∧x.op ≠ 4) by omega) with h | h | ⟨h1,h2⟩
   case' inl=>have HRX:=Lib.hid (HRB.out (.inl h)); have q3:(x.op == 3)=true:=(by rw [h]; rfl); clear h
   case' inr.inl=>have HRX:=Lib.hid (HRB.out (.inr h)); have q3:(x.op == 3)=false:=(by rw [h]; rfl)
   case' inr.inl=>have q4:(x.op == 4)=true:=(by rw [h]; rfl); clear h
   case' inr.inr=>have HRX:=Lib.hid (HRC.out (by omega)); have q3:(x.op == 3)=false:=by rw [beq_eq_false_iff_ne]; omega
   case' inr.inr=>have q4:(x.op == 4)=false:=by rw [beq_eq_false_iff_ne]; omega
   all_goals
    go_wp2_with fail
    generalize (wr.alloc (.cells #[.int .i64 x.op,.int .i64 x.d,.int .i64 x.a,.int .i64 x.b,.int .i64 x.ty.base,.int .i64 x.ty.bits,.string x.ty.name,.bool x.ty.opt,.bool x.ty.err,.string x.name,.slice xa na x.cap] 67))=w3 at BX XX ⊢
    go_loopw [3,6] (fun n' i' wq=>∃ q:Nat,q ≤ na∧i'=.int .i64 q∧n'=.int .i64 (roomA (roomB n x) (x.args.take q))∧Ext w3 wq) (fun _ i' _=>na - (intOf i').toNat)
    case atStart=>exact ⟨0,Nat.zero_le _,rfl,congrArg (Value.int .i64) HRX.out.symm,Ext.refl _⟩
    case round =>
     obtain ⟨q,hq,rfl,rfl,hx4⟩:=hrel
     have X4:=Lib.hid hx4
     have g10:=(BX.out.ext hx4).cell 10
     have zx:=(BX.out.ext hx4).lt
     simp only [List.getElem?_toArray,List.getElem?_cons_zero,List.getElem?_cons_succ] at g10
     by_cases hq2:q < na
     ·have hql:q < x.args.length:=by rw [← HNL.out]; exact hq2
      obtain ⟨b5,o5,rfl,hb5,c5⟩:=(HNA.out.ext (XX.out.trans X4.out)).one (k:=q) hql
      have hin2:=HGX.out.args (x.args.getD q 0) (by rw [List.getD,List.getElem?_eq_getElem hql]; exact List.getElem_mem hql)
      have HSN:=Lib.hid (roomA_snoc x.args (roomB n x) q hql)
      obtain ⟨a,ha⟩:∃ a,x.args.getD q 0=a:=⟨_,rfl⟩
      rw [ha] at c5 hin2 HSN
      have hwa:wrap64 (a + 1)=a + 1:=by unfold wrap64; omega
      obtain ⟨n2,hn2⟩:∃ n2,n2=roomA (roomB n x) (x.args.take q):=⟨_,rfl⟩
      rw [← hn2] at HSN ⊢
      clear ha hx4 hn2
      go_wp2_with fail
      go_roundw
      case rel=>exact ⟨q + 1,by omega,by go_num,by rw [HSN.out],X4.out⟩
      case measure=>simp [intOf]; omega
     ·have hqn:q=na:=by omega
      have HTK:Hid (roomA (roomB n x) (x.args.take q)=roomL f.params (f.code.take (k + 1))):=by
       unfold Hid
       rw [List.take_of_length_le (by have:=HNL.out; omega),roomL_snoc _ _ _ hkl,← HN.out,← HXX.out]
       rfl
      rw [HTK.out]
      clear hx4
      go_wp2_with fail
      go_roundw
      case rel=>exact ⟨k + 1,by omega,by go_num,rfl,HX.out.trans (XX.out.trans X4.out)⟩
      case measure=>simp [intOf]; omega
  ·go_wp2_with fail
   go_ret
   exact ⟨ret_int (by rw [HN.out,List.take_of_length_le (by have:=HNC.out; omega)]; rfl),X0.out.trans HX.out⟩
def longR (l:List Rf):Bool:=(l.any fun f=>f.code.any fun x=>decide (100 < x.args.length)) || (decide (100 < l.length) || decide (8000 < countR l))
theorem hlong_any (A:Option Addr) (cap:Nat) (l:List Rf) {len:Nat} (w:World) (hlen:len=l.length) (hA:RfAt w A l) (hl:len ≤ 9223372036854775806) (hfl:∀ f,f ∈ l → f.code.length ≤ 9223372036854775806) (hc:len ≤ 100 → countR l ≤ 9223372036854775806) :
  Calls Tryz.prog 18 #[.slice A len cap] w fun e w'=>e=.returned (.bool (longR l))∧w=w':=by
 have HLn:=Lib.hid hlen
 have HFL:=Lib.hid hfl
 have HA:=Lib.hid hA
 clear hlen hfl hA
 go_enter Tryz.func18,Tryz.ntmps18
 go_wp2_with fail
 go_loop [3] (fun i=>∃ k:Nat,k ≤ len∧i=.int .i64 k∧Hid (∀ j,j < k → ∀ x,x ∈ (l.getD j default).code → x.args.length ≤ 100)) (fun i=>len - (intOf i).toNat)
 case atStart=>exact ⟨0,Nat.zero_le _,rfl,fun j hj=>by omega⟩
 case round =>
  obtain ⟨k,hk,rfl,HN⟩:=hrel
  by_cases hlt:k < len
  ·obtain ⟨f,hf⟩:∃ f,f=l.getD k default:=⟨_,rfl⟩
   obtain ⟨b,off,rfl,hb,_,_,_,_,_,_,_,_,c8,hcd⟩:=HA.out.at_ (k:=k) (by rw [← HLn.out]; exact hlt) hf
   have hfn:=HFL.out f (by rw [hf]; exact getD_mem (by rw [← HLn.out]; exact hlt))
   obtain ⟨n,hn⟩:∃ n,n=f.code.length:=⟨_,rfl⟩
   obtain ⟨fa,hfa⟩:∃ fa,fa=f.A:=⟨_,rfl⟩
   rw [← hn] at c8 hfn
   rw [← hfa] at c8 hcd
   have HF:=Lib.hid hf
   have HCD:=Lib.hid hcd
   have HNl:=Lib.hid hn
   clear hf hcd hn hfa
   go_wp2_with fail
   go_loop [4] (fun i=>∃ q:Nat,q ≤ n∧i=.int .i64 q∧Hid (∀ j,j < q → (f.code.getD j default).args.length ≤ 100)) (fun i=>n - (intOf i).toNat)
   case atStart=>exact ⟨0,Nat.zero_le _,rfl,fun j hj=>by omega⟩
   case round =>
    obtain ⟨q,hq,rfl,HQ9⟩:=hrel
    by_cases hq2:q < n
    ·obtain ⟨x,hxx⟩:∃ x,x=f.code.getD q default:=⟨_,rfl⟩
     obtain ⟨b5,o5,rfl,hb5,_,_,_,_,_,_,_,_,_,_,d10,_⟩:=HCD.out.at_ (k:=q) (by rw [← HNl.out]; exact hq2) hxx
     obtain ⟨na,hna⟩:∃ na,na=x.args.length:=⟨_,rfl⟩
     rw [← hna] at d10
     have HXX:=Lib.hid hxx
     have HNA:=Lib.hid hna
     clear hxx hna
     by_cases hbig:(100:Int) < (na:Int)
     ·go_wp2_with fail
      go_ret
      refine ⟨ret_bool ?_,rfl⟩
      unfold longR
      have h1:(l.any fun f=>f.code.any fun x=>decide (100 < x.args.length))=true:=by
       rw [List.any_eq_true]
       refine ⟨f,by rw [HF.out]; exact getD_mem (by rw [← HLn.out]; exact hlt),?_⟩
       rw [List.any_eq_true]
       exact ⟨x,by rw [HXX.out]; exact getD_mem (by rw [← HNl.out]; exact hq2),decide_eq_true (by have:=HNA.out; omega)⟩
      rw [h1]
      rfl
     ·go_wp2_with fail
      refine ⟨⟨q + 1,by omega,by go_num,fun j hj=>?_⟩,by simp [intOf]; omega⟩
      rcases Nat.lt_or_ge j q with h | h
      ·exact HQ9.out j h
      ·obtain rfl:j=q:=by omega
       rw [← HXX.out,← HNA.out]; omega
    ·go_wp2_with fail
     refine ⟨⟨k + 1,by omega,by go_num,fun j hj=>?_⟩,by simp [intOf]; omega⟩
     rcases Nat.lt_or_ge j k with h | h
     ·exact HN.out j h
     ·obtain rfl:j=k:=by omega
      rw [← HF.out]
      intro x hx
      obtain ⟨i,hi,rfl⟩:=List.getElem_of_mem hx
      have:=HQ9.out i (by have:=HNl.out; omega)
      rwa [List.getD,List.getElem?_eq_getElem hi,Option.getD_some] at this
  ·have H0:Hid ((l.any fun f=>f.code.any fun x=>decide (100 < x.args.length))=false):=by
    unfold Hid
    rw [← Bool.not_eq_true,List.any_eq_true]
    rintro ⟨f,hf,h⟩
    rw [List.any_eq_true] at h
    obtain ⟨x,hx,h⟩:=h
    obtain ⟨i,hi,rfl⟩:=List.getElem_of_mem hf
    have:=HN.out i (by have:=HLn.out; omega) x (by rw [List.getD,List.getElem?_eq_getElem hi,Option.getD_some]; exact hx)
    have:=of_decide_eq_true h
    omega
   by_cases hl2:(100:Int) < (len:Int)
   ·go_wp2_with fail
    go_ret
    exact ⟨ret_bool (by unfold longR; rw [H0.out,decide_eq_true (show 100 < l.length by have:=HLn.out; omega)]; rfl),rfl⟩
   ·have hcc:=hc (by omega)
    go_wp2_with (first
     | (go_at_call 71; refine (hcount_any A cap l _ HLn.out HA.out hl hcc).mono ?_; rintro r w' ⟨rfl,rfl⟩))
    go_ret
    exact ⟨ret_bool (by unfold longR; rw [H0.out,decide_eq_false (show ¬ 100 < l.length by have:=HLn.out; omega),Bool.false_or,Bool.false_or,Bool.eq_iff_iff]; simp; omega),rfl⟩
def okV (v:Val):Bool:=inB v.n (-2147483648) 2147483648
def runE (l:List Rf) (nm:ByteArray) (av:List Val):Int :=
 if validR l ≠ 0 then validR l else if indexR l nm < 0 then 4 else if (av.length:Int) ≠ (l.getD (indexR l nm).toNat default).params then 10 else if av.all okV=true then 0 else 1
theorem hgiven_any (A:Option Addr) (cap:Nat) (l:List Rf) {len:Nat} (nm:ByteArray) (vA:Option Addr) (vc:Nat) (av:List Val) {na:Nat} (w:World) (hlen:len=l.length) (hna:na=av.length) (hA:RfAt w A l) (hV:ValsAt w vA av) (hl:len ≤ 9223372036854775806) (hna2:na ≤ 9223372036854775806) (hc:len ≤ 48 → countR l ≤ 9223372036854775806) (hin:RgsIn l) :
  Calls Tryz.prog 74 #[.slice A len cap,.string nm,.slice vA na vc] w fun e w'=>e=.returned (.int .i64 (runE l nm av))∧Ext w w':=by
 have HA:=Lib.hid hA
 have HV:=Lib.hid hV
 have HLn:=Lib.hid hlen
 have HNa:=Lib.hid hna
 have HVal:=Lib.hid (hValidate_any A cap l w hlen hA hl hc hin)
 clear hA hV hlen hna hin hc
 obtain ⟨v,hv⟩:∃ v,validR l=v:=⟨_,rfl⟩
 rw [hv] at HVal
 by_cases h0:v=0
 ·subst h0
  have HV0:=Lib.hid hv
  clear hv
  rcases indexR_cases l nm with h | ⟨j,h,hj⟩
  ·have HR:Hid (runE l nm av=4):=by unfold Hid runE; rw [HV0.out,if_neg (by decide),h,if_pos (by decide)]
   have HI:=Lib.hid h
   clear h
   go_enter Tryz.func74,Tryz.ntmps74
   go_wp2_with (first
    | (go_at_call 25; (with_reducible refine HVal.out.mono ?_); rintro r w1 ⟨rfl,x1⟩)
    | (go_at_call 80; refine (hfound_any A cap l nm _ HLn.out (HA.out.ext x1) hl).mono ?_; rw [HI.out]; rintro r w' ⟨rfl,rfl⟩))
   go_ret
   exact ⟨ret_int HR.out.symm,x1⟩
  ·obtain ⟨f,hf⟩:∃ f,f=l.getD j default:=⟨_,rfl⟩
   have HRN:Hid (runE l nm av=if (na:Int) ≠ f.params then 10 else if av.all okV=true then 0 else 1):=by
    unfold Hid runE
    rw [HV0.out,if_neg (by decide),h,if_neg (by omega),Int.toNat_natCast,← hf,HNa.out]
   have HI:=Lib.hid h
   have HF:=Lib.hid hf
   clear h hf
   have HAT:Hid (∀ w1,Ext w w1 → ∃ b off,A=some ⟨b,off,none⟩∧b < w1.heap.size∧w1.cell? ⟨b,off + j * 9 + 1,none⟩=some (.int .i64 f.params)):=fun w1 x=>by
    obtain ⟨b,off,hA,hb,_,c1,_⟩:=(HA.out.ext x).at_ (k:=j) hj HF.out
    exact ⟨b,off,hA,hb,c1⟩
   obtain ⟨b,off,rfl,hb,c1⟩:=HAT.out w (Ext.refl w)
   have hjl:j < len:=by have:=HLn.out; omega
   clear hj
   by_cases hp:(na:Int)=f.params
   ·rw [if_neg (by simpa using hp)] at HRN
    rw [← hp] at c1
    go_enter Tryz.func74,Tryz.ntmps74
    go_wp2_with (first
     | (go_at_call 25; (with_reducible refine HVal.out.mono ?_); rintro r w1 ⟨rfl,x1⟩; have y1:=x1.facts; have z1:=x1.size; have hb1:b < w1.heap.size:=(by omega))
     | (go_at_call 80; refine (hfound_any _ cap l nm _ HLn.out (HA.out.ext x1) hl).mono ?_; rw [HI.out]; rintro r w' ⟨rfl,rfl⟩))
    go_loop [9] (fun i=>∃ q:Nat,q ≤ na∧i=.int .i64 q∧Hid (∀ j,j < q → okV (av.getD j default)=true)) (fun i=>na - (intOf i).toNat)
    case atStart=>exact ⟨0,Nat.zero_le _,rfl,fun j hj=>by omega⟩
    case round =>
     obtain ⟨q,hq,rfl,HOK⟩:=hrel
     by_cases hlt:q < na
     ·have hqa:q < av.length:=by rw [← HNa.out]; exact hlt
      obtain ⟨v,hvv⟩:∃ v,v=av.getD q default:=⟨_,rfl⟩
      obtain ⟨bv,ov,rfl,hbv,_,_,_,_,_,v5,_⟩:=(HV.out.ext x1).at_ (k:=q) hqa hvv
      have HVV:=Lib.hid hvv
      clear hvv
      cases hok:okV v
      ·have HF1:Hid (av.all okV=false):=by
        unfold Hid
        rw [← Bool.not_eq_true,List.all_eq_true]
        intro hh
        have h9:=hh v (by rw [HVV.out]; rw [List.getD,List.getElem?_eq_getElem hqa]; exact List.getElem_mem hqa)
        rw [hok] at h9
        cases h9
       have HO:=Lib.hid hok
       clear hok
       go_wp2_with (first
        | (go_at_call 81; refine (hwithin_any _ _ _ _).mono ?_; rw [show inB v.n (-2147483648) 2147483648=false from HO.out]; rintro r w' ⟨rfl,rfl⟩))
       go_ret
       exact ⟨ret_int (by rw [HRN.out,HF1.out]; rfl),x1⟩
      ·have HO:=Lib.hid hok
       clear hok
       go_wp2_with (first
        | (go_at_call 81; refine (hwithin_any _ _ _ _).mono ?_; rw [show inB v.n (-2147483648) 2147483648=true from HO.out]; rintro r w' ⟨rfl,rfl⟩))
       refine ⟨⟨q + 1,by omega,by go_num,fun j hj=>?_⟩,by simp [intOf]; omega⟩
       rcases Nat.lt_or_ge j q with h | h
       ·exact HOK.out j h
       ·obtain rfl:j=q:=by omega
        rw [← HVV.out]; exact HO.out
     ·have HT:Hid (av.all okV=true):=by
       unfold Hid
       rw [List.all_eq_true]
       intro x hx
       obtain ⟨i,hi,rfl⟩:=List.getElem_of_mem hx
       have h9:=HOK.out i (by have:=HNa.out; omega)
       rwa [List.getD,List.getElem?_eq_getElem hi,Option.getD_some] at h9
      go_wp2_with fail
      go_ret
      exact ⟨ret_int (by rw [HRN.out,HT.out]; rfl),x1⟩
   ·have hpb:((na:Int) != f.params)=true:=by rw [bne_iff_ne]; exact hp
    rw [if_pos hp] at HRN
    go_enter Tryz.func74,Tryz.ntmps74
    go_wp2_with (first
     | (go_at_call 25; (with_reducible refine HVal.out.mono ?_); rintro r w1 ⟨rfl,x1⟩; have y1:=x1.facts; have z1:=x1.size; have hb1:b < w1.heap.size:=(by omega))
     | (go_at_call 80; refine (hfound_any _ cap l nm _ HLn.out (HA.out.ext x1) hl).mono ?_; rw [HI.out]; rintro r w' ⟨rfl,rfl⟩))
    go_ret
    exact ⟨ret_int HRN.out.symm,x1⟩
 ·have HR:Hid (runE l nm av=v):=by unfold Hid runE; rw [hv,if_pos h0]
  have hb:(v != 0)=true:=by rw [bne_iff_ne]; exact h0
  clear hv
  go_enter Tryz.func74,Tryz.ntmps74
  go_wp2_with (first
   | (go_at_call 25; (with_reducible refine HVal.out.mono ?_); rintro r w1 ⟨rfl,x1⟩))
  go_ret
  exact ⟨ret_int HR.out.symm,x1⟩
noncomputable def runX (l:List Rf) (ck:Bool) (k:Nat) (av:List Val):En × Nat:=⟨Classical.choose (Run.total l ck 1 k av 0),Classical.choose (Classical.choose_spec (Run.total l ck 1 k av 0))⟩
theorem runX_run (l:List Rf) (ck:Bool) (k:Nat) (av:List Val):Run l ck (.call 1 k av) 0 (runX l ck k av).1 (runX l ck k av).2:=Classical.choose_spec (Classical.choose_spec (Run.total l ck 1 k av 0))
theorem runX_eq {l:List Rf} {ck:Bool} {k:Nat} {av:List Val} {e:En} {t:Nat} (h:Run l ck (.call 1 k av) 0 e t):runX l ck k av=(e,t):=by
 obtain ⟨h1,h2⟩:=h.det (runX_run l ck k av)
 rw [h1,h2]
def plainV (v:Val):Val:=pv v.n v.null v.err
noncomputable def outR (l:List Rf) (nm:ByteArray) (av:List Val) (ck:Bool):En × Nat:=if runE l nm av=0 then runX l ck (indexR l nm).toNat (av.map plainV) else (.ret default,0)
def outC:En → Array Value
 | .ret v=>(Value.int .i64 0 :: v.cells ++ [Value.int .i64 0,.slice none 0 0]).toArray
 | .stop y=>(Value.int .i64 1 :: (default:Val).cells ++ [Value.int .i64 y,.slice none 0 0]).toArray
 | .long=>(Value.int .i64 2 :: (default:Val).cells ++ [Value.int .i64 0,.slice none 0 0]).toArray
def tyU:Ty:=⟨2,8,⟨#[]⟩,false,false⟩
def tyN:Ty:=⟨0,0,⟨#[]⟩,false,false⟩
def gLi (d a:Int):Rg:=⟨0,d,a,0,tyU,⟨#[]⟩,none,0,[]⟩
def gAdd:Rg:=⟨105,0,0,1,tyU,⟨#[]⟩,none,0,[]⟩
def gRet:Rg:=⟨15,0,0,0,tyN,⟨#[]⟩,none,0,[]⟩
def fSum (A:Option Addr):Rf:=⟨⟨#[102]⟩,0,2,tyU,A,4,[gLi 0 200,gLi 1 100,gAdd,gRet]⟩
theorem index_sum (A:Option Addr):indexR [fSum A] ⟨#[102]⟩=0:=by
 unfold indexR
 exact findI_hit (k:=0) (by simp) (by simp [fSum]) (by omega)
theorem emp_none:emp ⟨#[]⟩=true:=by
 unfold emp
 rw [Lib.toList_data]
 rfl
theorem valid_sum (A:Option Addr):validR [fSum A]=0:=by
 unfold validR
 rw [if_neg,if_pos]
 ·intro k hk
  have:k=0:=by simp at hk; omega
  subst this
  have e:[fSum A].getD 0 default=fSum A:=rfl
  rw [e]
  refine ⟨?_,index_sum A⟩
  unfold fcR
  have hn:isNameS ⟨#[102]⟩=true:=by decide
  rw [show (fSum A).name=⟨#[102]⟩ from rfl,hn,show (fSum A).ty=tyU from rfl]
  have hr:isRanS tyU=true:=by simp [isRanS,isTypeS,tyU,emp_none,bitsOk]
  rw [hr]
  simp [fSum,inB,instR,isOpB,partsR,isPartB,argsB,restR,gLi,gAdd,gRet,goesR,tyU,tyN,tz,emp_none,pushS,isIntS,isPlainS,isRanS,isTypeS,bitsOk]
 ·rintro (h | h)
  ·simp at h
  ·simp [countR,fSum] at h
theorem runE_sum (A:Option Addr):runE [fSum A] ⟨#[102]⟩ []=0:=by
 unfold runE
 rw [valid_sum,index_sum]
 rfl
def sumR1:Nat → Val:=upd (fun _=>default) 0 (nv 200)
def sumR2:Nat → Val:=upd sumR1 1 (nv 100)
theorem num_sum:numF true gAdd (nv 200) (nv 100)=(0,1):=by decide +kernel
theorem num_sum2:numF false gAdd (nv 200) (nv 100)=(44,0):=by decide +kernel
theorem wrap_sum (n:Int) (h:n=200 ∨ n=100):wrapT tyU n=n:=by rcases h with rfl | rfl <;> decide +kernel
section
variable (S:Nat → Val) (ck:Bool)
theorem step_sum0:stepF ck (gLi 0 200) 0 (fun _=>default) S=.go 1 sumR1 S:=by
 have h:stepF ck (gLi 0 200) 0 (fun _=>default) S=.go 1 (upd (fun _=>default) 0 (nv (wrapT tyU 200))) S:=rfl
 rw [h,wrap_sum 200 (.inl rfl)]
 rfl
theorem step_sum1:stepF ck (gLi 1 100) 1 sumR1 S=.go 2 sumR2 S:=by
 have h:stepF ck (gLi 1 100) 1 sumR1 S=.go 2 (upd sumR1 1 (nv (wrapT tyU 100))) S:=rfl
 rw [h,wrap_sum 100 (.inr rfl)]
 rfl
theorem step_sum2:stepF ck gAdd 2 sumR2 S=bif (numF ck gAdd (nv 200) (nv 100)).2 != 0 then .done (.stop (numF ck gAdd (nv 200) (nv 100)).2) else .go 3 (upd sumR2 0 (nv (numF ck gAdd (nv 200) (nv 100)).1)) S:=rfl
theorem step_sum3 (R:Nat → Val):stepF ck gRet 3 R S=.done (.ret (R 0)):=rfl
end
theorem run_sum (A:Option Addr):Run [fSum A] true (.call 1 0 []) 0 (.stop 1) 3:=by
 refine .enter (by decide) (.go (by decide) (step_sum0 _ _) (.go (by decide) (step_sum1 _ _) (.done (by decide) ?_)))
 refine (step_sum2 _ _).trans ?_
 rw [num_sum]
 rfl
theorem run_sum2 (A:Option Addr):Run [fSum A] false (.call 1 0 []) 0 (.ret (nv 44)) 4:=by
 refine .enter (by decide) (.go (by decide) (step_sum0 _ _) (.go (by decide) (step_sum1 _ _) (.go (by decide) (p':=3) (R':=upd sumR2 0 (nv 44)) (S':=fun i=>([]:List Val).getD i default) ?_ (.done (by decide) (step_sum3 _ _ _)))))
 refine (step_sum2 _ _).trans ?_
 rw [num_sum2]
 rfl
theorem out_sum (A:Option Addr):(outR [fSum A] ⟨#[102]⟩ [] true).1=.stop 1:=by
 unfold outR
 rw [if_pos (runE_sum A),index_sum]
 have h:=runX_eq (run_sum A)
 exact congrArg (·.1) h
theorem out_sum2 (A:Option Addr):(outR [fSum A] ⟨#[102]⟩ [] false).1=.ret (nv 44):=by
 unfold outR
 rw [if_pos (runE_sum A),index_sum]
 have h:=runX_eq (run_sum2 A)
 exact congrArg (·.1) h
end Go.Proofs.YtknaemlnhediaaaGreatDoor.c
