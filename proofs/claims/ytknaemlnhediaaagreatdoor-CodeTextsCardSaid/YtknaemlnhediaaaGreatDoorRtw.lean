/- Contract of the reference's Text. The table of powers holds what its text lays; lengths are bounded. -/
import Derived.Test.YtknaemlnhediaaaGreatDoorRtx
namespace Go.Proofs.YtknaemlnhediaaaGreatDoor.c
open Go.RowKit
set_option linter.unusedVariables false
set_option maxRecDepth 100000
set_option maxHeartbeats 6400000
set_option linter.unusedSimpArgs false
theorem rText_any (A:Option Addr) (cap:Nat) (l:List Fc) {len:Nat} (w:World) (gp:LaidP w) (hlen:len=l.length) (hA:FcAt w A l) (hl:l.length ≤ 9223372036854775806) (hc:l.length ≤ 48 → countS l ≤ 9223372036854775806) (hfl:∀ f,f ∈ l → f.code.length ≤ 9223372036854775806) :
  Calls Tryz.prog 15 #[.slice A len cap] w fun e w'=>e=.returned (.tuple #[.string ⟨(textS l).toArray⟩,.int .i64 (validS l)])∧Ext w w':=by
 have HV:Hid (Calls Tryz.prog 66 #[.slice A len cap] w fun e w'=>e=.returned (.int .i64 (validS l))∧Ext w w'):=by rw [hlen]; exact rValidate_any A cap l w hA hl hc hfl
 have HA:=Lib.hid hA
 have HLn:=Lib.hid hlen
 have GP:=Lib.hid gp
 clear hA hlen gp hl hc hfl
 by_cases hv:validS l=0
 ·have HT:Hid (textS l=codeT l):=by unfold Hid textS; rw [if_pos hv]
  have HTX:Hid (∀ f,f ∈ l → TxtF f):=fun f hf=>valid_txt hv hf
  have HTL:Hid (∀ i k,i < l.length → k ≤ (l.getD i default).code.length → (codeT (l.take i) ++ funL (l.getD i default) k).length ≤ 400000):=fun i k hi hk=>text_len hv hi hk
  have h48:len ≤ 48:=by have:=(valid_parts hv).1; have:=HLn.out; omega
  have HCC:Hid (∀ f,f ∈ l → f.code.length ≤ 2000):=fun f hf=>by have:=len_count hf; have:=(valid_parts hv).2.1; omega
  rw [hv] at HV ⊢
  rw [HT.out]
  clear hv
  go_enter Tryz.func15,Tryz.ntmps15
  go_wp2_with (first | (go_at_call 66; refine (HV.out).mono ?_; rintro r w1 ⟨rfl,x1⟩; have X1:=Lib.hid x1; clear x1))
  go_loopw [5,6] (fun s i wr=>∃ (k:Nat) (S:ByteArray),k ≤ len∧i=.int .i64 k∧s=.string S∧S.data.toList=codeT (l.take k)∧Ext w wr) (fun _ i _=>len - (intOf i).toNat)
  case atStart=>exact ⟨0,⟨#[]⟩,Nat.zero_le _,rfl,rfl,by simp [codeT,funT,linesT],X1.out⟩
  case round =>
   obtain ⟨k,S,hk,rfl,rfl,hs,hx⟩:=hrel
   have HX:=Lib.hid hx
   have HS:=Lib.hid hs
   clear hx hs
   by_cases hlt:k < len
   ·have hkl:k < l.length:=by have:=HLn.out; omega
    obtain ⟨f,hf⟩:∃ f,f=l.getD k default:=⟨_,rfl⟩
    have hfm:f ∈ l:=by rw [hf]; exact getD_mem hkl
    have TF:Hid (TxtF f):=HTX.out f hfm
    have HTF:Hid (∀ j,j ≤ f.code.length → (codeT (l.take k) ++ funL f j).length ≤ 400000):=by rw [hf]; exact fun j hj=>HTL.out k j hkl hj
    have HCT:Hid (codeT (l.take (k + 1))=codeT (l.take k) ++ funL f f.code.length):=codeT_take l hkl hf
    have hcl:f.code.length ≤ 2000:=HCC.out f hfm
    obtain ⟨b,off,rfl,hb,c0,c1,c2,c3,c4,c5,c6,c7,c8,hcd⟩:=(HA.out.ext HX.out).at_ (k:=k) hkl hf
    have HCD:=Lib.hid (HA.out.sub f hfm)
    obtain ⟨P1,P2,T1,hS⟩:=headS TF.out GP.out
    have HHS:=Lib.hid hS
    have HTT:Hid (∀ w1,Calls Tryz.prog 67 #[.agg #[.int .i64 f.ty.base,.int .i64 f.ty.bits,.string f.ty.name,.bool f.ty.opt,.bool f.ty.err]] w1 fun e w'=>e=.returned (.tuple #[.string T1,.int .i64 0])∧Ext w1 w'):=fun w1=>by
     have h:=rtypeText_any f.ty w1 TF.out.ty
     rwa [← hS.t,show (⟨T1.data.toList.toArray⟩:ByteArray)=T1 from bytes_inj (by simp)] at h
    obtain ⟨z0,z1,z2,z3⟩:=hS.z
    have zS:S.size ≤ 400000:=by
     have h1:=HTF.out 0 (Nat.zero_le _)
     have h2:=HS.out
     rw [List.length_append] at h1
     rw [Lib.size_eq,h2]
     omega
    clear hf hcd hS hfm
    go_wp2_with (first
     | (go_at_call 67
        refine (HTT.out _).mono ?_
        rintro r w2 ⟨rfl,x2⟩
        have BX2:Hid (Blk w2 wr.heap.size 62 #[.string f.name,.int .i64 f.params,.int .i64 f.places,.int .i64 f.ty.base,.int .i64 f.ty.bits,.string f.ty.name,.bool f.ty.opt,.bool f.ty.err,.slice f.A f.code.length f.cap]):=(Blk.new wr _ _).ext x2
        have X2:Hid (Ext w w2):=HX.out.trans exA
        clear x2))
    clear c0 c1 c2 c3 c4 c5 c6 c7 c8
    have HD:Hid (∀ w',Ext w2 w' → w'.cell? ⟨wr.heap.size,0,none⟩=some (.string f.name)∧w'.cell? ⟨wr.heap.size,1,none⟩=some (.int .i64 f.params)∧w'.cell? ⟨wr.heap.size,2,none⟩=some (.int .i64 f.places)):=fun w' x=>by
     have h:=BX2.out.ext x
     exact ⟨h.cell 0,h.cell 1,h.cell 2⟩
    have HC1:Hid (∀ (l:Array Bool) (w':World),Ext w2 w' → Calls Tryz.prog 62 #[.int .i64 f.params] w' fun e w''=>e=.returned (.string P1)∧Ext w2 w''):=fun l w' x=>(HHS.out.i1 w' (X2.out.trans x)).mono fun e w'' h=>⟨h.1,x.trans h.2⟩
    have HC2:Hid (∀ (l:Array Bool) (w':World),Ext w2 w' → Calls Tryz.prog 62 #[.int .i64 f.places] w' fun e w''=>e=.returned (.string P2)∧Ext w2 w''):=fun l w' x=>(HHS.out.i2 w' (X2.out.trans x)).mono fun e w'' h=>⟨h.1,x.trans h.2⟩
    have HST:∀ (i:Nat) (l:Array Bool) (w':World),Ext w2 w' ↔ Ext w2 w':=fun _ _ _=>Iff.rfl
    refine flow_begin (fun _ w'=>Ext w2 w') #[false,false,false,false,false,false,false,false,false,false,false,false,false,false,false,false,false,false,false] rfl (by kernel_rfl) (fun _ _ _ _ _ h=>h) ((Ext.refl _).drew) (fun HQ=>?_)
    (refine tp 0 35 rfl HQ (HST 0) ?_; try simp only [putL,List.set])
    (refine tp 1 36 rfl HQ (HST 1) ?_; try simp only [putL,List.set])
    (refine tt 2 37 rfl HQ (HST 2) ?_; try simp only [putL,List.set])
    (refine tk 3 38 ?_ rfl (by kernel_rfl) HQ (HST 3) (by rfl) (fun l w' hF=>?_) ?_; rotate_left; (focus (go_simp; first | with_reducible rfl | (rw [if_neg (by omega)]))); try simp only [putL,List.set])
    (refine tp 4 39 rfl HQ (HST 4) ?_; try simp only [putL,List.set])
    (refine tt 5 40 rfl HQ (HST 5) ?_; try simp only [putL,List.set])
    (refine tc 6 41 rfl (by kernel_rfl) HQ (HST 6) (by rfl) (fun l w' hF=>?_) ((HC1.out)) ?_; (focus (have hq:=HD.out _ hF; go_simp; try simp only [enters_itoa _ _])); try simp only [putL,List.set])
    (refine tk 7 42 ?_ rfl (by kernel_rfl) HQ (HST 7) (by rfl) (fun l w' hF=>?_) ?_; rotate_left; (focus (go_simp; first | with_reducible rfl | (rw [if_neg (by omega)]))); try simp only [putL,List.set])
    (refine tk 8 43 ?_ rfl (by kernel_rfl) HQ (HST 8) (by rfl) (fun l w' hF=>?_) ?_; rotate_left; (focus (go_simp; first | with_reducible rfl | (rw [if_neg (by omega)]))); try simp only [putL,List.set])
    (refine tp 9 44 rfl HQ (HST 9) ?_; try simp only [putL,List.set])
    (refine tt 10 45 rfl HQ (HST 10) ?_; try simp only [putL,List.set])
    (refine tc 11 46 rfl (by kernel_rfl) HQ (HST 11) (by rfl) (fun l w' hF=>?_) ((HC2.out)) ?_; (focus (have hq:=HD.out _ hF; go_simp; try simp only [enters_itoa _ _])); try simp only [putL,List.set])
    (refine tk 12 47 ?_ rfl (by kernel_rfl) HQ (HST 12) (by rfl) (fun l w' hF=>?_) ?_; rotate_left; (focus (go_simp; first | with_reducible rfl | (rw [if_neg (by omega)]))); try simp only [putL,List.set])
    (refine tk 13 48 ?_ rfl (by kernel_rfl) HQ (HST 13) (by rfl) (fun l w' hF=>?_) ?_; rotate_left; (focus (go_simp; first | with_reducible rfl | (rw [if_neg (by omega)]))); try simp only [putL,List.set])
    (refine tp 14 49 rfl HQ (HST 14) ?_; try simp only [putL,List.set])
    (refine tk 15 50 ?_ rfl (by kernel_rfl) HQ (HST 15) (by rfl) (fun l w' hF=>?_) ?_; rotate_left; (focus (go_simp; first | with_reducible rfl | (rw [if_neg (by omega)]))); try simp only [putL,List.set])
    (refine tk 16 51 ?_ rfl (by kernel_rfl) HQ (HST 16) (by rfl) (fun l w' hF=>?_) ?_; rotate_left; (focus (go_simp; first | with_reducible rfl | (rw [if_neg (by omega)]))); try simp only [putL,List.set])
    (refine tk 17 52 ?_ rfl (by kernel_rfl) HQ (HST 17) (by rfl) (fun l w' hF=>?_) ?_; rotate_left; (focus (go_simp; first | with_reducible rfl | (rw [if_neg (by omega)]))); try simp only [putL,List.set])
    (refine tp 18 5 rfl HQ (HST 18) ?_; try simp only [putL,List.set])
    refine flow_done (by kernel_rfl) ?_
    intro w3 x3
    have BX3:=Lib.hid (BX2.out.ext x3)
    have X3:Hid (Ext w w3):=X2.out.trans x3
    obtain ⟨S2,hS2⟩:∃ S2,S2=S ++ (f.name ++ ⟨#[32]⟩ ++ P1 ++ ⟨#[32]⟩ ++ P2 ++ ⟨#[32]⟩ ++ T1 ++ ⟨#[58,10]⟩):=⟨_,rfl⟩
    have HS2:Hid (S2.data.toList=codeT (l.take k) ++ funL f 0):=by unfold Hid; rw [hS2,funL_zero,HHS.out.head]; simp [HS.out]
    rw [← hS2]
    clear hS2 x3 HD HC1 HC2 HST HQ HS zS z0 z1 z2 z3 HTT X2 BX2 HHS
    obtain ⟨nc,hnc⟩:∃ nc,nc=f.code.length:=⟨_,rfl⟩
    have HNC:=Lib.hid hnc
    clear hnc
    generalize wr.heap.size=gx at BX3 ⊢
    go_wp2_with fail
    rename World=>wo
    go_loopw [5,10] (fun s i wr=>∃ (j:Nat) (Z:ByteArray),j ≤ nc∧i=.int .i64 j∧s=.string Z∧Z.data.toList=codeT (l.take k) ++ funL f j∧Ext w wr∧Blk wr gx 62 #[.string f.name,.int .i64 f.params,.int .i64 f.places,.int .i64 f.ty.base,.int .i64 f.ty.bits,.string f.ty.name,.bool f.ty.opt,.bool f.ty.err,.slice f.A f.code.length f.cap]) (fun _ i _=>nc - (intOf i).toNat)
    case atStart=>exact ⟨0,S2,Nat.zero_le _,rfl,rfl,HS2.out,X3.out,BX3.out⟩
    case round =>
     obtain ⟨j,Z,hj,rfl,rfl,hz,qx,qb⟩:=hrel
     have QX:=Lib.hid qx
     have QB:=Lib.hid qb
     have HZ:=Lib.hid hz
     have e8:=qb.cell 8
     simp only [List.getElem?_toArray,List.getElem?_cons_zero,List.getElem?_cons_succ] at e8
     rw [← HNC.out] at e8
     have zb:=qb.lt
     clear qx qb hz HS2 X3 BX3
     by_cases hlj:j < nc
     ·have hjl:j < f.code.length:=by have:=HNC.out; omega
      obtain ⟨x,hxx⟩:∃ x,x=f.code.getD j default:=⟨_,rfl⟩
      have TX:Hid (TxtX x):=TF.out.code x (by rw [hxx]; exact getD_mem hjl)
      obtain ⟨O1,O2,O3,T2,hL⟩:=lineS TX.out GP.out
      have HLS:=Lib.hid hL
      have HTT2:Hid (∀ w1,Calls Tryz.prog 67 #[.agg #[.int .i64 x.ty.base,.int .i64 x.ty.bits,.string x.ty.name,.bool x.ty.opt,.bool x.ty.err]] w1 fun e w'=>e=.returned (.tuple #[.string T2,.int .i64 0])∧Ext w1 w'):=fun w1=>by
       have h:=rtypeText_any x.ty w1 TX.out.ty
       rwa [← hL.t,show (⟨T2.data.toList.toArray⟩:ByteArray)=T2 from bytes_inj (by simp)] at h
      obtain ⟨z0,z1,z2,z3,z4⟩:=hL.z
      have zZ:Z.size ≤ 400000:=by rw [Lib.size_eq,HZ.out]; exact HTF.out j (by omega)
      have HLN:Hid (codeT (l.take k) ++ funL f (j + 1)=(codeT (l.take k) ++ funL f j) ++ (lineT x ++ [10])):=by unfold Hid; rw [funL_take f hjl hxx,List.append_assoc]
      obtain ⟨b3,o3,hA3,hb3,d0,d1,d2,d3,d4,d5,d6,d7,d8⟩:=(HCD.out.ext QX.out).at_ (k:=j) hjl hxx
      rw [hA3] at e8
      have hq:=run_tz_neq x.ty
      clear hxx hL hA3
      have HNM0:Hid (nameT x.name=if emp x.name then [45] else x.name.data.toList):=rfl
      have HTY0:Hid (tyT x.ty=if tz x.ty then [45] else T2.data.toList):=by unfold Hid tyT; rw [HLS.out.t]
      cases hb1:tz x.ty
      ·have HTY:Hid (tyT x.ty=T2.data.toList):=by have h:=HTY0.out; rw [hb1] at h; exact h
       rw [hb1] at hq
       clear hb1 HTY0
       cases hb2:emp x.name
       all_goals
        have hem:x.name.toList.isEmpty=_:=hb2
        have HNM:=HNM0
        rw [hb2] at HNM
        clear hb2 HNM0
        go_wp2_with (first
         | (go_at_call 67
            refine (HTT2.out _).mono ?_
            rintro r w6 ⟨rfl,x6⟩
            have BY:Hid (Blk w6 wr.heap.size 93 #[.int .i64 x.op,.int .i64 x.a,.int .i64 x.b,.int .i64 x.ty.base,.int .i64 x.ty.bits,.string x.ty.name,.bool x.ty.opt,.bool x.ty.err,.string x.name]):=(Blk.new wr _ _).ext x6
            have X6:Hid (Ext w w6):=QX.out.trans exA
            have QB6:Hid (Blk w6 gx 62 #[.string f.name,.int .i64 f.params,.int .i64 f.places,.int .i64 f.ty.base,.int .i64 f.ty.bits,.string f.ty.name,.bool f.ty.opt,.bool f.ty.err,.slice f.A f.code.length f.cap]):=QB.out.ext exA
            obtain ⟨g0,g1,g2,g3,g4,g5,g6,g7,g8⟩:=cd_cells x BY.out
            have zy:=BY.out.lt
            clear x6))
        clear d0 d1 d2 d3 d4 d5 d6 d7 d8 g0 g1 g2 g3 g4 g5 g6 g7 g8 hem hq e8
        have HD:Hid (∀ w',Ext w6 w' → w'.cell? ⟨wr.heap.size,0,none⟩=some (.int .i64 x.op)∧w'.cell? ⟨wr.heap.size,1,none⟩=some (.int .i64 x.a)∧w'.cell? ⟨wr.heap.size,2,none⟩=some (.int .i64 x.b)):=fun w' xx=>by
         have h:=BY.out.ext xx
         exact ⟨h.cell 0,h.cell 1,h.cell 2⟩
        have HC1:Hid (∀ (l:Array Bool) (w':World),Ext w6 w' → Calls Tryz.prog 62 #[.int .i64 x.op] w' fun e w''=>e=.returned (.string O1)∧Ext w6 w''):=fun l w' xx=>(HLS.out.i1 w' (X6.out.trans xx)).mono fun e w'' h=>⟨h.1,xx.trans h.2⟩
        have HC2:Hid (∀ (l:Array Bool) (w':World),Ext w6 w' → Calls Tryz.prog 62 #[.int .i64 x.a] w' fun e w''=>e=.returned (.string O2)∧Ext w6 w''):=fun l w' xx=>(HLS.out.i2 w' (X6.out.trans xx)).mono fun e w'' h=>⟨h.1,xx.trans h.2⟩
        have HC3:Hid (∀ (l:Array Bool) (w':World),Ext w6 w' → Calls Tryz.prog 62 #[.int .i64 x.b] w' fun e w''=>e=.returned (.string O3)∧Ext w6 w''):=fun l w' xx=>(HLS.out.i3 w' (X6.out.trans xx)).mono fun e w'' h=>⟨h.1,xx.trans h.2⟩
        have HST:∀ (i:Nat) (l:Array Bool) (w':World),Ext w6 w' ↔ Ext w6 w':=fun _ _ _=>Iff.rfl
        refine flow_begin (fun _ w'=>Ext w6 w') #[false,false,false,false,false,false,false,false,false,false,false,false,false,false,false,false,false,false,false,false,false,false,false] rfl (by kernel_rfl) (fun _ _ _ _ _ h=>h) ((Ext.refl _).drew) (fun HQ=>?_)
        (refine tp 0 80 rfl HQ (HST 0) ?_; try simp only [putL,List.set])
        (refine tp 1 81 rfl HQ (HST 1) ?_; try simp only [putL,List.set])
        (refine tt 2 82 rfl HQ (HST 2) ?_; try simp only [putL,List.set])
        (refine tc 3 83 rfl (by kernel_rfl) HQ (HST 3) (by rfl) (fun l w' hF=>?_) ((HC1.out)) ?_; (focus (have hq:=HD.out _ hF; go_simp; try simp only [enters_itoa _ _])); try simp only [putL,List.set])
        (refine tk 4 84 ?_ rfl (by kernel_rfl) HQ (HST 4) (by rfl) (fun l w' hF=>?_) ?_; rotate_left; (focus (go_simp; first | with_reducible rfl | (rw [if_neg (by omega)]))); try simp only [putL,List.set])
        (refine tp 5 85 rfl HQ (HST 5) ?_; try simp only [putL,List.set])
        (refine tt 6 86 rfl HQ (HST 6) ?_; try simp only [putL,List.set])
        (refine tc 7 87 rfl (by kernel_rfl) HQ (HST 7) (by rfl) (fun l w' hF=>?_) ((HC2.out)) ?_; (focus (have hq:=HD.out _ hF; go_simp; try simp only [enters_itoa _ _])); try simp only [putL,List.set])
        (refine tk 8 88 ?_ rfl (by kernel_rfl) HQ (HST 8) (by rfl) (fun l w' hF=>?_) ?_; rotate_left; (focus (go_simp; first | with_reducible rfl | (rw [if_neg (by omega)]))); try simp only [putL,List.set])
        (refine tk 9 89 ?_ rfl (by kernel_rfl) HQ (HST 9) (by rfl) (fun l w' hF=>?_) ?_; rotate_left; (focus (go_simp; first | with_reducible rfl | (rw [if_neg (by omega)]))); try simp only [putL,List.set])
        (refine tp 10 90 rfl HQ (HST 10) ?_; try simp only [putL,List.set])
        (refine tt 11 91 rfl HQ (HST 11) ?_; try simp only [putL,List.set])
        (refine tc 12 92 rfl (by kernel_rfl) HQ (HST 12) (by rfl) (fun l w' hF=>?_) ((HC3.out)) ?_; (focus (have hq:=HD.out _ hF; go_simp; try simp only [enters_itoa _ _])); try simp only [putL,List.set])
        (refine tk 13 93 ?_ rfl (by kernel_rfl) HQ (HST 13) (by rfl) (fun l w' hF=>?_) ?_; rotate_left; (focus (go_simp; first | with_reducible rfl | (rw [if_neg (by omega)]))); try simp only [putL,List.set])
        (refine tk 14 94 ?_ rfl (by kernel_rfl) HQ (HST 14) (by rfl) (fun l w' hF=>?_) ?_; rotate_left; (focus (go_simp; first | with_reducible rfl | (rw [if_neg (by omega)]))); try simp only [putL,List.set])
        (refine tp 15 95 rfl HQ (HST 15) ?_; try simp only [putL,List.set])
        (refine tk 16 96 ?_ rfl (by kernel_rfl) HQ (HST 16) (by rfl) (fun l w' hF=>?_) ?_; rotate_left; (focus (go_simp; first | with_reducible rfl | (rw [if_neg (by omega)]))); try simp only [putL,List.set])
        (refine tk 17 97 ?_ rfl (by kernel_rfl) HQ (HST 17) (by rfl) (fun l w' hF=>?_) ?_; rotate_left; (focus (go_simp; first | with_reducible rfl | (rw [if_neg (by omega)]))); try simp only [putL,List.set])
        (refine tp 18 98 rfl HQ (HST 18) ?_; try simp only [putL,List.set])
        (refine tk 19 99 ?_ rfl (by kernel_rfl) HQ (HST 19) (by rfl) (fun l w' hF=>?_) ?_; rotate_left; (focus (go_simp; first | with_reducible rfl | (rw [if_neg (by omega)]))); try simp only [putL,List.set])
        (refine tk 20 100 ?_ rfl (by kernel_rfl) HQ (HST 20) (by rfl) (fun l w' hF=>?_) ?_; rotate_left; (focus (go_simp; first | with_reducible rfl | (rw [if_neg (by omega)]))); try simp only [putL,List.set])
        (refine tk 21 101 ?_ rfl (by kernel_rfl) HQ (HST 21) (by rfl) (fun l w' hF=>?_) ?_; rotate_left; (focus (go_simp; first | with_reducible rfl | (rw [if_neg (by omega)]))); try simp only [putL,List.set])
        (refine tp 22 5 rfl HQ (HST 22) ?_; try simp only [putL,List.set])
        refine flow_done (by kernel_rfl) ?_
        intro w7 x7
        have X7:Hid (Ext w w7):=X6.out.trans x7
        have QB7:Hid (Blk w7 gx 62 #[.string f.name,.int .i64 f.params,.int .i64 f.places,.int .i64 f.ty.base,.int .i64 f.ty.bits,.string f.ty.name,.bool f.ty.opt,.bool f.ty.err,.slice f.A f.code.length f.cap]):=QB6.out.ext x7
        clear x7 HD HC1 HC2 HC3 HST HQ
        go_wp2_with fail
        case roundEnd=>exact ⟨⟨j + 1,_,by omega,by go_num,rfl,by rw [HLN.out,← HZ.out,HLS.out.line,HTY.out,HNM.out]; simp,X7.out,QB7.out⟩,by simp [intOf]; omega⟩

      ·have HTY:Hid (tyT x.ty=[45]):=by have h:=HTY0.out; rw [hb1] at h; exact h
       rw [hb1] at hq
       clear hb1 HTY0
       cases hb2:emp x.name
       all_goals
        have hem:x.name.toList.isEmpty=_:=hb2
        have HNM:=HNM0
        rw [hb2] at HNM
        clear hb2 HNM0
        go_wp2_with fail
        have BY:Hid (Blk (wr.alloc (.cells #[.int .i64 x.op,.int .i64 x.a,.int .i64 x.b,.int .i64 x.ty.base,.int .i64 x.ty.bits,.string x.ty.name,.bool x.ty.opt,.bool x.ty.err,.string x.name] 93)) wr.heap.size 93 #[.int .i64 x.op,.int .i64 x.a,.int .i64 x.b,.int .i64 x.ty.base,.int .i64 x.ty.bits,.string x.ty.name,.bool x.ty.opt,.bool x.ty.err,.string x.name]):=Blk.new wr _ _
        have X6:Hid (Ext w (wr.alloc (.cells #[.int .i64 x.op,.int .i64 x.a,.int .i64 x.b,.int .i64 x.ty.base,.int .i64 x.ty.bits,.string x.ty.name,.bool x.ty.opt,.bool x.ty.err,.string x.name] 93))):=QX.out.alloc _
        have QB6:Hid (Blk (wr.alloc (.cells #[.int .i64 x.op,.int .i64 x.a,.int .i64 x.b,.int .i64 x.ty.base,.int .i64 x.ty.bits,.string x.ty.name,.bool x.ty.opt,.bool x.ty.err,.string x.name] 93)) gx 62 #[.string f.name,.int .i64 f.params,.int .i64 f.places,.int .i64 f.ty.base,.int .i64 f.ty.bits,.string f.ty.name,.bool f.ty.opt,.bool f.ty.err,.slice f.A f.code.length f.cap]):=QB.out.alloc _
        generalize wr.alloc (.cells #[.int .i64 x.op,.int .i64 x.a,.int .i64 x.b,.int .i64 x.ty.base,.int .i64 x.ty.bits,.string x.ty.name,.bool x.ty.opt,.bool x.ty.err,.string x.name] 93)=w6 at BY X6 QB6 ⊢
        clear d0 d1 d2 d3 d4 d5 d6 d7 d8 hem hq e8
        have HD:Hid (∀ w',Ext w6 w' → w'.cell? ⟨wr.heap.size,0,none⟩=some (.int .i64 x.op)∧w'.cell? ⟨wr.heap.size,1,none⟩=some (.int .i64 x.a)∧w'.cell? ⟨wr.heap.size,2,none⟩=some (.int .i64 x.b)):=fun w' xx=>by
         have h:=BY.out.ext xx
         exact ⟨h.cell 0,h.cell 1,h.cell 2⟩
        have HC1:Hid (∀ (l:Array Bool) (w':World),Ext w6 w' → Calls Tryz.prog 62 #[.int .i64 x.op] w' fun e w''=>e=.returned (.string O1)∧Ext w6 w''):=fun l w' xx=>(HLS.out.i1 w' (X6.out.trans xx)).mono fun e w'' h=>⟨h.1,xx.trans h.2⟩
        have HC2:Hid (∀ (l:Array Bool) (w':World),Ext w6 w' → Calls Tryz.prog 62 #[.int .i64 x.a] w' fun e w''=>e=.returned (.string O2)∧Ext w6 w''):=fun l w' xx=>(HLS.out.i2 w' (X6.out.trans xx)).mono fun e w'' h=>⟨h.1,xx.trans h.2⟩
        have HC3:Hid (∀ (l:Array Bool) (w':World),Ext w6 w' → Calls Tryz.prog 62 #[.int .i64 x.b] w' fun e w''=>e=.returned (.string O3)∧Ext w6 w''):=fun l w' xx=>(HLS.out.i3 w' (X6.out.trans xx)).mono fun e w'' h=>⟨h.1,xx.trans h.2⟩
        have HST:∀ (i:Nat) (l:Array Bool) (w':World),Ext w6 w' ↔ Ext w6 w':=fun _ _ _=>Iff.rfl
        refine flow_begin (fun _ w'=>Ext w6 w') #[false,false,false,false,false,false,false,false,false,false,false,false,false,false,false,false,false,false,false,false,false,false,false] rfl (by kernel_rfl) (fun _ _ _ _ _ h=>h) ((Ext.refl _).drew) (fun HQ=>?_)
        (refine tp 0 80 rfl HQ (HST 0) ?_; try simp only [putL,List.set])
        (refine tp 1 81 rfl HQ (HST 1) ?_; try simp only [putL,List.set])
        (refine tt 2 82 rfl HQ (HST 2) ?_; try simp only [putL,List.set])
        (refine tc 3 83 rfl (by kernel_rfl) HQ (HST 3) (by rfl) (fun l w' hF=>?_) ((HC1.out)) ?_; (focus (have hq:=HD.out _ hF; go_simp; try simp only [enters_itoa _ _])); try simp only [putL,List.set])
        (refine tk 4 84 ?_ rfl (by kernel_rfl) HQ (HST 4) (by rfl) (fun l w' hF=>?_) ?_; rotate_left; (focus (go_simp; first | with_reducible rfl | (rw [if_neg (by omega)]))); try simp only [putL,List.set])
        (refine tp 5 85 rfl HQ (HST 5) ?_; try simp only [putL,List.set])
        (refine tt 6 86 rfl HQ (HST 6) ?_; try simp only [putL,List.set])
        (refine tc 7 87 rfl (by kernel_rfl) HQ (HST 7) (by rfl) (fun l w' hF=>?_) ((HC2.out)) ?_; (focus (have hq:=HD.out _ hF; go_simp; try simp only [enters_itoa _ _])); try simp only [putL,List.set])
        (refine tk 8 88 ?_ rfl (by kernel_rfl) HQ (HST 8) (by rfl) (fun l w' hF=>?_) ?_; rotate_left; (focus (go_simp; first | with_reducible rfl | (rw [if_neg (by omega)]))); try simp only [putL,List.set])
        (refine tk 9 89 ?_ rfl (by kernel_rfl) HQ (HST 9) (by rfl) (fun l w' hF=>?_) ?_; rotate_left; (focus (go_simp; first | with_reducible rfl | (rw [if_neg (by omega)]))); try simp only [putL,List.set])
        (refine tp 10 90 rfl HQ (HST 10) ?_; try simp only [putL,List.set])
        (refine tt 11 91 rfl HQ (HST 11) ?_; try simp only [putL,List.set])
        (refine tc 12 92 rfl (by kernel_rfl) HQ (HST 12) (by rfl) (fun l w' hF=>?_) ((HC3.out)) ?_; (focus (have hq:=HD.out _ hF; go_simp; try simp only [enters_itoa _ _])); try simp only [putL,List.set])
        (refine tk 13 93 ?_ rfl (by kernel_rfl) HQ (HST 13) (by rfl) (fun l w' hF=>?_) ?_; rotate_left; (focus (go_simp; first | with_reducible rfl | (rw [if_neg (by omega)]))); try simp only [putL,List.set])
        (refine tk 14 94 ?_ rfl (by kernel_rfl) HQ (HST 14) (by rfl) (fun l w' hF=>?_) ?_; rotate_left; (focus (go_simp; first | with_reducible rfl | (rw [if_neg (by omega)]))); try simp only [putL,List.set])
        (refine tp 15 95 rfl HQ (HST 15) ?_; try simp only [putL,List.set])
        (refine tk 16 96 ?_ rfl (by kernel_rfl) HQ (HST 16) (by rfl) (fun l w' hF=>?_) ?_; rotate_left; (focus (go_simp; first | with_reducible rfl | (rw [if_neg (by omega)]))); try simp only [putL,List.set])
        (refine tk 17 97 ?_ rfl (by kernel_rfl) HQ (HST 17) (by rfl) (fun l w' hF=>?_) ?_; rotate_left; (focus (go_simp; first | with_reducible rfl | (rw [if_neg (by omega)]))); try simp only [putL,List.set])
        (refine tp 18 98 rfl HQ (HST 18) ?_; try simp only [putL,List.set])
        (refine tk 19 99 ?_ rfl (by kernel_rfl) HQ (HST 19) (by rfl) (fun l w' hF=>?_) ?_; rotate_left; (focus (go_simp; first | with_reducible rfl | (rw [if_neg (by omega)]))); try simp only [putL,List.set])
        (refine tk 20 100 ?_ rfl (by kernel_rfl) HQ (HST 20) (by rfl) (fun l w' hF=>?_) ?_; rotate_left; (focus (go_simp; first | with_reducible rfl | (rw [if_neg (by omega)]))); try simp only [putL,List.set])
        (refine tk 21 101 ?_ rfl (by kernel_rfl) HQ (HST 21) (by rfl) (fun l w' hF=>?_) ?_; rotate_left; (focus (go_simp; first | with_reducible rfl | (rw [if_neg (by omega)]))); try simp only [putL,List.set])
        (refine tp 22 5 rfl HQ (HST 22) ?_; try simp only [putL,List.set])
        refine flow_done (by kernel_rfl) ?_
        intro w7 x7
        have X7:Hid (Ext w w7):=X6.out.trans x7
        have QB7:Hid (Blk w7 gx 62 #[.string f.name,.int .i64 f.params,.int .i64 f.places,.int .i64 f.ty.base,.int .i64 f.ty.bits,.string f.ty.name,.bool f.ty.opt,.bool f.ty.err,.slice f.A f.code.length f.cap]):=QB6.out.ext x7
        clear x7 HD HC1 HC2 HC3 HST HQ
        go_wp2_with fail
        case roundEnd=>exact ⟨⟨j + 1,_,by omega,by go_num,rfl,by rw [HLN.out,← HZ.out,HLS.out.line,HTY.out,HNM.out]; simp,X7.out,QB7.out⟩,by simp [intOf]; omega⟩

     ·obtain rfl:j=nc:=by omega
      go_wp2_with fail
      case roundEnd=>exact ⟨⟨k + 1,Z,by omega,by go_num,rfl,by rw [HCT.out,← HNC.out]; exact HZ.out,QX.out⟩,by simp [intOf]; omega⟩
   ·go_wp2_with fail
    go_ret2
    exact ⟨ret_s0 (by rw [HS.out,List.take_of_length_le (by have:=HLn.out; omega)]),HX.out⟩
 ·have HT:Hid (textS l=[]):=by unfold Hid textS; rw [if_neg hv]
  rw [HT.out]
  generalize validS l=v at *
  have hb:(v != 0)=true:=by simpa using hv
  go_enter Tryz.func15,Tryz.ntmps15
  go_wp2_with (first | (go_at_call 66; refine (HV.out).mono ?_; rintro r w1 ⟨rfl,x1⟩))
  go_ret2
  exact ⟨rfl,x1⟩
end Go.Proofs.YtknaemlnhediaaaGreatDoor.c
