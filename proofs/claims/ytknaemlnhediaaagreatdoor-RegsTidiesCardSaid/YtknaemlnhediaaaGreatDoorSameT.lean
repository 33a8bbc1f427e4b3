/- Contracts of the reference's SameInts, and of its Same over lists that are the same. Conditions: lengths. -/
import Derived.Test.YtknaemlnhediaaaGreatDoorSame
import Derived.Test.YtknaemlnhediaaaGreatDoorFlowC
import Derived.Test.YtknaemlnhediaaaGreatDoorGm
import Derived.BigRegion
namespace Go.Proofs.YtknaemlnhediaaaGreatDoor.c
open Go.RowKit
set_option linter.unusedVariables false
set_option maxRecDepth 100000
set_option maxHeartbeats 25600000
set_option linter.unusedSimpArgs false
theorem hintsB_any (A1 A2:Option Addr) (c1 c2:Nat) (L M:List Int) (w:World) (h1:NumsAt w A1 L) (h2:NumsAt w A2 M) (hl:L.length ≤ 9223372036854775806) (hm:M.length ≤ 9223372036854775806) :
  Calls Tryz.prog 38 #[.slice A1 L.length c1,.slice A2 M.length c2] w fun e w'=>e=.returned (.bool (intsB L M))∧Ext w w':=by
 have H1:=Lib.hid h1
 have H2:=Lib.hid h2
 obtain ⟨p,hp⟩:∃ p:Nat → Bool,p=fun i=>L.getD i 0 == M.getD i 0:=⟨_,rfl⟩
 have HP:=Lib.hid hp
 have HI:Hid (intsB L M=eqB L.length M.length p):=by rw [hp]; rfl
 clear h1 h2 hp
 rw [HI.out]
 obtain ⟨n,hn⟩:∃ n,n=L.length:=⟨_,rfl⟩
 obtain ⟨m,hmm⟩:∃ m,m=M.length:=⟨_,rfl⟩
 have HN:=Lib.hid hn
 have HM:=Lib.hid hmm
 rw [← hn] at hl ⊢
 rw [← hmm] at hm ⊢
 clear hn hmm HI
 by_cases e:n=m
 ·subst e
  go_enter Tryz.func38,Tryz.ntmps38
  go_wp2_with fail
  go_loopw [5] (fun i wr=>∃ k:Nat,k ≤ n∧i=.int .i64 k∧(∀ j,j < k → p j=true)∧Ext w wr) (fun i _=>n - (intOf i).toNat)
  case atStart=>exact ⟨0,Nat.zero_le _,rfl,by omega,Ext.refl _⟩
  case round =>
   obtain ⟨k,hk,rfl,ha,hx⟩:=hrel
   have HA:=Lib.hid ha
   clear ha
   by_cases hlt:k < n
   ·obtain ⟨b1,o1,rfl,hb1,d1⟩:=(H1.out.ext hx).one (show k < L.length by have:=HN.out; omega)
    obtain ⟨b2,o2,rfl,hb2,d2⟩:=(H2.out.ext hx).one (show k < M.length by have:=HM.out; omega)
    obtain ⟨y,hy⟩:∃ y,y=L.getD k 0:=⟨_,rfl⟩
    obtain ⟨z,hz⟩:∃ z,z=M.getD k 0:=⟨_,rfl⟩
    have HPK:Hid (p k=(y == z)):=by unfold Hid; rw [HP.out,hy,hz]
    rw [← hy] at d1
    rw [← hz] at d2
    clear hy hz
    by_cases e:y=z
    ·have hq:(y != z)=false:=by simpa using e
     have HPT:Hid (p k=true):=by unfold Hid; rw [HPK.out]; simpa using e
     clear e
     go_wp2_with fail
     go_quiet (fail)
     go_wp2_with fail
     case roundEnd=>exact ⟨⟨k + 1,by omega,by go_num,(fun j hj=>by
      rcases Nat.lt_or_ge j k with h | h
      ·exact HA.out j h
      ·obtain rfl:j=k:=by omega
       exact HPT.out),hx.drewN _⟩,by simp [intOf]; omega⟩
    ·have hq:(y != z)=true:=by simpa using e
     have HPT:Hid (p k=false):=by unfold Hid; rw [HPK.out]; simpa using e
     clear e
     go_wp2_with fail
     go_quiet (fail)
     go_wp2_with fail
     go_ret
     exact ⟨ret_bool (eqB_no hlt HPT.out).symm,hx.drewN _⟩
   ·go_wp2_with fail
    go_ret
    exact ⟨ret_bool (eqB_all fun j hj=>HA.out j (by omega)).symm,hx⟩
 ·have HE:Hid (eqB n m p=false):=eqB_len e
  have hq:((n:Int) != (m:Int))=true:=by simp; omega
  rw [HE.out]
  clear e
  go_enter Tryz.func38,Tryz.ntmps38
  go_wp2_with fail
  go_ret
  exact ⟨rfl,Ext.refl _⟩
theorem eqB_true {n m:Nat} {p:Nat → Bool} (h:eqB n m p=true):n=m∧∀ k,k < n → p k=true:=by
 unfold eqB at h
 rw [Bool.and_eq_true,decide_eq_true_iff] at h
 exact ⟨h.1,allB_iff.1 h.2⟩
theorem hSameT_any (A1 A2:Option Addr) (c1 c2:Nat) (l m:List Rf) {nl nm:Nat} (w:World) (hn:nl=l.length) (hm:nm=m.length) (h1:RfAt w A1 l) (h2:RfAt w A2 m) (hl:nl ≤ 9223372036854775806) (hl2:nm ≤ 9223372036854775806) (s1:∀ f,f ∈ l → SizesF f) (s2:∀ f,f ∈ m → SizesF f) (hT:sameR l m=true) :
  Calls Tryz.prog 44 #[.slice A1 nl c1,.slice A2 nm c2] w fun e w'=>e=.returned (.bool true)∧Ext w w':=by
 have H1:=Lib.hid h1
 have H2:=Lib.hid h2
 have HN:=Lib.hid hn
 have HM:=Lib.hid hm
 have S1:=Lib.hid s1
 have S2:=Lib.hid s2
 obtain ⟨p,hp⟩:∃ p:Nat → Bool,p=fun i=>sameF (l.getD i default) (m.getD i default):=⟨_,rfl⟩
 have HP:=Lib.hid hp
 have HS:Hid (sameR l m=eqB nl nm p):=by unfold Hid sameR; rw [hn,hm,hp]
 have HE1:Hid (eqB nl nm p=true):=by unfold Hid; rw [← HS.out]; exact hT
 clear h1 h2 hn hm s1 s2 hp HS hT
 have HZ:Hid ((Tryz.prog.info? 67).map (·.size)=some 11):=by unfold Hid; kernel_rfl
 by_cases e:nl=nm
 ·subst e
  go_enter Tryz.func44,Tryz.ntmps44
  go_wp2_with fail
  go_loopw [5] (fun i wr=>∃ k:Nat,k ≤ nl∧i=.int .i64 k∧(∀ j,j < k → p j=true)∧Ext w wr) (fun i _=>nl - (intOf i).toNat)
  case atStart=>exact ⟨0,Nat.zero_le _,rfl,by omega,Ext.refl _⟩
  case round =>
   obtain ⟨k,hk,rfl,ha,hx⟩:=hrel
   have HA:=Lib.hid ha
   have HX:=Lib.hid hx
   clear ha hx
   by_cases hlt:k < nl
   ·have hk1:k < l.length:=by have:=HN.out; omega
    have hk2:k < m.length:=by have:=HM.out; omega
    obtain ⟨f,hf⟩:∃ f,f=l.getD k default:=⟨_,rfl⟩
    obtain ⟨g,hg⟩:∃ g,g=m.getD k default:=⟨_,rfl⟩
    have F1:Hid (SizesF f):=by rw [hf]; exact S1.out _ (getD_mem hk1)
    have F2:Hid (SizesF g):=by rw [hg]; exact S2.out _ (getD_mem hk2)
    have HPK1:Hid (p k=true):=(eqB_true HE1.out).2 k hlt
    have HPK:Hid (p k=sameF f g):=by rw [HP.out,hf,hg]; rfl
    obtain ⟨n1,hn1⟩:∃ n,n=f.code.length:=⟨_,rfl⟩
    obtain ⟨n2,hn2⟩:∃ n,n=g.code.length:=⟨_,rfl⟩
    have ht:=run_ty_neq f.ty g.ty
    obtain ⟨b0,e0⟩:∃ b,(f.name.toList == g.name.toList)=b:=⟨_,rfl⟩
    obtain ⟨b1,e1⟩:∃ b,(f.params == g.params)=b:=⟨_,rfl⟩
    obtain ⟨b2,e2⟩:∃ b,(f.regs == g.regs)=b:=⟨_,rfl⟩
    obtain ⟨b3,e3⟩:∃ b,tyB f.ty g.ty=b:=⟨_,rfl⟩
    obtain ⟨q,hq⟩:∃ q:Nat → Bool,q=fun i=>sameX (f.code.getD i default) (g.code.getD i default):=⟨_,rfl⟩
    have HQF:=Lib.hid hq
    have HF:Hid (p k=(b0 && (b1 && (b2 && (b3 && eqB n1 n2 q))))):=by rw [HPK.out]; unfold Hid sameF; rw [e0,e1,e2,e3,hn1,hn2,hq]
    have hl1:n1 ≤ 9223372036854775806:=by have:=F1.out.1; omega
    have hl2':n2 ≤ 9223372036854775806:=by have:=F2.out.1; omega
    rw [e3] at ht
    have HC1:=Lib.hid ((H1.out.ext HX.out).at_ (k:=k) hk1 hf)
    have HC2:=Lib.hid ((H2.out.ext HX.out).at_ (k:=k) hk2 hg)
    rw [← hn1] at HC1
    rw [← hn2] at HC2
    obtain ⟨a1,o1,rfl,z1,c0,c1,c2,c3,c4,c5,c6,c7,c8,r1⟩:=HC1.out
    obtain ⟨a2,o2,rfl,z2,d0,d1,d2,d3,d4,d5,d6,d7,d8,r2⟩:=HC2.out
    have R1:=Lib.hid r1
    have R2:=Lib.hid r2
    have N1:=Lib.hid hn1
    have N2:=Lib.hid hn2
    have HD:Hid (∀ w',Ext wr w' → a1 < w'.heap.size∧a2 < w'.heap.size∧w'.cell? ⟨a1,o1 + k * 9,none⟩=some (.string f.name)∧w'.cell? ⟨a1,o1 + k * 9 + 1,none⟩=some (.int .i64 f.params)∧w'.cell? ⟨a1,o1 + k * 9 + 2,none⟩=some (.int .i64 f.regs)∧w'.cell? ⟨a1,o1 + k * 9 + 3,none⟩=some (.int .i64 f.ty.base)∧w'.cell? ⟨a1,o1 + k * 9 + 4,none⟩=some (.int .i64 f.ty.bits)∧w'.cell? ⟨a1,o1 + k * 9 + 5,none⟩=some (.string f.ty.name)∧w'.cell? ⟨a1,o1 + k * 9 + 6,none⟩=some (.bool f.ty.opt)∧w'.cell? ⟨a1,o1 + k * 9 + 7,none⟩=some (.bool f.ty.err)∧w'.cell? ⟨a1,o1 + k * 9 + 8,none⟩=some (.slice f.A n1 f.cap)∧w'.cell? ⟨a2,o2 + k * 9,none⟩=some (.string g.name)∧w'.cell? ⟨a2,o2 + k * 9 + 1,none⟩=some (.int .i64 g.params)∧w'.cell? ⟨a2,o2 + k * 9 + 2,none⟩=some (.int .i64 g.regs)∧w'.cell? ⟨a2,o2 + k * 9 + 3,none⟩=some (.int .i64 g.ty.base)∧w'.cell? ⟨a2,o2 + k * 9 + 4,none⟩=some (.int .i64 g.ty.bits)∧w'.cell? ⟨a2,o2 + k * 9 + 5,none⟩=some (.string g.ty.name)∧w'.cell? ⟨a2,o2 + k * 9 + 6,none⟩=some (.bool g.ty.opt)∧w'.cell? ⟨a2,o2 + k * 9 + 7,none⟩=some (.bool g.ty.err)∧w'.cell? ⟨a2,o2 + k * 9 + 8,none⟩=some (.slice g.A n2 g.cap)):=by
     intro w' xx
     obtain ⟨b1',o1',he1,y1,y10,y11,y12,y13,y14,y15,y16,y17,y18,_⟩:=(H1.out.ext (HX.out.trans xx)).at_ (k:=k) hk1 hf
     obtain ⟨b2',o2',he2,y2,y20,y21,y22,y23,y24,y25,y26,y27,y28,_⟩:=(H2.out.ext (HX.out.trans xx)).at_ (k:=k) hk2 hg
     cases he1
     cases he2
     rw [← hn1] at y18
     rw [← hn2] at y28
     exact ⟨y1,y2,y10,y11,y12,y13,y14,y15,y16,y17,y18,y20,y21,y22,y23,y24,y25,y26,y27,y28⟩
    clear r1 r2 hf hg HPK hq e3 hk1 hk2 hn1 hn2 c0 c1 c2 c3 c4 c5 c6 c7 c8 d0 d1 d2 d3 d4 d5 d6 d7 d8 z1 z2
    cases b0
    ·exact absurd HF.out (by rw [HPK1.out]; simp)
    cases b1
    ·exact absurd HF.out (by rw [HPK1.out]; simp)
    cases b2
    ·exact absurd HF.out (by rw [HPK1.out]; simp)
    cases b3
    ·exact absurd HF.out (by rw [HPK1.out]; simp)
    rcases Classical.em (n1 ≠ n2) with en | en
    ·exact absurd HF.out (by rw [HPK1.out,eqB_len en]; simp)
    ·obtain rfl:n1=n2:=by omega
     rename World=>wo
     have hne:((n1:Int) == (n1:Int))=true:=by simp
     (try simp only [Bool.not_true,Bool.not_false] at ht)
     go_wp2_with fail
     have HST:∀ (i:Nat) (l:Array Bool) (w':World),Ext wo w' ↔ Ext wo w':=fun _ _ _=>Iff.rfl
     refine flow_begin (fun _ w'=>Ext wo w') #[false,false,false,false,false,false,false,false,false,false,false,false,false,false,false,false,false,false,false,false,false,false,false,false,false,false,false,false,false,false,false,false,false,false,false,false,false,false,false,false,false,false,false,false,false,false,false,false,false,false,false,false,false,false,false,false,false,false,false,false,false,false,false,false,false] rfl (by kernel_rfl) (fun _ _ _ _ _ h=>h) ((Ext.refl _).drew) (fun HQ=>?_)
     (refine tp 0 20 rfl HQ (HST 0) ?_; try simp only [putL,List.set])
     (refine tp 1 21 rfl HQ (HST 1) ?_; try simp only [putL,List.set])
     (refine tp 2 22 rfl HQ (HST 2) ?_; try simp only [putL,List.set])
     (refine tp 3 23 rfl HQ (HST 3) ?_; try simp only [putL,List.set])
     (refine tt 4 24 rfl HQ (HST 4) ?_; try simp only [putL,List.set])
     (refine tp 5 25 rfl HQ (HST 5) ?_; try simp only [putL,List.set])
     (refine tp 6 26 rfl HQ (HST 6) ?_; try simp only [putL,List.set])
     (refine tp 7 27 rfl HQ (HST 7) ?_; try simp only [putL,List.set])
     (refine tp 8 28 rfl HQ (HST 8) ?_; try simp only [putL,List.set])
     (refine tt 9 29 rfl HQ (HST 9) ?_; try simp only [putL,List.set])
     (refine tk 10 30 (.bool false) rfl (by kernel_rfl) HQ (HST 10) (by rfl) (fun l w' hF=>?_) ?_; (focus (go_simp; all_goals (first | (simp only [e0]; done) | (simp only [e0]; rfl) | simp_all))); try simp only [putL,List.set])
     (refine tp 11 31 rfl HQ (HST 11) ?_; try simp only [putL,List.set])
     (refine tp 12 32 rfl HQ (HST 12) ?_; try simp only [putL,List.set])
     (refine tp 13 33 rfl HQ (HST 13) ?_; try simp only [putL,List.set])
     (refine tp 14 34 rfl HQ (HST 14) ?_; try simp only [putL,List.set])
     (refine tp 15 35 rfl HQ (HST 15) ?_; try simp only [putL,List.set])
     (refine tt 16 36 rfl HQ (HST 16) ?_; try simp only [putL,List.set])
     (refine tp 17 37 rfl HQ (HST 17) ?_; try simp only [putL,List.set])
     (refine tp 18 38 rfl HQ (HST 18) ?_; try simp only [putL,List.set])
     (refine tp 19 39 rfl HQ (HST 19) ?_; try simp only [putL,List.set])
     (refine tp 20 40 rfl HQ (HST 20) ?_; try simp only [putL,List.set])
     (refine tt 21 41 rfl HQ (HST 21) ?_; try simp only [putL,List.set])
     (refine tk 22 42 (.bool false) rfl (by kernel_rfl) HQ (HST 22) (by rfl) (fun l w' hF=>?_) ?_; (focus (go_simp; all_goals (first | (simp only [e1]; done) | (simp only [e1]; rfl) | simp_all))); try simp only [putL,List.set])
     (refine tp 23 43 rfl HQ (HST 23) ?_; try simp only [putL,List.set])
     (refine tp 24 44 rfl HQ (HST 24) ?_; try simp only [putL,List.set])
     (refine tp 25 45 rfl HQ (HST 25) ?_; try simp only [putL,List.set])
     (refine tp 26 46 rfl HQ (HST 26) ?_; try simp only [putL,List.set])
     (refine tp 27 47 rfl HQ (HST 27) ?_; try simp only [putL,List.set])
     (refine tp 28 48 rfl HQ (HST 28) ?_; try simp only [putL,List.set])
     (refine tt 29 49 rfl HQ (HST 29) ?_; try simp only [putL,List.set])
     (refine tp 30 50 rfl HQ (HST 30) ?_; try simp only [putL,List.set])
     (refine tp 31 51 rfl HQ (HST 31) ?_; try simp only [putL,List.set])
     (refine tp 32 52 rfl HQ (HST 32) ?_; try simp only [putL,List.set])
     (refine tp 33 53 rfl HQ (HST 33) ?_; try simp only [putL,List.set])
     (refine tt 34 54 rfl HQ (HST 34) ?_; try simp only [putL,List.set])
     (refine tk 35 55 (.bool false) rfl (by kernel_rfl) HQ (HST 35) (by rfl) (fun l w' hF=>?_) ?_; (focus (go_simp; all_goals (first | (simp only [e2]; done) | (simp only [e2]; rfl) | simp_all))); try simp only [putL,List.set])
     (refine tp 36 56 rfl HQ (HST 36) ?_; try simp only [putL,List.set])
     (refine tp 37 57 rfl HQ (HST 37) ?_; try simp only [putL,List.set])
     (refine tp 38 58 rfl HQ (HST 38) ?_; try simp only [putL,List.set])
     (refine tp 39 59 rfl HQ (HST 39) ?_; try simp only [putL,List.set])
     (refine tp 40 60 rfl HQ (HST 40) ?_; try simp only [putL,List.set])
     (refine tp 41 61 rfl HQ (HST 41) ?_; try simp only [putL,List.set])
     (refine tt 42 62 rfl HQ (HST 42) ?_; try simp only [putL,List.set])
     (refine tp 43 63 rfl HQ (HST 43) ?_; try simp only [putL,List.set])
     (refine tp 44 64 rfl HQ (HST 44) ?_; try simp only [putL,List.set])
     (refine tp 45 65 rfl HQ (HST 45) ?_; try simp only [putL,List.set])
     (refine tp 46 66 rfl HQ (HST 46) ?_; try simp only [putL,List.set])
     (refine tt 47 67 rfl HQ (HST 47) ?_; try simp only [putL,List.set])
     (refine tk 48 68 (.bool false) rfl (by kernel_rfl) HQ (HST 48) (by rfl) (fun l w' hF=>?_) ?_; (focus (go_simp; all_goals (first | (simp only [ht]; done) | (simp only [ht]; rfl) | simp_all))); try simp only [putL,List.set])
     (refine tp 49 69 rfl HQ (HST 49) ?_; try simp only [putL,List.set])
     (refine tp 50 70 rfl HQ (HST 50) ?_; try simp only [putL,List.set])
     (refine tp 51 71 rfl HQ (HST 51) ?_; try simp only [putL,List.set])
     (refine tp 52 72 rfl HQ (HST 52) ?_; try simp only [putL,List.set])
     (refine tp 53 73 rfl HQ (HST 53) ?_; try simp only [putL,List.set])
     (refine tp 54 74 rfl HQ (HST 54) ?_; try simp only [putL,List.set])
     (refine tt 55 75 rfl HQ (HST 55) ?_; try simp only [putL,List.set])
     (refine tp 56 76 rfl HQ (HST 56) ?_; try simp only [putL,List.set])
     (refine tp 57 77 rfl HQ (HST 57) ?_; try simp only [putL,List.set])
     (refine tp 58 78 rfl HQ (HST 58) ?_; try simp only [putL,List.set])
     (refine tp 59 79 rfl HQ (HST 59) ?_; try simp only [putL,List.set])
     (refine tp 60 80 rfl HQ (HST 60) ?_; try simp only [putL,List.set])
     (refine tt 61 81 rfl HQ (HST 61) ?_; try simp only [putL,List.set])
     (refine tp 62 82 rfl HQ (HST 62) ?_; try simp only [putL,List.set])
     (refine tk 63 83 (.bool false) rfl (by kernel_rfl) HQ (HST 63) (by rfl) (fun l w' hF=>?_) ?_; (focus (go_simp; all_goals (first | (simp only [hne]; done) | (simp only [hne]; rfl) | simp_all))); try simp only [putL,List.set])
     (refine tp 64 84 rfl HQ (HST 64) ?_; try simp only [putL,List.set])
     refine flow_done (by kernel_rfl) (fun w3 x3=>?_)
     have X3:=Lib.hid x3
     clear e0 e1 e2 ht x3 HST
     go_wp2_with fail
     go_loopw [6] (fun i wq=>∃ j:Nat,j ≤ n1∧i=.int .i64 j∧(∀ r,r < j → q r=true)∧Ext wo wq) (fun i _=>n1 - (intOf i).toNat)
     case atStart=>exact ⟨0,Nat.zero_le _,rfl,fun r hr=>by omega,X3.out⟩
     case round =>
      obtain ⟨j,hj,rfl,hb,hy⟩:=hrel
      have HB:=Lib.hid hb
      have HY:=Lib.hid hy
      clear hb hy
      obtain ⟨za1,za2,_,_,_,_,_,_,_,_,c8,_,_,_,_,_,_,_,_,d8⟩:=HD.out _ HY.out
      by_cases hjt:j < n1
      ·obtain ⟨x,hx⟩:∃ x,x=f.code.getD j default:=⟨_,rfl⟩
       obtain ⟨y,hy⟩:∃ y,y=g.code.getD j default:=⟨_,rfl⟩
       have hj1:j < f.code.length:=by have:=N1.out; omega
       have hj2:j < g.code.length:=by have:=N2.out; omega
       have HQ1:Hid (q j=true):=(eqB_true (by have h:=HF.out; rw [HPK1.out] at h; simpa using h.symm)).2 j hjt
       have HQJ:Hid (q j=sameX x y):=by rw [HQF.out,hx,hy]; rfl
       obtain ⟨p1,r1,hf1,zp1,_⟩:=(R1.out.ext HY.out).at_ (k:=j) hj1 hx
       obtain ⟨p2,r2,hf2,zp2,_⟩:=(R2.out.ext HY.out).at_ (k:=j) hj2 hy
       have RG1:Hid (RgAt wr (some ⟨p1,r1,none⟩) f.code):=by rw [← hf1]; exact R1.out.ext HY.out
       have RG2:Hid (RgAt wr (some ⟨p2,r2,none⟩) g.code):=by rw [← hf2]; exact R2.out.ext HY.out
       have HNX:Hid (∀ w',Ext wr w' → NumsAt w' x.A x.args∧NumsAt w' y.A y.args):=fun w' xx=>⟨((R1.out.ext HY.out).ext xx).sub x (by rw [hx]; exact getD_mem hj1),((R2.out.ext HY.out).ext xx).sub y (by rw [hy]; exact getD_mem hj2)⟩
       have HLX:Hid (x.args.length ≤ 9223372036854775806∧y.args.length ≤ 9223372036854775806):=⟨F1.out.2 x (by rw [hx]; exact getD_mem hj1),F2.out.2 y (by rw [hy]; exact getD_mem hj2)⟩
       have HXX:=Lib.hid hx
       have HYY:=Lib.hid hy
       have HJ1:=Lib.hid hj1
       have HJ2:=Lib.hid hj2
       rw [hf1] at c8
       rw [hf2] at d8
       clear hx hy hf1 hf2 hj1 hj2
       go_wp2_with fail
       have HD2:Hid (∀ (l':Array Bool) (b':Act) (w':World),A2 wr 67 #[.int .i64 0,.int .i64 0,.int .i64 0,.int .i64 0,.int .i64 0,.int .i64 0,.string ⟨#[]⟩,.bool false,.bool false,.string ⟨#[]⟩,.slice none 0 0] #[.int .i64 x.op,.int .i64 x.d,.int .i64 x.a,.int .i64 x.b,.int .i64 x.ty.base,.int .i64 x.ty.bits,.string x.ty.name,.bool x.ty.opt,.bool x.ty.err,.string x.name,.slice x.A x.args.length x.cap] #[.int .i64 y.op,.int .i64 y.d,.int .i64 y.a,.int .i64 y.b,.int .i64 y.ty.base,.int .i64 y.ty.bits,.string y.ty.name,.bool y.ty.opt,.bool y.ty.err,.string y.name,.slice y.A y.args.length y.cap] 16 17 18 19 7 8 l' b' w' → a1 < w'.heap.size∧a2 < w'.heap.size∧w'.cell? ⟨a1,o1 + k * 9 + 8,none⟩=some (.slice (some ⟨p1,r1,none⟩) n1 f.cap)∧w'.cell? ⟨a2,o2 + k * 9 + 8,none⟩=some (.slice (some ⟨p2,r2,none⟩) n1 g.cap)):=fun l' b' w' h =>
        ⟨Nat.lt_of_lt_of_le za1 h.1.size,Nat.lt_of_lt_of_le za2 h.1.size,(h.1.cell (p:=⟨a1,o1 + k * 9 + 8,none⟩) za1).trans c8,(h.1.cell (p:=⟨a2,o2 + k * 9 + 8,none⟩) za2).trans d8⟩
       have HST:∀ (i k:Nat) (v:Value) (_:i ≠ 16:=by decide) (_:i ≠ 17:=by decide) (_:i ≠ 18:=by decide) (_:i ≠ 19:=by decide) (_:k ≠ 7:=by decide) (_:k ≠ 8:=by decide) (l':Array Bool) (b':Act) (w':World),A2 wr 67 #[.int .i64 0,.int .i64 0,.int .i64 0,.int .i64 0,.int .i64 0,.int .i64 0,.string ⟨#[]⟩,.bool false,.bool false,.string ⟨#[]⟩,.slice none 0 0] #[.int .i64 x.op,.int .i64 x.d,.int .i64 x.a,.int .i64 x.b,.int .i64 x.ty.base,.int .i64 x.ty.bits,.string x.ty.name,.bool x.ty.opt,.bool x.ty.err,.string x.name,.slice x.A x.args.length x.cap] #[.int .i64 y.op,.int .i64 y.d,.int .i64 y.a,.int .i64 y.b,.int .i64 y.ty.base,.int .i64 y.ty.bits,.string y.ty.name,.bool y.ty.opt,.bool y.ty.err,.string y.name,.slice y.A y.args.length y.cap] 16 17 18 19 7 8 (l'.setIfInBounds i true) (b'.put (some k) v) w' ↔ A2 wr 67 #[.int .i64 0,.int .i64 0,.int .i64 0,.int .i64 0,.int .i64 0,.int .i64 0,.string ⟨#[]⟩,.bool false,.bool false,.string ⟨#[]⟩,.slice none 0 0] #[.int .i64 x.op,.int .i64 x.d,.int .i64 x.a,.int .i64 x.b,.int .i64 x.ty.base,.int .i64 x.ty.bits,.string x.ty.name,.bool x.ty.opt,.bool x.ty.err,.string x.name,.slice x.A x.args.length x.cap] #[.int .i64 y.op,.int .i64 y.d,.int .i64 y.a,.int .i64 y.b,.int .i64 y.ty.base,.int .i64 y.ty.bits,.string y.ty.name,.bool y.ty.opt,.bool y.ty.err,.string y.name,.slice y.A y.args.length y.cap] 16 17 18 19 7 8 l' b' w':=fun i k v h1 h2 h3 h4 h5 h6 l' b' w'=>A2.same h1 h2 h3 h4 h5 h6 v l' b' w'
       clear c8 d8
       have HD:=HD2
       refine flow2_begin (A2 wr 67 #[.int .i64 0,.int .i64 0,.int .i64 0,.int .i64 0,.int .i64 0,.int .i64 0,.string ⟨#[]⟩,.bool false,.bool false,.string ⟨#[]⟩,.slice none 0 0] #[.int .i64 x.op,.int .i64 x.d,.int .i64 x.a,.int .i64 x.b,.int .i64 x.ty.base,.int .i64 x.ty.bits,.string x.ty.name,.bool x.ty.opt,.bool x.ty.err,.string x.name,.slice x.A x.args.length x.cap] #[.int .i64 y.op,.int .i64 y.d,.int .i64 y.a,.int .i64 y.b,.int .i64 y.ty.base,.int .i64 y.ty.bits,.string y.ty.name,.bool y.ty.opt,.bool y.ty.err,.string y.name,.slice y.A y.args.length y.cap] 16 17 18 19 7 8) #[false,false,false,false,false,false,false,false,false,false,false,false,false,false,false,false,false,false,false,false] rfl (by kernel_rfl) (fun _ _ _ _ _ h=>h) ((A2.start (Ext.refl _).drew (by rfl) (by rfl))) (fun HQ=>?_)
       (refine flow2_take (i:=0) (t:=95) (oi:=⟨some 95,_,_,_,_,_⟩) (v:=?_) rfl rfl (by kernel_rfl) (by kernel_rfl) (by kernel_rfl) HQ (HST 0 95 _) (Or.inl ⟨by rfl,fun l b' w' hF=>?_⟩) ?_; rotate_left; (focus (go_simp; try with_reducible rfl)); try simp only [putL,List.set])
       (refine flow2_take (i:=1) (t:=96) (oi:=⟨some 96,_,_,_,_,_⟩) (v:=?_) rfl rfl (by kernel_rfl) (by kernel_rfl) (by kernel_rfl) HQ (HST 1 96 _) (Or.inl ⟨by rfl,fun l b' w' hF=>?_⟩) ?_; rotate_left; (focus (go_simp; try with_reducible rfl)); try simp only [putL,List.set])
       (refine flow2_take (i:=2) (t:=97) (oi:=⟨some 97,_,_,_,_,_⟩) (v:=?_) rfl rfl (by kernel_rfl) (by kernel_rfl) (by kernel_rfl) HQ (HST 2 97 _) (Or.inl ⟨by rfl,fun l b' w' hF=>?_⟩) ?_; rotate_left; (focus (go_simp; try with_reducible rfl)); try simp only [putL,List.set])
       (refine flow2_take (i:=3) (t:=98) (oi:=⟨some 98,_,_,_,_,_⟩) (v:=?_) rfl rfl (by kernel_rfl) (by kernel_rfl) (by kernel_rfl) HQ (HST 3 98 _) (Or.inl ⟨by rfl,fun l b' w' hF=>?_⟩) ?_; rotate_left; (focus (go_simp; try with_reducible rfl)); try simp only [putL,List.set])
       (refine flow2_take (i:=4) (t:=99) (oi:=⟨some 99,_,_,_,_,_⟩) (v:=?_) rfl rfl (by kernel_rfl) (by kernel_rfl) (by kernel_rfl) HQ (HST 4 99 _) (Or.inl ⟨by rfl,fun l b' w' hF=>?_⟩) ?_; rotate_left; (focus (have hq:=HD.out _ _ _ hF; go_simp; try with_reducible rfl)); try simp only [putL,List.set])
       (refine flow2_take (i:=5) (t:=100) (oi:=⟨some 100,_,_,_,_,_⟩) (v:=?_) rfl rfl (by kernel_rfl) (by kernel_rfl) (by kernel_rfl) HQ (HST 5 100 _) (Or.inl ⟨by rfl,fun l b' w' hF=>?_⟩) ?_; rotate_left; (focus (go_simp; try with_reducible rfl)); try simp only [putL,List.set])
       (refine flow2_take (i:=6) (t:=101) (oi:=⟨some 101,_,_,_,_,_⟩) (v:=?_) rfl rfl (by kernel_rfl) (by kernel_rfl) (by kernel_rfl) HQ (HST 6 101 _) (Or.inl ⟨by rfl,fun l b' w' hF=>?_⟩) ?_; rotate_left; (focus (go_simp; try with_reducible rfl)); try simp only [putL,List.set])
       (refine flow2_take (i:=7) (t:=102) (oi:=⟨some 102,_,_,_,_,_⟩) rfl rfl (by kernel_rfl) (by kernel_rfl) (by kernel_rfl) HQ (HST 7 102 _) (doesF_load (by rfl) 67 _ rfl p1 (r1 + j * 11) rfl [.int .i64 x.op,.int .i64 x.d,.int .i64 x.a,.int .i64 x.b,.int .i64 x.ty.base,.int .i64 x.ty.bits,.string x.ty.name,.bool x.ty.opt,.bool x.ty.err,.string x.name,.slice x.A x.args.length x.cap] _ (fun l' b' w' hF=>(RG1.out.ext hF.1).range HJ1.out HXX.out) Tryz.underlying67 rfl HZ.out) ?_; try simp only [putL,List.set])
       (refine flow2_take (i:=8) (t:=103) (oi:=⟨some 103,_,_,_,_,_⟩) (v:=?_) rfl rfl (by kernel_rfl) (by kernel_rfl) (by kernel_rfl) HQ (HST 8 103 _) (Or.inl ⟨by rfl,fun l b' w' hF=>?_⟩) ?_; rotate_left; (focus (go_simp; try with_reducible rfl)); try simp only [putL,List.set])
       (refine flow2_take (i:=9) (t:=104) (oi:=⟨some 104,_,_,_,_,_⟩) (v:=?_) rfl rfl (by kernel_rfl) (by kernel_rfl) (by kernel_rfl) HQ (HST 9 104 _) (Or.inl ⟨by rfl,fun l b' w' hF=>?_⟩) ?_; rotate_left; (focus (go_simp; try with_reducible rfl)); try simp only [putL,List.set])
       (refine flow2_take (i:=10) (t:=105) (oi:=⟨some 105,_,_,_,_,_⟩) (v:=?_) rfl rfl (by kernel_rfl) (by kernel_rfl) (by kernel_rfl) HQ (HST 10 105 _) (Or.inl ⟨by rfl,fun l b' w' hF=>?_⟩) ?_; rotate_left; (focus (go_simp; try with_reducible rfl)); try simp only [putL,List.set])
       (refine flow2_take (i:=11) (t:=106) (oi:=⟨some 106,_,_,_,_,_⟩) (v:=?_) rfl rfl (by kernel_rfl) (by kernel_rfl) (by kernel_rfl) HQ (HST 11 106 _) (Or.inl ⟨by rfl,fun l b' w' hF=>?_⟩) ?_; rotate_left; (focus (go_simp; try with_reducible rfl)); try simp only [putL,List.set])
       (refine flow2_take (i:=12) (t:=107) (oi:=⟨some 107,_,_,_,_,_⟩) (v:=?_) rfl rfl (by kernel_rfl) (by kernel_rfl) (by kernel_rfl) HQ (HST 12 107 _) (Or.inl ⟨by rfl,fun l b' w' hF=>?_⟩) ?_; rotate_left; (focus (have hq:=HD.out _ _ _ hF; go_simp; try with_reducible rfl)); try simp only [putL,List.set])
       (refine flow2_take (i:=13) (t:=108) (oi:=⟨some 108,_,_,_,_,_⟩) (v:=?_) rfl rfl (by kernel_rfl) (by kernel_rfl) (by kernel_rfl) HQ (HST 13 108 _) (Or.inl ⟨by rfl,fun l b' w' hF=>?_⟩) ?_; rotate_left; (focus (go_simp; try with_reducible rfl)); try simp only [putL,List.set])
       (refine flow2_take (i:=14) (t:=109) (oi:=⟨some 109,_,_,_,_,_⟩) (v:=?_) rfl rfl (by kernel_rfl) (by kernel_rfl) (by kernel_rfl) HQ (HST 14 109 _) (Or.inl ⟨by rfl,fun l b' w' hF=>?_⟩) ?_; rotate_left; (focus (go_simp; try with_reducible rfl)); try simp only [putL,List.set])
       (refine flow2_take (i:=15) (t:=110) (oi:=⟨some 110,_,_,_,_,_⟩) rfl rfl (by kernel_rfl) (by kernel_rfl) (by kernel_rfl) HQ (HST 15 110 _) (doesF_load (by rfl) 67 _ rfl p2 (r2 + j * 11) rfl [.int .i64 y.op,.int .i64 y.d,.int .i64 y.a,.int .i64 y.b,.int .i64 y.ty.base,.int .i64 y.ty.bits,.string y.ty.name,.bool y.ty.opt,.bool y.ty.err,.string y.name,.slice y.A y.args.length y.cap] _ (fun l' b' w' hF=>(RG2.out.ext hF.1).range HJ2.out HYY.out) Tryz.underlying67 rfl HZ.out) ?_; try simp only [putL,List.set])
       refine flow2_allocs (i:=16) (k:=17) (t:=7) (u:=8) (oi:=⟨some 7,_,_,_,_,_⟩) (ok:=⟨some 8,_,_,_,_,_⟩) (ob:=.cells #[.int .i64 0,.int .i64 0,.int .i64 0,.int .i64 0,.int .i64 0,.int .i64 0,.string ⟨#[]⟩,.bool false,.bool false,.string ⟨#[]⟩,.slice none 0 0] 67) (pb:=.cells #[.int .i64 0,.int .i64 0,.int .i64 0,.int .i64 0,.int .i64 0,.int .i64 0,.string ⟨#[]⟩,.bool false,.bool false,.string ⟨#[]⟩,.slice none 0 0] 67) (by kernel_rfl) (by kernel_rfl) (by kernel_rfl) (by decide) (by decide) rfl rfl (by rfl) (fun g=>by rfl) rfl rfl (by rfl) (fun g=>by rfl) (fun b w=>by go_simp) (fun b w=>by go_simp)
        (fun w hF=>hF.one (by rfl) (by rfl) (by decide) (by decide) (by decide) (by decide) (n:=159) (by decide) rfl) (fun g w hF=>hF.two (by rfl) (by rfl) (by decide) (by decide) (by decide) (by decide) (n:=159) (by decide) rfl)
        (fun w hF=>hF.two (by rfl) (by rfl) (by decide) (by decide) (by decide) (by decide) (n:=159) (by decide) rfl) (fun g w hF=>hF.one (by rfl) (by rfl) (by decide) (by decide) (by decide) (by decide) (n:=159) (by decide) rfl) (fun g1 g2=>?_)
       try simp only [Act.put,List.setIfInBounds_toArray,List.set_cons_zero,List.set_cons_succ]
       refine flow2_one (i:=18) (by kernel_rfl) (step_put1 (oi:=⟨none,_,_,_,_,_⟩) rfl rfl (by rfl) 67 _ _ rfl g1 0 #[.int .i64 x.op,.int .i64 x.d,.int .i64 x.a,.int .i64 x.b,.int .i64 x.ty.base,.int .i64 x.ty.bits,.string x.ty.name,.bool x.ty.opt,.bool x.ty.err,.string x.name,.slice x.A x.args.length x.cap] rfl rfl (fun w hF=>hF.there1 (g:=g1) (g':=g2) (by rfl) (by rfl) (by rfl) (by rfl) rfl) HZ.out (Array.all_eq_true_iff_forall_mem.2 (fun v hv=>rg_one x v (by simpa using hv))) (fun w hF=>hF.put1 (g:=g1) (g':=g2) (by rfl) (by rfl) (by rfl) (by rfl) (by rfl) (by decide) (by decide) (by decide) (by decide) rfl) ?_)
       refine flow2_one (i:=19) (by kernel_rfl) (step_put1 (oi:=⟨none,_,_,_,_,_⟩) rfl rfl (by rfl) 67 _ _ rfl g2 0 #[.int .i64 y.op,.int .i64 y.d,.int .i64 y.a,.int .i64 y.b,.int .i64 y.ty.base,.int .i64 y.ty.bits,.string y.ty.name,.bool y.ty.opt,.bool y.ty.err,.string y.name,.slice y.A y.args.length y.cap] rfl rfl (fun w hF=>hF.there2 (g:=g1) (g':=g2) (by rfl) (by rfl) (by rfl) (by rfl) rfl) HZ.out (Array.all_eq_true_iff_forall_mem.2 (fun v hv=>rg_one y v (by simpa using hv))) (fun w hF=>hF.put2 (g:=g1) (g':=g2) (by rfl) (by rfl) (by rfl) (by rfl) (by rfl) (by decide) (by decide) (by decide) (by decide) rfl) ?_)
       refine flow2_done (by kernel_rfl) (fun w4 hF=>?_)
       obtain ⟨x4,hne,_,_,B1,B2⟩:=hF.get (g:=g1) (g':=g2) (by rfl) (by rfl) (by rfl) (by rfl)
       have X4:=Lib.hid x4
       have B1':Blk w4 g1 67 #[.int .i64 x.op,.int .i64 x.d,.int .i64 x.a,.int .i64 x.b,.int .i64 x.ty.base,.int .i64 x.ty.bits,.string x.ty.name,.bool x.ty.opt,.bool x.ty.err,.string x.name,.slice x.A x.args.length x.cap]:=B1
       have B2':Blk w4 g2 67 #[.int .i64 y.op,.int .i64 y.d,.int .i64 y.a,.int .i64 y.b,.int .i64 y.ty.base,.int .i64 y.ty.bits,.string y.ty.name,.bool y.ty.opt,.bool y.ty.err,.string y.name,.slice y.A y.args.length y.cap]:=B2
       obtain ⟨e0,e1,e2,e3,e4,e5,e6,e7,e8,e9,e10⟩:=rg_cells x B1'
       obtain ⟨f0,f1,f2,f3,f4,f5,f6,f7,f8,f9,f10⟩:=rg_cells y B2'
       have zg1:=B1'.lt
       have zg2:=B2'.lt
       have ht:=run_ty_neq x.ty y.ty
       obtain ⟨b0,i0⟩:∃ b,(x.op == y.op)=b:=⟨_,rfl⟩
       obtain ⟨b1,i1⟩:∃ b,(x.d == y.d)=b:=⟨_,rfl⟩
       obtain ⟨b2,i2⟩:∃ b,(x.a == y.a)=b:=⟨_,rfl⟩
       obtain ⟨b3,i3⟩:∃ b,(x.b == y.b)=b:=⟨_,rfl⟩
       obtain ⟨b4,i4⟩:∃ b,tyB x.ty y.ty=b:=⟨_,rfl⟩
       obtain ⟨b5,i5⟩:∃ b,(x.name.toList == y.name.toList)=b:=⟨_,rfl⟩
       obtain ⟨b6,i6⟩:∃ b,intsB x.args y.args=b:=⟨_,rfl⟩
       have HQB:Hid (q j=(b0 && (b1 && (b2 && (b3 && (b4 && (b5 && b6))))))):=by rw [HQJ.out]; unfold Hid sameX; rw [i0,i1,i2,i3,i4,i5,i6]
       have HI:Hid (∀ w1,Ext wr w1 → Calls Tryz.prog 38 #[.slice x.A x.args.length x.cap,.slice y.A y.args.length y.cap] w1 fun e w'=>e=.returned (.bool b6)∧Ext w1 w'):=fun w1 xx=>by
        have h:=hintsB_any x.A y.A x.cap y.cap x.args y.args w1 (HNX.out w1 xx).1 (HNX.out w1 xx).2 HLX.out.1 HLX.out.2
        rwa [i6] at h
       rw [i4] at ht
       have j0:(x.op != y.op)=!b0:=by rw [← i0]; rfl
       have j1:(x.d != y.d)=!b1:=by rw [← i1]; rfl
       have j2:(x.a != y.a)=!b2:=by rw [← i2]; rfl
       have j3:(x.b != y.b)=!b3:=by rw [← i3]; rfl
       clear i4 i6 B1 B2 B1' B2' hF x4 hne HD HD2 HST
       cases b0
       ·exact absurd HQB.out (by rw [HQ1.out]; simp)
       cases b1
       ·exact absurd HQB.out (by rw [HQ1.out]; simp)
       cases b2
       ·exact absurd HQB.out (by rw [HQ1.out]; simp)
       cases b3
       ·exact absurd HQB.out (by rw [HQ1.out]; simp)
       cases b4
       ·exact absurd HQB.out (by rw [HQ1.out]; simp)
       cases b5
       ·exact absurd HQB.out (by rw [HQ1.out]; simp)
       cases b6
       ·exact absurd HQB.out (by rw [HQ1.out]; simp)
       (try simp only [Bool.not_true,Bool.not_false] at ht)
       ·go_wp2_with (first
         | (go_at_call 38; refine (HI.out _ X4.out).mono ?_; rintro r w5 ⟨rfl,x5⟩))
        have HXE:Hid (Ext wr w5):=X4.out.trans x5
        clear e0 e1 e2 e3 e4 e5 e6 e7 e8 e9 e10 f0 f1 f2 f3 f4 f5 f6 f7 f8 f9 f10
        go_roundw
        case rel=>exact ⟨j + 1,by omega,by go_num,(fun r hr=>by
         rcases Nat.lt_or_ge r j with h | h
         ·exact HB.out r h
         ·obtain rfl:r=j:=by omega
          rw [HQB.out]; rfl),HY.out.trans HXE.out⟩
        case measure=>simp [intOf]; omega
      ·obtain rfl:j=n1:=by omega
       have HPT:Hid (p k=true):=by rw [HF.out,eqB_all fun r hr=>HB.out r hr]; rfl
       have HYW:Hid (Ext w wr):=HX.out.trans HY.out
       go_wp2_with fail
       go_roundw
       case rel=>exact ⟨k + 1,by omega,by go_num,(fun r hr=>by
        rcases Nat.lt_or_ge r k with h | h
        ·exact HA.out r h
        ·obtain rfl:r=k:=by omega
         exact HPT.out),HYW.out⟩
       case measure=>simp [intOf]; omega
   ·go_wp2_with fail
    go_ret
    exact ⟨rfl,HX.out⟩
 ·exact absurd HE1.out (by rw [eqB_len e]; decide)
end Go.Proofs.YtknaemlnhediaaaGreatDoor.c
