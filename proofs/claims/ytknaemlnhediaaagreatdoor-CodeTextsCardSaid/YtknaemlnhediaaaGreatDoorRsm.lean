/- Contract of the reference's Same, over any lists of functions. Conditions: lengths. -/
import Derived.Test.YtknaemlnhediaaaGreatDoorTxtC
import Derived.Test.YtknaemlnhediaaaGreatDoorFlow
import Derived.Deep.QuietTactic
import Derived.BigQuiet
import Derived.Test.YtknaemlnhediaaaGreatDoorCsm
namespace Go.Proofs.YtknaemlnhediaaaGreatDoor.c
open Go.RowKit
set_option linter.unusedVariables false
set_option maxRecDepth 100000
set_option maxHeartbeats 6400000
set_option linter.unusedSimpArgs false
theorem rSame_any (A1 A2:Option Addr) (c1 c2:Nat) (l m:List Fc) {nl nm:Nat} (w:World) (hn:nl=l.length) (hm:nm=m.length) (h1:FcAt w A1 l) (h2:FcAt w A2 m) (hl:nl ≤ 9223372036854775806) (hl2:nm ≤ 9223372036854775806) (s1:∀ f,f ∈ l → f.code.length ≤ 9223372036854775806) (s2:∀ f,f ∈ m → f.code.length ≤ 9223372036854775806) :
  Calls Tryz.prog 17 #[.slice A1 nl c1,.slice A2 nm c2] w fun e w'=>e=.returned (.bool (sameC l m))∧Ext w w':=by
 have H1:=Lib.hid h1
 have H2:=Lib.hid h2
 have HN:=Lib.hid hn
 have HM:=Lib.hid hm
 have S1:=Lib.hid s1
 have S2:=Lib.hid s2
 obtain ⟨p,hp⟩:∃ p:Nat → Bool,p=fun i=>sameFc (l.getD i default) (m.getD i default):=⟨_,rfl⟩
 have HP:=Lib.hid hp
 have HS:Hid (sameC l m=eqB nl nm p):=by unfold Hid sameC; rw [hn,hm,hp]
 rw [HS.out]
 clear h1 h2 hn hm s1 s2 hp HS
 by_cases e:nl=nm
 ·subst e
  go_enter Tryz.func17,Tryz.ntmps17
  go_wp2_with fail
  go_loopw [5] (fun i wr=>∃ k:Nat,k ≤ nl∧i=.int .i64 k∧(∀ j,j < k → p j=true)∧Ext w wr) (fun i _=>nl - (intOf i).toNat)
  case atStart=>exact ⟨0,Nat.zero_le _,rfl,by omega,Ext.refl _⟩
  case round =>
   obtain ⟨k,hk,rfl,ha,hx⟩:=hrel
   have HA:=Lib.hid ha
   have HX:=Lib.hid hx
   clear ha hx
   by_cases hlt:k < nl
   ·have hk1:k < l.length:=by have:=HN.out; omega
    have hk2:k < m.length:=by have:=HM.out; omega
    obtain ⟨f,hf⟩:∃ f,f=l.getD k default:=⟨_,rfl⟩
    obtain ⟨g,hg⟩:∃ g,g=m.getD k default:=⟨_,rfl⟩
    have F1:=S1.out _ (getD_mem hk1)
    have F2:=S2.out _ (getD_mem hk2)
    rw [← hf] at F1
    rw [← hg] at F2
    have HPK:Hid (p k=sameFc f g):=by rw [HP.out,hf,hg]; rfl
    obtain ⟨n1,hn1⟩:∃ n,n=f.code.length:=⟨_,rfl⟩
    obtain ⟨n2,hn2⟩:∃ n,n=g.code.length:=⟨_,rfl⟩
    have ht:=run_ty_neq f.ty g.ty
    obtain ⟨b0,e0⟩:∃ b,(f.name.toList == g.name.toList)=b:=⟨_,rfl⟩
    obtain ⟨b1,e1⟩:∃ b,(f.params == g.params)=b:=⟨_,rfl⟩
    obtain ⟨b2,e2⟩:∃ b,(f.places == g.places)=b:=⟨_,rfl⟩
    obtain ⟨b3,e3⟩:∃ b,tyB f.ty g.ty=b:=⟨_,rfl⟩
    obtain ⟨q,hq⟩:∃ q:Nat → Bool,q=fun i=>sameCd (f.code.getD i default) (g.code.getD i default):=⟨_,rfl⟩
    have HQF:=Lib.hid hq
    have HF:Hid (p k=(b0 && (b1 && (b2 && (b3 && eqB n1 n2 q))))):=by rw [HPK.out]; unfold Hid sameFc; rw [e0,e1,e2,e3,hn1,hn2,hq]
    rw [← hn1] at F1
    rw [← hn2] at F2
    rw [e3] at ht
    have HC1:=Lib.hid ((H1.out.ext HX.out).at_ (k:=k) hk1 hf)
    have HC2:=Lib.hid ((H2.out.ext HX.out).at_ (k:=k) hk2 hg)
    rw [← hn1] at HC1
    rw [← hn2] at HC2
    obtain ⟨a1,o1,rfl,z1,c0,c1,c2,c3,c4,c5,c6,c7,c8,r1⟩:=HC1.out
    obtain ⟨a2,o2,rfl,z2,d0,d1,d2,d3,d4,d5,d6,d7,d8,r2⟩:=HC2.out
    have R1:=Lib.hid r1
    have R2:=Lib.hid r2
    have N1:=Lib.hid hn1
    have N2:=Lib.hid hn2
    have HD:Hid (∀ w',Ext wr w' → a1 < w'.heap.size∧a2 < w'.heap.size∧w'.cell? ⟨a1,o1 + k * 9,none⟩=some (.string f.name)∧w'.cell? ⟨a1,o1 + k * 9 + 1,none⟩=some (.int .i64 f.params)∧w'.cell? ⟨a1,o1 + k * 9 + 2,none⟩=some (.int .i64 f.places)∧w'.cell? ⟨a1,o1 + k * 9 + 3,none⟩=some (.int .i64 f.ty.base)∧w'.cell? ⟨a1,o1 + k * 9 + 4,none⟩=some (.int .i64 f.ty.bits)∧w'.cell? ⟨a1,o1 + k * 9 + 5,none⟩=some (.string f.ty.name)∧w'.cell? ⟨a1,o1 + k * 9 + 6,none⟩=some (.bool f.ty.opt)∧w'.cell? ⟨a1,o1 + k * 9 + 7,none⟩=some (.bool f.ty.err)∧w'.cell? ⟨a1,o1 + k * 9 + 8,none⟩=some (.slice f.A n1 f.cap)∧w'.cell? ⟨a2,o2 + k * 9,none⟩=some (.string g.name)∧w'.cell? ⟨a2,o2 + k * 9 + 1,none⟩=some (.int .i64 g.params)∧w'.cell? ⟨a2,o2 + k * 9 + 2,none⟩=some (.int .i64 g.places)∧w'.cell? ⟨a2,o2 + k * 9 + 3,none⟩=some (.int .i64 g.ty.base)∧w'.cell? ⟨a2,o2 + k * 9 + 4,none⟩=some (.int .i64 g.ty.bits)∧w'.cell? ⟨a2,o2 + k * 9 + 5,none⟩=some (.string g.ty.name)∧w'.cell? ⟨a2,o2 + k * 9 + 6,none⟩=some (.bool g.ty.opt)∧w'.cell? ⟨a2,o2 + k * 9 + 7,none⟩=some (.bool g.ty.err)∧w'.cell? ⟨a2,o2 + k * 9 + 8,none⟩=some (.slice g.A n2 g.cap)):=by
     intro w' xx
     obtain ⟨b1',o1',he1,y1,y10,y11,y12,y13,y14,y15,y16,y17,y18,_⟩:=(H1.out.ext (HX.out.trans xx)).at_ (k:=k) hk1 hf
     obtain ⟨b2',o2',he2,y2,y20,y21,y22,y23,y24,y25,y26,y27,y28,_⟩:=(H2.out.ext (HX.out.trans xx)).at_ (k:=k) hk2 hg
     cases he1
     cases he2
     rw [← hn1] at y18
     rw [← hn2] at y28
     exact ⟨y1,y2,y10,y11,y12,y13,y14,y15,y16,y17,y18,y20,y21,y22,y23,y24,y25,y26,y27,y28⟩
    clear r1 r2 hf hg HPK hq e3 hk1 hk2 hn1 hn2 c0 c1 c2 c3 c4 c5 c6 c7 c8 d0 d1 d2 d3 d4 d5 d6 d7 d8 z1 z2
    cases b0
    ·skip
     (try simp only [Bool.not_true,Bool.not_false] at ht)
     go_wp2_with fail
     have HST:∀ (i:Nat) (l:Array Bool) (w':World),Ext wr w' ↔ Ext wr w':=fun _ _ _=>Iff.rfl
     refine flow_begin (fun _ w'=>Ext wr w') #[false,false,false,false,false,false,false,false,false,false,false,false,false,false,false,false,false,false,false,false,false,false,false,false,false,false,false,false,false,false,false,false,false,false,false,false,false,false,false,false,false,false,false,false,false,false,false,false,false,false,false,false,false,false,false,false,false,false,false,false,false,false,false,false,false] rfl (by kernel_rfl) (fun _ _ _ _ _ h=>h) ((Ext.refl _).drew) (fun HQ=>?_)
     (refine tp 0 18 rfl HQ (HST 0) ?_; try simp only [putL,List.set])
     (refine tp 1 19 rfl HQ (HST 1) ?_; try simp only [putL,List.set])
     (refine tp 2 20 rfl HQ (HST 2) ?_; try simp only [putL,List.set])
     (refine tp 3 21 rfl HQ (HST 3) ?_; try simp only [putL,List.set])
     (refine tt 4 22 rfl HQ (HST 4) ?_; try simp only [putL,List.set])
     (refine tp 5 23 rfl HQ (HST 5) ?_; try simp only [putL,List.set])
     (refine tp 6 24 rfl HQ (HST 6) ?_; try simp only [putL,List.set])
     (refine tp 7 25 rfl HQ (HST 7) ?_; try simp only [putL,List.set])
     (refine tp 8 26 rfl HQ (HST 8) ?_; try simp only [putL,List.set])
     (refine tt 9 27 rfl HQ (HST 9) ?_; try simp only [putL,List.set])
     (refine tk 10 28 (.bool true) rfl (by kernel_rfl) HQ (HST 10) (by rfl) (fun l w' hF=>?_) ?_; (focus (go_simp; all_goals (first | (simp only [e0]; done) | (simp only [e0]; rfl) | simp_all))); try simp only [putL,List.set])
     (refine tp 11 29 rfl HQ (HST 11) ?_; try simp only [putL,List.set])
     (refine tsq 12 30 rfl HQ (HST 12) ?_; try simp only [putL,List.set])
     (refine tsq 13 31 rfl HQ (HST 13) ?_; try simp only [putL,List.set])
     (refine tsq 14 32 rfl HQ (HST 14) ?_; try simp only [putL,List.set])
     (refine tsq 15 33 rfl HQ (HST 15) ?_; try simp only [putL,List.set])
     (refine tsq 16 34 rfl HQ (HST 16) ?_; try simp only [putL,List.set])
     (refine tsq 17 35 rfl HQ (HST 17) ?_; try simp only [putL,List.set])
     (refine tsq 18 36 rfl HQ (HST 18) ?_; try simp only [putL,List.set])
     (refine tsq 19 37 rfl HQ (HST 19) ?_; try simp only [putL,List.set])
     (refine tsq 20 38 rfl HQ (HST 20) ?_; try simp only [putL,List.set])
     (refine tsq 21 39 rfl HQ (HST 21) ?_; try simp only [putL,List.set])
     (refine tsq 22 40 rfl HQ (HST 22) ?_; try simp only [putL,List.set])
     (refine tp 23 41 rfl HQ (HST 23) ?_; try simp only [putL,List.set])
     (refine tp 24 42 rfl HQ (HST 24) ?_; try simp only [putL,List.set])
     (refine tsq 25 43 rfl HQ (HST 25) ?_; try simp only [putL,List.set])
     (refine tsq 26 44 rfl HQ (HST 26) ?_; try simp only [putL,List.set])
     (refine tsq 27 45 rfl HQ (HST 27) ?_; try simp only [putL,List.set])
     (refine tsq 28 46 rfl HQ (HST 28) ?_; try simp only [putL,List.set])
     (refine tsq 29 47 rfl HQ (HST 29) ?_; try simp only [putL,List.set])
     (refine tsq 30 48 rfl HQ (HST 30) ?_; try simp only [putL,List.set])
     (refine tsq 31 49 rfl HQ (HST 31) ?_; try simp only [putL,List.set])
     (refine tsq 32 50 rfl HQ (HST 32) ?_; try simp only [putL,List.set])
     (refine tsq 33 51 rfl HQ (HST 33) ?_; try simp only [putL,List.set])
     (refine tsq 34 52 rfl HQ (HST 34) ?_; try simp only [putL,List.set])
     (refine tsq 35 53 rfl HQ (HST 35) ?_; try simp only [putL,List.set])
     (refine tp 36 54 rfl HQ (HST 36) ?_; try simp only [putL,List.set])
     (refine tp 37 55 rfl HQ (HST 37) ?_; try simp only [putL,List.set])
     (refine tsq 38 56 rfl HQ (HST 38) ?_; try simp only [putL,List.set])
     (refine tsq 39 57 rfl HQ (HST 39) ?_; try simp only [putL,List.set])
     (refine tsq 40 58 rfl HQ (HST 40) ?_; try simp only [putL,List.set])
     (refine tsq 41 59 rfl HQ (HST 41) ?_; try simp only [putL,List.set])
     (refine tsq 42 60 rfl HQ (HST 42) ?_; try simp only [putL,List.set])
     (refine tsq 43 61 rfl HQ (HST 43) ?_; try simp only [putL,List.set])
     (refine tsq 44 62 rfl HQ (HST 44) ?_; try simp only [putL,List.set])
     (refine tsq 45 63 rfl HQ (HST 45) ?_; try simp only [putL,List.set])
     (refine tsq 46 64 rfl HQ (HST 46) ?_; try simp only [putL,List.set])
     (refine tsq 47 65 rfl HQ (HST 47) ?_; try simp only [putL,List.set])
     (refine tsq 48 66 rfl HQ (HST 48) ?_; try simp only [putL,List.set])
     (refine tp 49 67 rfl HQ (HST 49) ?_; try simp only [putL,List.set])
     (refine tp 50 68 rfl HQ (HST 50) ?_; try simp only [putL,List.set])
     (refine tsq 51 69 rfl HQ (HST 51) ?_; try simp only [putL,List.set])
     (refine tsq 52 70 rfl HQ (HST 52) ?_; try simp only [putL,List.set])
     (refine tsq 53 71 rfl HQ (HST 53) ?_; try simp only [putL,List.set])
     (refine tsq 54 72 rfl HQ (HST 54) ?_; try simp only [putL,List.set])
     (refine tsq 55 73 rfl HQ (HST 55) ?_; try simp only [putL,List.set])
     (refine tsq 56 74 rfl HQ (HST 56) ?_; try simp only [putL,List.set])
     (refine tsq 57 75 rfl HQ (HST 57) ?_; try simp only [putL,List.set])
     (refine tsq 58 76 rfl HQ (HST 58) ?_; try simp only [putL,List.set])
     (refine tsq 59 77 rfl HQ (HST 59) ?_; try simp only [putL,List.set])
     (refine tsq 60 78 rfl HQ (HST 60) ?_; try simp only [putL,List.set])
     (refine tsq 61 79 rfl HQ (HST 61) ?_; try simp only [putL,List.set])
     (refine tsq 62 80 rfl HQ (HST 62) ?_; try simp only [putL,List.set])
     (refine tsq 63 81 rfl HQ (HST 63) ?_; try simp only [putL,List.set])
     (refine tp 64 82 rfl HQ (HST 64) ?_; try simp only [putL,List.set])
     refine flow_done (by kernel_rfl) (fun w3 x3=>?_)
     go_wp2_with fail
     go_ret
     exact ⟨ret_bool (eqB_no hlt (by rw [HF.out]; first | rfl | (rw [eqB_len (by assumption)]; rfl))).symm,HX.out.trans x3⟩
    cases b1
    ·skip
     (try simp only [Bool.not_true,Bool.not_false] at ht)
     go_wp2_with fail
     have HST:∀ (i:Nat) (l:Array Bool) (w':World),Ext wr w' ↔ Ext wr w':=fun _ _ _=>Iff.rfl
     refine flow_begin (fun _ w'=>Ext wr w') #[false,false,false,false,false,false,false,false,false,false,false,false,false,false,false,false,false,false,false,false,false,false,false,false,false,false,false,false,false,false,false,false,false,false,false,false,false,false,false,false,false,false,false,false,false,false,false,false,false,false,false,false,false,false,false,false,false,false,false,false,false,false,false,false,false] rfl (by kernel_rfl) (fun _ _ _ _ _ h=>h) ((Ext.refl _).drew) (fun HQ=>?_)
     (refine tp 0 18 rfl HQ (HST 0) ?_; try simp only [putL,List.set])
     (refine tp 1 19 rfl HQ (HST 1) ?_; try simp only [putL,List.set])
     (refine tp 2 20 rfl HQ (HST 2) ?_; try simp only [putL,List.set])
     (refine tp 3 21 rfl HQ (HST 3) ?_; try simp only [putL,List.set])
     (refine tt 4 22 rfl HQ (HST 4) ?_; try simp only [putL,List.set])
     (refine tp 5 23 rfl HQ (HST 5) ?_; try simp only [putL,List.set])
     (refine tp 6 24 rfl HQ (HST 6) ?_; try simp only [putL,List.set])
     (refine tp 7 25 rfl HQ (HST 7) ?_; try simp only [putL,List.set])
     (refine tp 8 26 rfl HQ (HST 8) ?_; try simp only [putL,List.set])
     (refine tt 9 27 rfl HQ (HST 9) ?_; try simp only [putL,List.set])
     (refine tk 10 28 (.bool false) rfl (by kernel_rfl) HQ (HST 10) (by rfl) (fun l w' hF=>?_) ?_; (focus (go_simp; all_goals (first | (simp only [e0]; done) | (simp only [e0]; rfl) | simp_all))); try simp only [putL,List.set])
     (refine tp 11 29 rfl HQ (HST 11) ?_; try simp only [putL,List.set])
     (refine tp 12 30 rfl HQ (HST 12) ?_; try simp only [putL,List.set])
     (refine tp 13 31 rfl HQ (HST 13) ?_; try simp only [putL,List.set])
     (refine tp 14 32 rfl HQ (HST 14) ?_; try simp only [putL,List.set])
     (refine tp 15 33 rfl HQ (HST 15) ?_; try simp only [putL,List.set])
     (refine tt 16 34 rfl HQ (HST 16) ?_; try simp only [putL,List.set])
     (refine tp 17 35 rfl HQ (HST 17) ?_; try simp only [putL,List.set])
     (refine tp 18 36 rfl HQ (HST 18) ?_; try simp only [putL,List.set])
     (refine tp 19 37 rfl HQ (HST 19) ?_; try simp only [putL,List.set])
     (refine tp 20 38 rfl HQ (HST 20) ?_; try simp only [putL,List.set])
     (refine tt 21 39 rfl HQ (HST 21) ?_; try simp only [putL,List.set])
     (refine tk 22 40 (.bool true) rfl (by kernel_rfl) HQ (HST 22) (by rfl) (fun l w' hF=>?_) ?_; (focus (go_simp; all_goals (first | (simp only [e1]; done) | (simp only [e1]; rfl) | simp_all))); try simp only [putL,List.set])
     (refine tp 23 41 rfl HQ (HST 23) ?_; try simp only [putL,List.set])
     (refine tp 24 42 rfl HQ (HST 24) ?_; try simp only [putL,List.set])
     (refine tsq 25 43 rfl HQ (HST 25) ?_; try simp only [putL,List.set])
     (refine tsq 26 44 rfl HQ (HST 26) ?_; try simp only [putL,List.set])
     (refine tsq 27 45 rfl HQ (HST 27) ?_; try simp only [putL,List.set])
     (refine tsq 28 46 rfl HQ (HST 28) ?_; try simp only [putL,List.set])
     (refine tsq 29 47 rfl HQ (HST 29) ?_; try simp only [putL,List.set])
     (refine tsq 30 48 rfl HQ (HST 30) ?_; try simp only [putL,List.set])
     (refine tsq 31 49 rfl HQ (HST 31) ?_; try simp only [putL,List.set])
     (refine tsq 32 50 rfl HQ (HST 32) ?_; try simp only [putL,List.set])
     (refine tsq 33 51 rfl HQ (HST 33) ?_; try simp only [putL,List.set])
     (refine tsq 34 52 rfl HQ (HST 34) ?_; try simp only [putL,List.set])
     (refine tsq 35 53 rfl HQ (HST 35) ?_; try simp only [putL,List.set])
     (refine tp 36 54 rfl HQ (HST 36) ?_; try simp only [putL,List.set])
     (refine tp 37 55 rfl HQ (HST 37) ?_; try simp only [putL,List.set])
     (refine tsq 38 56 rfl HQ (HST 38) ?_; try simp only [putL,List.set])
     (refine tsq 39 57 rfl HQ (HST 39) ?_; try simp only [putL,List.set])
     (refine tsq 40 58 rfl HQ (HST 40) ?_; try simp only [putL,List.set])
     (refine tsq 41 59 rfl HQ (HST 41) ?_; try simp only [putL,List.set])
     (refine tsq 42 60 rfl HQ (HST 42) ?_; try simp only [putL,List.set])
     (refine tsq 43 61 rfl HQ (HST 43) ?_; try simp only [putL,List.set])
     (refine tsq 44 62 rfl HQ (HST 44) ?_; try simp only [putL,List.set])
     (refine tsq 45 63 rfl HQ (HST 45) ?_; try simp only [putL,List.set])
     (refine tsq 46 64 rfl HQ (HST 46) ?_; try simp only [putL,List.set])
     (refine tsq 47 65 rfl HQ (HST 47) ?_; try simp only [putL,List.set])
     (refine tsq 48 66 rfl HQ (HST 48) ?_; try simp only [putL,List.set])
     (refine tp 49 67 rfl HQ (HST 49) ?_; try simp only [putL,List.set])
     (refine tp 50 68 rfl HQ (HST 50) ?_; try simp only [putL,List.set])
     (refine tsq 51 69 rfl HQ (HST 51) ?_; try simp only [putL,List.set])
     (refine tsq 52 70 rfl HQ (HST 52) ?_; try simp only [putL,List.set])
     (refine tsq 53 71 rfl HQ (HST 53) ?_; try simp only [putL,List.set])
     (refine tsq 54 72 rfl HQ (HST 54) ?_; try simp only [putL,List.set])
     (refine tsq 55 73 rfl HQ (HST 55) ?_; try simp only [putL,List.set])
     (refine tsq 56 74 rfl HQ (HST 56) ?_; try simp only [putL,List.set])
     (refine tsq 57 75 rfl HQ (HST 57) ?_; try simp only [putL,List.set])
     (refine tsq 58 76 rfl HQ (HST 58) ?_; try simp only [putL,List.set])
     (refine tsq 59 77 rfl HQ (HST 59) ?_; try simp only [putL,List.set])
     (refine tsq 60 78 rfl HQ (HST 60) ?_; try simp only [putL,List.set])
     (refine tsq 61 79 rfl HQ (HST 61) ?_; try simp only [putL,List.set])
     (refine tsq 62 80 rfl HQ (HST 62) ?_; try simp only [putL,List.set])
     (refine tsq 63 81 rfl HQ (HST 63) ?_; try simp only [putL,List.set])
     (refine tp 64 82 rfl HQ (HST 64) ?_; try simp only [putL,List.set])
     refine flow_done (by kernel_rfl) (fun w3 x3=>?_)
     go_wp2_with fail
     go_ret
     exact ⟨ret_bool (eqB_no hlt (by rw [HF.out]; first | rfl | (rw [eqB_len (by assumption)]; rfl))).symm,HX.out.trans x3⟩
    cases b2
    ·skip
     (try simp only [Bool.not_true,Bool.not_false] at ht)
     go_wp2_with fail
     have HST:∀ (i:Nat) (l:Array Bool) (w':World),Ext wr w' ↔ Ext wr w':=fun _ _ _=>Iff.rfl
     refine flow_begin (fun _ w'=>Ext wr w') #[false,false,false,false,false,false,false,false,false,false,false,false,false,false,false,false,false,false,false,false,false,false,false,false,false,false,false,false,false,false,false,false,false,false,false,false,false,false,false,false,false,false,false,false,false,false,false,false,false,false,false,false,false,false,false,false,false,false,false,false,false,false,false,false,false] rfl (by kernel_rfl) (fun _ _ _ _ _ h=>h) ((Ext.refl _).drew) (fun HQ=>?_)
     (refine tp 0 18 rfl HQ (HST 0) ?_; try simp only [putL,List.set])
     (refine tp 1 19 rfl HQ (HST 1) ?_; try simp only [putL,List.set])
     (refine tp 2 20 rfl HQ (HST 2) ?_; try simp only [putL,List.set])
     (refine tp 3 21 rfl HQ (HST 3) ?_; try simp only [putL,List.set])
     (refine tt 4 22 rfl HQ (HST 4) ?_; try simp only [putL,List.set])
     (refine tp 5 23 rfl HQ (HST 5) ?_; try simp only [putL,List.set])
     (refine tp 6 24 rfl HQ (HST 6) ?_; try simp only [putL,List.set])
     (refine tp 7 25 rfl HQ (HST 7) ?_; try simp only [putL,List.set])
     (refine tp 8 26 rfl HQ (HST 8) ?_; try simp only [putL,List.set])
     (refine tt 9 27 rfl HQ (HST 9) ?_; try simp only [putL,List.set])
     (refine tk 10 28 (.bool false) rfl (by kernel_rfl) HQ (HST 10) (by rfl) (fun l w' hF=>?_) ?_; (focus (go_simp; all_goals (first | (simp only [e0]; done) | (simp only [e0]; rfl) | simp_all))); try simp only [putL,List.set])
     (refine tp 11 29 rfl HQ (HST 11) ?_; try simp only [putL,List.set])
     (refine tp 12 30 rfl HQ (HST 12) ?_; try simp only [putL,List.set])
     (refine tp 13 31 rfl HQ (HST 13) ?_; try simp only [putL,List.set])
     (refine tp 14 32 rfl HQ (HST 14) ?_; try simp only [putL,List.set])
     (refine tp 15 33 rfl HQ (HST 15) ?_; try simp only [putL,List.set])
     (refine tt 16 34 rfl HQ (HST 16) ?_; try simp only [putL,List.set])
     (refine tp 17 35 rfl HQ (HST 17) ?_; try simp only [putL,List.set])
     (refine tp 18 36 rfl HQ (HST 18) ?_; try simp only [putL,List.set])
     (refine tp 19 37 rfl HQ (HST 19) ?_; try simp only [putL,List.set])
     (refine tp 20 38 rfl HQ (HST 20) ?_; try simp only [putL,List.set])
     (refine tt 21 39 rfl HQ (HST 21) ?_; try simp only [putL,List.set])
     (refine tk 22 40 (.bool false) rfl (by kernel_rfl) HQ (HST 22) (by rfl) (fun l w' hF=>?_) ?_; (focus (go_simp; all_goals (first | (simp only [e1]; done) | (simp only [e1]; rfl) | simp_all))); try simp only [putL,List.set])
     (refine tp 23 41 rfl HQ (HST 23) ?_; try simp only [putL,List.set])
     (refine tp 24 42 rfl HQ (HST 24) ?_; try simp only [putL,List.set])
     (refine tp 25 43 rfl HQ (HST 25) ?_; try simp only [putL,List.set])
     (refine tp 26 44 rfl HQ (HST 26) ?_; try simp only [putL,List.set])
     (refine tp 27 45 rfl HQ (HST 27) ?_; try simp only [putL,List.set])
     (refine tp 28 46 rfl HQ (HST 28) ?_; try simp only [putL,List.set])
     (refine tt 29 47 rfl HQ (HST 29) ?_; try simp only [putL,List.set])
     (refine tp 30 48 rfl HQ (HST 30) ?_; try simp only [putL,List.set])
     (refine tp 31 49 rfl HQ (HST 31) ?_; try simp only [putL,List.set])
     (refine tp 32 50 rfl HQ (HST 32) ?_; try simp only [putL,List.set])
     (refine tp 33 51 rfl HQ (HST 33) ?_; try simp only [putL,List.set])
     (refine tt 34 52 rfl HQ (HST 34) ?_; try simp only [putL,List.set])
     (refine tk 35 53 (.bool true) rfl (by kernel_rfl) HQ (HST 35) (by rfl) (fun l w' hF=>?_) ?_; (focus (go_simp; all_goals (first | (simp only [e2]; done) | (simp only [e2]; rfl) | simp_all))); try simp only [putL,List.set])
     (refine tp 36 54 rfl HQ (HST 36) ?_; try simp only [putL,List.set])
     (refine tp 37 55 rfl HQ (HST 37) ?_; try simp only [putL,List.set])
     (refine tsq 38 56 rfl HQ (HST 38) ?_; try simp only [putL,List.set])
     (refine tsq 39 57 rfl HQ (HST 39) ?_; try simp only [putL,List.set])
     (refine tsq 40 58 rfl HQ (HST 40) ?_; try simp only [putL,List.set])
     (refine tsq 41 59 rfl HQ (HST 41) ?_; try simp only [putL,List.set])
     (refine tsq 42 60 rfl HQ (HST 42) ?_; try simp only [putL,List.set])
     (refine tsq 43 61 rfl HQ (HST 43) ?_; try simp only [putL,List.set])
     (refine tsq 44 62 rfl HQ (HST 44) ?_; try simp only [putL,List.set])
     (refine tsq 45 63 rfl HQ (HST 45) ?_; try simp only [putL,List.set])
     (refine tsq 46 64 rfl HQ (HST 46) ?_; try simp only [putL,List.set])
     (refine tsq 47 65 rfl HQ (HST 47) ?_; try simp only [putL,List.set])
     (refine tsq 48 66 rfl HQ (HST 48) ?_; try simp only [putL,List.set])
     (refine tp 49 67 rfl HQ (HST 49) ?_; try simp only [putL,List.set])
     (refine tp 50 68 rfl HQ (HST 50) ?_; try simp only [putL,List.set])
     (refine tsq 51 69 rfl HQ (HST 51) ?_; try simp only [putL,List.set])
     (refine tsq 52 70 rfl HQ (HST 52) ?_; try simp only [putL,List.set])
     (refine tsq 53 71 rfl HQ (HST 53) ?_; try simp only [putL,List.set])
     (refine tsq 54 72 rfl HQ (HST 54) ?_; try simp only [putL,List.set])
     (refine tsq 55 73 rfl HQ (HST 55) ?_; try simp only [putL,List.set])
     (refine tsq 56 74 rfl HQ (HST 56) ?_; try simp only [putL,List.set])
     (refine tsq 57 75 rfl HQ (HST 57) ?_; try simp only [putL,List.set])
     (refine tsq 58 76 rfl HQ (HST 58) ?_; try simp only [putL,List.set])
     (refine tsq 59 77 rfl HQ (HST 59) ?_; try simp only [putL,List.set])
     (refine tsq 60 78 rfl HQ (HST 60) ?_; try simp only [putL,List.set])
     (refine tsq 61 79 rfl HQ (HST 61) ?_; try simp only [putL,List.set])
     (refine tsq 62 80 rfl HQ (HST 62) ?_; try simp only [putL,List.set])
     (refine tsq 63 81 rfl HQ (HST 63) ?_; try simp only [putL,List.set])
     (refine tp 64 82 rfl HQ (HST 64) ?_; try simp only [putL,List.set])
     refine flow_done (by kernel_rfl) (fun w3 x3=>?_)
     go_wp2_with fail
     go_ret
     exact ⟨ret_bool (eqB_no hlt (by rw [HF.out]; first | rfl | (rw [eqB_len (by assumption)]; rfl))).symm,HX.out.trans x3⟩
    cases b3
    ·skip
     (try simp only [Bool.not_true,Bool.not_false] at ht)
     go_wp2_with fail
     have HST:∀ (i:Nat) (l:Array Bool) (w':World),Ext wr w' ↔ Ext wr w':=fun _ _ _=>Iff.rfl
     refine flow_begin (fun _ w'=>Ext wr w') #[false,false,false,false,false,false,false,false,false,false,false,false,false,false,false,false,false,false,false,false,false,false,false,false,false,false,false,false,false,false,false,false,false,false,false,false,false,false,false,false,false,false,false,false,false,false,false,false,false,false,false,false,false,false,false,false,false,false,false,false,false,false,false,false,false] rfl (by kernel_rfl) (fun _ _ _ _ _ h=>h) ((Ext.refl _).drew) (fun HQ=>?_)
     (refine tp 0 18 rfl HQ (HST 0) ?_; try simp only [putL,List.set])
     (refine tp 1 19 rfl HQ (HST 1) ?_; try simp only [putL,List.set])
     (refine tp 2 20 rfl HQ (HST 2) ?_; try simp only [putL,List.set])
     (refine tp 3 21 rfl HQ (HST 3) ?_; try simp only [putL,List.set])
     (refine tt 4 22 rfl HQ (HST 4) ?_; try simp only [putL,List.set])
     (refine tp 5 23 rfl HQ (HST 5) ?_; try simp only [putL,List.set])
     (refine tp 6 24 rfl HQ (HST 6) ?_; try simp only [putL,List.set])
     (refine tp 7 25 rfl HQ (HST 7) ?_; try simp only [putL,List.set])
     (refine tp 8 26 rfl HQ (HST 8) ?_; try simp only [putL,List.set])
     (refine tt 9 27 rfl HQ (HST 9) ?_; try simp only [putL,List.set])
     (refine tk 10 28 (.bool false) rfl (by kernel_rfl) HQ (HST 10) (by rfl) (fun l w' hF=>?_) ?_; (focus (go_simp; all_goals (first | (simp only [e0]; done) | (simp only [e0]; rfl) | simp_all))); try simp only [putL,List.set])
     (refine tp 11 29 rfl HQ (HST 11) ?_; try simp only [putL,List.set])
     (refine tp 12 30 rfl HQ (HST 12) ?_; try simp only [putL,List.set])
     (refine tp 13 31 rfl HQ (HST 13) ?_; try simp only [putL,List.set])
     (refine tp 14 32 rfl HQ (HST 14) ?_; try simp only [putL,List.set])
     (refine tp 15 33 rfl HQ (HST 15) ?_; try simp only [putL,List.set])
     (refine tt 16 34 rfl HQ (HST 16) ?_; try simp only [putL,List.set])
     (refine tp 17 35 rfl HQ (HST 17) ?_; try simp only [putL,List.set])
     (refine tp 18 36 rfl HQ (HST 18) ?_; try simp only [putL,List.set])
     (refine tp 19 37 rfl HQ (HST 19) ?_; try simp only [putL,List.set])
     (refine tp 20 38 rfl HQ (HST 20) ?_; try simp only [putL,List.set])
     (refine tt 21 39 rfl HQ (HST 21) ?_; try simp only [putL,List.set])
     (refine tk 22 40 (.bool false) rfl (by kernel_rfl) HQ (HST 22) (by rfl) (fun l w' hF=>?_) ?_; (focus (go_simp; all_goals (first | (simp only [e1]; done) | (simp only [e1]; rfl) | simp_all))); try simp only [putL,List.set])
     (refine tp 23 41 rfl HQ (HST 23) ?_; try simp only [putL,List.set])
     (refine tp 24 42 rfl HQ (HST 24) ?_; try simp only [putL,List.set])
     (refine tp 25 43 rfl HQ (HST 25) ?_; try simp only [putL,List.set])
     (refine tp 26 44 rfl HQ (HST 26) ?_; try simp only [putL,List.set])
     (refine tp 27 45 rfl HQ (HST 27) ?_; try simp only [putL,List.set])
     (refine tp 28 46 rfl HQ (HST 28) ?_; try simp only [putL,List.set])
     (refine tt 29 47 rfl HQ (HST 29) ?_; try simp only [putL,List.set])
     (refine tp 30 48 rfl HQ (HST 30) ?_; try simp only [putL,List.set])
     (refine tp 31 49 rfl HQ (HST 31) ?_; try simp only [putL,List.set])
     (refine tp 32 50 rfl HQ (HST 32) ?_; try simp only [putL,List.set])
     (refine tp 33 51 rfl HQ (HST 33) ?_; try simp only [putL,List.set])
     (refine tt 34 52 rfl HQ (HST 34) ?_; try simp only [putL,List.set])
     (refine tk 35 53 (.bool false) rfl (by kernel_rfl) HQ (HST 35) (by rfl) (fun l w' hF=>?_) ?_; (focus (go_simp; all_goals (first | (simp only [e2]; done) | (simp only [e2]; rfl) | simp_all))); try simp only [putL,List.set])
     (refine tp 36 54 rfl HQ (HST 36) ?_; try simp only [putL,List.set])
     (refine tp 37 55 rfl HQ (HST 37) ?_; try simp only [putL,List.set])
     (refine tp 38 56 rfl HQ (HST 38) ?_; try simp only [putL,List.set])
     (refine tp 39 57 rfl HQ (HST 39) ?_; try simp only [putL,List.set])
     (refine tp 40 58 rfl HQ (HST 40) ?_; try simp only [putL,List.set])
     (refine tp 41 59 rfl HQ (HST 41) ?_; try simp only [putL,List.set])
     (refine tt 42 60 rfl HQ (HST 42) ?_; try simp only [putL,List.set])
     (refine tp 43 61 rfl HQ (HST 43) ?_; try simp only [putL,List.set])
     (refine tp 44 62 rfl HQ (HST 44) ?_; try simp only [putL,List.set])
     (refine tp 45 63 rfl HQ (HST 45) ?_; try simp only [putL,List.set])
     (refine tp 46 64 rfl HQ (HST 46) ?_; try simp only [putL,List.set])
     (refine tt 47 65 rfl HQ (HST 47) ?_; try simp only [putL,List.set])
     (refine tk 48 66 (.bool true) rfl (by kernel_rfl) HQ (HST 48) (by rfl) (fun l w' hF=>?_) ?_; (focus (go_simp; all_goals (first | (simp only [ht]; done) | (simp only [ht]; rfl) | simp_all))); try simp only [putL,List.set])
     (refine tp 49 67 rfl HQ (HST 49) ?_; try simp only [putL,List.set])
     (refine tp 50 68 rfl HQ (HST 50) ?_; try simp only [putL,List.set])
     (refine tsq 51 69 rfl HQ (HST 51) ?_; try simp only [putL,List.set])
     (refine tsq 52 70 rfl HQ (HST 52) ?_; try simp only [putL,List.set])
     (refine tsq 53 71 rfl HQ (HST 53) ?_; try simp only [putL,List.set])
     (refine tsq 54 72 rfl HQ (HST 54) ?_; try simp only [putL,List.set])
     (refine tsq 55 73 rfl HQ (HST 55) ?_; try simp only [putL,List.set])
     (refine tsq 56 74 rfl HQ (HST 56) ?_; try simp only [putL,List.set])
     (refine tsq 57 75 rfl HQ (HST 57) ?_; try simp only [putL,List.set])
     (refine tsq 58 76 rfl HQ (HST 58) ?_; try simp only [putL,List.set])
     (refine tsq 59 77 rfl HQ (HST 59) ?_; try simp only [putL,List.set])
     (refine tsq 60 78 rfl HQ (HST 60) ?_; try simp only [putL,List.set])
     (refine tsq 61 79 rfl HQ (HST 61) ?_; try simp only [putL,List.set])
     (refine tsq 62 80 rfl HQ (HST 62) ?_; try simp only [putL,List.set])
     (refine tsq 63 81 rfl HQ (HST 63) ?_; try simp only [putL,List.set])
     (refine tp 64 82 rfl HQ (HST 64) ?_; try simp only [putL,List.set])
     refine flow_done (by kernel_rfl) (fun w3 x3=>?_)
     go_wp2_with fail
     go_ret
     exact ⟨ret_bool (eqB_no hlt (by rw [HF.out]; first | rfl | (rw [eqB_len (by assumption)]; rfl))).symm,HX.out.trans x3⟩
    rcases Classical.em (n1 ≠ n2) with en | en
    ·skip
     have hne:((n1:Int) == (n2:Int))=false:=by simp; omega
     (try simp only [Bool.not_true,Bool.not_false] at ht)
     go_wp2_with fail
     have HST:∀ (i:Nat) (l:Array Bool) (w':World),Ext wr w' ↔ Ext wr w':=fun _ _ _=>Iff.rfl
     refine flow_begin (fun _ w'=>Ext wr w') #[false,false,false,false,false,false,false,false,false,false,false,false,false,false,false,false,false,false,false,false,false,false,false,false,false,false,false,false,false,false,false,false,false,false,false,false,false,false,false,false,false,false,false,false,false,false,false,false,false,false,false,false,false,false,false,false,false,false,false,false,false,false,false,false,false] rfl (by kernel_rfl) (fun _ _ _ _ _ h=>h) ((Ext.refl _).drew) (fun HQ=>?_)
     (refine tp 0 18 rfl HQ (HST 0) ?_; try simp only [putL,List.set])
     (refine tp 1 19 rfl HQ (HST 1) ?_; try simp only [putL,List.set])
     (refine tp 2 20 rfl HQ (HST 2) ?_; try simp only [putL,List.set])
     (refine tp 3 21 rfl HQ (HST 3) ?_; try simp only [putL,List.set])
     (refine tt 4 22 rfl HQ (HST 4) ?_; try simp only [putL,List.set])
     (refine tp 5 23 rfl HQ (HST 5) ?_; try simp only [putL,List.set])
     (refine tp 6 24 rfl HQ (HST 6) ?_; try simp only [putL,List.set])
     (refine tp 7 25 rfl HQ (HST 7) ?_; try simp only [putL,List.set])
     (refine tp 8 26 rfl HQ (HST 8) ?_; try simp only [putL,List.set])
     (refine tt 9 27 rfl HQ (HST 9) ?_; try simp only [putL,List.set])
     (refine tk 10 28 (.bool false) rfl (by kernel_rfl) HQ (HST 10) (by rfl) (fun l w' hF=>?_) ?_; (focus (go_simp; all_goals (first | (simp only [e0]; done) | (simp only [e0]; rfl) | simp_all))); try simp only [putL,List.set])
     (refine tp 11 29 rfl HQ (HST 11) ?_; try simp only [putL,List.set])
     (refine tp 12 30 rfl HQ (HST 12) ?_; try simp only [putL,List.set])
     (refine tp 13 31 rfl HQ (HST 13) ?_; try simp only [putL,List.set])
     (refine tp 14 32 rfl HQ (HST 14) ?_; try simp only [putL,List.set])
     (refine tp 15 33 rfl HQ (HST 15) ?_; try simp only [putL,List.set])
     (refine tt 16 34 rfl HQ (HST 16) ?_; try simp only [putL,List.set])
     (refine tp 17 35 rfl HQ (HST 17) ?_; try simp only [putL,List.set])
     (refine tp 18 36 rfl HQ (HST 18) ?_; try simp only [putL,List.set])
     (refine tp 19 37 rfl HQ (HST 19) ?_; try simp only [putL,List.set])
     (refine tp 20 38 rfl HQ (HST 20) ?_; try simp only [putL,List.set])
     (refine tt 21 39 rfl HQ (HST 21) ?_; try simp only [putL,List.set])
     (refine tk 22 40 (.bool false) rfl (by kernel_rfl) HQ (HST 22) (by rfl) (fun l w' hF=>?_) ?_; (focus (go_simp; all_goals (first | (simp only [e1]; done) | (simp only [e1]; rfl) | simp_all))); try simp only [putL,List.set])
     (refine tp 23 41 rfl HQ (HST 23) ?_; try simp only [putL,List.set])
     (refine tp 24 42 rfl HQ (HST 24) ?_; try simp only [putL,List.set])
     (refine tp 25 43 rfl HQ (HST 25) ?_; try simp only [putL,List.set])
     (refine tp 26 44 rfl HQ (HST 26) ?_; try simp only [putL,List.set])
     (refine tp 27 45 rfl HQ (HST 27) ?_; try simp only [putL,List.set])
     (refine tp 28 46 rfl HQ (HST 28) ?_; try simp only [putL,List.set])
     (refine tt 29 47 rfl HQ (HST 29) ?_; try simp only [putL,List.set])
     (refine tp 30 48 rfl HQ (HST 30) ?_; try simp only [putL,List.set])
     (refine tp 31 49 rfl HQ (HST 31) ?_; try simp only [putL,List.set])
     (refine tp 32 50 rfl HQ (HST 32) ?_; try simp only [putL,List.set])
     (refine tp 33 51 rfl HQ (HST 33) ?_; try simp only [putL,List.set])
     (refine tt 34 52 rfl HQ (HST 34) ?_; try simp only [putL,List.set])
     (refine tk 35 53 (.bool false) rfl (by kernel_rfl) HQ (HST 35) (by rfl) (fun l w' hF=>?_) ?_; (focus (go_simp; all_goals (first | (simp only [e2]; done) | (simp only [e2]; rfl) | simp_all))); try simp only [putL,List.set])
     (refine tp 36 54 rfl HQ (HST 36) ?_; try simp only [putL,List.set])
     (refine tp 37 55 rfl HQ (HST 37) ?_; try simp only [putL,List.set])
     (refine tp 38 56 rfl HQ (HST 38) ?_; try simp only [putL,List.set])
     (refine tp 39 57 rfl HQ (HST 39) ?_; try simp only [putL,List.set])
     (refine tp 40 58 rfl HQ (HST 40) ?_; try simp only [putL,List.set])
     (refine tp 41 59 rfl HQ (HST 41) ?_; try simp only [putL,List.set])
     (refine tt 42 60 rfl HQ (HST 42) ?_; try simp only [putL,List.set])
     (refine tp 43 61 rfl HQ (HST 43) ?_; try simp only [putL,List.set])
     (refine tp 44 62 rfl HQ (HST 44) ?_; try simp only [putL,List.set])
     (refine tp 45 63 rfl HQ (HST 45) ?_; try simp only [putL,List.set])
     (refine tp 46 64 rfl HQ (HST 46) ?_; try simp only [putL,List.set])
     (refine tt 47 65 rfl HQ (HST 47) ?_; try simp only [putL,List.set])
     (refine tk 48 66 (.bool false) rfl (by kernel_rfl) HQ (HST 48) (by rfl) (fun l w' hF=>?_) ?_; (focus (go_simp; all_goals (first | (simp only [ht]; done) | (simp only [ht]; rfl) | simp_all))); try simp only [putL,List.set])
     (refine tp 49 67 rfl HQ (HST 49) ?_; try simp only [putL,List.set])
     (refine tp 50 68 rfl HQ (HST 50) ?_; try simp only [putL,List.set])
     (refine tp 51 69 rfl HQ (HST 51) ?_; try simp only [putL,List.set])
     (refine tp 52 70 rfl HQ (HST 52) ?_; try simp only [putL,List.set])
     (refine tp 53 71 rfl HQ (HST 53) ?_; try simp only [putL,List.set])
     (refine tp 54 72 rfl HQ (HST 54) ?_; try simp only [putL,List.set])
     (refine tt 55 73 rfl HQ (HST 55) ?_; try simp only [putL,List.set])
     (refine tp 56 74 rfl HQ (HST 56) ?_; try simp only [putL,List.set])
     (refine tp 57 75 rfl HQ (HST 57) ?_; try simp only [putL,List.set])
     (refine tp 58 76 rfl HQ (HST 58) ?_; try simp only [putL,List.set])
     (refine tp 59 77 rfl HQ (HST 59) ?_; try simp only [putL,List.set])
     (refine tp 60 78 rfl HQ (HST 60) ?_; try simp only [putL,List.set])
     (refine tt 61 79 rfl HQ (HST 61) ?_; try simp only [putL,List.set])
     (refine tp 62 80 rfl HQ (HST 62) ?_; try simp only [putL,List.set])
     (refine tk 63 81 (.bool true) rfl (by kernel_rfl) HQ (HST 63) (by rfl) (fun l w' hF=>?_) ?_; (focus (go_simp; all_goals (first | (simp only [hne]; done) | (simp only [hne]; rfl) | simp_all))); try simp only [putL,List.set])
     (refine tp 64 82 rfl HQ (HST 64) ?_; try simp only [putL,List.set])
     refine flow_done (by kernel_rfl) (fun w3 x3=>?_)
     go_wp2_with fail
     go_ret
     exact ⟨ret_bool (eqB_no hlt (by rw [HF.out]; first | rfl | (rw [eqB_len (by assumption)]; rfl))).symm,HX.out.trans x3⟩
    ·obtain rfl:n1=n2:=by omega
     rename World=>wo
     have hne:((n1:Int) == (n1:Int))=true:=by simp
     (try simp only [Bool.not_true,Bool.not_false] at ht)
     go_wp2_with fail
     have HST:∀ (i:Nat) (l:Array Bool) (w':World),Ext wo w' ↔ Ext wo w':=fun _ _ _=>Iff.rfl
     refine flow_begin (fun _ w'=>Ext wo w') #[false,false,false,false,false,false,false,false,false,false,false,false,false,false,false,false,false,false,false,false,false,false,false,false,false,false,false,false,false,false,false,false,false,false,false,false,false,false,false,false,false,false,false,false,false,false,false,false,false,false,false,false,false,false,false,false,false,false,false,false,false,false,false,false,false] rfl (by kernel_rfl) (fun _ _ _ _ _ h=>h) ((Ext.refl _).drew) (fun HQ=>?_)
     (refine tp 0 18 rfl HQ (HST 0) ?_; try simp only [putL,List.set])
     (refine tp 1 19 rfl HQ (HST 1) ?_; try simp only [putL,List.set])
     (refine tp 2 20 rfl HQ (HST 2) ?_; try simp only [putL,List.set])
     (refine tp 3 21 rfl HQ (HST 3) ?_; try simp only [putL,List.set])
     (refine tt 4 22 rfl HQ (HST 4) ?_; try simp only [putL,List.set])
     (refine tp 5 23 rfl HQ (HST 5) ?_; try simp only [putL,List.set])
     (refine tp 6 24 rfl HQ (HST 6) ?_; try simp only [putL,List.set])
     (refine tp 7 25 rfl HQ (HST 7) ?_; try simp only [putL,List.set])
     (refine tp 8 26 rfl HQ (HST 8) ?_; try simp only [putL,List.set])
     (refine tt 9 27 rfl HQ (HST 9) ?_; try simp only [putL,List.set])
     (refine tk 10 28 (.bool false) rfl (by kernel_rfl) HQ (HST 10) (by rfl) (fun l w' hF=>?_) ?_; (focus (go_simp; all_goals (first | (simp only [e0]; done) | (simp only [e0]; rfl) | simp_all))); try simp only [putL,List.set])
     (refine tp 11 29 rfl HQ (HST 11) ?_; try simp only [putL,List.set])
     (refine tp 12 30 rfl HQ (HST 12) ?_; try simp only [putL,List.set])
     (refine tp 13 31 rfl HQ (HST 13) ?_; try simp only [putL,List.set])
     (refine tp 14 32 rfl HQ (HST 14) ?_; try simp only [putL,List.set])
     (refine tp 15 33 rfl HQ (HST 15) ?_; try simp only [putL,List.set])
     (refine tt 16 34 rfl HQ (HST 16) ?_; try simp only [putL,List.set])
     (refine tp 17 35 rfl HQ (HST 17) ?_; try simp only [putL,List.set])
     (refine tp 18 36 rfl HQ (HST 18) ?_; try simp only [putL,List.set])
     (refine tp 19 37 rfl HQ (HST 19) ?_; try simp only [putL,List.set])
     (refine tp 20 38 rfl HQ (HST 20) ?_; try simp only [putL,List.set])
     (refine tt 21 39 rfl HQ (HST 21) ?_; try simp only [putL,List.set])
     (refine tk 22 40 (.bool false) rfl (by kernel_rfl) HQ (HST 22) (by rfl) (fun l w' hF=>?_) ?_; (focus (go_simp; all_goals (first | (simp only [e1]; done) | (simp only [e1]; rfl) | simp_all))); try simp only [putL,List.set])
     (refine tp 23 41 rfl HQ (HST 23) ?_; try simp only [putL,List.set])
     (refine tp 24 42 rfl HQ (HST 24) ?_; try simp only [putL,List.set])
     (refine tp 25 43 rfl HQ (HST 25) ?_; try simp only [putL,List.set])
     (refine tp 26 44 rfl HQ (HST 26) ?_; try simp only [putL,List.set])
     (refine tp 27 45 rfl HQ (HST 27) ?_; try simp only [putL,List.set])
     (refine tp 28 46 rfl HQ (HST 28) ?_; try simp only [putL,List.set])
     (refine tt 29 47 rfl HQ (HST 29) ?_; try simp only [putL,List.set])
     (refine tp 30 48 rfl HQ (HST 30) ?_; try simp only [putL,List.set])
     (refine tp 31 49 rfl HQ (HST 31) ?_; try simp only [putL,List.set])
     (refine tp 32 50 rfl HQ (HST 32) ?_; try simp only [putL,List.set])
     (refine tp 33 51 rfl HQ (HST 33) ?_; try simp only [putL,List.set])
     (refine tt 34 52 rfl HQ (HST 34) ?_; try simp only [putL,List.set])
     (refine tk 35 53 (.bool false) rfl (by kernel_rfl) HQ (HST 35) (by rfl) (fun l w' hF=>?_) ?_; (focus (go_simp; all_goals (first | (simp only [e2]; done) | (simp only [e2]; rfl) | simp_all))); try simp only [putL,List.set])
     (refine tp 36 54 rfl HQ (HST 36) ?_; try simp only [putL,List.set])
     (refine tp 37 55 rfl HQ (HST 37) ?_; try simp only [putL,List.set])
     (refine tp 38 56 rfl HQ (HST 38) ?_; try simp only [putL,List.set])
     (refine tp 39 57 rfl HQ (HST 39) ?_; try simp only [putL,List.set])
     (refine tp 40 58 rfl HQ (HST 40) ?_; try simp only [putL,List.set])
     (refine tp 41 59 rfl HQ (HST 41) ?_; try simp only [putL,List.set])
     (refine tt 42 60 rfl HQ (HST 42) ?_; try simp only [putL,List.set])
     (refine tp 43 61 rfl HQ (HST 43) ?_; try simp only [putL,List.set])
     (refine tp 44 62 rfl HQ (HST 44) ?_; try simp only [putL,List.set])
     (refine tp 45 63 rfl HQ (HST 45) ?_; try simp only [putL,List.set])
     (refine tp 46 64 rfl HQ (HST 46) ?_; try simp only [putL,List.set])
     (refine tt 47 65 rfl HQ (HST 47) ?_; try simp only [putL,List.set])
     (refine tk 48 66 (.bool false) rfl (by kernel_rfl) HQ (HST 48) (by rfl) (fun l w' hF=>?_) ?_; (focus (go_simp; all_goals (first | (simp only [ht]; done) | (simp only [ht]; rfl) | simp_all))); try simp only [putL,List.set])
     (refine tp 49 67 rfl HQ (HST 49) ?_; try simp only [putL,List.set])
     (refine tp 50 68 rfl HQ (HST 50) ?_; try simp only [putL,List.set])
     (refine tp 51 69 rfl HQ (HST 51) ?_; try simp only [putL,List.set])
     (refine tp 52 70 rfl HQ (HST 52) ?_; try simp only [putL,List.set])
     (refine tp 53 71 rfl HQ (HST 53) ?_; try simp only [putL,List.set])
     (refine tp 54 72 rfl HQ (HST 54) ?_; try simp only [putL,List.set])
     (refine tt 55 73 rfl HQ (HST 55) ?_; try simp only [putL,List.set])
     (refine tp 56 74 rfl HQ (HST 56) ?_; try simp only [putL,List.set])
     (refine tp 57 75 rfl HQ (HST 57) ?_; try simp only [putL,List.set])
     (refine tp 58 76 rfl HQ (HST 58) ?_; try simp only [putL,List.set])
     (refine tp 59 77 rfl HQ (HST 59) ?_; try simp only [putL,List.set])
     (refine tp 60 78 rfl HQ (HST 60) ?_; try simp only [putL,List.set])
     (refine tt 61 79 rfl HQ (HST 61) ?_; try simp only [putL,List.set])
     (refine tp 62 80 rfl HQ (HST 62) ?_; try simp only [putL,List.set])
     (refine tk 63 81 (.bool false) rfl (by kernel_rfl) HQ (HST 63) (by rfl) (fun l w' hF=>?_) ?_; (focus (go_simp; all_goals (first | (simp only [hne]; done) | (simp only [hne]; rfl) | simp_all))); try simp only [putL,List.set])
     (refine tp 64 82 rfl HQ (HST 64) ?_; try simp only [putL,List.set])
     refine flow_done (by kernel_rfl) (fun w3 x3=>?_)
     have X3:=Lib.hid x3
     clear e0 e1 e2 ht x3 HST
     go_wp2_with fail
     go_loopw [6] (fun i wr=>∃ j:Nat,j ≤ n1∧i=.int .i64 j∧(∀ r,r < j → q r=true)∧Ext wo wr) (fun i _=>n1 - (intOf i).toNat)
     case atStart=>exact ⟨0,Nat.zero_le _,rfl,fun r hr=>by omega,X3.out⟩
     case round =>
      obtain ⟨j,hj,rfl,hb,hy⟩:=hrel
      have HB:=Lib.hid hb
      have HY:=Lib.hid hy
      clear hb hy
      obtain ⟨za1,za2,_,_,_,_,_,_,_,_,c8,_,_,_,_,_,_,_,_,d8⟩:=HD.out _ HY.out
      by_cases hjt:j < n1
      ·obtain ⟨x,hxx⟩:∃ x,x=f.code.getD j default:=⟨_,rfl⟩
       obtain ⟨y,hyy⟩:∃ y,y=g.code.getD j default:=⟨_,rfl⟩
       have HQJ:Hid (q j=sameCd x y):=by unfold Hid; rw [HQF.out,hxx,hyy]
       obtain ⟨p1,r1,hf1,zp1,u0,u1,u2,u3,u4,u5,u6,u7,u8⟩:=(R1.out.ext HY.out).at_ (k:=j) (by have:=N1.out; omega) hxx
       obtain ⟨p2,r2,hf2,zp2,v0,v1,v2,v3,v4,v5,v6,v7,v8⟩:=(R2.out.ext HY.out).at_ (k:=j) (by have:=N2.out; omega) hyy
       rw [hf1] at c8
       rw [hf2] at d8
       have hq:=run_cd_neq x y
       clear hxx hyy hf1 hf2
       cases hs:sameCd x y
       ·rw [hs] at hq
        have HPT:Hid (q j=false):=by unfold Hid; rw [HQJ.out,hs]
        clear hs
        go_wp2_with fail
        go_quiet (fail)
        go_wp2_with fail
        go_ret
        exact ⟨ret_bool (eqB_no hlt (by rw [HF.out,eqB_no hjt HPT.out]; rfl)).symm,(HX.out.trans HY.out).trans exL⟩
       ·rw [hs] at hq
        have HPT:Hid (q j=true):=by unfold Hid; rw [HQJ.out,hs]
        clear hs
        go_wp2_with fail
        go_quiet (fail)
        go_wp2_with fail
        go_roundw
        case rel=>exact ⟨j + 1,by omega,by go_num,(fun r hr=>by
         rcases Nat.lt_or_ge r j with h | h
         ·exact HB.out r h
         ·obtain rfl:r=j:=by omega
          exact HPT.out),HY.out.trans exL⟩
        case measure=>simp [intOf]; omega
      ·obtain rfl:j=n1:=by omega
       have HPT:Hid (p k=true):=by rw [HF.out,eqB_all fun r hr=>HB.out r hr]; rfl
       have HYW:Hid (Ext w wr):=HX.out.trans HY.out
       go_wp2_with fail
       go_roundw
       case rel=>exact ⟨k + 1,by omega,by go_num,(fun r hr=>by
        rcases Nat.lt_or_ge r k with h | h
        ·exact HA.out r h
        ·obtain rfl:r=k:=by omega
         exact HPT.out),HYW.out⟩
       case measure=>simp [intOf]; omega
   ·go_wp2_with fail
    go_ret
    exact ⟨ret_bool (eqB_all fun j hj=>HA.out j (by omega)).symm,HX.out⟩
 ·have HE:Hid (eqB nl nm p=false):=eqB_len e
  have hq:((nl:Int) != (nm:Int))=true:=by simp; omega
  rw [HE.out]
  clear e
  go_enter Tryz.func17,Tryz.ntmps17
  go_wp2_with fail
  go_ret
  exact ⟨rfl,Ext.refl _⟩
end Go.Proofs.YtknaemlnhediaaaGreatDoor.c
