/- The reference's equality of programs. No condition. -/
import Derived.Test.YtmmnhbhnjiajhaaGreatDoorSWa
namespace Go.Proofs.YtmmnhbhnjiajhaaGreatDoor.c
open Go.RowKit
set_option linter.unusedVariables false
set_option maxRecDepth 100000
set_option maxHeartbeats 12800000
set_option linter.unusedSimpArgs false
theorem wp_load_arr {op:Oper} {a:Act} {w:World} {K:Act → World → Prop} {Q:Exit → Act → World → Prop} (ty:TypeId) (x:Operand) (ho:op.op=.load ty x) (b o:Nat) (hx:a.eval x=.pointer (some ⟨b,o,none⟩)) (cs:Array Value) (d:TypeDesc) (hc:w.rangeAt b o cs.toList) (hu:Tryz.prog.underlying ty=some d) (hd:d.isRow=true) (hi:(Tryz.prog.info? ty).map (·.size)=some cs.size) (h:K (a.put op.dst (.agg cs)) w):op.wp Tryz.prog a w K Q:=by
 refine wp_load_mid ty x ho b o hx cs.toList d hc hu hd (by rw [Array.length_toList]; exact hi) ?_
 rw [Array.toArray_toList]
 exact h
theorem Lp.de1 {V:Vw} {A:Option Addr} {n i:Nat} {r:Nd} (l:Lp V A n 5 i r) (h:i < n):∃ fn nm ps ty val b tl,r=.de fn nm ps ty val b tl:=by
 obtain ⟨h1,xs,_,_,he⟩:=l
 exact he.de1 (by omega)
theorem same_any (x y:Nd) (hlw:LW x) (w:World) (v u:Value) (p q:Nat → Prop) (hslx:Sl (vp p w) v x 5) (hsly:Sl (vp q w) u y 5):Calls Tryz.prog 13 #[v,u] w fun e w'=>e=.returned (.bool (eqN x y))∧Ext w w':=by
 obtain ⟨A,c,rfl,la⟩:=hslx.lp
 obtain ⟨A',c',rfl,lb⟩:=hsly.lp
 by_cases hne:x.len=y.len
 case neg =>
  rw [eqN_ne hne]
  have hneI:¬ (x.len:Int)=(y.len:Int):=by omega
  clear la lb hslx hsly hlw
  go_enter Tryz.func13,Tryz.ntmps13
  go_wp2_with fail
  go_ret
  exact ⟨rfl,exA⟩
 have hxl:=hlw.len
 have HLW:=Lib.hid hlw
 rw [← hne] at lb ⊢
 generalize hN:x.len=N at *
 have hN1:N ≤ 4611686018427387904:=by omega
 have L0:=Lib.hid la
 have M0:=Lib.hid lb
 have X0:Hid (Ext w w):=Ext.refl w
 obtain ⟨R,hR⟩:∃ R,eqN x y=R:=⟨_,rfl⟩
 rw [hR]
 have E0:=Lib.hid hR
 clear la lb hslx hsly hR hne hN hxl hlw
 go_enter Tryz.func13,Tryz.ntmps13
 go_wp2_with fail
 go_loopw [5] (fun u5 wr=>∃ (i:Nat) (r s:Nd),u5=.int .i64 i∧Hid (Lp (vp p wr) A N 5 i r)∧Hid (Lp (vp q wr) A' N 5 i s)∧Hid (Ext w wr)∧Hid (eqN r s=R)∧Hid (LW r)) (fun u5 _=>N - (intOf u5).toNat)
 case atStart=>exact ⟨0,x,y,rfl,L0,M0,X0,E0,HLW⟩
 case round =>
  clear L0 M0 X0 E0 HLW
  obtain ⟨i,r,s,rfl,L,M,X,hE,hlr⟩:=hrel
  by_cases hlt:i < N
  case neg =>
   obtain rfl:=L.out.fin hlt
   obtain rfl:=M.out.fin hlt
   have hltI:¬ (i:Int) < (N:Int):=by omega
   obtain rfl:R=true:=hE.out.symm
   go_wp2_with fail
   go_ret
   exact ⟨rfl,X.out⟩
  have hltI:(i:Int) < (N:Int):=by omega
  have hwi:wrap64 ((i:Int) + 1)=(i:Int) + 1:=IntWalk.wrap64_in _ (by omega)
  obtain ⟨g1,nm1,ps1,ty1,v1,b1,r1,rfl⟩:=L.out.de1 hlt
  obtain ⟨g2,nm2,ps2,ty2,v2,b2,s1,rfl⟩:=M.out.de1 hlt
  obtain ⟨bb,oo,cs,rfl,hnx,hcx,L'⟩:=L.out.step hlt
  obtain ⟨bc,oc,ds,rfl,hny,hcy,M'⟩:=M.out.step hlt
  have HL1:Hid (LW r1):=hlr.out.tl
  have HE:Hid (∀ w1,Ext wr w1 → Calls Tryz.prog 36 #[.agg cs,.agg ds] w1 fun e w'=>e=.returned (.bool (eqN (.de g1 nm1 ps1 ty1 v1 b1 .nil) (.de g2 nm2 ps2 ty2 v2 b2 .nil)))∧Ext w1 w'):=fun w1 X2=>sameDecl_any _ _ hlr.out.hd w1 cs ds p q (hnx.mono (vp_ext X2)) (hny.mono (vp_ext X2))
  have LS:Hid (Lp (vp p wr) (some ⟨bb,oo,none⟩) N 5 (i + 1) r1):=L'
  have MS:Hid (Lp (vp q wr) (some ⟨bc,oc,none⟩) N 5 (i + 1) s1):=M'
  have E1:Hid ((eqN (.de g1 nm1 ps1 ty1 v1 b1 .nil) (.de g2 nm2 ps2 ty2 v2 b2 .nil) && eqN r1 s1)=R):=eqN_de.symm.trans hE.out
  generalize eqN (.de g1 nm1 ps1 ty1 v1 b1 .nil) (.de g2 nm2 ps2 ty2 v2 b2 .nil)=e at HE E1
  have hcs:cs.size=19:=hnx.size
  have hds:ds.size=19:=hny.size
  have HZ:Hid ((Tryz.prog.info? 38).map (·.size)=some 19):=by unfold Hid; kernel_rfl
  have HCX:=Lib.hid hcx
  have HCY:=Lib.hid hcy
  clear hnx hny hcx hcy L' M' L M hE hlr
  go_upto_region 6 with fail
  go_cut [26] from 17 to 26 (fun c wx=>c=.bool (!e)∧Hid (Ext wr wx))
  case first =>
   clear LS MS E1 X
   refine rg_begin #[false,false,false,false,false,false,false,false,false,false] rfl (by kernel_rfl) (fun _ _ _ _ _ h=>h) (fun HQ=>?_)
   (refine ta 0 17 rfl HQ ?_; try simp only [putL,List.set])
   (refine ta 1 18 rfl HQ ?_; try simp only [putL,List.set])
   (refine ta 4 21 rfl HQ ?_; try simp only [putL,List.set])
   (refine ta 5 22 rfl HQ ?_; try simp only [putL,List.set])
   (refine ta 2 19 rfl HQ ?_; try simp only [putL,List.set])
   (refine ta 6 23 rfl HQ ?_; try simp only [putL,List.set])
   refine w_br (l:=[3,7]) (by simp) ?_
   intro j hj
   simp only [List.mem_cons,List.not_mem_nil,or_false] at hj
   rcases hj with rfl | rfl
   ·refine o_wp 3 rfl rfl (wp_load_arr 38 _ rfl _ _ rfl cs _ (fun j v hv=>(vp_some (HCX.out j v hv)).2) Tryz.underlying38 rfl (by rw [hcs]; exact HZ.out) ?_)
    show wpAny _ _ _ _ _ _ (Act.put _ (some 20) _) _
    simp only [putL,List.set]
    refine w_br (l:=[7]) (by simp) ?_
    intro j hj
    simp only [List.mem_cons,List.not_mem_nil,or_false] at hj
    rcases hj with rfl
    refine o_wp 7 rfl rfl (wp_load_arr 38 _ rfl _ _ rfl ds _ (fun j v hv=>(vp_some (HCY.out j v hv)).2) Tryz.underlying38 rfl (by rw [hds]; exact HZ.out) ?_)
    show wpAny _ _ _ _ _ _ (Act.put _ (some 24) _) _
    simp only [putL,List.set]
    refine w_br (l:=[8]) (by simp) ?_
    intro j hj
    simp only [List.mem_cons,List.not_mem_nil,or_false] at hj
    subst hj
    refine o_call 8 rfl rfl (by go_simp) (HE.out _ (Ext.refl wr).drew) ?_ ?_ ?_
    ·rintro rv w6 ⟨e0,x6⟩
     cases e0
     show wpAny _ _ _ _ _ _ (Act.put _ (some 25) _) _
     simp only [putL,List.set]
     refine w_br (l:=[9]) (by simp) ?_
     intro j hj
     simp only [List.mem_cons,List.not_mem_nil,or_false] at hj
     subst hj
     refine o_val (w':=w6) 9 26 rfl (v:=.bool (!e)) (by go_simp) ?_
     simp only [putL,List.set]
     refine wp_end ?_
     go_wp2_with fail
     go_meet
     exact ⟨rfl,(Ext.refl wr).drew.trans x6⟩
    ·rintro c w6 ⟨e0,_⟩; cases e0
    ·rintro w6 ⟨e0,_⟩; cases e0
   ·refine o_wp 7 rfl rfl (wp_load_arr 38 _ rfl _ _ rfl ds _ (fun j v hv=>(vp_some (HCY.out j v hv)).2) Tryz.underlying38 rfl (by rw [hds]; exact HZ.out) ?_)
    show wpAny _ _ _ _ _ _ (Act.put _ (some 24) _) _
    simp only [putL,List.set]
    refine w_br (l:=[3]) (by simp) ?_
    intro j hj
    simp only [List.mem_cons,List.not_mem_nil,or_false] at hj
    rcases hj with rfl
    refine o_wp 3 rfl rfl (wp_load_arr 38 _ rfl _ _ rfl cs _ (fun j v hv=>(vp_some (HCX.out j v hv)).2) Tryz.underlying38 rfl (by rw [hcs]; exact HZ.out) ?_)
    show wpAny _ _ _ _ _ _ (Act.put _ (some 20) _) _
    simp only [putL,List.set]
    refine w_br (l:=[8]) (by simp) ?_
    intro j hj
    simp only [List.mem_cons,List.not_mem_nil,or_false] at hj
    subst hj
    refine o_call 8 rfl rfl (by go_simp) (HE.out _ (Ext.refl wr).drew) ?_ ?_ ?_
    ·rintro rv w6 ⟨e0,x6⟩
     cases e0
     show wpAny _ _ _ _ _ _ (Act.put _ (some 25) _) _
     simp only [putL,List.set]
     refine w_br (l:=[9]) (by simp) ?_
     intro j hj
     simp only [List.mem_cons,List.not_mem_nil,or_false] at hj
     subst hj
     refine o_val (w':=w6) 9 26 rfl (v:=.bool (!e)) (by go_simp) ?_
     simp only [putL,List.set]
     refine wp_end ?_
     go_wp2_with fail
     go_meet
     exact ⟨rfl,(Ext.refl wr).drew.trans x6⟩
    ·rintro c w6 ⟨e0,_⟩; cases e0
    ·rintro w6 ⟨e0,_⟩; cases e0
  case rest =>
   obtain ⟨rfl,X1⟩:=hcut
   cases e
   case false =>
    obtain rfl:R=false:=E1.out.symm
    go_wp2_with fail
    go_ret
    exact ⟨rfl,X.out.trans X1.out⟩
   case true =>
    have E2:Hid (eqN r1 s1=R):=E1.out
    go_wp2_with fail
    go_roundw
    case rel=>exact ⟨i + 1,r1,s1,by first | rfl | (rw [hwi]; rfl),LS.out.mono (vp_ext X1.out),MS.out.mono (vp_ext X1.out),X.out.trans X1.out,E2,HL1⟩
    case measure=>(try rw [hwi]); rw [iof_succ,iof_nat]; exact Nat.sub_lt_sub_left hlt (Nat.lt_succ_self i)
end Go.Proofs.YtmmnhbhnjiajhaaGreatDoor.c
