/- slices.EqualFunc for lists of nodes. Condition: the function that is passed tells whether two nodes are equal. -/
import Derived.Test.YtmmnhbhnjiajhaaGreatDoorSXe
import Derived.Test.YtmmnhbhnjiajhaaGreatDoorSYd
namespace Go.Proofs.YtmmnhbhnjiajhaaGreatDoor.c
open Go.RowKit
set_option linter.unusedVariables false
set_option maxRecDepth 100000
set_option maxHeartbeats 3200000
set_option linter.unusedSimpArgs false
def zCs:Array Value:=#[.int .i64 0,.int .i64 0,.slice none 0 0]
theorem eqN_step {V V':Vw} {A A':Option Addr} {n k i:Nat} {r s:Nd} (l:Lp V A n k i r) (m:Lp V' A' n k i s) (h:i < n):eqN r s=(eqN r.hd s.hd && eqN r.tl s.tl):=by
 obtain ⟨h1,xs,_,_,e1⟩:=l
 obtain ⟨h2,ys,_,_,e2⟩:=m
 have hr:0 < r.len:=by omega
 have hs:0 < s.len:=by omega
 cases r with
 | nil=>exact absurd hr (by decide)
 | ex =>
  obtain ⟨rfl,_⟩:=e1
  obtain rfl | ⟨_,_,_,_,_,_,_,rfl⟩:=e2.ex
  ·exact absurd hs (by decide)
  ·exact eqN_ex
 | st =>
  obtain ⟨rfl,_⟩:=e1
  obtain ⟨_,_,_,_,_,_,_,rfl⟩:=e2.st1 hs
  exact eqN_st
 | bl =>
  obtain ⟨rfl,_⟩:=e1
  obtain ⟨_,_,rfl⟩:=e2.bl1 hs
  exact eqN_bl
 | ca =>
  obtain ⟨rfl,_⟩:=e1
  obtain ⟨_,_,_,_,rfl⟩:=e2.ca1 hs
  exact eqN_ca
 | pa =>
  obtain ⟨rfl,_⟩:=e1
  obtain ⟨_,_,_,_,rfl⟩:=e2.pa1 hs
  exact eqN_pa
 | de =>
  obtain ⟨rfl,_⟩:=e1
  obtain ⟨_,_,_,_,_,_,_,rfl⟩:=e2.de1 hs
  exact eqN_de
theorem eqf_E (x y:Nd) (K:FuncId) (hK:Enters K) (hlw:LW x) (w:World) (v u:Value) (p q:Nat → Prop) (hslx:Sl (vp p w) v x 0) (hsly:Sl (vp q w) u y 0) (HF:∀ r s cs ds w1,r.sz ≤ x.sz → LW r → r.len=1 → s.len=1 → Ext w w1 → Nv (vp p w1) 0 r cs → Nv (vp q w1) 0 s ds → Calls Tryz.prog K #[.agg cs,.agg ds] w1 fun e w2=>e=.returned (.bool (eqN r s))∧Ext w1 w2):Calls Tryz.prog 133 #[v,u,.func (.func K) #[] #[]] w fun e w2=>e=.returned (.bool (eqN x y))∧Ext w w2:=by
 have HX:Hid ((Tryz.prog.info? 36).map (·.size)=some 10):=by unfold Hid; kernel_rfl
 have HFs:=Lib.hid HF
 obtain ⟨A,c,rfl,la⟩:=hslx.lp
 obtain ⟨A',c',rfl,lb⟩:=hsly.lp
 by_cases hne:x.len=y.len
 case neg =>
  rw [eqN_ne hne]
  have hneI:¬ (x.len:Int)=(y.len:Int):=by omega
  clear la lb hslx hsly HF HFs hlw
  go_enter Tryz.func133,Tryz.ntmps133
  go_wp2_with fail
  go_ret
  exact ⟨rfl,exA⟩
 have hxl:=hlw.len
 have HLW:=Lib.hid hlw
 rw [← hne] at lb ⊢
 have L0:=Lib.hid la
 have M0:=Lib.hid lb
 have X0:Hid (Ext w w):=Ext.refl w
 obtain ⟨R,hR⟩:∃ R,eqN x y=R:=⟨_,rfl⟩
 rw [hR]
 have E0:=Lib.hid hR
 generalize hN:x.len=N at *
 have hN1:N ≤ 4611686018427387904:=by omega
 clear la lb hslx hsly HF hxl hlw hR hne
 go_enter Tryz.func133,Tryz.ntmps133
 go_wp2_with fail
 go_loopw [17] (fun u5 wr=>∃ (i:Nat) (r s:Nd),u5=.int .i64 i∧Hid (Lp (vp p wr) A N 0 i r)∧Hid (Lp (vp q wr) A' N 0 i s)∧Hid (Ext w wr)∧Hid (eqN r s=R)∧r.sz ≤ x.sz∧Hid (LW r)) (fun u5 _=>N - (intOf u5).toNat)
 case atStart=>exact ⟨0,x,y,rfl,L0,M0,X0,E0,Nat.le_refl _,HLW⟩
 case round =>
  clear L0 M0 X0 E0 HLW
  obtain ⟨i,r,s,rfl,L,M,X,hE,hrz,hlr⟩:=hrel
  by_cases hlt:i < N
  case neg =>
   obtain rfl:=L.out.fin hlt
   obtain rfl:=M.out.fin hlt
   have hltI:¬ (i:Int) < (N:Int):=by omega
   obtain rfl:R=true:=hE.out.symm
   go_wp2_with fail
   go_ret
   exact ⟨rfl,X.out⟩
  have hltI:(i:Int) < (N:Int):=by omega
  have hwi:wrap64 ((i:Int) + 1)=(i:Int) + 1:=IntWalk.wrap64_in _ (by omega)
  have hrl:0 < r.len:=by have:=L.out.1; omega
  have hsl:0 < s.len:=by have:=M.out.1; omega
  have hss:=hd_sz hrl
  have E1:Hid ((eqN r.hd s.hd && eqN r.tl s.tl)=R):=(eqN_step L.out M.out hlt).symm.trans hE.out
  obtain ⟨bb,oo,cs,rfl,hnx,hcx,L'⟩:=L.out.step hlt
  obtain ⟨bc,oc,ds,rfl,hny,hcy,M'⟩:=M.out.step hlt
  have hs1:r.hd.sz ≤ x.sz∧r.tl.sz ≤ x.sz:=by omega
  have HL1:Hid (LW r.tl):=hlr.out.tl
  have HE:Hid (∀ w1,Ext wr w1 → Calls Tryz.prog K #[.agg cs,.agg ds] w1 fun e w2=>e=.returned (.bool (eqN r.hd s.hd))∧Ext w1 w2):=fun w1 X2=>HFs.out r.hd s.hd cs ds w1 hs1.1 hlr.out.hd (hd_len hrl) (hd_len hsl) (X.out.trans X2) (hnx.mono (vp_ext X2)) (hny.mono (vp_ext X2))
  have hcs:cs.size=10:=hnx.size
  have hds:ds.size=10:=hny.size
  have NX:=Lib.hid hnx.one
  have NY:=Lib.hid hny.one
  have HCX:=Lib.hid hcx
  have HCY:=Lib.hid hcy
  have LS:=Lib.hid L'
  have MS:=Lib.hid M'
  generalize eqN r.hd s.hd=e at HE E1
  generalize r.tl=rt at *
  generalize s.tl=st at *
  clear hnx hny hcx hcy L' M' L M hE hrz hlr hss hrl hsl HFs
  go_upto_region 7 with (first
   | ((with_reducible show wpList _ _ _ (Oper.mk (some 21) (.load 36 (.tmp 20)) _ _ _ _ :: _) _ _); refine wpList_load_mid rfl _ _ rfl _ _ rfl cs.toList _ (fun j v hv=>(vp_some (HCX.out j v hv)).2) Tryz.underlying36 rfl (by rw [Array.length_toList,hcs]; exact HX.out) ?_; rw [Array.toArray_toList])
   | ((with_reducible show wpList _ _ _ (Oper.mk none (.store 36 (.tmp 8) _) _ _ _ _ :: _) _ _); refine wpList_store_row rfl _ _ _ rfl wr.heap.size rfl 36 zEx cs (Blk.new wr _ zEx) rfl (hcs.trans (by kernel_rfl)) NX.out (by rw [hcs]; exact HX.out) ?_; refine nmW fun w3 hw3=>?_
      have x3:Ext wr w3:=by rw [← hw3]; exact (newRow wr _ zEx cs).1
      have K3:Hid (Blk w3 wr.heap.size 36 cs):=by rw [← hw3]; exact (newRow wr _ zEx cs).2
      clear hw3)
   | ((with_reducible show wpList _ _ _ (Oper.mk (some 25) (.load 36 (.tmp 24)) _ _ _ _ :: _) _ _); refine wpList_load_mid rfl _ _ rfl _ _ rfl ds.toList _ (fun j v hv=>(x3.cell (p:=⟨bc,oc + i * szK 0 + j,none⟩) (cell_lt (vp_some (HCY.out j v hv)).2)).trans (vp_some (HCY.out j v hv)).2) Tryz.underlying36 rfl (by rw [Array.length_toList,hds]; exact HX.out) ?_; rw [Array.toArray_toList])
   | ((with_reducible show wpList _ _ _ (Oper.mk none (.store 36 (.tmp 9) _) _ _ _ _ :: _) _ _); refine wpList_store_row rfl _ _ _ rfl w3.heap.size rfl 36 zEx ds (Blk.new w3 _ zEx) rfl (hds.trans (by kernel_rfl)) NY.out (by rw [hds]; exact HX.out) ?_; refine nmW fun w4 hw4=>?_
      have x4:Ext w3 w4:=by rw [← hw4]; exact (newRow w3 _ zEx ds).1
      have K4:Hid (Blk w4 w3.heap.size 36 ds):=by rw [← hw4]; exact (newRow w3 _ zEx ds).2
      have K5:=Lib.hid (K3.out.ext x4)
      have x5:=Lib.hid (x3.trans x4)
      clear hw4))
  generalize wr.heap.size=b8 at K5 ⊢
  generalize w3.heap.size=b9 at K4 ⊢
  go_wp2_with (first
   | ((with_reducible show wpList _ _ _ (Oper.mk (some 27) (.load 36 (.tmp 8)) _ _ _ _ :: _) _ _); refine wpList_ldb rfl _ _ rfl b8 36 cs rfl K5.out _ Tryz.underlying36 rfl (by rw [hcs]; exact HX.out) ?_)
   | ((with_reducible show wpList _ _ _ (Oper.mk (some 28) (.load 36 (.tmp 9)) _ _ _ _ :: _) _ _); refine wpList_ldb rfl _ _ rfl b9 36 ds rfl K4.out _ Tryz.underlying36 rfl (by rw [hds]; exact HX.out) ?_))
  simp only [hK _ _]
  go_wp2_with fail
  refine (HE.out _ x5.out).mono ?_
  rintro e6 w6 ⟨rfl,x6⟩
  have X6:=Lib.hid (x5.out.trans x6)
  cases e
  ·obtain rfl:R=false:=E1.out.symm
   go_wp2_with fail
   go_ret
   exact ⟨rfl,X.out.trans X6.out⟩
  ·have E2:Hid (eqN rt st=R):=E1.out
   go_wp2_with fail
   go_roundw
   case rel=>exact ⟨i + 1,rt,st,by first | rfl | (rw [hwi]; rfl),LS.out.mono (vp_ext X6.out),MS.out.mono (vp_ext X6.out),X.out.trans X6.out,E2,hs1.2,HL1⟩
   case measure=>(try rw [hwi]); rw [iof_succ,iof_nat]; exact Nat.sub_lt_sub_left hlt (Nat.lt_succ_self i)
theorem eqf_S (x y:Nd) (K:FuncId) (hK:Enters K) (hlw:LW x) (w:World) (v u:Value) (p q:Nat → Prop) (hslx:Sl (vp p w) v x 1) (hsly:Sl (vp q w) u y 1) (HF:∀ r s cs ds w1,r.sz ≤ x.sz → LW r → r.len=1 → s.len=1 → Ext w w1 → Nv (vp p w1) 1 r cs → Nv (vp q w1) 1 s ds → Calls Tryz.prog K #[.agg cs,.agg ds] w1 fun e w2=>e=.returned (.bool (eqN r s))∧Ext w1 w2):Calls Tryz.prog 134 #[v,u,.func (.func K) #[] #[]] w fun e w2=>e=.returned (.bool (eqN x y))∧Ext w w2:=by
 have HX:Hid ((Tryz.prog.info? 44).map (·.size)=some 10):=by unfold Hid; kernel_rfl
 have HFs:=Lib.hid HF
 obtain ⟨A,c,rfl,la⟩:=hslx.lp
 obtain ⟨A',c',rfl,lb⟩:=hsly.lp
 by_cases hne:x.len=y.len
 case neg =>
  rw [eqN_ne hne]
  have hneI:¬ (x.len:Int)=(y.len:Int):=by omega
  clear la lb hslx hsly HF HFs hlw
  go_enter Tryz.func134,Tryz.ntmps134
  go_wp2_with fail
  go_ret
  exact ⟨rfl,exA⟩
 have hxl:=hlw.len
 have HLW:=Lib.hid hlw
 rw [← hne] at lb ⊢
 have L0:=Lib.hid la
 have M0:=Lib.hid lb
 have X0:Hid (Ext w w):=Ext.refl w
 obtain ⟨R,hR⟩:∃ R,eqN x y=R:=⟨_,rfl⟩
 rw [hR]
 have E0:=Lib.hid hR
 generalize hN:x.len=N at *
 have hN1:N ≤ 4611686018427387904:=by omega
 clear la lb hslx hsly HF hxl hlw hR hne
 go_enter Tryz.func134,Tryz.ntmps134
 go_wp2_with fail
 go_loopw [17] (fun u5 wr=>∃ (i:Nat) (r s:Nd),u5=.int .i64 i∧Hid (Lp (vp p wr) A N 1 i r)∧Hid (Lp (vp q wr) A' N 1 i s)∧Hid (Ext w wr)∧Hid (eqN r s=R)∧r.sz ≤ x.sz∧Hid (LW r)) (fun u5 _=>N - (intOf u5).toNat)
 case atStart=>exact ⟨0,x,y,rfl,L0,M0,X0,E0,Nat.le_refl _,HLW⟩
 case round =>
  clear L0 M0 X0 E0 HLW
  obtain ⟨i,r,s,rfl,L,M,X,hE,hrz,hlr⟩:=hrel
  by_cases hlt:i < N
  case neg =>
   obtain rfl:=L.out.fin hlt
   obtain rfl:=M.out.fin hlt
   have hltI:¬ (i:Int) < (N:Int):=by omega
   obtain rfl:R=true:=hE.out.symm
   go_wp2_with fail
   go_ret
   exact ⟨rfl,X.out⟩
  have hltI:(i:Int) < (N:Int):=by omega
  have hwi:wrap64 ((i:Int) + 1)=(i:Int) + 1:=IntWalk.wrap64_in _ (by omega)
  have hrl:0 < r.len:=by have:=L.out.1; omega
  have hsl:0 < s.len:=by have:=M.out.1; omega
  have hss:=hd_sz hrl
  have E1:Hid ((eqN r.hd s.hd && eqN r.tl s.tl)=R):=(eqN_step L.out M.out hlt).symm.trans hE.out
  obtain ⟨bb,oo,cs,rfl,hnx,hcx,L'⟩:=L.out.step hlt
  obtain ⟨bc,oc,ds,rfl,hny,hcy,M'⟩:=M.out.step hlt
  have hs1:r.hd.sz ≤ x.sz∧r.tl.sz ≤ x.sz:=by omega
  have HL1:Hid (LW r.tl):=hlr.out.tl
  have HE:Hid (∀ w1,Ext wr w1 → Calls Tryz.prog K #[.agg cs,.agg ds] w1 fun e w2=>e=.returned (.bool (eqN r.hd s.hd))∧Ext w1 w2):=fun w1 X2=>HFs.out r.hd s.hd cs ds w1 hs1.1 hlr.out.hd (hd_len hrl) (hd_len hsl) (X.out.trans X2) (hnx.mono (vp_ext X2)) (hny.mono (vp_ext X2))
  have hcs:cs.size=10:=hnx.size
  have hds:ds.size=10:=hny.size
  have NX:=Lib.hid hnx.one
  have NY:=Lib.hid hny.one
  have HCX:=Lib.hid hcx
  have HCY:=Lib.hid hcy
  have LS:=Lib.hid L'
  have MS:=Lib.hid M'
  generalize eqN r.hd s.hd=e at HE E1
  generalize r.tl=rt at *
  generalize s.tl=st at *
  clear hnx hny hcx hcy L' M' L M hE hrz hlr hss hrl hsl HFs
  go_upto_region 7 with (first
   | ((with_reducible show wpList _ _ _ (Oper.mk (some 21) (.load 44 (.tmp 20)) _ _ _ _ :: _) _ _); refine wpList_load_mid rfl _ _ rfl _ _ rfl cs.toList _ (fun j v hv=>(vp_some (HCX.out j v hv)).2) Tryz.underlying44 rfl (by rw [Array.length_toList,hcs]; exact HX.out) ?_; rw [Array.toArray_toList])
   | ((with_reducible show wpList _ _ _ (Oper.mk none (.store 44 (.tmp 8) _) _ _ _ _ :: _) _ _); refine wpList_store_row rfl _ _ _ rfl wr.heap.size rfl 44 zSt cs (Blk.new wr _ zSt) rfl (hcs.trans (by kernel_rfl)) NX.out (by rw [hcs]; exact HX.out) ?_; refine nmW fun w3 hw3=>?_
      have x3:Ext wr w3:=by rw [← hw3]; exact (newRow wr _ zSt cs).1
      have K3:Hid (Blk w3 wr.heap.size 44 cs):=by rw [← hw3]; exact (newRow wr _ zSt cs).2
      clear hw3)
   | ((with_reducible show wpList _ _ _ (Oper.mk (some 25) (.load 44 (.tmp 24)) _ _ _ _ :: _) _ _); refine wpList_load_mid rfl _ _ rfl _ _ rfl ds.toList _ (fun j v hv=>(x3.cell (p:=⟨bc,oc + i * szK 1 + j,none⟩) (cell_lt (vp_some (HCY.out j v hv)).2)).trans (vp_some (HCY.out j v hv)).2) Tryz.underlying44 rfl (by rw [Array.length_toList,hds]; exact HX.out) ?_; rw [Array.toArray_toList])
   | ((with_reducible show wpList _ _ _ (Oper.mk none (.store 44 (.tmp 9) _) _ _ _ _ :: _) _ _); refine wpList_store_row rfl _ _ _ rfl w3.heap.size rfl 44 zSt ds (Blk.new w3 _ zSt) rfl (hds.trans (by kernel_rfl)) NY.out (by rw [hds]; exact HX.out) ?_; refine nmW fun w4 hw4=>?_
      have x4:Ext w3 w4:=by rw [← hw4]; exact (newRow w3 _ zSt ds).1
      have K4:Hid (Blk w4 w3.heap.size 44 ds):=by rw [← hw4]; exact (newRow w3 _ zSt ds).2
      have K5:=Lib.hid (K3.out.ext x4)
      have x5:=Lib.hid (x3.trans x4)
      clear hw4))
  generalize wr.heap.size=b8 at K5 ⊢
  generalize w3.heap.size=b9 at K4 ⊢
  go_wp2_with (first
   | ((with_reducible show wpList _ _ _ (Oper.mk (some 27) (.load 44 (.tmp 8)) _ _ _ _ :: _) _ _); refine wpList_ldb rfl _ _ rfl b8 44 cs rfl K5.out _ Tryz.underlying44 rfl (by rw [hcs]; exact HX.out) ?_)
   | ((with_reducible show wpList _ _ _ (Oper.mk (some 28) (.load 44 (.tmp 9)) _ _ _ _ :: _) _ _); refine wpList_ldb rfl _ _ rfl b9 44 ds rfl K4.out _ Tryz.underlying44 rfl (by rw [hds]; exact HX.out) ?_))
  simp only [hK _ _]
  go_wp2_with fail
  refine (HE.out _ x5.out).mono ?_
  rintro e6 w6 ⟨rfl,x6⟩
  have X6:=Lib.hid (x5.out.trans x6)
  cases e
  ·obtain rfl:R=false:=E1.out.symm
   go_wp2_with fail
   go_ret
   exact ⟨rfl,X.out.trans X6.out⟩
  ·have E2:Hid (eqN rt st=R):=E1.out
   go_wp2_with fail
   go_roundw
   case rel=>exact ⟨i + 1,rt,st,by first | rfl | (rw [hwi]; rfl),LS.out.mono (vp_ext X6.out),MS.out.mono (vp_ext X6.out),X.out.trans X6.out,E2,hs1.2,HL1⟩
   case measure=>(try rw [hwi]); rw [iof_succ,iof_nat]; exact Nat.sub_lt_sub_left hlt (Nat.lt_succ_self i)
theorem eqf_C (x y:Nd) (K:FuncId) (hK:Enters K) (hlw:LW x) (w:World) (v u:Value) (p q:Nat → Prop) (hslx:Sl (vp p w) v x 3) (hsly:Sl (vp q w) u y 3) (HF:∀ r s cs ds w1,r.sz ≤ x.sz → LW r → r.len=1 → s.len=1 → Ext w w1 → Nv (vp p w1) 3 r cs → Nv (vp q w1) 3 s ds → Calls Tryz.prog K #[.agg cs,.agg ds] w1 fun e w2=>e=.returned (.bool (eqN r s))∧Ext w1 w2):Calls Tryz.prog 189 #[v,u,.func (.func K) #[] #[]] w fun e w2=>e=.returned (.bool (eqN x y))∧Ext w w2:=by
 have HX:Hid ((Tryz.prog.info? 101).map (·.size)=some 3):=by unfold Hid; kernel_rfl
 have HFs:=Lib.hid HF
 obtain ⟨A,c,rfl,la⟩:=hslx.lp
 obtain ⟨A',c',rfl,lb⟩:=hsly.lp
 by_cases hne:x.len=y.len
 case neg =>
  rw [eqN_ne hne]
  have hneI:¬ (x.len:Int)=(y.len:Int):=by omega
  clear la lb hslx hsly HF HFs hlw
  go_enter Tryz.func189,Tryz.ntmps189
  go_wp2_with fail
  go_ret
  exact ⟨rfl,exA⟩
 have hxl:=hlw.len
 have HLW:=Lib.hid hlw
 rw [← hne] at lb ⊢
 have L0:=Lib.hid la
 have M0:=Lib.hid lb
 have X0:Hid (Ext w w):=Ext.refl w
 obtain ⟨R,hR⟩:∃ R,eqN x y=R:=⟨_,rfl⟩
 rw [hR]
 have E0:=Lib.hid hR
 generalize hN:x.len=N at *
 have hN1:N ≤ 4611686018427387904:=by omega
 clear la lb hslx hsly HF hxl hlw hR hne
 go_enter Tryz.func189,Tryz.ntmps189
 go_wp2_with fail
 go_loopw [17] (fun u5 wr=>∃ (i:Nat) (r s:Nd),u5=.int .i64 i∧Hid (Lp (vp p wr) A N 3 i r)∧Hid (Lp (vp q wr) A' N 3 i s)∧Hid (Ext w wr)∧Hid (eqN r s=R)∧r.sz ≤ x.sz∧Hid (LW r)) (fun u5 _=>N - (intOf u5).toNat)
 case atStart=>exact ⟨0,x,y,rfl,L0,M0,X0,E0,Nat.le_refl _,HLW⟩
 case round =>
  clear L0 M0 X0 E0 HLW
  obtain ⟨i,r,s,rfl,L,M,X,hE,hrz,hlr⟩:=hrel
  by_cases hlt:i < N
  case neg =>
   obtain rfl:=L.out.fin hlt
   obtain rfl:=M.out.fin hlt
   have hltI:¬ (i:Int) < (N:Int):=by omega
   obtain rfl:R=true:=hE.out.symm
   go_wp2_with fail
   go_ret
   exact ⟨rfl,X.out⟩
  have hltI:(i:Int) < (N:Int):=by omega
  have hwi:wrap64 ((i:Int) + 1)=(i:Int) + 1:=IntWalk.wrap64_in _ (by omega)
  have hrl:0 < r.len:=by have:=L.out.1; omega
  have hsl:0 < s.len:=by have:=M.out.1; omega
  have hss:=hd_sz hrl
  have E1:Hid ((eqN r.hd s.hd && eqN r.tl s.tl)=R):=(eqN_step L.out M.out hlt).symm.trans hE.out
  obtain ⟨bb,oo,cs,rfl,hnx,hcx,L'⟩:=L.out.step hlt
  obtain ⟨bc,oc,ds,rfl,hny,hcy,M'⟩:=M.out.step hlt
  have hs1:r.hd.sz ≤ x.sz∧r.tl.sz ≤ x.sz:=by omega
  have HL1:Hid (LW r.tl):=hlr.out.tl
  have HE:Hid (∀ w1,Ext wr w1 → Calls Tryz.prog K #[.agg cs,.agg ds] w1 fun e w2=>e=.returned (.bool (eqN r.hd s.hd))∧Ext w1 w2):=fun w1 X2=>HFs.out r.hd s.hd cs ds w1 hs1.1 hlr.out.hd (hd_len hrl) (hd_len hsl) (X.out.trans X2) (hnx.mono (vp_ext X2)) (hny.mono (vp_ext X2))
  have hcs:cs.size=3:=hnx.size
  have hds:ds.size=3:=hny.size
  have NX:=Lib.hid hnx.one
  have NY:=Lib.hid hny.one
  have HCX:=Lib.hid hcx
  have HCY:=Lib.hid hcy
  have LS:=Lib.hid L'
  have MS:=Lib.hid M'
  generalize eqN r.hd s.hd=e at HE E1
  generalize r.tl=rt at *
  generalize s.tl=st at *
  clear hnx hny hcx hcy L' M' L M hE hrz hlr hss hrl hsl HFs
  go_upto_region 7 with (first
   | ((with_reducible show wpList _ _ _ (Oper.mk (some 21) (.load 101 (.tmp 20)) _ _ _ _ :: _) _ _); refine wpList_load_mid rfl _ _ rfl _ _ rfl cs.toList _ (fun j v hv=>(vp_some (HCX.out j v hv)).2) Tryz.underlying101 rfl (by rw [Array.length_toList,hcs]; exact HX.out) ?_; rw [Array.toArray_toList])
   | ((with_reducible show wpList _ _ _ (Oper.mk none (.store 101 (.tmp 8) _) _ _ _ _ :: _) _ _); refine wpList_store_row rfl _ _ _ rfl wr.heap.size rfl 101 zCs cs (Blk.new wr _ zCs) rfl (hcs.trans (by kernel_rfl)) NX.out (by rw [hcs]; exact HX.out) ?_; refine nmW fun w3 hw3=>?_
      have x3:Ext wr w3:=by rw [← hw3]; exact (newRow wr _ zCs cs).1
      have K3:Hid (Blk w3 wr.heap.size 101 cs):=by rw [← hw3]; exact (newRow wr _ zCs cs).2
      clear hw3)
   | ((with_reducible show wpList _ _ _ (Oper.mk (some 25) (.load 101 (.tmp 24)) _ _ _ _ :: _) _ _); refine wpList_load_mid rfl _ _ rfl _ _ rfl ds.toList _ (fun j v hv=>(x3.cell (p:=⟨bc,oc + i * szK 3 + j,none⟩) (cell_lt (vp_some (HCY.out j v hv)).2)).trans (vp_some (HCY.out j v hv)).2) Tryz.underlying101 rfl (by rw [Array.length_toList,hds]; exact HX.out) ?_; rw [Array.toArray_toList])
   | ((with_reducible show wpList _ _ _ (Oper.mk none (.store 101 (.tmp 9) _) _ _ _ _ :: _) _ _); refine wpList_store_row rfl _ _ _ rfl w3.heap.size rfl 101 zCs ds (Blk.new w3 _ zCs) rfl (hds.trans (by kernel_rfl)) NY.out (by rw [hds]; exact HX.out) ?_; refine nmW fun w4 hw4=>?_
      have x4:Ext w3 w4:=by rw [← hw4]; exact (newRow w3 _ zCs ds).1
      have K4:Hid (Blk w4 w3.heap.size 101 ds):=by rw [← hw4]; exact (newRow w3 _ zCs ds).2
      have K5:=Lib.hid (K3.out.ext x4)
      have x5:=Lib.hid (x3.trans x4)
      clear hw4))
  generalize wr.heap.size=b8 at K5 ⊢
  generalize w3.heap.size=b9 at K4 ⊢
  go_wp2_with (first
   | ((with_reducible show wpList _ _ _ (Oper.mk (some 27) (.load 101 (.tmp 8)) _ _ _ _ :: _) _ _); refine wpList_ldb rfl _ _ rfl b8 101 cs rfl K5.out _ Tryz.underlying101 rfl (by rw [hcs]; exact HX.out) ?_)
   | ((with_reducible show wpList _ _ _ (Oper.mk (some 28) (.load 101 (.tmp 9)) _ _ _ _ :: _) _ _); refine wpList_ldb rfl _ _ rfl b9 101 ds rfl K4.out _ Tryz.underlying101 rfl (by rw [hds]; exact HX.out) ?_))
  simp only [hK _ _]
  go_wp2_with fail
  refine (HE.out _ x5.out).mono ?_
  rintro e6 w6 ⟨rfl,x6⟩
  have X6:=Lib.hid (x5.out.trans x6)
  cases e
  ·obtain rfl:R=false:=E1.out.symm
   go_wp2_with fail
   go_ret
   exact ⟨rfl,X.out.trans X6.out⟩
  ·have E2:Hid (eqN rt st=R):=E1.out
   go_wp2_with fail
   go_roundw
   case rel=>exact ⟨i + 1,rt,st,by first | rfl | (rw [hwi]; rfl),LS.out.mono (vp_ext X6.out),MS.out.mono (vp_ext X6.out),X.out.trans X6.out,E2,hs1.2,HL1⟩
   case measure=>(try rw [hwi]); rw [iof_succ,iof_nat]; exact Nat.sub_lt_sub_left hlt (Nat.lt_succ_self i)
theorem eqf_D (x y:Nd) (K:FuncId) (hK:Enters K) (hlw:LW x) (w:World) (v u:Value) (p q:Nat → Prop) (hslx:Sl (vp p w) v x 5) (hsly:Sl (vp q w) u y 5) (HF:∀ r s cs ds w1,r.sz ≤ x.sz → LW r → r.len=1 → s.len=1 → Ext w w1 → Nv (vp p w1) 5 r cs → Nv (vp q w1) 5 s ds → Calls Tryz.prog K #[.agg cs,.agg ds] w1 fun e w2=>e=.returned (.bool (eqN r s))∧Ext w1 w2):Calls Tryz.prog 44 #[v,u,.func (.func K) #[] #[]] w fun e w2=>e=.returned (.bool (eqN x y))∧Ext w w2:=by
 have HX:Hid ((Tryz.prog.info? 38).map (·.size)=some 19):=by unfold Hid; kernel_rfl
 have HFs:=Lib.hid HF
 obtain ⟨A,c,rfl,la⟩:=hslx.lp
 obtain ⟨A',c',rfl,lb⟩:=hsly.lp
 by_cases hne:x.len=y.len
 case neg =>
  rw [eqN_ne hne]
  have hneI:¬ (x.len:Int)=(y.len:Int):=by omega
  clear la lb hslx hsly HF HFs hlw
  go_enter Tryz.func44,Tryz.ntmps44
  go_wp2_with fail
  go_ret
  exact ⟨rfl,exA⟩
 have hxl:=hlw.len
 have HLW:=Lib.hid hlw
 rw [← hne] at lb ⊢
 have L0:=Lib.hid la
 have M0:=Lib.hid lb
 have X0:Hid (Ext w w):=Ext.refl w
 obtain ⟨R,hR⟩:∃ R,eqN x y=R:=⟨_,rfl⟩
 rw [hR]
 have E0:=Lib.hid hR
 generalize hN:x.len=N at *
 have hN1:N ≤ 4611686018427387904:=by omega
 clear la lb hslx hsly HF hxl hlw hR hne
 go_enter Tryz.func44,Tryz.ntmps44
 go_wp2_with fail
 go_loopw [17] (fun u5 wr=>∃ (i:Nat) (r s:Nd),u5=.int .i64 i∧Hid (Lp (vp p wr) A N 5 i r)∧Hid (Lp (vp q wr) A' N 5 i s)∧Hid (Ext w wr)∧Hid (eqN r s=R)∧r.sz ≤ x.sz∧Hid (LW r)) (fun u5 _=>N - (intOf u5).toNat)
 case atStart=>exact ⟨0,x,y,rfl,L0,M0,X0,E0,Nat.le_refl _,HLW⟩
 case round =>
  clear L0 M0 X0 E0 HLW
  obtain ⟨i,r,s,rfl,L,M,X,hE,hrz,hlr⟩:=hrel
  by_cases hlt:i < N
  case neg =>
   obtain rfl:=L.out.fin hlt
   obtain rfl:=M.out.fin hlt
   have hltI:¬ (i:Int) < (N:Int):=by omega
   obtain rfl:R=true:=hE.out.symm
   go_wp2_with fail
   go_ret
   exact ⟨rfl,X.out⟩
  have hltI:(i:Int) < (N:Int):=by omega
  have hwi:wrap64 ((i:Int) + 1)=(i:Int) + 1:=IntWalk.wrap64_in _ (by omega)
  have hrl:0 < r.len:=by have:=L.out.1; omega
  have hsl:0 < s.len:=by have:=M.out.1; omega
  have hss:=hd_sz hrl
  have E1:Hid ((eqN r.hd s.hd && eqN r.tl s.tl)=R):=(eqN_step L.out M.out hlt).symm.trans hE.out
  obtain ⟨bb,oo,cs,rfl,hnx,hcx,L'⟩:=L.out.step hlt
  obtain ⟨bc,oc,ds,rfl,hny,hcy,M'⟩:=M.out.step hlt
  have hs1:r.hd.sz ≤ x.sz∧r.tl.sz ≤ x.sz:=by omega
  have HL1:Hid (LW r.tl):=hlr.out.tl
  have HE:Hid (∀ w1,Ext wr w1 → Calls Tryz.prog K #[.agg cs,.agg ds] w1 fun e w2=>e=.returned (.bool (eqN r.hd s.hd))∧Ext w1 w2):=fun w1 X2=>HFs.out r.hd s.hd cs ds w1 hs1.1 hlr.out.hd (hd_len hrl) (hd_len hsl) (X.out.trans X2) (hnx.mono (vp_ext X2)) (hny.mono (vp_ext X2))
  have hcs:cs.size=19:=hnx.size
  have hds:ds.size=19:=hny.size
  have NX:=Lib.hid hnx.one
  have NY:=Lib.hid hny.one
  have HCX:=Lib.hid hcx
  have HCY:=Lib.hid hcy
  have LS:=Lib.hid L'
  have MS:=Lib.hid M'
  generalize eqN r.hd s.hd=e at HE E1
  generalize r.tl=rt at *
  generalize s.tl=st at *
  clear hnx hny hcx hcy L' M' L M hE hrz hlr hss hrl hsl HFs
  go_upto_region 7 with (first
   | ((with_reducible show wpList _ _ _ (Oper.mk (some 21) (.load 38 (.tmp 20)) _ _ _ _ :: _) _ _); refine wpList_load_mid rfl _ _ rfl _ _ rfl cs.toList _ (fun j v hv=>(vp_some (HCX.out j v hv)).2) Tryz.underlying38 rfl (by rw [Array.length_toList,hcs]; exact HX.out) ?_; rw [Array.toArray_toList])
   | ((with_reducible show wpList _ _ _ (Oper.mk none (.store 38 (.tmp 8) _) _ _ _ _ :: _) _ _); refine wpList_store_row rfl _ _ _ rfl wr.heap.size rfl 38 zDe cs (Blk.new wr _ zDe) rfl (hcs.trans (by kernel_rfl)) NX.out (by rw [hcs]; exact HX.out) ?_; refine nmW fun w3 hw3=>?_
      have x3:Ext wr w3:=by rw [← hw3]; exact (newRow wr _ zDe cs).1
      have K3:Hid (Blk w3 wr.heap.size 38 cs):=by rw [← hw3]; exact (newRow wr _ zDe cs).2
      clear hw3)
   | ((with_reducible show wpList _ _ _ (Oper.mk (some 25) (.load 38 (.tmp 24)) _ _ _ _ :: _) _ _); refine wpList_load_mid rfl _ _ rfl _ _ rfl ds.toList _ (fun j v hv=>(x3.cell (p:=⟨bc,oc + i * szK 5 + j,none⟩) (cell_lt (vp_some (HCY.out j v hv)).2)).trans (vp_some (HCY.out j v hv)).2) Tryz.underlying38 rfl (by rw [Array.length_toList,hds]; exact HX.out) ?_; rw [Array.toArray_toList])
   | ((with_reducible show wpList _ _ _ (Oper.mk none (.store 38 (.tmp 9) _) _ _ _ _ :: _) _ _); refine wpList_store_row rfl _ _ _ rfl w3.heap.size rfl 38 zDe ds (Blk.new w3 _ zDe) rfl (hds.trans (by kernel_rfl)) NY.out (by rw [hds]; exact HX.out) ?_; refine nmW fun w4 hw4=>?_
      have x4:Ext w3 w4:=by rw [← hw4]; exact (newRow w3 _ zDe ds).1
      have K4:Hid (Blk w4 w3.heap.size 38 ds):=by rw [← hw4]; exact (newRow w3 _ zDe ds).2
      have K5:=Lib.hid (K3.out.ext x4)
      have x5:=Lib.hid (x3.trans x4)
      clear hw4))
  generalize wr.heap.size=b8 at K5 ⊢
  generalize w3.heap.size=b9 at K4 ⊢
  go_wp2_with (first
   | ((with_reducible show wpList _ _ _ (Oper.mk (some 27) (.load 38 (.tmp 8)) _ _ _ _ :: _) _ _); refine wpList_ldb rfl _ _ rfl b8 38 cs rfl K5.out _ Tryz.underlying38 rfl (by rw [hcs]; exact HX.out) ?_)
   | ((with_reducible show wpList _ _ _ (Oper.mk (some 28) (.load 38 (.tmp 9)) _ _ _ _ :: _) _ _); refine wpList_ldb rfl _ _ rfl b9 38 ds rfl K4.out _ Tryz.underlying38 rfl (by rw [hds]; exact HX.out) ?_))
  simp only [hK _ _]
  go_wp2_with fail
  refine (HE.out _ x5.out).mono ?_
  rintro e6 w6 ⟨rfl,x6⟩
  have X6:=Lib.hid (x5.out.trans x6)
  cases e
  ·obtain rfl:R=false:=E1.out.symm
   go_wp2_with fail
   go_ret
   exact ⟨rfl,X.out.trans X6.out⟩
  ·have E2:Hid (eqN rt st=R):=E1.out
   go_wp2_with fail
   go_roundw
   case rel=>exact ⟨i + 1,rt,st,by first | rfl | (rw [hwi]; rfl),LS.out.mono (vp_ext X6.out),MS.out.mono (vp_ext X6.out),X.out.trans X6.out,E2,hs1.2,HL1⟩
   case measure=>(try rw [hwi]); rw [iof_succ,iof_nat]; exact Nat.sub_lt_sub_left hlt (Nat.lt_succ_self i)
theorem eqf_B (x y:Nd) (K:FuncId) (hK:Enters K) (hlw:LW x) (w:World) (v u:Value) (p q:Nat → Prop) (hslx:Sl (vp p w) v x 2) (hsly:Sl (vp q w) u y 2) (HF:∀ r s a b w1,r.sz ≤ x.sz → LW r → Ext w w1 → Sl (vp p w1) a r 1 → Sl (vp q w1) b s 1 → Calls Tryz.prog K #[a,b] w1 fun e w2=>e=.returned (.bool (eqN r s))∧Ext w1 w2):Calls Tryz.prog 188 #[v,u,.func (.func K) #[] #[]] w fun e w2=>e=.returned (.bool (eqN x y))∧Ext w w2:=by
 have HFs:=Lib.hid HF
 obtain ⟨A,c,rfl,la⟩:=hslx.lp
 obtain ⟨A',c',rfl,lb⟩:=hsly.lp
 by_cases hne:x.len=y.len
 case neg =>
  rw [eqN_ne hne]
  have hneI:¬ (x.len:Int)=(y.len:Int):=by omega
  clear la lb hslx hsly HF HFs hlw
  go_enter Tryz.func188,Tryz.ntmps188
  go_wp2_with fail
  go_ret
  exact ⟨rfl,exA⟩
 have hxl:=hlw.len
 have HLW:=Lib.hid hlw
 rw [← hne] at lb ⊢
 have L0:=Lib.hid la
 have M0:=Lib.hid lb
 have X0:Hid (Ext w w):=Ext.refl w
 obtain ⟨R,hR⟩:∃ R,eqN x y=R:=⟨_,rfl⟩
 rw [hR]
 have E0:=Lib.hid hR
 generalize hN:x.len=N at *
 have hN1:N ≤ 4611686018427387904:=by omega
 clear la lb hslx hsly HF hxl hlw hR hne
 go_enter Tryz.func188,Tryz.ntmps188
 go_wp2_with fail
 go_loopw [17] (fun u5 wr=>∃ (i:Nat) (r s:Nd),u5=.int .i64 i∧Hid (Lp (vp p wr) A N 2 i r)∧Hid (Lp (vp q wr) A' N 2 i s)∧Hid (Ext w wr)∧Hid (eqN r s=R)∧r.sz ≤ x.sz∧Hid (LW r)) (fun u5 _=>N - (intOf u5).toNat)
 case atStart=>exact ⟨0,x,y,rfl,L0,M0,X0,E0,Nat.le_refl _,HLW⟩
 case round =>
  clear L0 M0 X0 E0 HLW
  obtain ⟨i,r,s,rfl,L,M,X,hE,hrz,hlr⟩:=hrel
  by_cases hlt:i < N
  case neg =>
   obtain rfl:=L.out.fin hlt
   obtain rfl:=M.out.fin hlt
   have hltI:¬ (i:Int) < (N:Int):=by omega
   obtain rfl:R=true:=hE.out.symm
   go_wp2_with fail
   go_ret
   exact ⟨rfl,X.out⟩
  have hltI:(i:Int) < (N:Int):=by omega
  have hwi:wrap64 ((i:Int) + 1)=(i:Int) + 1:=IntWalk.wrap64_in _ (by omega)
  obtain ⟨d1,rt,rfl⟩:=L.out.bl1 hlt
  obtain ⟨d2,st,rfl⟩:=M.out.bl1 hlt
  obtain ⟨bb,oo,cs,rfl,hnx,hcx,L'⟩:=L.out.step hlt
  obtain ⟨bc,oc,ds,rfl,hny,hcy,M'⟩:=M.out.step hlt
  obtain ⟨vk,rfl,hd1⟩:=nv_blI hnx
  obtain ⟨vl,rfl,hd2⟩:=nv_blI hny
  have hs1:d1.sz ≤ x.sz∧rt.sz ≤ x.sz:=by simp only [Nd.sz] at hrz; omega
  have HL1:Hid (LW rt):=hlr.out.tl
  have HE:Hid (∀ w1,Ext wr w1 → Calls Tryz.prog K #[vk,vl] w1 fun e w2=>e=.returned (.bool (eqN d1 d2))∧Ext w1 w2):=fun w1 X2=>HFs.out d1 d2 vk vl w1 hs1.1 hlr.out.2.1 (X.out.trans X2) (hd1.mono (vp_ext X2)) (hd2.mono (vp_ext X2))
  have E1:Hid ((eqN d1 d2 && eqN rt st)=R):=hE.out
  have q1:wr.cell? ⟨bb,oo + i,none⟩=some vk:=by have:=(vp_some (hcx 0 vk rfl)).2; rwa [show oo + i * szK 2 + 0=oo + i from (congrArg (oo + ·) (Nat.mul_one i))] at this
  have q2:wr.cell? ⟨bc,oc + i,none⟩=some vl:=by have:=(vp_some (hcy 0 vl rfl)).2; rwa [show oc + i * szK 2 + 0=oc + i from (congrArg (oc + ·) (Nat.mul_one i))] at this
  have LS:Hid (Lp (vp p wr) (some ⟨bb,oo,none⟩) N 2 (i + 1) rt):=L'
  have MS:Hid (Lp (vp q wr) (some ⟨bc,oc,none⟩) N 2 (i + 1) st):=M'
  generalize eqN d1 d2=e at HE E1
  clear hnx hny hcx hcy L' M' L M hE hrz hlr HFs hd1 hd2
  go_wp2_with fail
  simp only [hK _ _]
  go_wp2_with fail
  refine (HE.out _ (Ext.refl _)).mono ?_
  rintro e6 w6 ⟨rfl,x6⟩
  have X6:=Lib.hid x6
  cases e
  ·obtain rfl:R=false:=E1.out.symm
   go_wp2_with fail
   go_ret
   exact ⟨rfl,X.out.trans X6.out⟩
  ·have E2:Hid (eqN rt st=R):=E1.out
   go_wp2_with fail
   go_roundw
   case rel=>exact ⟨i + 1,rt,st,by first | rfl | (rw [hwi]; rfl),LS.out.mono (vp_ext X6.out),MS.out.mono (vp_ext X6.out),X.out.trans X6.out,E2,hs1.2,HL1⟩
   case measure=>(try rw [hwi]); rw [iof_succ,iof_nat]; exact Nat.sub_lt_sub_left hlt (Nat.lt_succ_self i)
end Go.Proofs.YtmmnhbhnjiajhaaGreatDoor.c
