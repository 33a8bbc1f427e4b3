/- Whether a list of nodes has one of a kind: contracts of slices.IndexFunc and slices.ContainsFunc, given the contract of the function that is passed. Condition: it answers as a plain function does. Which expressions, statements and blocks are right: contracts for lists of fewer than so many nodes; the function that is passed to slices.ContainsFunc. The table strings.asciiSpace holds what its text lays. -/
import Derived.Test.YtobfbfbjccmbiaaGreatDoorVd
import Derived.Deep.LoopGhost
import Derived.Test.YtobfbfbjccmbiaaGreatDoorWa
namespace Go.Proofs.YtobfbfbjccmbiaaGreatDoor.c
open Go.RowKit
set_option linter.unusedVariables false
set_option maxRecDepth 100000
set_option maxHeartbeats 1600000
set_option linter.unusedSimpArgs false
theorem vp_ext {p:Nat → Prop} {w w':World} (x:Ext w w'):(vp p w).le (vp p w'):=vp_le fun b hb hl=>⟨hb,x.out.block b hl⟩
def anyN (F:Nd → Bool):Nd → Bool
 | .nil=>false
 | .ex o t n k a b tl=>F (.ex o t n k a b .nil) || anyN F tl
 | .st o n t a b c tl=>F (.st o n t a b c .nil) || anyN F tl
 | .bl b tl=>F (.bl b .nil) || anyN F tl
 | .ca l h b tl=>F (.ca l h b .nil) || anyN F tl
 | .pa n t k tl=>F (.pa n t k .nil) || anyN F tl
 | .de f n p t v b tl=>F (.de f n p t v b .nil) || anyN F tl
theorem any_step {F:Nd → Bool} {x:Nd} (h:0 < x.len):anyN F x=(F x.hd || anyN F x.tl):=by
 cases x <;> first | rfl | simp [Nd.len] at h
theorem idx_E (x:Nd) (F:Nd → Bool) (K:FuncId) (hK:Enters K) (w:World) (v:Value) (p:Nat → Prop) (hz:x.sz ≤ 4611686018427387904) (hsl:Sl (vp p w) v x 0) (HF:∀ y cs w1,y.sz ≤ x.sz → y.len=1 → Ext w w1 → Nv (vp p w1) 0 y cs → Calls Tryz.prog K #[.agg cs] w1 fun e w2=>e=.returned (.bool (F y))∧Ext w1 w2):Calls Tryz.prog 165 #[v,.func (.func K) #[] #[]] w fun e w2=>∃ i:Int,e=.returned (.int .i64 i)∧decide (0 ≤ i)=anyN F x∧Ext w w2:=by
 have HX:Hid ((Tryz.prog.info? 44).map (·.size)=some 10):=by unfold Hid; kernel_rfl
 have HFs:=Lib.hid HF
 obtain ⟨A,c,rfl,la⟩:=hsl.lp
 have hxl:=len_sz x
 have L0:=Lib.hid la
 have X0:Hid (Ext w w):=Ext.refl w
 generalize hN:x.len=N at *
 have hN1:N ≤ 4611686018427387904:=by omega
 clear la hsl HF hxl
 go_enter Tryz.func165,Tryz.ntmps165
 go_wp2_with fail
 go_loopw [8] (fun u wr=>∃ (i:Nat) (r:Nd),u=.int .i64 i∧Hid (Lp (vp p wr) A N 0 i r)∧Hid (Ext w wr)∧Hid (anyN F r=anyN F x)∧r.sz ≤ x.sz) (fun u _=>N - (intOf u).toNat)
 case atStart=>exact ⟨0,x,rfl,L0,X0,rfl,Nat.le_refl _⟩
 case round =>
  clear L0 X0
  obtain ⟨i,r,rfl,L,X,hE,hrz⟩:=hrel
  by_cases hlt:i < N
  ·have hrl:0 < r.len:=by have:=L.out.1; omega
   have hltI:(i:Int) < (N:Int):=by omega
   have hwi:wrap64 ((i:Int) + 1)=(i:Int) + 1:=IntWalk.wrap64_in _ (by omega)
   have hss:=hd_sz hrl
   obtain ⟨bb,o,ds,rfl,hnv,hc,L'⟩:=L.out.step hlt
   have E1:Hid ((F r.hd || anyN F r.tl)=anyN F x):=(any_step hrl).symm.trans hE.out
   have NV:=Lib.hid hnv
   have HC:=Lib.hid hc
   have LS:=Lib.hid L'
   have hs1:r.hd.sz ≤ x.sz∧r.tl.sz ≤ x.sz:=by omega
   have hr1:=hd_len hrl
   generalize r.hd=rh at *
   generalize r.tl=rt at *
   clear hnv hc L' L hE hrz hrl hss
   obtain ⟨fv,hfv⟩:∃ fv,F rh=fv:=⟨_,rfl⟩
   have HV:=Lib.hid hfv
   clear hfv
   go_wp2_with (first
    | ((with_reducible show wpList _ _ _ (Oper.mk (some 15) (.load 44 (.tmp 14)) _ _ _ _ :: _) _ _); refine wpList_load_mid rfl _ _ rfl _ _ rfl ds.toList _ (fun j v hv=>(vp_some (HC.out j v hv)).2) Tryz.underlying44 rfl (by rw [Array.length_toList,show ds.size=10 from NV.out.size]; exact HX.out) ?_; rw [Array.toArray_toList]))
   simp only [hK _ _]
   go_wp2_with fail
   refine (HFs.out rh ds wr hs1.1 hr1 X.out NV.out).mono ?_
   rw [HV.out]
   rintro e w6 ⟨rfl,x6⟩
   cases fv
   ·go_wp2_with fail
    go_roundw
    case rel=>exact ⟨i + 1,rt,by first | rfl | (rw [hwi]; rfl),LS.out.mono (vp_ext x6),X.out.trans x6,by have:=E1.out; rw [HV.out] at this; exact this,hs1.2⟩
    case measure=>(try rw [hwi]); rw [iof_succ,iof_nat]; exact Nat.sub_lt_sub_left hlt (Nat.lt_succ_self i)
   ·go_wp2_with fail
    go_ret
    exact ⟨i,rfl,by rw [← E1.out,HV.out,Bool.true_or]; exact decide_eq_true (by omega),X.out.trans x6⟩
  ·obtain rfl:=L.out.fin hlt
   have hltI:¬ (i:Int) < (N:Int):=by omega
   go_wp2_with fail
   go_ret
   exact ⟨-1,rfl,by rw [← hE.out]; rfl,X.out⟩
theorem cont_E (x:Nd) (F:Nd → Bool) (K:FuncId) (hK:Enters K) (w:World) (v:Value) (p:Nat → Prop) (hz:x.sz ≤ 4611686018427387904) (hsl:Sl (vp p w) v x 0) (HF:∀ y cs w1,y.sz ≤ x.sz → y.len=1 → Ext w w1 → Nv (vp p w1) 0 y cs → Calls Tryz.prog K #[.agg cs] w1 fun e w2=>e=.returned (.bool (F y))∧Ext w1 w2):Calls Tryz.prog 125 #[v,.func (.func K) #[] #[]] w fun e w2=>e=.returned (.bool (anyN F x))∧Ext w w2:=by
 have HI:=Lib.hid (idx_E x F K hK w v p hz hsl HF)
 generalize anyN F x=r at *
 clear hsl HF hz
 go_enter Tryz.func125,Tryz.ntmps125
 go_wp2_with (first
  | (go_at_call 165; refine HI.out.mono ?_; rintro e w1 ⟨i,rfl,hi,x1⟩))
 all_goals
  go_ret
  exact ⟨by first | rfl | exact ret_bool hi,exA⟩
theorem idx_S (x:Nd) (F:Nd → Bool) (K:FuncId) (hK:Enters K) (w:World) (v:Value) (p:Nat → Prop) (hz:x.sz ≤ 4611686018427387904) (hsl:Sl (vp p w) v x 1) (HF:∀ y cs w1,y.sz ≤ x.sz → y.len=1 → Ext w w1 → Nv (vp p w1) 1 y cs → Calls Tryz.prog K #[.agg cs] w1 fun e w2=>e=.returned (.bool (F y))∧Ext w1 w2):Calls Tryz.prog 156 #[v,.func (.func K) #[] #[]] w fun e w2=>∃ i:Int,e=.returned (.int .i64 i)∧decide (0 ≤ i)=anyN F x∧Ext w w2:=by
 have HX:Hid ((Tryz.prog.info? 100).map (·.size)=some 10):=by unfold Hid; kernel_rfl
 have HFs:=Lib.hid HF
 obtain ⟨A,c,rfl,la⟩:=hsl.lp
 have hxl:=len_sz x
 have L0:=Lib.hid la
 have X0:Hid (Ext w w):=Ext.refl w
 generalize hN:x.len=N at *
 have hN1:N ≤ 4611686018427387904:=by omega
 clear la hsl HF hxl
 go_enter Tryz.func156,Tryz.ntmps156
 go_wp2_with fail
 go_loopw [8] (fun u wr=>∃ (i:Nat) (r:Nd),u=.int .i64 i∧Hid (Lp (vp p wr) A N 1 i r)∧Hid (Ext w wr)∧Hid (anyN F r=anyN F x)∧r.sz ≤ x.sz) (fun u _=>N - (intOf u).toNat)
 case atStart=>exact ⟨0,x,rfl,L0,X0,rfl,Nat.le_refl _⟩
 case round =>
  clear L0 X0
  obtain ⟨i,r,rfl,L,X,hE,hrz⟩:=hrel
  by_cases hlt:i < N
  ·have hrl:0 < r.len:=by have:=L.out.1; omega
   have hltI:(i:Int) < (N:Int):=by omega
   have hwi:wrap64 ((i:Int) + 1)=(i:Int) + 1:=IntWalk.wrap64_in _ (by omega)
   have hss:=hd_sz hrl
   obtain ⟨bb,o,ds,rfl,hnv,hc,L'⟩:=L.out.step hlt
   have E1:Hid ((F r.hd || anyN F r.tl)=anyN F x):=(any_step hrl).symm.trans hE.out
   have NV:=Lib.hid hnv
   have HC:=Lib.hid hc
   have LS:=Lib.hid L'
   have hs1:r.hd.sz ≤ x.sz∧r.tl.sz ≤ x.sz:=by omega
   have hr1:=hd_len hrl
   generalize r.hd=rh at *
   generalize r.tl=rt at *
   clear hnv hc L' L hE hrz hrl hss
   obtain ⟨fv,hfv⟩:∃ fv,F rh=fv:=⟨_,rfl⟩
   have HV:=Lib.hid hfv
   clear hfv
   go_wp2_with (first
    | ((with_reducible show wpList _ _ _ (Oper.mk (some 15) (.load 100 (.tmp 14)) _ _ _ _ :: _) _ _); refine wpList_load_mid rfl _ _ rfl _ _ rfl ds.toList _ (fun j v hv=>(vp_some (HC.out j v hv)).2) Tryz.underlying100 rfl (by rw [Array.length_toList,show ds.size=10 from NV.out.size]; exact HX.out) ?_; rw [Array.toArray_toList]))
   simp only [hK _ _]
   go_wp2_with fail
   refine (HFs.out rh ds wr hs1.1 hr1 X.out NV.out).mono ?_
   rw [HV.out]
   rintro e w6 ⟨rfl,x6⟩
   cases fv
   ·go_wp2_with fail
    go_roundw
    case rel=>exact ⟨i + 1,rt,by first | rfl | (rw [hwi]; rfl),LS.out.mono (vp_ext x6),X.out.trans x6,by have:=E1.out; rw [HV.out] at this; exact this,hs1.2⟩
    case measure=>(try rw [hwi]); rw [iof_succ,iof_nat]; exact Nat.sub_lt_sub_left hlt (Nat.lt_succ_self i)
   ·go_wp2_with fail
    go_ret
    exact ⟨i,rfl,by rw [← E1.out,HV.out,Bool.true_or]; exact decide_eq_true (by omega),X.out.trans x6⟩
  ·obtain rfl:=L.out.fin hlt
   have hltI:¬ (i:Int) < (N:Int):=by omega
   go_wp2_with fail
   go_ret
   exact ⟨-1,rfl,by rw [← hE.out]; rfl,X.out⟩
theorem cont_S (x:Nd) (F:Nd → Bool) (K:FuncId) (hK:Enters K) (w:World) (v:Value) (p:Nat → Prop) (hz:x.sz ≤ 4611686018427387904) (hsl:Sl (vp p w) v x 1) (HF:∀ y cs w1,y.sz ≤ x.sz → y.len=1 → Ext w w1 → Nv (vp p w1) 1 y cs → Calls Tryz.prog K #[.agg cs] w1 fun e w2=>e=.returned (.bool (F y))∧Ext w1 w2):Calls Tryz.prog 119 #[v,.func (.func K) #[] #[]] w fun e w2=>e=.returned (.bool (anyN F x))∧Ext w w2:=by
 have HI:=Lib.hid (idx_S x F K hK w v p hz hsl HF)
 generalize anyN F x=r at *
 clear hsl HF hz
 go_enter Tryz.func119,Tryz.ntmps119
 go_wp2_with (first
  | (go_at_call 156; refine HI.out.mono ?_; rintro e w1 ⟨i,rfl,hi,x1⟩))
 all_goals
  go_ret
  exact ⟨by first | rfl | exact ret_bool hi,exA⟩
theorem idx_B (x:Nd) (F:Nd → Bool) (K:FuncId) (hK:Enters K) (w:World) (v:Value) (p:Nat → Prop) (hz:x.sz ≤ 4611686018427387904) (hsl:Sl (vp p w) v x 2) (HF:∀ y vk w1,y.sz < x.sz → Ext w w1 → Sl (vp p w1) vk y 1 → Calls Tryz.prog K #[vk] w1 fun e w2=>e=.returned (.bool (F (.bl y .nil)))∧Ext w1 w2):Calls Tryz.prog 188 #[v,.func (.func K) #[] #[]] w fun e w2=>∃ i:Int,e=.returned (.int .i64 i)∧decide (0 ≤ i)=anyN F x∧Ext w w2:=by
 have HFs:=Lib.hid HF
 obtain ⟨A,c,rfl,la⟩:=hsl.lp
 have hxl:=len_sz x
 have L0:=Lib.hid la
 have X0:Hid (Ext w w):=Ext.refl w
 generalize hN:x.len=N at *
 have hN1:N ≤ 4611686018427387904:=by omega
 clear la hsl HF hxl
 go_enter Tryz.func188,Tryz.ntmps188
 go_wp2_with fail
 go_loopw [8] (fun u wr=>∃ (i:Nat) (r:Nd),u=.int .i64 i∧Hid (Lp (vp p wr) A N 2 i r)∧Hid (Ext w wr)∧Hid (anyN F r=anyN F x)∧r.sz ≤ x.sz) (fun u _=>N - (intOf u).toNat)
 case atStart=>exact ⟨0,x,rfl,L0,X0,rfl,Nat.le_refl _⟩
 case round =>
  clear L0 X0
  obtain ⟨i,r,rfl,L,X,hE,hrz⟩:=hrel
  by_cases hlt:i < N
  ·have hrl:0 < r.len:=by have:=L.out.1; omega
   have hltI:(i:Int) < (N:Int):=by omega
   have hwi:wrap64 ((i:Int) + 1)=(i:Int) + 1:=IntWalk.wrap64_in _ (by omega)
   have hss:=hd_sz hrl
   obtain ⟨body,rt,rfl⟩:∃ b r',r=.bl b r':=by
    obtain ⟨_,ys,_,_,he⟩:=L.out
    exact he.bl1 hrl
   obtain ⟨bb,o,xs,rfl,hnv,hc,L'⟩:=L.out.step hlt
   obtain ⟨vk,rfl,hbody⟩:=nv_blI hnv
   have qk:wr.cell? ⟨bb,o + i,none⟩=some vk:=by have:=(vp_some (hc 0 vk rfl)).2; rwa [show o + i * szK 2 + 0=o + i from (congrArg (o + ·) (Nat.mul_one i))] at this
   have E1:Hid ((F (.bl body .nil) || anyN F rt)=anyN F x):=hE.out
   have LS:Hid (Lp (vp p wr) (some ⟨bb,o,none⟩) N 2 (i + 1) rt):=L'
   have HB:=Lib.hid hbody
   have hs1:body.sz < x.sz∧rt.sz ≤ x.sz:=by simp only [Nd.sz] at hrz; omega
   clear hnv hc L' L hE hrz hrl hss hbody
   obtain ⟨fv,hfv⟩:∃ fv,F (.bl body .nil)=fv:=⟨_,rfl⟩
   have HV:=Lib.hid hfv
   clear hfv
   go_wp2_with fail
   simp only [hK _ _]
   go_wp2_with fail
   refine (HFs.out body vk wr hs1.1 X.out HB.out).mono ?_
   rw [HV.out]
   rintro e w6 ⟨rfl,x6⟩
   cases fv
   ·go_wp2_with fail
    go_roundw
    case rel=>exact ⟨i + 1,rt,by first | rfl | (rw [hwi]; rfl),LS.out.mono (vp_ext x6),X.out.trans x6,by have:=E1.out; rw [HV.out] at this; exact this,hs1.2⟩
    case measure=>(try rw [hwi]); rw [iof_succ,iof_nat]; exact Nat.sub_lt_sub_left hlt (Nat.lt_succ_self i)
   ·go_wp2_with fail
    go_ret
    exact ⟨i,rfl,by rw [← E1.out,HV.out,Bool.true_or]; exact decide_eq_true (by omega),X.out.trans x6⟩
  ·obtain rfl:=L.out.fin hlt
   have hltI:¬ (i:Int) < (N:Int):=by omega
   go_wp2_with fail
   go_ret
   exact ⟨-1,rfl,by rw [← hE.out]; rfl,X.out⟩
theorem cont_B (x:Nd) (F:Nd → Bool) (K:FuncId) (hK:Enters K) (w:World) (v:Value) (p:Nat → Prop) (hz:x.sz ≤ 4611686018427387904) (hsl:Sl (vp p w) v x 2) (HF:∀ y vk w1,y.sz < x.sz → Ext w w1 → Sl (vp p w1) vk y 1 → Calls Tryz.prog K #[vk] w1 fun e w2=>e=.returned (.bool (F (.bl y .nil)))∧Ext w1 w2):Calls Tryz.prog 160 #[v,.func (.func K) #[] #[]] w fun e w2=>e=.returned (.bool (anyN F x))∧Ext w w2:=by
 have HI:=Lib.hid (idx_B x F K hK w v p hz hsl HF)
 generalize anyN F x=r at *
 clear hsl HF hz
 go_enter Tryz.func160,Tryz.ntmps160
 go_wp2_with (first
  | (go_at_call 188; refine HI.out.mono ?_; rintro e w1 ⟨i,rfl,hi,x1⟩))
 all_goals
  go_ret
  exact ⟨by first | rfl | exact ret_bool hi,exA⟩
theorem idx_P (x:Nd) (F:Nd → Bool) (K:FuncId) (hK:Enters K) (w:World) (v:Value) (p:Nat → Prop) (hz:x.sz ≤ 4611686018427387904) (hsl:Sl (vp p w) v x 4) (HF:∀ y cs w1,y.sz ≤ x.sz → y.len=1 → Ext w w1 → Nv (vp p w1) 4 y cs → Calls Tryz.prog K #[.agg cs] w1 fun e w2=>e=.returned (.bool (F y))∧Ext w1 w2):Calls Tryz.prog 122 #[v,.func (.func K) #[] #[]] w fun e w2=>∃ i:Int,e=.returned (.int .i64 i)∧decide (0 ≤ i)=anyN F x∧Ext w w2:=by
 have HX:Hid ((Tryz.prog.info? 104).map (·.size)=some 7):=by unfold Hid; kernel_rfl
 have HFs:=Lib.hid HF
 obtain ⟨A,c,rfl,la⟩:=hsl.lp
 have hxl:=len_sz x
 have L0:=Lib.hid la
 have X0:Hid (Ext w w):=Ext.refl w
 generalize hN:x.len=N at *
 have hN1:N ≤ 4611686018427387904:=by omega
 clear la hsl HF hxl
 go_enter Tryz.func122,Tryz.ntmps122
 go_wp2_with fail
 go_loopw [8] (fun u wr=>∃ (i:Nat) (r:Nd),u=.int .i64 i∧Hid (Lp (vp p wr) A N 4 i r)∧Hid (Ext w wr)∧Hid (anyN F r=anyN F x)∧r.sz ≤ x.sz) (fun u _=>N - (intOf u).toNat)
 case atStart=>exact ⟨0,x,rfl,L0,X0,rfl,Nat.le_refl _⟩
 case round =>
  clear L0 X0
  obtain ⟨i,r,rfl,L,X,hE,hrz⟩:=hrel
  by_cases hlt:i < N
  ·have hrl:0 < r.len:=by have:=L.out.1; omega
   have hltI:(i:Int) < (N:Int):=by omega
   have hwi:wrap64 ((i:Int) + 1)=(i:Int) + 1:=IntWalk.wrap64_in _ (by omega)
   have hss:=hd_sz hrl
   obtain ⟨bb,o,ds,rfl,hnv,hc,L'⟩:=L.out.step hlt
   have E1:Hid ((F r.hd || anyN F r.tl)=anyN F x):=(any_step hrl).symm.trans hE.out
   have NV:=Lib.hid hnv
   have HC:=Lib.hid hc
   have LS:=Lib.hid L'
   have hs1:r.hd.sz ≤ x.sz∧r.tl.sz ≤ x.sz:=by omega
   have hr1:=hd_len hrl
   generalize r.hd=rh at *
   generalize r.tl=rt at *
   clear hnv hc L' L hE hrz hrl hss
   obtain ⟨fv,hfv⟩:∃ fv,F rh=fv:=⟨_,rfl⟩
   have HV:=Lib.hid hfv
   clear hfv
   go_wp2_with (first
    | ((with_reducible show wpList _ _ _ (Oper.mk (some 15) (.load 104 (.tmp 14)) _ _ _ _ :: _) _ _); refine wpList_load_mid rfl _ _ rfl _ _ rfl ds.toList _ (fun j v hv=>(vp_some (HC.out j v hv)).2) Tryz.underlying104 rfl (by rw [Array.length_toList,show ds.size=7 from NV.out.size]; exact HX.out) ?_; rw [Array.toArray_toList]))
   simp only [hK _ _]
   go_wp2_with fail
   refine (HFs.out rh ds wr hs1.1 hr1 X.out NV.out).mono ?_
   rw [HV.out]
   rintro e w6 ⟨rfl,x6⟩
   cases fv
   ·go_wp2_with fail
    go_roundw
    case rel=>exact ⟨i + 1,rt,by first | rfl | (rw [hwi]; rfl),LS.out.mono (vp_ext x6),X.out.trans x6,by have:=E1.out; rw [HV.out] at this; exact this,hs1.2⟩
    case measure=>(try rw [hwi]); rw [iof_succ,iof_nat]; exact Nat.sub_lt_sub_left hlt (Nat.lt_succ_self i)
   ·go_wp2_with fail
    go_ret
    exact ⟨i,rfl,by rw [← E1.out,HV.out,Bool.true_or]; exact decide_eq_true (by omega),X.out.trans x6⟩
  ·obtain rfl:=L.out.fin hlt
   have hltI:¬ (i:Int) < (N:Int):=by omega
   go_wp2_with fail
   go_ret
   exact ⟨-1,rfl,by rw [← hE.out]; rfl,X.out⟩
theorem cont_P (x:Nd) (F:Nd → Bool) (K:FuncId) (hK:Enters K) (w:World) (v:Value) (p:Nat → Prop) (hz:x.sz ≤ 4611686018427387904) (hsl:Sl (vp p w) v x 4) (HF:∀ y cs w1,y.sz ≤ x.sz → y.len=1 → Ext w w1 → Nv (vp p w1) 4 y cs → Calls Tryz.prog K #[.agg cs] w1 fun e w2=>e=.returned (.bool (F y))∧Ext w1 w2):Calls Tryz.prog 78 #[v,.func (.func K) #[] #[]] w fun e w2=>e=.returned (.bool (anyN F x))∧Ext w w2:=by
 have HI:=Lib.hid (idx_P x F K hK w v p hz hsl HF)
 generalize anyN F x=r at *
 clear hsl HF hz
 go_enter Tryz.func78,Tryz.ntmps78
 go_wp2_with (first
  | (go_at_call 122; refine HI.out.mono ?_; rintro e w1 ⟨i,rfl,hi,x1⟩))
 all_goals
  go_ret
  exact ⟨by first | rfl | exact ret_bool hi,exA⟩
theorem idx_D (x:Nd) (F:Nd → Bool) (K:FuncId) (hK:Enters K) (w:World) (v:Value) (p:Nat → Prop) (hz:x.sz ≤ 4611686018427387904) (hsl:Sl (vp p w) v x 5) (HF:∀ y cs w1,y.sz ≤ x.sz → y.len=1 → Ext w w1 → Nv (vp p w1) 5 y cs → Calls Tryz.prog K #[.agg cs] w1 fun e w2=>e=.returned (.bool (F y))∧Ext w1 w2):Calls Tryz.prog 75 #[v,.func (.func K) #[] #[]] w fun e w2=>∃ i:Int,e=.returned (.int .i64 i)∧decide (0 ≤ i)=anyN F x∧Ext w w2:=by
 have HX:Hid ((Tryz.prog.info? 47).map (·.size)=some 19):=by unfold Hid; kernel_rfl
 have HFs:=Lib.hid HF
 obtain ⟨A,c,rfl,la⟩:=hsl.lp
 have hxl:=len_sz x
 have L0:=Lib.hid la
 have X0:Hid (Ext w w):=Ext.refl w
 generalize hN:x.len=N at *
 have hN1:N ≤ 4611686018427387904:=by omega
 clear la hsl HF hxl
 go_enter Tryz.func75,Tryz.ntmps75
 go_wp2_with fail
 go_loopw [8] (fun u wr=>∃ (i:Nat) (r:Nd),u=.int .i64 i∧Hid (Lp (vp p wr) A N 5 i r)∧Hid (Ext w wr)∧Hid (anyN F r=anyN F x)∧r.sz ≤ x.sz) (fun u _=>N - (intOf u).toNat)
 case atStart=>exact ⟨0,x,rfl,L0,X0,rfl,Nat.le_refl _⟩
 case round =>
  clear L0 X0
  obtain ⟨i,r,rfl,L,X,hE,hrz⟩:=hrel
  by_cases hlt:i < N
  ·have hrl:0 < r.len:=by have:=L.out.1; omega
   have hltI:(i:Int) < (N:Int):=by omega
   have hwi:wrap64 ((i:Int) + 1)=(i:Int) + 1:=IntWalk.wrap64_in _ (by omega)
   have hss:=hd_sz hrl
   obtain ⟨bb,o,ds,rfl,hnv,hc,L'⟩:=L.out.step hlt
   have E1:Hid ((F r.hd || anyN F r.tl)=anyN F x):=(any_step hrl).symm.trans hE.out
   have NV:=Lib.hid hnv
   have HC:=Lib.hid hc
   have LS:=Lib.hid L'
   have hs1:r.hd.sz ≤ x.sz∧r.tl.sz ≤ x.sz:=by omega
   have hr1:=hd_len hrl
   generalize r.hd=rh at *
   generalize r.tl=rt at *
   clear hnv hc L' L hE hrz hrl hss
   obtain ⟨fv,hfv⟩:∃ fv,F rh=fv:=⟨_,rfl⟩
   have HV:=Lib.hid hfv
   clear hfv
   go_wp2_with (first
    | ((with_reducible show wpList _ _ _ (Oper.mk (some 15) (.load 47 (.tmp 14)) _ _ _ _ :: _) _ _); refine wpList_load_mid rfl _ _ rfl _ _ rfl ds.toList _ (fun j v hv=>(vp_some (HC.out j v hv)).2) Tryz.underlying47 rfl (by rw [Array.length_toList,show ds.size=19 from NV.out.size]; exact HX.out) ?_; rw [Array.toArray_toList]))
   simp only [hK _ _]
   go_wp2_with fail
   refine (HFs.out rh ds wr hs1.1 hr1 X.out NV.out).mono ?_
   rw [HV.out]
   rintro e w6 ⟨rfl,x6⟩
   cases fv
   ·go_wp2_with fail
    go_roundw
    case rel=>exact ⟨i + 1,rt,by first | rfl | (rw [hwi]; rfl),LS.out.mono (vp_ext x6),X.out.trans x6,by have:=E1.out; rw [HV.out] at this; exact this,hs1.2⟩
    case measure=>(try rw [hwi]); rw [iof_succ,iof_nat]; exact Nat.sub_lt_sub_left hlt (Nat.lt_succ_self i)
   ·go_wp2_with fail
    go_ret
    exact ⟨i,rfl,by rw [← E1.out,HV.out,Bool.true_or]; exact decide_eq_true (by omega),X.out.trans x6⟩
  ·obtain rfl:=L.out.fin hlt
   have hltI:¬ (i:Int) < (N:Int):=by omega
   go_wp2_with fail
   go_ret
   exact ⟨-1,rfl,by rw [← hE.out]; rfl,X.out⟩
theorem cont_D (x:Nd) (F:Nd → Bool) (K:FuncId) (hK:Enters K) (w:World) (v:Value) (p:Nat → Prop) (hz:x.sz ≤ 4611686018427387904) (hsl:Sl (vp p w) v x 5) (HF:∀ y cs w1,y.sz ≤ x.sz → y.len=1 → Ext w w1 → Nv (vp p w1) 5 y cs → Calls Tryz.prog K #[.agg cs] w1 fun e w2=>e=.returned (.bool (F y))∧Ext w1 w2):Calls Tryz.prog 42 #[v,.func (.func K) #[] #[]] w fun e w2=>e=.returned (.bool (anyN F x))∧Ext w w2:=by
 have HI:=Lib.hid (idx_D x F K hK w v p hz hsl HF)
 generalize anyN F x=r at *
 clear hsl HF hz
 go_enter Tryz.func42,Tryz.ntmps42
 go_wp2_with (first
  | (go_at_call 75; refine HI.out.mono ?_; rintro e w1 ⟨i,rfl,hi,x1⟩))
 all_goals
  go_ret
  exact ⟨by first | rfl | exact ret_bool hi,exA⟩
theorem run_tz_neq (t:Ty) (w:World):(binOp .neq 30 (.agg #[.int .i64 t.base,.int .i64 t.bits,.string t.name,.bool t.opt,.bool t.err]) (.agg #[.int .i64 0,.int .i64 0,.string ⟨#[]⟩,.bool false,.bool false])).run Tryz.prog w=.ok (.bool (!tz t)) w:=by
 obtain ⟨a,b,n,o,e⟩:=t
 go_simp
 unfold tz emp
 by_cases h1:a=0
 ·by_cases h2:b=0
  ·by_cases h3:n.toList=[]
   ·cases o <;> cases e <;> simp [h1,h2,h3]
   ·simp [h1,h2,h3]
  ·simp [h1,h2]
 ·simp [h1]
theorem any_vd:∀ x:Nd,anyN (fun y=>!vd y) x=!vd x
 | .nil=>rfl
 | .ex o t n k a b tl=>by simp [anyN,vd,any_vd tl,Bool.not_and]
 | .st o n t a b c tl=>by simp [anyN,vd,any_vd tl,Bool.not_and]
 | .bl b tl=>by simp [anyN,vd,any_vd tl,Bool.not_and]
 | .ca l h b tl=>by simp [anyN,vd,any_vd tl,Bool.not_and]
 | .pa n t k tl=>by simp [anyN,vd,any_vd tl,Bool.not_and]
 | .de f n p t v b tl=>by simp [anyN,vd,any_vd tl,Bool.not_and]
def VX (n:Nat):Prop:=∀ (x:Nd),x.sz < n → x.len=1 → ∀ (w:World) (cs:Array Value) (p:Nat → Prop),Laid w → Nv (vp p w) 0 x cs → Calls Tryz.prog 82 #[.agg cs] w fun e w'=>e=.returned (.bool (vd x))∧Ext w w'
def VS (n:Nat):Prop:=∀ (x:Nd),x.sz < n → x.len=1 → ∀ (w:World) (cs:Array Value) (p:Nat → Prop),Laid w → Nv (vp p w) 1 x cs → Calls Tryz.prog 121 #[.agg cs] w fun e w'=>e=.returned (.bool (vd x))∧Ext w w'
def VB (n:Nat):Prop:=∀ (x:Nd),x.sz < n → ∀ (w:World) (v:Value) (p:Nat → Prop),Laid w → Sl (vp p w) v x 1 → Calls Tryz.prog 77 #[v] w fun e w'=>e=.returned (.bool (vd x))∧Ext w w'
theorem clo_x1 {n:Nat} (h:VX n) (x:Nd) (hx:x.sz < n) (h1:x.len=1) (w:World) (cs:Array Value) (p:Nat → Prop) (g:Laid w) (hnv:Nv (vp p w) 0 x cs):Calls Tryz.prog 126 #[.agg cs] w fun e w'=>e=.returned (.bool (!vd x))∧Ext w w':=by
 have HI:Hid (∀ w1,Ext w w1 → Calls Tryz.prog 82 #[.agg cs] w1 fun e w'=>e=.returned (.bool (vd x))∧Ext w1 w'):=fun w1 X=>h x hx h1 w1 cs p (g.ext X) (hnv.mono (vp_ext X))
 obtain rfl | ⟨op,ty,nm,k,a,b,r,rfl⟩:=hnv.1.ex
 ·cases h1
 obtain rfl:r=.nil:=tl_one h1
 obtain ⟨va,vb,rfl,ha,hb⟩:=nv_exI hnv
 obtain ⟨A1,c1,rfl,_⟩:=ha.lp
 obtain ⟨A2,c2,rfl,_⟩:=hb.lp
 generalize vd (.ex op ty nm k a b .nil)=q at HI ⊢
 clear hnv ha hb hx h1 h g
 go_enter Tryz.func126,Tryz.ntmps126
 go_wp2_with (first
  | (go_at_call 82; refine (HI.out _ ((Ext.refl w).alloc _)).mono ?_; rintro e w1 ⟨rfl,x1⟩))
 go_ret
 exact ⟨rfl,exA⟩
theorem has_x1 {n:Nat} (hn:n ≤ 4611686018427387904) (h:VX n) (a:Nd) (ha:a.sz < n) (w:World) (v:Value) (p:Nat → Prop) (g:Laid w) (hsl:Sl (vp p w) v a 0):Calls Tryz.prog 125 #[v,.func (.func 126) #[] #[]] w fun e w'=>e=.returned (.bool (!vd a))∧Ext w w':=by
 rw [← any_vd]
 exact cont_E a (fun y=>!vd y) _ (Enters.of Tryz.func126 (by kernel_rfl) (by kernel_rfl)) w v p (by omega) hsl fun y cs w1 h2 h3 X N=>clo_x1 h y (by omega) h3 w1 cs p (g.ext X) N
theorem clo_s1 {n:Nat} (h:VX n) (x:Nd) (hx:x.sz < n) (h1:x.len=1) (w:World) (cs:Array Value) (p:Nat → Prop) (g:Laid w) (hnv:Nv (vp p w) 0 x cs):Calls Tryz.prog 159 #[.agg cs] w fun e w'=>e=.returned (.bool (!vd x))∧Ext w w':=by
 have HI:Hid (∀ w1,Ext w w1 → Calls Tryz.prog 82 #[.agg cs] w1 fun e w'=>e=.returned (.bool (vd x))∧Ext w1 w'):=fun w1 X=>h x hx h1 w1 cs p (g.ext X) (hnv.mono (vp_ext X))
 obtain rfl | ⟨op,ty,nm,k,a,b,r,rfl⟩:=hnv.1.ex
 ·cases h1
 obtain rfl:r=.nil:=tl_one h1
 obtain ⟨va,vb,rfl,ha,hb⟩:=nv_exI hnv
 obtain ⟨A1,c1,rfl,_⟩:=ha.lp
 obtain ⟨A2,c2,rfl,_⟩:=hb.lp
 generalize vd (.ex op ty nm k a b .nil)=q at HI ⊢
 clear hnv ha hb hx h1 h g
 go_enter Tryz.func159,Tryz.ntmps159
 go_wp2_with (first
  | (go_at_call 82; refine (HI.out _ ((Ext.refl w).alloc _)).mono ?_; rintro e w1 ⟨rfl,x1⟩))
 go_ret
 exact ⟨rfl,exA⟩
theorem has_s1 {n:Nat} (hn:n ≤ 4611686018427387904) (h:VX n) (a:Nd) (ha:a.sz < n) (w:World) (v:Value) (p:Nat → Prop) (g:Laid w) (hsl:Sl (vp p w) v a 0):Calls Tryz.prog 125 #[v,.func (.func 159) #[] #[]] w fun e w'=>e=.returned (.bool (!vd a))∧Ext w w':=by
 rw [← any_vd]
 exact cont_E a (fun y=>!vd y) _ (Enters.of Tryz.func159 (by kernel_rfl) (by kernel_rfl)) w v p (by omega) hsl fun y cs w1 h2 h3 X N=>clo_s1 h y (by omega) h3 w1 cs p (g.ext X) N
theorem clo_b1 {n:Nat} (h:VS n) (x:Nd) (hx:x.sz < n) (h1:x.len=1) (w:World) (cs:Array Value) (p:Nat → Prop) (g:Laid w) (hnv:Nv (vp p w) 1 x cs):Calls Tryz.prog 120 #[.agg cs] w fun e w'=>e=.returned (.bool (!vd x))∧Ext w w':=by
 have HI:Hid (∀ w1,Ext w w1 → Calls Tryz.prog 121 #[.agg cs] w1 fun e w'=>e=.returned (.bool (vd x))∧Ext w1 w'):=fun w1 X=>h x hx h1 w1 cs p (g.ext X) (hnv.mono (vp_ext X))
 obtain ⟨op,nm,ty,es,bs,cz,r,rfl⟩:=hnv.1.st1 (by omega)
 obtain rfl:r=.nil:=tl_one h1
 obtain ⟨va,vb,vc,rfl,ha,hb,hc⟩:=nv_stI hnv
 obtain ⟨A1,c1,rfl,_⟩:=ha.lp
 obtain ⟨A2,c2,rfl,_⟩:=hb.lp
 obtain ⟨A3,c3,rfl,_⟩:=hc.lp
 generalize vd (.st op nm ty es bs cz .nil)=q at HI ⊢
 clear hnv ha hb hc hx h1 h g
 go_enter Tryz.func120,Tryz.ntmps120
 go_wp2_with (first
  | (go_at_call 121; refine (HI.out _ ((Ext.refl w).alloc _)).mono ?_; rintro e w1 ⟨rfl,x1⟩))
 go_ret
 exact ⟨rfl,exA⟩
theorem has_b1 {n:Nat} (hn:n ≤ 4611686018427387904) (h:VS n) (a:Nd) (ha:a.sz < n) (w:World) (v:Value) (p:Nat → Prop) (g:Laid w) (hsl:Sl (vp p w) v a 1):Calls Tryz.prog 119 #[v,.func (.func 120) #[] #[]] w fun e w'=>e=.returned (.bool (!vd a))∧Ext w w':=by
 rw [← any_vd]
 exact cont_S a (fun y=>!vd y) _ (Enters.of Tryz.func120 (by kernel_rfl) (by kernel_rfl)) w v p (by omega) hsl fun y cs w1 h2 h3 X N=>clo_b1 h y (by omega) h3 w1 cs p (g.ext X) N
theorem clo_s2 {n:Nat} (h:VB n) (y:Nd) (hx:y.sz < n) (w:World) (v:Value) (p:Nat → Prop) (g:Laid w) (hsl:Sl (vp p w) v y 1):Calls Tryz.prog 161 #[v] w fun e w'=>e=.returned (.bool (!vd (.bl y .nil)))∧Ext w w':=by
 have HI:=Lib.hid (h y hx w v p g hsl)
 rw [show vd (.bl y .nil)=vd y from Bool.and_true _]
 obtain ⟨A1,c1,rfl,_⟩:=hsl.lp
 generalize vd y=q at HI ⊢
 clear hx h hsl g
 go_enter Tryz.func161,Tryz.ntmps161
 go_wp2_with (first
  | (go_at_call 77; refine HI.out.mono ?_; rintro e w1 ⟨rfl,x1⟩))
 go_ret
 exact ⟨rfl,exA⟩
theorem has_s2 {n:Nat} (hn:n ≤ 4611686018427387904) (h:VB n) (a:Nd) (ha:a.sz < n) (w:World) (v:Value) (p:Nat → Prop) (g:Laid w) (hsl:Sl (vp p w) v a 2):Calls Tryz.prog 160 #[v,.func (.func 161) #[] #[]] w fun e w'=>e=.returned (.bool (!vd a))∧Ext w w':=by
 rw [← any_vd]
 exact cont_B a (fun y=>!vd y) _ (Enters.of Tryz.func161 (by kernel_rfl) (by kernel_rfl)) w v p (by omega) hsl fun y vk w1 h2 X N=>clo_s2 h y (by omega) w1 vk p (g.ext X) N
theorem vb_step {n:Nat} (hn:n ≤ 4611686018427387904) (h:VS n):VB n:=by
 intro x hx w v p g hsl
 have HI:=Lib.hid (has_b1 hn h x hx w v p g hsl)
 obtain ⟨A1,c1,rfl,_⟩:=hsl.lp
 generalize vd x=q at HI ⊢
 clear hx h hsl g
 go_enter Tryz.func77,Tryz.ntmps77
 go_wp2_with (first
  | (go_at_call 119; refine HI.out.mono ?_; rintro e w1 ⟨rfl,x1⟩))
 go_ret
 exact ⟨by first | rfl | exact ret_bool (Bool.not_not _),exA⟩
end Go.Proofs.YtobfbfbjccmbiaaGreatDoor.c
