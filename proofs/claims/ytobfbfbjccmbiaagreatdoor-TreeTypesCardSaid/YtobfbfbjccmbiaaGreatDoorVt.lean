/- The law TreeTypes. The table strings.asciiSpace holds what its text lays; texts are no longer than memory reaches. -/
import Derived.Test.YtobfbfbjccmbiaaGreatDoorVr
import Derived.Test.YtobfbfbjccmbiaaGreatDoorVm
namespace Go.Proofs.YtobfbfbjccmbiaaGreatDoor.c
open Go.RowKit
set_option linter.unusedVariables false
set_option maxRecDepth 100000
set_option maxHeartbeats 3200000
set_option linter.unusedSimpArgs false
theorem txE_len (t:Ty):(⟨(txE t).1.toArray⟩:ByteArray).size ≤ 4611686018427387904:=by
 rw [ba_len]
 unfold txE
 by_cases h:isTypeS t=true
 ·rw [if_pos h]; exact Nat.le_trans (typeT_ok h).2.2 (by decide)
 ·rw [if_neg h]; exact Nat.zero_le _
theorem rdE_txE {t:Ty} (h:(txE t).2=0):rdE (txE t).1=(t,0):=by
 unfold txE at h ⊢
 by_cases ht:isTypeS t=true
 ·rw [if_pos ht]
  unfold rdE
  rw [rdT_typeT ht]
 ·rw [if_neg ht] at h; exact absurd h (by decide)
theorem txE_rdE {l:List UInt8} (h:(rdE l).2=0):txE (rdE l).1=(l,0):=by
 unfold rdE at h ⊢
 cases hr:rdT l with
 | none=>rw [hr] at h; exact absurd h (by decide)
 | some t =>
  obtain ⟨h1,h2⟩:=typeT_rdT hr
  unfold txE
  rw [if_pos h1,h2]
theorem tyv_cells {w:World} {b y:Nat} {t:Ty} (h:Blk w b y (tyA t)):w.cell? ⟨b,0,none⟩=some (.int .i64 t.base)∧w.cell? ⟨b,1,none⟩=some (.int .i64 t.bits)∧w.cell? ⟨b,2,none⟩=some (.string t.name)∧w.cell? ⟨b,3,none⟩=some (.bool t.opt)∧w.cell? ⟨b,4,none⟩=some (.bool t.err)∧b < w.heap.size :=
 ⟨h.cell 0,h.cell 1,h.cell 2,h.cell 3,h.cell 4,h.lt⟩
theorem types_any (t:Ty) (s:ByteArray) (w:World) (hs:s.size ≤ 4611686018427387904) (g:Laid w):Calls Tryz.prog 4 #[.agg #[.int .i64 t.base,.int .i64 t.bits,.string t.name,.bool t.opt,.bool t.err],.string s] w fun e w'=>e=.returned (.bool true)∧Ext w w':=by
 obtain ⟨a,et,hx⟩:∃ a e,txE t=(a,e):=⟨_,_,rfl⟩
 obtain ⟨c,gc,hr⟩:∃ a e,rdE s.data.toList=(a,e):=⟨_,_,rfl⟩
 have HA1:=fun w1 (x:Ext w w1)=>textE_any t w1 (g.ext x)
 have HA2:=fun w1=>rtextE_any t w1
 have HB1:=fun w1 (x:Ext w w1)=>readType_any s w1 hs (g.ext x)
 have HB2:=fun w1=>rreadType_any s w1 hs
 have HC1:=Lib.hid fun w1 (x:Ext w w1)=>validateType_any t.base t.bits t.name t.opt t.err w1 (g.ext x)
 have HC2:=Lib.hid fun w1=>refValidateType_any t.base t.bits t.name t.opt t.err w1
 have hsa:=txE_len t
 have hd1:=rdE_txE (t:=t)
 have hd2:=txE_rdE (l:=s.data.toList)
 rw [hx] at HA1 HA2 hsa hd1
 rw [hr] at HB1 HB2 hd2
 simp only at HA1 HA2 HB1 HB2 hsa hd1 hd2
 obtain ⟨Y,hY⟩:∃ Y:ByteArray,Y=⟨a.toArray⟩:=⟨_,rfl⟩
 have hYa:a=Y.data.toList:=by rw [hY]
 rw [← hY] at HA1 HA2 hsa
 rw [hYa] at hd1
 have HD1:=fun w1 (x:Ext w w1)=>readType_any Y w1 hsa (g.ext x)
 have HD2:=fun w1 (x:Ext w w1)=>textE_any c w1 (g.ext x)
 obtain ⟨x,i,hxi⟩:∃ a e,rdE Y.data.toList=(a,e):=⟨_,_,rfl⟩
 obtain ⟨y,j,hyj⟩:∃ a e,txE c=(a,e):=⟨_,_,rfl⟩
 rw [hxi] at HD1 hd1
 rw [hyj] at HD2 hd2
 simp only at HD1 HD2
 obtain ⟨Z,hZ⟩:∃ Z:ByteArray,Z=⟨y.toArray⟩:=⟨_,rfl⟩
 have hZy:y=Z.data.toList:=by rw [hZ]
 rw [← hZ] at HD2
 rw [hZy] at hd2
 have hd3:gc=0 → Z=s∧j=0:=fun h=>⟨ba_eq (Prod.mk.inj (hd2 h)).1,(Prod.mk.inj (hd2 h)).2⟩
 have hd4:et=0 → x=t∧i=0:=fun h=>Prod.mk.inj (hd1 h)
 have HE1:=Lib.hid fun w1 (x:Ext w w1)=>isName_any s w1 (g.ext x)
 have HE2:=Lib.hid fun w1=>refIsName_any s w1
 have HK:=Lib.hid fun w1 (x:Ext w w1)=>known_any w1 (g.ext x)
 simp only [tyA] at HB1 HB2 HD1
 replace HA1:=Lib.hid HA1
 replace HA2:=Lib.hid HA2
 replace HB1:=Lib.hid HB1
 replace HB2:=Lib.hid HB2
 replace HD1:=Lib.hid HD1
 replace HD2:=Lib.hid HD2
 have hq1:=run_ty_neq c c
 have hq2:=run_ty_eql t t
 rw [tyB_self] at hq1 hq2
 generalize (if isTypeS ⟨t.base,t.bits,t.name,t.opt,t.err⟩=true then (0:Int) else 1)=vt at HC1 HC2
 generalize isNameS s=nm at HE1 HE2
 clear hx hr hsa hd1 hd2 hY hYa hZ hZy hxi hyj hs
 have X0:Hid (Ext w (w.alloc (.cells (tyA t) 30))):=(Ext.refl w).alloc _
 have B0:Hid (Blk (w.alloc (.cells (tyA t) 30)) w.heap.size 30 (tyA t)):=Blk.new w _ _
 go_enter Tryz.func4,Tryz.ntmps4
 go_upto_region 5 with (first
  | (go_at_call 10; refine (HA1.out _ X0.out).mono ?_; rintro r w1 ⟨rfl,x1⟩; have X1:=Lib.hid (X0.out.trans x1); have B1:=Lib.hid (B0.out.ext x1); obtain ⟨_,_,_,_,_,_⟩:=tyv_cells B1.out)
  | (go_at_call 11; refine (HA2.out _).mono ?_; rintro r w2 ⟨rfl,x2⟩; have X2:=Lib.hid (X1.out.trans x2); have B2:=Lib.hid (B1.out.ext x2))
  | (go_at_call 12; refine (HB1.out _ X2.out).mono ?_; rintro r w3 ⟨rfl,x3⟩; have X3:=Lib.hid ((X2.out.trans x3).alloc (.cells (tyA c) 30)); have B3:=Lib.hid ((B2.out.ext x3).alloc (.cells (tyA c) 30)); have C3:=Lib.hid (Blk.new w3 30 (tyA c)))
  | (go_at_call 13; refine (HB2.out _).mono ?_; rintro r w4 ⟨rfl,x4⟩; have X4:=Lib.hid ((X3.out.trans x4).alloc (.cells (tyA c) 30)); have B4:=Lib.hid ((B3.out.ext x4).alloc (.cells (tyA c) 30)); have C4:=Lib.hid ((C3.out.ext x4).alloc (.cells (tyA c) 30)); have D4:=Lib.hid (Blk.new w4 30 (tyA c))))
 generalize w.heap.size=b0 at *
 generalize w3.heap.size=b9 at *
 generalize w4.heap.size=b11 at *
 obtain ⟨W,hW⟩:∃ W,w4.alloc (.cells (tyA c) 30)=W:=⟨_,rfl⟩
 rw [hW] at X4 B4 C4 D4
 rw [show w4.alloc (.cells #[.int .i64 c.base,.int .i64 c.bits,.string c.name,.bool c.opt,.bool c.err] 30)=W from hW]
 clear hW x1 x2 x3 x4 X0 X1 X2 X3 B0 B1 B2 B3 C3
 go_cut [61] from 37 to 61 (fun v wx=>v=.bool false∧Hid (Ext w wx)∧Hid (Blk wx b0 30 (tyA t))∧Hid (Blk wx b9 30 (tyA c)))
 case first =>
  have n1:(vt != vt)=false:=by simp
  have n2:(et != et)=false:=by simp
  have n3:(gc != gc)=false:=by simp
  have n4:(Y.toList == Y.toList)=true:=by simp
  have n5:(Y.toList != Y.toList)=false:=by simp
  have hS:∀ w',Ext W w' → w'.cell? ⟨b0,0,none⟩=some (.int .i64 t.base)∧w'.cell? ⟨b0,1,none⟩=some (.int .i64 t.bits)∧w'.cell? ⟨b0,2,none⟩=some (.string t.name)∧w'.cell? ⟨b0,3,none⟩=some (.bool t.opt)∧w'.cell? ⟨b0,4,none⟩=some (.bool t.err)∧w'.cell? ⟨b9,0,none⟩=some (.int .i64 c.base)∧w'.cell? ⟨b9,1,none⟩=some (.int .i64 c.bits)∧w'.cell? ⟨b9,2,none⟩=some (.string c.name)∧w'.cell? ⟨b9,3,none⟩=some (.bool c.opt)∧w'.cell? ⟨b9,4,none⟩=some (.bool c.err)∧w'.cell? ⟨b11,0,none⟩=some (.int .i64 c.base)∧w'.cell? ⟨b11,1,none⟩=some (.int .i64 c.bits)∧w'.cell? ⟨b11,2,none⟩=some (.string c.name)∧w'.cell? ⟨b11,3,none⟩=some (.bool c.opt)∧w'.cell? ⟨b11,4,none⟩=some (.bool c.err):=fun w' x=>by
   obtain ⟨a0,a1,a2,a3,a4,_⟩:=tyv_cells (B4.out.ext x)
   obtain ⟨c0,c1,c2,c3,c4,_⟩:=tyv_cells (C4.out.ext x)
   obtain ⟨d0,d1,d2,d3,d4,_⟩:=tyv_cells (D4.out.ext x)
   exact ⟨a0,a1,a2,a3,a4,c0,c1,c2,c3,c4,d0,d1,d2,d3,d4⟩
  have HS:=Lib.hid hS
  clear hS
  go_region_held3 (fun w'=>w'.cell? ⟨b0,0,none⟩=some (.int .i64 t.base)∧w'.cell? ⟨b0,1,none⟩=some (.int .i64 t.bits)∧w'.cell? ⟨b0,2,none⟩=some (.string t.name)∧w'.cell? ⟨b0,3,none⟩=some (.bool t.opt)∧w'.cell? ⟨b0,4,none⟩=some (.bool t.err)∧w'.cell? ⟨b9,0,none⟩=some (.int .i64 c.base)∧w'.cell? ⟨b9,1,none⟩=some (.int .i64 c.bits)∧w'.cell? ⟨b9,2,none⟩=some (.string c.name)∧w'.cell? ⟨b9,3,none⟩=some (.bool c.opt)∧w'.cell? ⟨b9,4,none⟩=some (.bool c.err)∧w'.cell? ⟨b11,0,none⟩=some (.int .i64 c.base)∧w'.cell? ⟨b11,1,none⟩=some (.int .i64 c.bits)∧w'.cell? ⟨b11,2,none⟩=some (.string c.name)∧w'.cell? ⟨b11,3,none⟩=some (.bool c.opt)∧w'.cell? ⟨b11,4,none⟩=some (.bool c.err)) ((first | exact HS.out _ ((Ext.refl _).drew) | exact HS.out _ exA)) ((first
   | (go_at_call 14; refine (HC1.out _ (X4.out.trans exA)).mono ?_; rintro r w5 ⟨rfl,x5⟩)
   | (go_at_call 15; refine (HC2.out _).mono ?_; rintro r w6 ⟨rfl,x6⟩)))
  all_goals
   go_wp2_with fail
   go_meet
   exact ⟨by first | rfl | simp,Lib.hid (X4.out.trans exA),Lib.hid (B4.out.ext exA),Lib.hid (C4.out.ext exA)⟩
 case rest =>
 obtain ⟨rfl,X,B,K⟩:=hcut
 clear X4 B4 C4 D4 HA1 HA2 HB1 HB2 HC1 HC2
 obtain ⟨_,_,_,_,_,_⟩:=tyv_cells K.out
 go_upto_region 9 with (first
  | (go_at_call 12; refine (HD1.out _ X.out).mono ?_; rintro r w7 ⟨rfl,x7⟩; have X7:=Lib.hid ((X.out.trans x7).alloc (.cells (tyA x) 30)); have B7:=Lib.hid ((B.out.ext x7).alloc (.cells (tyA x) 30)); have K7:=Lib.hid (K.out.ext x7); have D7:=Lib.hid (Blk.new w7 30 (tyA x)); obtain ⟨_,_,_,_,_,_⟩:=tyv_cells K7.out)
  | (go_at_call 10; refine (HD2.out _ X7.out).mono ?_; rintro r w8 ⟨rfl,x8⟩; have X8:=Lib.hid (X7.out.trans x8); have B8:=Lib.hid (B7.out.ext x8); have D8:=Lib.hid (D7.out.ext x8)))
 generalize w7.heap.size=b13 at *
 have hS:∀ w',Ext w8 w' → w'.cell? ⟨b0,0,none⟩=some (.int .i64 t.base)∧w'.cell? ⟨b0,1,none⟩=some (.int .i64 t.bits)∧w'.cell? ⟨b0,2,none⟩=some (.string t.name)∧w'.cell? ⟨b0,3,none⟩=some (.bool t.opt)∧w'.cell? ⟨b0,4,none⟩=some (.bool t.err)∧w'.cell? ⟨b13,0,none⟩=some (.int .i64 x.base)∧w'.cell? ⟨b13,1,none⟩=some (.int .i64 x.bits)∧w'.cell? ⟨b13,2,none⟩=some (.string x.name)∧w'.cell? ⟨b13,3,none⟩=some (.bool x.opt)∧w'.cell? ⟨b13,4,none⟩=some (.bool x.err):=fun w' z=>by
  obtain ⟨a0,a1,a2,a3,a4,_⟩:=tyv_cells (B8.out.ext z)
  obtain ⟨d0,d1,d2,d3,d4,_⟩:=tyv_cells (D8.out.ext z)
  exact ⟨a0,a1,a2,a3,a4,d0,d1,d2,d3,d4⟩
 have HS:=Lib.hid hS
 clear hS x7 x8 X X7 B B7 K K7 D7 B8 D8 HD1 HD2 hq1
 have n7:(nm == nm)=true:=by simp
 by_cases h0:et=0
 ·by_cases h1:gc=0
  ·subst h0
   obtain ⟨rfl,rfl⟩:=hd4 rfl
   subst h1
   obtain ⟨rfl,rfl⟩:=hd3 rfl
   clear hd3 hd4
   obtain ⟨_,_,_,_,_,_,_,_,_,_⟩:=HS.out w8 (Ext.refl _)
   go_wp2_with (first
    | (go_at_call 16; refine (HE1.out _ (X8.out.trans exA)).mono ?_; rintro r w9 ⟨rfl,x9⟩)
    | (go_at_call 17; refine (HE2.out _).mono ?_; rintro r w10 ⟨rfl,x10⟩)
    | (go_at_call 6; refine (HK.out _ (X8.out.trans exA)).mono ?_; rintro r w11 ⟨rfl,x11⟩))
   all_goals
    go_ret
    exact ⟨ret_bool (by first | rfl | simp),X8.out.trans exA⟩
  ·subst h0
   obtain ⟨rfl,rfl⟩:=hd4 rfl
   have e1:(gc != 0)=true:=by simpa using h1
   clear hd3 hd4
   obtain ⟨_,_,_,_,_,_,_,_,_,_⟩:=HS.out w8 (Ext.refl _)
   go_wp2_with (first
    | (go_at_call 16; refine (HE1.out _ (X8.out.trans exA)).mono ?_; rintro r w9 ⟨rfl,x9⟩)
    | (go_at_call 17; refine (HE2.out _).mono ?_; rintro r w10 ⟨rfl,x10⟩)
    | (go_at_call 6; refine (HK.out _ (X8.out.trans exA)).mono ?_; rintro r w11 ⟨rfl,x11⟩))
   all_goals
    go_ret
    exact ⟨ret_bool (by first | rfl | simp),X8.out.trans exA⟩
 ·by_cases h1:gc=0
  ·have e0:(et != 0)=true:=by simpa using h0
   subst h1
   obtain ⟨rfl,rfl⟩:=hd3 rfl
   clear hd3 hd4
   obtain ⟨_,_,_,_,_,_,_,_,_,_⟩:=HS.out w8 (Ext.refl _)
   go_wp2_with (first
    | (go_at_call 16; refine (HE1.out _ (X8.out.trans exA)).mono ?_; rintro r w9 ⟨rfl,x9⟩)
    | (go_at_call 17; refine (HE2.out _).mono ?_; rintro r w10 ⟨rfl,x10⟩)
    | (go_at_call 6; refine (HK.out _ (X8.out.trans exA)).mono ?_; rintro r w11 ⟨rfl,x11⟩))
   all_goals
    go_ret
    exact ⟨ret_bool (by first | rfl | simp),X8.out.trans exA⟩
  ·have e0:(et != 0)=true:=by simpa using h0
   have e1:(gc != 0)=true:=by simpa using h1
   clear hd3 hd4
   obtain ⟨_,_,_,_,_,_,_,_,_,_⟩:=HS.out w8 (Ext.refl _)
   go_wp2_with (first
    | (go_at_call 16; refine (HE1.out _ (X8.out.trans exA)).mono ?_; rintro r w9 ⟨rfl,x9⟩)
    | (go_at_call 17; refine (HE2.out _).mono ?_; rintro r w10 ⟨rfl,x10⟩)
    | (go_at_call 6; refine (HK.out _ (X8.out.trans exA)).mono ?_; rintro r w11 ⟨rfl,x11⟩))
   all_goals
    go_ret
    exact ⟨ret_bool (by first | rfl | simp),X8.out.trans exA⟩
end Go.Proofs.YtobfbfbjccmbiaaGreatDoor.c
