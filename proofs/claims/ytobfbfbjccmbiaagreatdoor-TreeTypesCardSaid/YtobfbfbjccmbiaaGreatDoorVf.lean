/- Counting declarations; whether a program is too large: contracts. Conditions as for counting. -/
import Derived.Test.YtobfbfbjccmbiaaGreatDoorVe
namespace Go.Proofs.YtobfbfbjccmbiaaGreatDoor.c
open Go.RowKit
set_option linter.unusedVariables false
set_option maxRecDepth 100000
set_option maxHeartbeats 3200000
set_option linter.unusedSimpArgs false
def emX (op:Int) (ty:Ty) (nm:ByteArray) (n:Int) (la lb:Nat):Bool:=op == 0 && (tz ty && (emp nm && (n == 0 && (la == 0 && lb == 0))))
def emptyX:Nd → Bool
 | .ex op ty nm n a b _=>emX op ty nm n a.len b.len
 | _=>false
theorem isEmpty_any (op:Int) (ty:Ty) (nm:ByteArray) (n:Int) (A B:Option Addr) (la lb ca cb:Nat) (w:World):Calls Tryz.prog 76 #[.agg #[.int .i64 op,.int .i64 ty.base,.int .i64 ty.bits,.string ty.name,.bool ty.opt,.bool ty.err,.string nm,.int .i64 n,.slice A la ca,.slice B lb cb]] w fun e w'=>e=.returned (.bool (emX op ty nm n la lb))∧Ext w w':=by
 have hq:=run_tz_eql ty
 have HE:Hid (emX op ty nm n la lb=(op == 0 && (tz ty && (emp nm && (n == 0 && (la == 0 && lb == 0)))))):=rfl
 rw [HE.out]
 generalize tz ty=z at *
 have he:emp nm=(nm.toList == []):=by unfold emp; cases nm.toList <;> rfl
 rw [he]
 clear he HE
 cases z
 all_goals
  go_enter Tryz.func76,Tryz.ntmps76
  go_wp2_with fail
  all_goals
   go_ret
   exact ⟨ret_bool (by first | (simp [*]; done) | (simp [*]; omega) | (simp [*]; rw [Bool.eq_iff_iff]; simp; omega)),exA⟩
def cntD:Nd → Ct → Ct
 | .de fn _ ps _ val b _,s =>
  let s1:Ct:=⟨s.st,s.ex,s.de,s.lg || decide (4 < ps.len)⟩
  cnt b 1 (if !fn || !emptyX val then cnt val 1 s1 else s1)
 | _,s=>s
def cntP:Nd → Ct → Ct
 | .de fn nm ps ty val b tl,s=>cntP tl (cntD (.de fn nm ps ty val b .nil) s)
 | _,s=>s
def largeS (x:Nd):Bool:=decide (12 < x.len) || (cntP x ⟨0,0,0,false⟩).lg
theorem cdecl_any (x:Nd) (hx:x.sz ≤ 4611686018427387903) (h1:x.len=1) (w:World) (g:Nat) (s:Ct) (cs:Array Value) (p:Nat → Prop) (h:Cs g s w w) (hnv:Nv (vp p w) 5 x cs) (hp:∀ b,p b → b ≠ g):Calls Tryz.prog 46 #[.pointer (some ⟨g,0,none⟩),.agg cs] w fun e w'=>e=.returned (.tuple #[])∧Cs g (cntD x s) w w':=by
 obtain ⟨fn,nm,ps,ty,val,b,rfl⟩:∃ fn nm ps ty val b,x=.de fn nm ps ty val b .nil:=by
  have ht:=tl_one h1
  have h2:=hnv.1
  cases x with
  | nil=>cases h1
  | de fn nm ps ty val b tl=>cases ht; exact ⟨_,_,_,_,_,_,rfl⟩
  | ex=>exact absurd h2.1 (by decide)
  | st=>exact absurd h2.1 (by decide)
  | bl=>exact absurd h2.1 (by decide)
  | ca=>exact absurd h2.1 (by decide)
  | pa=>exact absurd h2.1 (by decide)
 obtain ⟨vps,ys,vb,rfl,hps,hval,hb⟩:=nv_deI hnv
 obtain ⟨Ap,cp,rfl,_⟩:=hps.lp
 have hvl:val.len=1:=hval.2
 obtain rfl | ⟨op,ty2,nm2,k,ea,eb,r,rfl⟩:=hval.1.ex
 ·cases hvl
 obtain rfl:r=.nil:=tl_one hvl
 obtain ⟨va,vc,rfl,ha,hc⟩:=nv_exI hval
 obtain ⟨A1,c1,rfl,_⟩:=ha.lp
 obtain ⟨A2,c2,rfl,_⟩:=hc.lp
 have hg:g < w.heap.size:=h.blk.lt
 have hzv:(Nd.ex op ty2 nm2 k ea eb .nil).sz < 4611686018427387904∧b.sz < 4611686018427387904:=by simp only [Nd.sz] at hx ⊢; omega
 have IH:=Lib.hid (cnt_all 4611686018427387904 (Nat.le_refl _))
 obtain ⟨hgz,f0,f1,f2,f3,hfz⟩:=h.facts
 have S0:=Lib.hid h
 have HV:=Lib.hid hval
 have HB:=Lib.hid hb
 have HE:=Lib.hid (isEmpty_any op ty2 nm2 k A1 A2 ea.len eb.len c1 c2)
 generalize hem:emX op ty2 nm2 k ea.len eb.len=em at HE
 have HM:Hid (emptyX (.ex op ty2 nm2 k ea eb .nil)=em):=hem
 generalize hbg:decide (4 < ps.len)=bg
 generalize hRR:cntD (.de fn nm ps ty (.ex op ty2 nm2 k ea eb .nil) b .nil) s=R
 have HW:Hid (R=cnt b 1 (if (!fn || !em)=true then cnt (.ex op ty2 nm2 k ea eb .nil) 1 ⟨s.st,s.ex,s.de,s.lg || bg⟩ else ⟨s.st,s.ex,s.de,s.lg || bg⟩)):=by
  unfold Hid
  rw [← hRR,← hem,← hbg]
  rfl
 have HG:=Lib.hid hbg
 clear h hval hb hnv hps ha hc hem hbg hx h1 hRR
 go_enter Tryz.func46,Tryz.ntmps46
 go_upto_region 1 with fail
 go_cut [] from 4 to 16 (fun wx=>Hid (Cs g ⟨s.st,s.ex,s.de,s.lg || bg⟩ w wx)∧Hid (Blk wx w.heap.size 47 #[.bool fn,.string nm,.slice Ap ps.len cp,.int .i64 ty.base,.int .i64 ty.bits,.string ty.name,.bool ty.opt,.bool ty.err,.int .i64 op,.int .i64 ty2.base,.int .i64 ty2.bits,.string ty2.name,.bool ty2.opt,.bool ty2.err,.string nm2,.int .i64 k,.slice A1 ea.len c1,.slice A2 eb.len c2,vb]))
 case first =>
  have hbi:(decide ((4:Int) < (ps.len:Int)))=bg:=by rw [← HG.out,Bool.eq_iff_iff,decide_eq_true_eq,decide_eq_true_eq]; omega
  have fin:∀ v,Cs g ⟨s.st,s.ex,s.de,v⟩ w ((w.setCell ⟨g,3,none⟩ (.bool v)).alloc (.cells #[.bool fn,.string nm,.slice Ap ps.len cp,.int .i64 ty.base,.int .i64 ty.bits,.string ty.name,.bool ty.opt,.bool ty.err,.int .i64 op,.int .i64 ty2.base,.int .i64 ty2.bits,.string ty2.name,.bool ty2.opt,.bool ty2.err,.string nm2,.int .i64 k,.slice A1 ea.len c1,.slice A2 eb.len c2,vb] 47))∧Blk ((w.setCell ⟨g,3,none⟩ (.bool v)).alloc (.cells #[.bool fn,.string nm,.slice Ap ps.len cp,.int .i64 ty.base,.int .i64 ty.bits,.string ty.name,.bool ty.opt,.bool ty.err,.int .i64 op,.int .i64 ty2.base,.int .i64 ty2.bits,.string ty2.name,.bool ty2.opt,.bool ty2.err,.string nm2,.int .i64 k,.slice A1 ea.len c1,.slice A2 eb.len c2,vb] 47)) w.heap.size 47 #[.bool fn,.string nm,.slice Ap ps.len cp,.int .i64 ty.base,.int .i64 ty.bits,.string ty.name,.bool ty.opt,.bool ty.err,.int .i64 op,.int .i64 ty2.base,.int .i64 ty2.bits,.string ty2.name,.bool ty2.opt,.bool ty2.err,.string nm2,.int .i64 k,.slice A1 ea.len c1,.slice A2 eb.len c2,vb]:=fun v=>by
   have q:=Blk.new (w.setCell ⟨g,3,none⟩ (.bool v)) 47 #[.bool fn,.string nm,.slice Ap ps.len cp,.int .i64 ty.base,.int .i64 ty.bits,.string ty.name,.bool ty.opt,.bool ty.err,.int .i64 op,.int .i64 ty2.base,.int .i64 ty2.bits,.string ty2.name,.bool ty2.opt,.bool ty2.err,.string nm2,.int .i64 k,.slice A1 ea.len c1,.slice A2 eb.len c2,vb]
   rw [show (w.setCell ⟨g,3,none⟩ (.bool v)).heap.size=w.heap.size by simp [World.setCell]] at q
   exact ⟨⟨(S0.out.blk.set_ 3 _).alloc _,(S0.out.px.setM 3 _).alloc _⟩,q⟩
  have FIN:=Lib.hid fin
  clear fin HE HV HB IH S0
  go_wp2_with fail
  all_goals
   go_meet
   first
    | (rw [show (s.lg || bg)=true by simp [*]]; exact FIN.out true)
    | (rw [show (s.lg || bg)=bg by simp [*]]; exact FIN.out bg)
    | trace_state
 case rest =>
  obtain ⟨S1,B1⟩:=hcut
  clear f0 f1 f2 f3 hfz hgz S0
  have hne:w.heap.size ≠ g:=by omega
  generalize w.heap.size=bx at B1 hne ⊢
  have q0:wc.cell? ⟨bx,0,none⟩=some (.bool fn):=B1.out.cell 0
  have q8:wc.cell? ⟨bx,8,none⟩=some (.int .i64 op):=B1.out.cell 8
  have q9:wc.cell? ⟨bx,9,none⟩=some (.int .i64 ty2.base):=B1.out.cell 9
  have q10:wc.cell? ⟨bx,10,none⟩=some (.int .i64 ty2.bits):=B1.out.cell 10
  have q11:wc.cell? ⟨bx,11,none⟩=some (.string ty2.name):=B1.out.cell 11
  have q12:wc.cell? ⟨bx,12,none⟩=some (.bool ty2.opt):=B1.out.cell 12
  have q13:wc.cell? ⟨bx,13,none⟩=some (.bool ty2.err):=B1.out.cell 13
  have q14:wc.cell? ⟨bx,14,none⟩=some (.string nm2):=B1.out.cell 14
  have q15:wc.cell? ⟨bx,15,none⟩=some (.int .i64 k):=B1.out.cell 15
  have q16:wc.cell? ⟨bx,16,none⟩=some (.slice A1 ea.len c1):=B1.out.cell 16
  have q17:wc.cell? ⟨bx,17,none⟩=some (.slice A2 eb.len c2):=B1.out.cell 17
  have q18:wc.cell? ⟨bx,18,none⟩=some vb:=B1.out.cell 18
  have hbl:=B1.out.lt
  generalize hs1:(⟨s.st,s.ex,s.de,s.lg || bg⟩:Ct)=s1 at S1 HW
  have ARM:∀ wn,Ext wc wn → Hid (Cs g s1 w wn)∧Hid (Nv (vp p wn) 0 (.ex op ty2 nm2 k ea eb .nil) #[.int .i64 op,.int .i64 ty2.base,.int .i64 ty2.bits,.string ty2.name,.bool ty2.opt,.bool ty2.err,.string nm2,.int .i64 k,.slice A1 ea.len c1,.slice A2 eb.len c2]):=fun wn x=>⟨S1.out.ext x,HV.out.mono (vp_px (S1.out.ext x).px hp)⟩
  have ARMS:=Lib.hid ARM
  clear ARM
  cases fn
  case false =>
   clear HE
   go_wp2_with (first
    | (go_at_call 93; refine (IH.out.1 _ hzv.1 hvl wc g s1 1 _ _ p rfl (ARMS.out wc (Ext.refl _)).1.out.self (ARMS.out wc (Ext.refl _)).2.out hp (by decide)).mono ?_; rintro e w4 ⟨rfl,S4⟩
       have q18':w4.cell? ⟨bx,18,none⟩=some vb:=(B1.out.px S4.px hne).cell 18
       have S4':=Lib.hid ((ARMS.out wc (Ext.refl _)).1.out.trans S4))
    | (go_at_call 94; refine (IH.out.2 b hzv.2 w4 g _ 1 _ vb p rfl S4'.out.self (HB.out.mono (vp_px S4'.out.px hp)) hp (by decide)).mono ?_; rintro e w5 ⟨rfl,S5⟩))
   go_end0
   exact ⟨rfl,by rw [HW.out]; exact S4'.out.trans S5⟩
  case true =>
   cases em
   case true =>
    go_wp2_with (first
     | (go_at_call 76; refine (HE.out _).mono ?_; rintro r w3 ⟨rfl,x3⟩; have q18':w3.cell? ⟨bx,18,none⟩=some vb:=(B1.out.ext x3).cell 18; have S3:=Lib.hid (S1.out.ext x3))
     | (go_at_call 94; refine (IH.out.2 b hzv.2 w3 g _ 1 _ vb p rfl S3.out.self (HB.out.mono (vp_px S3.out.px hp)) hp (by decide)).mono ?_; rintro e w5 ⟨rfl,S5⟩))
    go_end0
    exact ⟨rfl,by rw [HW.out]; exact S3.out.trans S5⟩
   case false =>
    go_wp2_with (first
     | (go_at_call 76; refine (HE.out _).mono ?_; rintro r w3 ⟨rfl,x3⟩; have y3:=x3.facts; have A3:=Lib.hid (ARMS.out w3 x3))
     | (go_at_call 93; refine (IH.out.1 _ hzv.1 hvl w3 g s1 1 _ _ p rfl A3.out.1.out.self A3.out.2.out hp (by decide)).mono ?_; rintro e w4 ⟨rfl,S4⟩
        have q18':w4.cell? ⟨bx,18,none⟩=some vb:=((B1.out.ext x3).px S4.px hne).cell 18
        have S4':=Lib.hid (A3.out.1.out.trans S4))
     | (go_at_call 94; refine (IH.out.2 b hzv.2 w4 g _ 1 _ vb p rfl S4'.out.self (HB.out.mono (vp_px S4'.out.px hp)) hp (by decide)).mono ?_; rintro e w5 ⟨rfl,S5⟩))
    go_end0
    exact ⟨rfl,by rw [HW.out]; exact S4'.out.trans S5⟩
theorem Elems.de1 {V:Vw} {x:Nd} {xs:List Value} (h:Elems V x 5 xs) (hl:0 < x.len):∃ fn nm ps ty val b r,x=.de fn nm ps ty val b r:=by
 cases x with
 | nil=>simp [Nd.len] at hl
 | de fn nm ps ty val b r=>exact ⟨_,_,_,_,_,_,_,rfl⟩
 | ex=>exact absurd h.1 (by decide)
 | st=>exact absurd h.1 (by decide)
 | bl=>exact absurd h.1 (by decide)
 | ca=>exact absurd h.1 (by decide)
 | pa=>exact absurd h.1 (by decide)
def zDc:Array Value:=#[.bool false,.string ⟨#[]⟩,.slice none 0 0,.int .i64 0,.int .i64 0,.string ⟨#[]⟩,.bool false,.bool false,.int .i64 0,.int .i64 0,.int .i64 0,.string ⟨#[]⟩,.bool false,.bool false,.string ⟨#[]⟩,.int .i64 0,.slice none 0 0,.slice none 0 0,.slice none 0 0]
theorem zDc_size:zDc.size=19:=by kernel_rfl
theorem isLarge_any (x:Nd) (hx:x.sz ≤ 4611686018427387903) (w:World) (v:Value) (p:Nat → Prop) (hsl:Sl (vp p w) v x 5) (hp:∀ b,p b → b < w.heap.size):Calls Tryz.prog 22 #[v] w fun e w'=>e=.returned (.bool (largeS x))∧Ext w w':=by
 have HZ:Hid ((Tryz.prog.info? 47).map (·.size)=some 19):=by unfold Hid; kernel_rfl
 obtain ⟨A,c,rfl,la⟩:=hsl.lp
 have hxl:=len_sz x
 by_cases hbig:12 < x.len
 ·have hbi:(12:Int) < (x.len:Int):=by omega
  have HR:Hid (largeS x=true):=by unfold Hid largeS; rw [decide_eq_true hbig]; rfl
  rw [HR.out]
  clear la hsl hx hxl
  go_enter Tryz.func22,Tryz.ntmps22
  go_wp2_with fail
  go_ret
  exact ⟨rfl,exA⟩
 have hbi:¬ (12:Int) < (x.len:Int):=by omega
 have HR:Hid (largeS x=(cntP x ⟨0,0,0,false⟩).lg):=by unfold Hid largeS; rw [decide_eq_false hbig]; rfl
 rw [HR.out]
 generalize hR:cntP x ⟨0,0,0,false⟩=R
 have E0:=Lib.hid hR
 generalize hN:x.len=N at *
 have X1:Ext w (w.alloc (.cells (ctC ⟨0,0,0,false⟩) 81)):=(Ext.refl w).alloc _
 have hp2:∀ b,p b → b ≠ w.heap.size:=fun b hb=>by have:=hp b hb; omega
 have S0:Hid (Cs w.heap.size ⟨0,0,0,false⟩ (w.alloc (.cells (ctC ⟨0,0,0,false⟩) 81)) (w.alloc (.cells (ctC ⟨0,0,0,false⟩) 81))):=⟨Blk.new w _ _,Px.refl _ _⟩
 have L0:Hid (Lp (vp p (w.alloc (.cells (ctC ⟨0,0,0,false⟩) 81))) A N 5 0 x):=la.mono (vp_px (Px.of X1) hp2)
 clear la hsl hR HR hxl hbig
 unfold ctC at S0 L0 X1
 go_enter Tryz.func22,Tryz.ntmps22
 go_wp2_with fail
 obtain ⟨w0,hw0⟩:∃ w0,w.alloc (.cells #[.int .i64 0,.int .i64 0,.int .i64 0,.bool false] 81)=w0:=⟨_,rfl⟩
 rw [hw0] at S0 L0 X1 ⊢
 clear hw0
 generalize hg:w.heap.size=g at *
 go_loopw [11] (fun u wr=>∃ (i:Nat) (r:Nd) (s:Ct),u=.int .i64 i∧Hid (Lp (vp p wr) A N 5 i r)∧Hid (Cs g s w0 wr)∧Hid (cntP r s=R)∧r.sz ≤ x.sz) (fun u _=>N - (intOf u).toNat)
 case atStart=>exact ⟨0,x,_,rfl,L0,S0,E0,Nat.le_refl _⟩
 case round =>
  clear L0 S0 E0
  obtain ⟨i,r,s,rfl,L,S,hE,hrz⟩:=hrel
  by_cases hlt:i < N
  ·have hrl:0 < r.len:=by have:=L.out.1; omega
   obtain ⟨fn,nm,ps,ty,val,b,tl,rfl⟩:∃ fn nm ps ty val b r',r=.de fn nm ps ty val b r':=by
    obtain ⟨_,xs,_,_,he⟩:=L.out
    exact he.de1 hrl
   obtain ⟨bb,o,ds,rfl,hnv,hc,L'⟩:=L.out.step hlt
   have hltI:(i:Int) < (N:Int):=by omega
   have hwi:wrap64 ((i:Int) + 1)=(i:Int) + 1:=IntWalk.wrap64_in _ (by omega)
   have hz1:(Nd.de fn nm ps ty val b .nil).sz ≤ 4611686018427387903∧tl.sz ≤ x.sz:=by simp only [Nd.sz] at hrz ⊢; omega
   have E1:Hid (cntP tl (cntD (.de fn nm ps ty val b .nil) s)=R):=hE.out
   have NV:=Lib.hid hnv
   have HC:=Lib.hid hc
   have LS:Hid (Lp (vp p wr) (some ⟨bb,o,none⟩) N 5 (i + 1) tl):=L'
   clear hnv hc L' L hE hrz hrl
   go_wp2_with (first
    | ((with_reducible show wpList _ _ _ (Oper.mk (some 14) (.load 47 (.tmp 13)) _ _ _ _ :: _) _ _); refine wpList_load_mid rfl _ _ rfl _ _ rfl ds.toList _ (fun j v hv=>(vp_some (HC.out j v hv)).2) Tryz.underlying47 rfl (by rw [Array.length_toList,show ds.size=19 from NV.out.size]; exact HZ.out) ?_; rw [Array.toArray_toList])
    | ((with_reducible show wpList _ _ _ (Oper.mk none (.store 47 (.tmp 5) _) _ _ _ _ :: _) _ _); refine wpList_store_row rfl _ _ _ rfl wr.heap.size rfl 47 zDc ds (Blk.new wr _ zDc) rfl ((show ds.size=19 from NV.out.size).trans zDc_size.symm) NV.out.one (by rw [show ds.size=19 from NV.out.size]; exact HZ.out) ?_; refine nmW fun w3 hw3=>?_
       have x3:Ext wr w3:=by rw [← hw3]; exact (newRow wr _ zDc ds).1
       have K3:Hid (Blk w3 wr.heap.size 47 ds):=by rw [← hw3]; exact (newRow wr _ zDc ds).2
       have S3:=Lib.hid (S.out.ext x3)
       clear hw3)
    | ((with_reducible show wpList _ _ _ (Oper.mk (some 15) (.load 47 (.tmp 5)) _ _ _ _ :: _) _ _); refine wpList_ldb rfl _ _ rfl wr.heap.size 47 ds rfl K3.out _ Tryz.underlying47 rfl (by rw [show ds.size=19 from NV.out.size]; exact HZ.out) ?_)
    | (go_at_call 46; refine (cdecl_any _ hz1.1 rfl w3 g s ds p S3.out.self (NV.out.mono (vp_px (Px.of x3) hp2)) hp2).mono ?_; rintro e w5 ⟨rfl,S5⟩))
   go_roundw
   case rel=>exact ⟨i + 1,tl,_,by first | rfl | (rw [hwi]; rfl),LS.out.mono (vp_px ((Px.of x3).trans S5.px) hp2),S3.out.trans S5,E1,hz1.2⟩
   case measure=>(try rw [hwi]); rw [iof_succ,iof_nat]; exact Nat.sub_lt_sub_left hlt (Nat.lt_succ_self i)
  ·obtain rfl:=L.out.fin hlt
   have hltI:¬ (i:Int) < (N:Int):=by omega
   obtain ⟨hgz,f0,f1,f2,f3,hfz⟩:=S.out.facts
   have hsR:s=R:=hE.out
   subst hsR
   go_wp2_with fail
   go_ret
   exact ⟨rfl,Px.base X1 (by omega) S.out.px⟩
end Go.Proofs.YtobfbfbjccmbiaaGreatDoor.c
