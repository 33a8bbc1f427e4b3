/- Contract of the reference's machine.call: it comes to what the run comes to. Conditions: right code. -/
import Derived.Test.YtknaemlnhediaaaGreatDoorHm
import Derived.Test.YtknaemlnhediaaaGreatDoorRvk
namespace Go.Proofs.YtknaemlnhediaaaGreatDoor.c
open Go.RowKit
set_option linter.unusedVariables false
set_option maxRecDepth 100000
set_option maxHeartbeats 64000000
set_option linter.unusedSimpArgs false
def HRet (m:Nat) (A:Option Addr) (len cap:Nat) (ck:Bool) (B:Option Addr) (bn bc:Nat) (en:En) (t:Nat) (w:World) (e:Ending) (w':World):Prop :=
 e=.returned (.tuple #[.agg (enV en).cells.toArray,.bool (enB en)])∧w.grownBy w' (some m)∧HMem w' m A len cap ck t (enE en).1 (enE en).2 B bn bc
structure Rooms (l:List Rf) (m:Nat) (B:Option Addr) (w:World):Prop where
 at_:NumsAt w B (l.map roomR)
 ne:∀ a,B=some a → a.block ≠ m
theorem Rooms.ext {l:List Rf} {m:Nat} {B:Option Addr} {w w':World} (h:Rooms l m B w) (x:Ext w w'):Rooms l m B w':=⟨h.at_.ext x,h.ne⟩
theorem Rooms.grown {l:List Rf} {m:Nat} {B:Option Addr} {w w':World} (h:Rooms l m B w) (x:w.grownBy w' (some m)):Rooms l m B w':=by
 refine ⟨fun hn=>?_,h.ne⟩
 obtain ⟨b,off,hB,hb,hc⟩:=h.at_ hn
 have hne:=h.ne _ hB
 exact ⟨b,off,hB,Nat.lt_of_lt_of_le hb x.size,fun i j hi hj=>(World.cell?_of_block (a:=⟨b,_,none⟩) (x.block b hb (fun e=>hne (Option.some.inj e)))).trans (hc i j hi hj)⟩
def HCall (l:List Rf) (A:Option Addr) (len cap:Nat) (ck:Bool) (B:Option Addr) (bn bc:Nat) (wb:World) (m d:Nat):Prop :=
 ∀ (k:Nat) (av:List Val) (s:Nat) (w:World) (vA:Option Addr) (vn vc:Nat) (en:En) (t:Nat),k < len → vn=av.length → (av.length:Int)=(l.getD k default).params → s ≤ 40000 → Ext wb w → HMem w m A len cap ck s 0 0 B bn bc → Rooms l m B w → ValsAt w vA av → Run l ck (.call d k av) s en t →
  Calls Tryz.prog 143 #[.pointer (some ⟨m,0,none⟩),.int .i64 k,.slice vA vn vc,.int .i64 d] w fun e w'=>HRet m A len cap ck B bn bc en t w e w'
theorem hcall_deep (l:List Rf) (A:Option Addr) (len cap:Nat) (ck:Bool) (B:Option Addr) (bn bc:Nat) (wb:World) (m d:Nat) (hd:30 < d) (hd2:d ≤ 1000):HCall l A len cap ck B bn bc wb m d:=by
 intro k av s w vA vn vc en t hk hvn hav hs hx hm hrm hv hr
 obtain ⟨rfl,rfl⟩:=hr.inv_deep hd
 clear hr hvn
 have HZ:Hid ((Tryz.prog.info? 37).map (·.size)=some 13):=by unfold Hid; kernel_rfl
 have hd3:(30:Int) < (d:Int):=by omega
 have HM:=Lib.hid hm
 obtain ⟨zm,m0,m1,m2,m3,m4,m5,fz⟩:=hm.facts
 clear hm hv hx hrm
 have B0:=Lib.hid (Blk.new w 37 zeroV)
 go_enter Tryz.func143,Tryz.ntmps143
 go_wp2_with fail
 have hsz:(w.setCell ⟨m,3,none⟩ (.int .i64 2)).heap.size=w.heap.size:=by simp
 have hb:Blk ((w.setCell ⟨m,3,none⟩ (.int .i64 2)).alloc (.cells zeroV 37)) w.heap.size 37 zeroV:=by
  have h:=Blk.new (w.setCell ⟨m,3,none⟩ (.int .i64 2)) 37 zeroV
  rwa [hsz] at h
 exact bodyPost_ret (results_row_tmp rfl _ _ w.heap.size 37 zeroV (0,0) _ rfl hb Tryz.underlying37 rfl HZ.out (.bool false) rfl) rfl ⟨rfl,grownT (cell_grown w m 3 _) (ext_grown ((Ext.refl _).alloc _) _),(HM.out.end_ 2).ext ((Ext.refl _).alloc _)⟩
theorem hcall_step (l:List Rf) (A:Option Addr) (len cap:Nat) (ck:Bool) (B:Option Addr) (bn bc:Nat) (wb:World) (m d:Nat) (hlen:len=l.length) (hbn:bn=l.length) (hval:validR l=0) (hA:RfAt wb A l) (hmb:wb.heap.size ≤ m) (hd:d ≤ 30) (IH:HCall l A len cap ck B bn bc wb m (d + 1)):HCall l A len cap ck B bn bc wb m d:=by
 intro k av s w vA vn vc en t hk hvn hav hs hx hm hrm hv hr
 have hr:=hr.inv_enter hd
 have hvp:=validR_parts hval
 have hl48:len ≤ 48:=by omega
 obtain ⟨f,hf⟩:∃ f,f=l.getD k default:=⟨_,rfl⟩
 have hgf:=(hvp.2.2 k (by omega)).1
 rw [← hf] at hgf hav
 obtain ⟨b,off,hAe,hb,c0,c1,c2,c3,c4,c5,c6,c7,c8,hcd⟩:=(hA.ext hx).at_ (k:=k) (by omega) hf
 obtain ⟨b9,off9,hBe,hb9,c9⟩:=hrm.at_.one (k:=k) (by rw [List.length_map]; omega)
 have hrk:(l.map roomR).getD k 0=roomR f:=by rw [hf,List.getD,List.getElem?_map,List.getD,List.getElem?_eq_getElem (by omega)]; rfl
 rw [hrk] at c9
 have hroom:=GoodF.room hgf
 obtain ⟨nr,hnr⟩:∃ nr:Nat,f.regs=nr:=⟨f.regs.toNat,by have:=hgf.reg; omega⟩
 obtain ⟨ns,hns⟩:∃ ns:Nat,roomR f=ns:=⟨(roomR f).toNat,by have:=hroom.1; have:=hgf.par; omega⟩
 rw [hnr] at c2
 rw [hns] at c9
 have hnr1:1 ≤ nr:=by have:=hgf.reg; omega
 have hnr6:nr ≤ 6:=by have:=hgf.reg; omega
 have hns3:ns ≤ 300:=by have:=hroom.2; omega
 have hcode:=hgf.few
 obtain ⟨nc,hnc⟩:∃ nc,nc=f.code.length:=⟨_,rfl⟩
 obtain ⟨zm,m0,m1,m2,m3,m4,m5,fz⟩:=hm.facts
 have HV:=Lib.hid hv
 have HRM:=Lib.hid hrm
 have HM:=Lib.hid hm
 have HR:=Lib.hid hr
 have HG:=Lib.hid hgf
 have HF:=Lib.hid hf
 have HCD:=Lib.hid hcd
 have HVP:=Lib.hid hvp
 have HLN:=Lib.hid hlen
 have HAE:=Lib.hid hAe
 have HX:=Lib.hid hx
 have HIH:=Lib.hid IH
 have HA:=Lib.hid hA
 have HNC:=Lib.hid hnc
 have HNR:=Lib.hid hnr
 have HNS:=Lib.hid hns
 have HAV:=Lib.hid hav
 subst hvn
 rw [hAe] at m0
 rw [hBe] at m5
 clear hAe
 have hkb:(k:Int) < (bn:Int):=by omega
 have hd3:¬ (30:Int) < (d:Int):=by omega
 have HU:Hid (Tryz.prog.underlying 30 = some (.slice 37)):=by unfold Hid; kernel_rfl
 have HZ:Hid ((Tryz.prog.info? 37).map (·.size)=some 13):=by unfold Hid; kernel_rfl
 have HM0:=Lib.hid hmb
 clear hr hgf hf hcd hvp hlen hx IH hA hnc hm hv hval hmb hrm hnr hns hroom hBe hav hrk hbn
 have hmk1:=fun w'=>run_make_vals w' nr (by omega)
 have hmk2:=fun w'=>run_make_vals w' ns hns3
 have con:CCon w m w.heap.size (w.heap.size + 1) (w.heap.size + 1 + 1) (w.heap.size + 1 + 1 + 1):=⟨zm,Nat.le_refl _,by omega,by omega,by omega⟩
 obtain ⟨K,hK⟩:∃ K:HK,K=⟨A,len,cap,ck,f,nr,ns,B,bn,bc⟩:=⟨_,rfl⟩
 have C0:Hid (HSt w m w.heap.size (w.heap.size + 1) (w.heap.size + 1 + 1) (w.heap.size + 1 + 1 + 1) K s 0 0 (fun _=>default) (fun _=>default) ((((w.alloc (.cells zV 37)).alloc (.cells #[.string f.name,.int .i64 f.params,.int .i64 nr,.int .i64 f.ty.base,.int .i64 f.ty.bits,.string f.ty.name,.bool f.ty.opt,.bool f.ty.err,.slice f.A f.code.length f.cap] 59)).alloc (.cells (zvals nr) 37)).alloc (.cells (zvals ns) 37))):=by
  rw [hK]
  refine ⟨ext_grown exA _,HM.out.ext exA,(((Blk.new w _ _).alloc _).alloc _).alloc _,?_,VRow.zeros ((blk3 w _ _ _ _).alloc _),?_⟩
  ·show Blk _ _ _ (rfA f)
   unfold rfA
   rw [HNR.out]
   exact (((blk2 w _ _ _).alloc _).alloc _)
  ·refine VRow.zeros ?_
   have h:=Blk.new (((w.alloc (.cells zV 37)).alloc (.cells #[.string f.name,.int .i64 f.params,.int .i64 nr,.int .i64 f.ty.base,.int .i64 f.ty.bits,.string f.ty.name,.bool f.ty.opt,.bool f.ty.err,.slice f.A f.code.length f.cap] 59)).alloc (.cells (zvals nr) 37)) 37 (zvals ns)
   rwa [size_alloc,size_alloc,size_alloc] at h
 have X0:Hid (Ext w ((((w.alloc (.cells zV 37)).alloc (.cells #[.string f.name,.int .i64 f.params,.int .i64 nr,.int .i64 f.ty.base,.int .i64 f.ty.bits,.string f.ty.name,.bool f.ty.opt,.bool f.ty.err,.slice f.A f.code.length f.cap] 59)).alloc (.cells (zvals nr) 37)).alloc (.cells (zvals ns) 37))):=by unfold Hid; exact exA
 have zm1:m < w.heap.size + 1:=by omega
 have zm2:m < w.heap.size + 1 + 1:=by omega
 have zm3:m < w.heap.size + 1 + 1 + 1:=by omega
 have hb91:b9 < w.heap.size + 1:=by omega
 have hb92:b9 < w.heap.size + 1 + 1:=by omega
 have hb93:b9 < w.heap.size + 1 + 1 + 1:=by omega
 have HK0:=Lib.hid hK
 have HCON:=Lib.hid con
 clear hK con
 go_enter Tryz.func143,Tryz.ntmps143
 go_wp2_with fail
 generalize ((((w.alloc (.cells zV 37)).alloc (.cells #[.string f.name,.int .i64 f.params,.int .i64 nr,.int .i64 f.ty.base,.int .i64 f.ty.bits,.string f.ty.name,.bool f.ty.opt,.bool f.ty.err,.slice f.A f.code.length f.cap] 59)).alloc (.cells (zvals nr) 37)).alloc (.cells (zvals ns) 37))=w4 at C0 X0 ⊢
 clear zm1 zm2 zm3 hb91 hb92 hb93
 generalize w.heap.size + 1 + 1 + 1=zs at C0 HCON ⊢
 generalize w.heap.size + 1 + 1=zr at C0 HCON ⊢
 generalize w.heap.size + 1=zf at C0 HCON ⊢
 obtain ⟨zo,hzo⟩:∃ zo,zo=w.heap.size:=⟨_,rfl⟩
 rw [← hzo] at C0 HCON ⊢
 obtain ⟨na,hna⟩:∃ na,na=av.length:=⟨_,rfl⟩
 have hnan:na ≤ ns:=by
  have h1:=HG.out.room.1
  have h2:=HAV.out
  have h3:=HNS.out
  omega
 have HNA:=Lib.hid hna
 rw [← hna]
 clear hmk1 hmk2 hzo c0 c1 c2 c3 c4 c5 c6 c7 c8 c9 m0 m1 m2 m3 m4 m5 fz zm hna
 go_loopw [13] (fun i wr=>∃ q:Nat,q ≤ na∧i=.int .i64 q∧Ext w wr∧HSt w m zo zf zr zs K s 0 0 (fun _=>default) (fun i=>if i < q then av.getD i default else default) wr) (fun i _=>na - (intOf i).toNat)
 case atStart=>exact ⟨0,Nat.zero_le _,rfl,X0.out,by simpa using C0.out⟩
 case round =>
  clear C0 X0
  obtain ⟨q,hq,rfl,hxq,hcq⟩:=hrel
  have XQ:=Lib.hid hxq
  have CQ:=Lib.hid hcq
  by_cases hlt:q < na
  ·obtain ⟨bv,ov,rfl,hbv,_⟩:=HV.out (by have:=HNA.out; omega)
   have hqa:q < av.length:=by have:=HNA.out; omega
   obtain ⟨v0,hv0⟩:∃ v0,av.getD q default=v0:=⟨_,rfl⟩
   have HVR:Hid (wr.rangeAt bv (ov + q * 13) v0.cells):=by rw [← hv0]; exact (HV.out.ext hxq).range hqa
   have HV0:=Lib.hid hv0
   clear hv0
   have hqi:(q:Int) < (ns:Int):=by omega
   have hns9:ns=K.ns:=by rw [HK0.out]
   clear hxq hcq
   go_wp2_with (first
    | ((with_reducible show wpList _ _ _ (Oper.mk (some 61) (.load 37 (.tmp 60)) _ _ _ _ :: _) _ _); refine wpList_load_mid rfl 37 _ rfl bv (ov + q * 13) rfl v0.cells _ HVR.out Tryz.underlying37 rfl HZ.out ?_)
    | ((with_reducible show wpList _ _ _ (Oper.mk none (.store 37 (.tmp 62) _) _ _ _ _ :: _) _ _); refine wpList_store_mid rfl 37 _ _ rfl zs (q * 13) v0.cells.toArray rfl rfl (CQ.out.ss.there (by omega)) HZ.out (Val.all_one _) ?_))
   have C7:=Lib.hid (CQ.out.setS HCON.out (i:=q) (by omega) v0)
   have X7:=Lib.hid (XQ.out.setCells (g:=zs) (by have:=HCON.out.o; have:=HCON.out.f; have:=HCON.out.r; have:=HCON.out.s; omega) v0.cells (q * 13))
   go_roundw
   case rel =>
    refine ⟨q + 1,by omega,by go_num,X7.out,?_⟩
    have h:=C7.out
    refine ⟨h.gr,h.mm,h.oo,h.ff,h.rr,h.ss.same fun i hi=>?_⟩
    rw [← HV0.out]
    show (if i < q + 1 then av.getD i default else default)=(if i=q then av.getD q default else if i < q then av.getD i default else default)
    by_cases e:i=q
    ·rw [if_pos e,if_pos (by omega),e]
    ·rw [if_neg e]
     by_cases e2:i < q
     ·rw [if_pos e2,if_pos (by omega)]
     ·rw [if_neg e2,if_neg (by omega)]
   case measure=>simp [intOf]; omega
  ·have hqn:q=na:=by omega
   subst hqn
   have C5:Hid (HSt w m zo zf zr zs K s 0 0 (fun _=>default) (fun i=>av.getD i default) wr):=by
    have h:=hcq
    refine ⟨h.gr,h.mm,h.oo,h.ff,h.rr,h.ss.same fun i hi=>?_⟩
    by_cases e:i < q
    ·simp only [if_pos e]
    ·simp only [if_neg e]
     rw [List.getD,List.getElem?_eq_none (by have:=HNA.out; omega)]
     rfl
   have HQ9:=XQ
   clear hxq hcq CQ XQ HQ9
   go_wp2_with fail
   generalize wr=w5 at C5 ⊢
   go_loopg [14] 40001 (fun n v wr=>∃ (p:Nat) (R S:Nat → Val) (s':Nat),v=.int .i64 p∧p < nc∧s' ≤ 40000∧40001 - s' ≤ n∧HSt w m zo zf zr zs K s' 0 0 R S wr∧Run l ck (.at_ d k p R S) s' en t)
   case atStart=>exact ⟨0,_,_,s,rfl,by have:=HG.out.pos; have:=HNC.out; omega,hs,by omega,C5.out,HR.out⟩
   case round =>
    clear C5 HR hs hlt hq hnan
    obtain ⟨p,R,S,s,rfl,hp,hs,hgk,hc,hr⟩:=hrel
    have HC:=Lib.hid hc
    have HR:=Lib.hid hr
    have con:=HCON.out
    obtain ⟨zm,m0,m1,m2,m3,m4,m5,fz⟩:=hc.mm.facts
    have fz2:=fz 2
    have fz3:=fz 3
    have mm1:=hc.mm
    rw [HK0.out] at m0 m1 m5
    simp only [] at m0 m1 m5
    clear fz mm1
    by_cases hfull:s=40000
    ·have hfull2:(40000:Int) ≤ (s:Int):=by omega
     have C9:Hid (HSt w m zo zf zr zs K s 2 0 R S (wr.setCell ⟨m,3,none⟩ (.int .i64 2))):=hc.turn con (cell_grown wr m 3 _) (hc.mm.end_ 2)
     obtain ⟨he,ht⟩:=hr.inv_full (by omega)
     subst he ht
     clear hc hr
     go_wp2_with (first
      | ((with_reducible show wpList _ _ _ (Oper.mk none (.store 37 (.tmp 8) _) _ _ _ _ :: _) _ _); refine wpList_store_row rfl 37 _ _ rfl zo rfl 37 zeroV zeroV C9.out.oo rfl rfl (Val.ones _) HZ.out ?_))
     exact bodyPost_ret (results_row_tmp rfl _ _ zo 37 zeroV (0,0) _ rfl (C9.out.oo.row _) Tryz.underlying37 rfl HZ.out (.bool false) rfl) rfl (HSt.ret con HK0.out .long C9.out)
    ·have hfull2:¬ (40000:Int) ≤ (s:Int):=by omega
     have hs1:IntKind.i64.wrap ((s:Int) + 1)=((s + 1:Nat):Int):=by rw [IntWalk.i64_in _ (by omega)]; omega
     obtain ⟨x,hxx⟩:∃ x,x=f.code.getD p default:=⟨_,rfl⟩
     have hpl:p < f.code.length:=by have:=HNC.out; omega
     have hxb:Ext wb wr:=HX.out.grown hc.gr (fun k' e=>by have:=Option.some.inj e; have:=HM0.out; omega)
     obtain ⟨bc1,oc,hac,hbc,d0,d1,d2,d3,d4,d5,d6,d7,d8,d9,d10,hna⟩:=((HA.out.sub f (by rw [HF.out]; exact getD_mem (by have:=HLN.out; omega))).ext hxb).at_ (k:=p) hpl hxx
     obtain ⟨bc2,oc2,hac2,hbc2,_⟩:=(HA.out.sub f (by rw [HF.out]; exact getD_mem (by have:=HLN.out; omega))).at_ (k:=p) hpl hxx
     rw [hac] at hac2
     cases hac2
     have hnec:bc1 ≠ m:=by have:=HM0.out; omega
     have f8:=hc.ff.cell 8
     have zf1:=hc.ff.lt
     rw [HK0.out] at f8
     unfold rfA at f8
     simp only [List.getElem?_toArray,List.getElem?_cons_zero,List.getElem?_cons_succ] at f8
     rw [hac,← HNC.out] at f8
     have hnef:zf ≠ m:=by have:=con.lt; have:=con.o; have:=con.f; omega
     have HXX:=Lib.hid hxx
     have hzs:=hc.ss.lt
     have C6:Hid (HSt w m zo zf zr zs K (s + 1) 0 0 R S ((wr.setCell ⟨m,2,none⟩ (.int .i64 ((s:Int) + 1))).alloc (.cells (rgA x) 67))):=(hc.step con (s + 1)).ext' ((Ext.refl _).alloc _)
     have BX:Hid (Blk ((wr.setCell ⟨m,2,none⟩ (.int .i64 ((s:Int) + 1))).alloc (.cells (rgA x) 67)) wr.heap.size 67 (rgA x)):=by
      have h:=Blk.new (wr.setCell ⟨m,2,none⟩ (.int .i64 ((s:Int) + 1))) 67 (rgA x)
      rwa [show (wr.setCell ⟨m,2,none⟩ (.int .i64 ((s:Int) + 1))).heap.size=wr.heap.size by simp] at h
     have HGX:Hid (GoodX l f x):=HG.out.at_ (by rw [hxx]; exact getD_mem hpl)
     have hpb:(p:Int) ≤ 6000:=by have:=HNC.out; omega
     clear hc hr hxx hna hac hxb
     go_wp2_with fail
     change Hid (HSt w m zo zf zr zs K (s + 1) 0 0 R S ((wr.setCell ⟨m,2,none⟩ (.int .i64 ((s:Int) + 1))).alloc (.cells #[.int .i64 x.op,.int .i64 x.d,.int .i64 x.a,.int .i64 x.b,.int .i64 x.ty.base,.int .i64 x.ty.bits,.string x.ty.name,.bool x.ty.opt,.bool x.ty.err,.string x.name,.slice x.A x.args.length x.cap] 67))) at C6
     change Hid (Blk ((wr.setCell ⟨m,2,none⟩ (.int .i64 ((s:Int) + 1))).alloc (.cells #[.int .i64 x.op,.int .i64 x.d,.int .i64 x.a,.int .i64 x.b,.int .i64 x.ty.base,.int .i64 x.ty.bits,.string x.ty.name,.bool x.ty.opt,.bool x.ty.err,.string x.name,.slice x.A x.args.length x.cap] 67)) wr.heap.size 67 (rgA x)) at BX
     generalize ((wr.setCell ⟨m,2,none⟩ (.int .i64 ((s:Int) + 1))).alloc (.cells #[.int .i64 x.op,.int .i64 x.d,.int .i64 x.a,.int .i64 x.b,.int .i64 x.ty.base,.int .i64 x.ty.bits,.string x.ty.name,.bool x.ty.opt,.bool x.ty.err,.string x.name,.slice x.A x.args.length x.cap] 67))=w6 at C6 BX ⊢
     generalize wr.heap.size=bx at BX hzs ⊢
     clear d0 d1 d2 d3 d4 d5 d6 d7 d8 d9 d10 m0 m1 m2 m3 m4 m5 fz2 fz3 f8 zf1 hnef hnec hfull2 hbc hbc2 zm hs1
     obtain ⟨d0,d1,d2,d3,d4,d5,d6,d7,d8,d9,d10⟩:=rgA_cells BX.out
     have zx:=BX.out.lt
     have hnr9:K.nr=nr:=by rw [HK0.out]
     have hns9:K.ns=ns:=by rw [HK0.out]
     have hg6:=HG.out.reg
     rcases (show (x.op=0) ∨ (x.op=1) ∨ (x.op=2) ∨ (x.op=3) ∨ (x.op=4) ∨ (x.op=15) ∨ (x.op=16) ∨ (x.op=17) ∨ (x.op=14) ∨ (5 ≤ x.op∧x.op ≤ 9) ∨ (105 ≤ x.op∧x.op ≤ 123) ∨ (x.op=10) ∨ (x.op=11) ∨ (x.op=12) ∨ (x.op=13) by have:=HGX.out.op; omega) with hop | hop | hop | hop | hop | hop | hop | hop | hop | hop | hop | hop | hop | hop | hop
     ·as_aux_lemma =>
       have q0:(x.op == 0)=true:=(by rw [hop]; rfl); have q1:(x.op == 1)=false:=(by rw [hop]; rfl); have q2:(x.op == 2)=false:=(by rw [hop]; rfl); have q3:(x.op == 3)=false:=(by rw [hop]; rfl); have q4:(x.op == 4)=false:=(by rw [hop]; rfl); have q16:(x.op == 16)=false:=(by rw [hop]; rfl); have q10:(x.op == 10)=false:=(by rw [hop]; rfl); have q11:(x.op == 11)=false:=(by rw [hop]; rfl); have q13:(x.op == 13)=false:=(by rw [hop]; rfl); have q12:(x.op == 12)=false:=(by rw [hop]; rfl); have q15:(x.op == 15)=false:=(by rw [hop]; rfl); have q17:(x.op == 17)=false:=(by rw [hop]; rfl); have q14:(x.op == 14)=false:=(by rw [hop]; rfl)
       have HPT:Hid (partsR x.op=(1,4,0)):=by unfold Hid; rw [hop]; rfl
       have hp1:p + 1 < nc:=by
        have h:=HG.out.next (p:=p) (by have:=HNC.out; omega) (by rw [← HXX.out]; unfold goesR; rw [hop]; rfl)
        have:=HNC.out
        omega
       have hdd:=HGX.out.d
       rw [HPT.out] at hdd
       have hdr:=isPartB_reg hdd
       obtain ⟨r,hr6⟩:∃ r:Nat,x.d=r:=⟨x.d.toNat,by omega⟩
       have hr7:r < K.nr:=by have:=HNR.out; omega
       have hr9:(r:Int) < (nr:Int):=by have:=HNR.out; omega
       have hr8:x.d.toNat=r:=by omega
       have HR1:=Lib.hid (HR.out.inv_go (by omega) (show stepF ck ((l.getD k default).code.getD p default) p R S=.go (p + 1) (upd R x.d.toNat (nv (wrapT x.ty x.a))) S by rw [← HF.out,← HXX.out]; unfold stepF; simp only [hop]; rfl))
       rw [hr8] at HR1
       have C7:Hid (HSt w m zo zf zr zs K (s + 1) 0 0 R S ((w6.alloc (.cells zV 37)).alloc (.cells zV 37))):=C6.out.ext' exR
       have BX7:Hid (Blk ((w6.alloc (.cells zV 37)).alloc (.cells zV 37)) bx 67 (rgA x)):=BX.out.ext exR
       go_wp2_with (first
        | (go_at_call 103; refine (parts_any x.op _).mono ?_; rw [HPT.out]; rintro r w' ⟨rfl,rfl⟩))
       generalize ((w6.alloc (.cells zV 37)).alloc (.cells zV 37))=w7 at C7 BX7 ⊢
       obtain ⟨N,hN⟩:∃ N,wrapT x.ty x.a=N:=⟨_,rfl⟩
       rw [hN] at HR1
       have HW:Hid (∀ w',Calls Tryz.prog 209 #[(.agg #[.int .i64 x.ty.base,.int .i64 x.ty.bits,.string x.ty.name,.bool x.ty.opt,.bool x.ty.err]),.int .i64 x.a] w' fun e w''=>e=.returned (.int .i64 N)∧Ext w' w''):=fun w'=>by
        have h:=hwrapped_any x.ty x.a w' (HGX.out.row hop)
        rwa [hN] at h
       clear hN
       have HWC:Hid (∀ (l:Array Bool) (w':World),l.getD 10 false=false → QSt 11 10 w m zo zf zr zs K (s + 1) 0 0 R S (upd R r (nv N)) S bx x l w' → Calls Tryz.prog 209 #[(.agg #[.int .i64 x.ty.base,.int .i64 x.ty.bits,.string x.ty.name,.bool x.ty.opt,.bool x.ty.err]),.int .i64 x.a] w' fun e w''=>e=.returned (.int .i64 N)∧QSt 11 10 w m zo zf zr zs K (s + 1) 0 0 R S (upd R r (nv N)) S bx x l w''):=fun l w' _ h=>(HW.out w').mono fun e w'' q=>⟨q.1,h.ext' q.2⟩
       have HD:Hid (∀ (w':World) {l:Array Bool},l.getD 10 false=false → QSt 11 10 w m zo zf zr zs K (s + 1) 0 0 R S (upd R r (nv N)) S bx x l w' → w'.cell? ⟨bx,0,none⟩=some (.int .i64 x.op)∧w'.cell? ⟨bx,1,none⟩=some (.int .i64 (r:Nat))∧w'.cell? ⟨bx,2,none⟩=some (.int .i64 x.a)∧w'.cell? ⟨bx,3,none⟩=some (.int .i64 x.b)∧w'.cell? ⟨bx,4,none⟩=some (.int .i64 x.ty.base)∧w'.cell? ⟨bx,5,none⟩=some (.int .i64 x.ty.bits)∧w'.cell? ⟨bx,6,none⟩=some (.string x.ty.name)∧w'.cell? ⟨bx,7,none⟩=some (.bool x.ty.opt)∧w'.cell? ⟨bx,8,none⟩=some (.bool x.ty.err)∧w'.cell? ⟨bx,9,none⟩=some (.string x.name)∧w'.cell? ⟨bx,10,none⟩=some (.slice x.A x.args.length x.cap)):=fun w' l hk h=>by
        have z:=rgA_cells h.2.2
        rw [hr6] at z
        exact z
       have HST:∀ (i:Nat) (_:i ≠ 10:=by decide) (l:Array Bool) (w':World),QSt 11 10 w m zo zf zr zs K (s + 1) 0 0 R S (upd R r (nv N)) S bx x (l.setIfInBounds i true) w' ↔ QSt 11 10 w m zo zf zr zs K (s + 1) 0 0 R S (upd R r (nv N)) S bx x l w':=fun i hi l w'=>QSt.same hi l w'
       have hzb:zs < bx:=hzs
       clear d0 d1 d2 d3 d4 d5 d6 d7 d8 d9 d10 zx
       refine flow_begin (QSt 11 10 w m zo zf zr zs K (s + 1) 0 0 R S (upd R r (nv N)) S bx x) #[false,false,false,false,false,false,false,false,false,false,false] rfl (by kernel_rfl) (fun _ _ _ _ _ h=>h) ((QSt.start C7.out BX7.out rfl rfl)) (fun HQ=>?_)
       (refine ttK 0 10 128 rfl HQ (HST 0) ?_; try simp only [putL,List.set])
       (refine ttK 1 10 129 rfl HQ (HST 1) ?_; try simp only [putL,List.set])
       (refine ttK 2 10 130 rfl HQ (HST 2) ?_; try simp only [putL,List.set])
       (refine ttK 3 10 131 rfl HQ (HST 3) ?_; try simp only [putL,List.set])
       (refine ttK 4 10 132 rfl HQ (HST 4) ?_; try simp only [putL,List.set])
       (refine ttK 5 10 133 rfl HQ (HST 5) ?_; try simp only [putL,List.set])
       (refine ttK 6 10 134 rfl HQ (HST 6) ?_; try simp only [putL,List.set])
       (refine tcK 7 10 135 rfl (by kernel_rfl) HQ (HST 7) (by rfl) (fun l w' hlk hF=>?_) ((HWC.out)) ?_; (focus (have hq:=HD.out _ hlk hF; go_simp; try simp only [enters_hwrapped _ _])); try simp only [putL,List.set])
       (refine ttK 8 10 136 rfl HQ (HST 8) ?_; try simp only [putL,List.set])
       (refine ttK 9 10 137 rfl HQ (HST 9) ?_; try simp only [putL,List.set])
       refine flow_put (i:=10) (oi:=⟨none,_,_,_,_,none⟩) rfl rfl (stores_mid (i:=10) rfl 37 _ _ rfl zr (r * 13) (nv N).cells.toArray rfl rfl (fun l w' h=>h.2.1.rr.there hr7) HZ.out (Val.all_one _) (fun l w' h=>QSt.putR con hzb hr7 _ (by decide) h)) (by kernel_rfl) ?_
       refine flow_done (by kernel_rfl) ?_
       intro w8 hm7
       obtain ⟨c8,bx8⟩:=QSt.done hm7 (by rfl)
       have C8:=Lib.hid c8
       clear c8 bx8 hm7 HD HST HQ
       go_wp2_with fail
       go_roundg (gk - 1)
       case measure=>omega
       case rel=>exact ⟨(p + 1),_,_,s + 1,by go_num,hp1,by omega,by omega,C8.out,HR1.out⟩
     ·as_aux_lemma =>
       have q0:(x.op == 0)=false:=(by rw [hop]; rfl); have q1:(x.op == 1)=true:=(by rw [hop]; rfl); have q2:(x.op == 2)=false:=(by rw [hop]; rfl); have q3:(x.op == 3)=false:=(by rw [hop]; rfl); have q4:(x.op == 4)=false:=(by rw [hop]; rfl); have q16:(x.op == 16)=false:=(by rw [hop]; rfl); have q10:(x.op == 10)=false:=(by rw [hop]; rfl); have q11:(x.op == 11)=false:=(by rw [hop]; rfl); have q13:(x.op == 13)=false:=(by rw [hop]; rfl); have q12:(x.op == 12)=false:=(by rw [hop]; rfl); have q15:(x.op == 15)=false:=(by rw [hop]; rfl); have q17:(x.op == 17)=false:=(by rw [hop]; rfl); have q14:(x.op == 14)=false:=(by rw [hop]; rfl)
       have HPT:Hid (partsR x.op=(1,0,0)):=by unfold Hid; rw [hop]; rfl
       have hp1:p + 1 < nc:=by
        have h:=HG.out.next (p:=p) (by have:=HNC.out; omega) (by rw [← HXX.out]; unfold goesR; rw [hop]; rfl)
        have:=HNC.out
        omega
       have hdd:=HGX.out.d
       rw [HPT.out] at hdd
       have hdr:=isPartB_reg hdd
       obtain ⟨r,hr6⟩:∃ r:Nat,x.d=r:=⟨x.d.toNat,by omega⟩
       have hr7:r < K.nr:=by have:=HNR.out; omega
       have hr9:(r:Int) < (nr:Int):=by have:=HNR.out; omega
       have hr8:x.d.toNat=r:=by omega
       have HR1:=Lib.hid (HR.out.inv_go (by omega) (show stepF ck ((l.getD k default).code.getD p default) p R S=.go (p + 1) (upd R x.d.toNat (pv 0 true ⟨#[]⟩)) S by rw [← HF.out,← HXX.out]; unfold stepF; simp only [hop]; rfl))
       rw [hr8] at HR1
       rw [hr6] at d1
       have C7:Hid (HSt w m zo zf zr zs K (s + 1) 0 0 R S ((w6.alloc (.cells zV 37)).alloc (.cells zV 37))):=C6.out.ext' exR
       go_wp2_with (first
        | (go_at_call 103; refine (parts_any x.op _).mono ?_; rw [HPT.out]; rintro r w' ⟨rfl,rfl⟩)
        | ((with_reducible show wpList _ _ _ (Oper.mk none (.store 37 (.tmp 144) _) _ _ _ _ :: _) _ _); refine wpList_store_mid rfl 37 _ _ rfl zr (r * 13) (pv 0 true ⟨#[]⟩).cells.toArray rfl rfl (C7.out.rr.there hr7) HZ.out (Val.all_one _) ?_))
       have C8:=Lib.hid (C7.out.setR con hr7 (pv 0 true ⟨#[]⟩))
       go_roundg (gk - 1)
       case measure=>omega
       case rel=>exact ⟨(p + 1),_,_,s + 1,by go_num,hp1,by omega,by omega,C8.out,HR1.out⟩
     ·as_aux_lemma =>
       have q0:(x.op == 0)=false:=(by rw [hop]; rfl); have q1:(x.op == 1)=false:=(by rw [hop]; rfl); have q2:(x.op == 2)=true:=(by rw [hop]; rfl); have q3:(x.op == 3)=false:=(by rw [hop]; rfl); have q4:(x.op == 4)=false:=(by rw [hop]; rfl); have q16:(x.op == 16)=false:=(by rw [hop]; rfl); have q10:(x.op == 10)=false:=(by rw [hop]; rfl); have q11:(x.op == 11)=false:=(by rw [hop]; rfl); have q13:(x.op == 13)=false:=(by rw [hop]; rfl); have q12:(x.op == 12)=false:=(by rw [hop]; rfl); have q15:(x.op == 15)=false:=(by rw [hop]; rfl); have q17:(x.op == 17)=false:=(by rw [hop]; rfl); have q14:(x.op == 14)=false:=(by rw [hop]; rfl)
       have HPT:Hid (partsR x.op=(1,1,0)):=by unfold Hid; rw [hop]; rfl
       have hp1:p + 1 < nc:=by
        have h:=HG.out.next (p:=p) (by have:=HNC.out; omega) (by rw [← HXX.out]; unfold goesR; rw [hop]; rfl)
        have:=HNC.out
        omega
       have hdd:=HGX.out.d
       rw [HPT.out] at hdd
       have hdr:=isPartB_reg hdd
       obtain ⟨r,hr6⟩:∃ r:Nat,x.d=r:=⟨x.d.toNat,by omega⟩
       have hr7:r < K.nr:=by have:=HNR.out; omega
       have hr9:(r:Int) < (nr:Int):=by have:=HNR.out; omega
       have hr8:x.d.toNat=r:=by omega
       have haa:=HGX.out.a
       rw [HPT.out] at haa
       have har:=isPartB_reg haa
       obtain ⟨ra,ha6⟩:∃ r:Nat,x.a=r:=⟨x.a.toNat,by omega⟩
       have ha7:ra < K.nr:=by have:=HNR.out; omega
       have ha9:(ra:Int) < (nr:Int):=by have:=HNR.out; omega
       have ha8:x.a.toNat=ra:=by omega
       have HR1:=Lib.hid (HR.out.inv_go (by omega) (show stepF ck ((l.getD k default).code.getD p default) p R S=.go (p + 1) (upd R x.d.toNat (R x.a.toNat)) S by rw [← HF.out,← HXX.out]; unfold stepF; simp only [hop]; rfl))
       rw [hr8,ha8] at HR1
       rw [hr6] at d1
       rw [ha6] at d2
       obtain ⟨va,hva⟩:∃ va,R ra=va:=⟨_,rfl⟩
       have HVA:Hid (w6.rangeAt zr (ra * 13) va.cells):=by rw [← hva]; exact C6.out.rr.range ha7
       rw [hva] at HR1
       go_wp2_with (first
        | (go_at_call 103; refine (parts_any x.op _).mono ?_; rw [HPT.out]; rintro r w' ⟨rfl,rfl⟩)
        | ((with_reducible show wpList _ _ _ (Oper.mk (some 99) (.load 37 (.tmp 98)) _ _ _ _ :: _) _ _); refine wpList_load_mid rfl 37 _ rfl zr (ra * 13) rfl va.cells _ (rangeExt2 HVA.out) Tryz.underlying37 rfl HZ.out ?_)
        | ((with_reducible show wpList _ _ _ (Oper.mk none (.store 37 (.tmp 19) _) _ _ _ _ :: _) _ _)
           refine wpList_store_row rfl 37 _ _ rfl w6.heap.size rfl 37 zV va.cells.toArray ((Blk.new w6 _ _).alloc _) rfl rfl (Val.ones _) HZ.out ?_
           have X7:Hid (Ext w6 (((w6.alloc (.cells zV 37)).alloc (.cells zV 37)).setRow w6.heap.size va.cells.toArray)):=by unfold Hid; exact exR
           have BA7:Hid (Blk (((w6.alloc (.cells zV 37)).alloc (.cells zV 37)).setRow w6.heap.size va.cells.toArray) w6.heap.size 37 va.cells.toArray):=((Blk.new w6 _ _).alloc _).row _
           have BB7:Hid (Blk (((w6.alloc (.cells zV 37)).alloc (.cells zV 37)).setRow w6.heap.size va.cells.toArray) (w6.heap.size + 1) 37 zeroV):=(setRow_other _ _ _ _ (by omega)).trans (blk2 w6 _ _ _)
           generalize (((w6.alloc (.cells zV 37)).alloc (.cells zV 37)).setRow w6.heap.size va.cells.toArray)=w7 at X7 BA7 BB7 ⊢
           have C7:=Lib.hid (C6.out.ext' X7.out)
           have BX7:=Lib.hid (BX.out.ext X7.out)
           obtain ⟨f0,f1,f2,f3,f4,f5,f6,f7,f8,f9,f10⟩:=rgA_cells BX7.out
           rw [hr6] at f1
           have zx7:=BX7.out.lt
           have za7:=BA7.out.lt
           have zb7:=BB7.out.lt
           have a5:w7.cell? ⟨w6.heap.size,5,none⟩=some (.int .i64 va.n):=BA7.out.cell 5
           have a6:w7.cell? ⟨w6.heap.size,6,none⟩=some (.bool va.null):=BA7.out.cell 6
           have a7:w7.cell? ⟨w6.heap.size,7,none⟩=some (.string va.err):=BA7.out.cell 7)
        | ((with_reducible show wpList _ _ _ (Oper.mk (some 150) (.load 37 (.tmp 19)) _ _ _ _ :: _) _ _); refine wpList_load_row rfl 37 _ rfl (w6.heap.size) rfl 37 va.cells.toArray (0,0) _ (BA7.out) Tryz.underlying37 rfl HZ.out ?_)
        | ((with_reducible show wpList _ _ _ (Oper.mk none (.store 37 (.tmp 151) _) _ _ _ _ :: _) _ _); refine wpList_store_mid rfl 37 _ _ rfl zr (r * 13) va.cells.toArray rfl rfl (C7.out.rr.there hr7) HZ.out (Val.all_one _) ?_))
       have C8:=Lib.hid (C7.out.setR con hr7 va)
       go_roundg (gk - 1)
       case measure=>omega
       case rel=>exact ⟨(p + 1),_,_,s + 1,by go_num,hp1,by omega,by omega,C8.out,HR1.out⟩
     ·as_aux_lemma =>
       have q0:(x.op == 0)=false:=(by rw [hop]; rfl); have q1:(x.op == 1)=false:=(by rw [hop]; rfl); have q2:(x.op == 2)=false:=(by rw [hop]; rfl); have q3:(x.op == 3)=true:=(by rw [hop]; rfl); have q4:(x.op == 4)=false:=(by rw [hop]; rfl); have q16:(x.op == 16)=false:=(by rw [hop]; rfl); have q10:(x.op == 10)=false:=(by rw [hop]; rfl); have q11:(x.op == 11)=false:=(by rw [hop]; rfl); have q13:(x.op == 13)=false:=(by rw [hop]; rfl); have q12:(x.op == 12)=false:=(by rw [hop]; rfl); have q15:(x.op == 15)=false:=(by rw [hop]; rfl); have q17:(x.op == 17)=false:=(by rw [hop]; rfl); have q14:(x.op == 14)=false:=(by rw [hop]; rfl)
       have HPT:Hid (partsR x.op=(1,2,0)):=by unfold Hid; rw [hop]; rfl
       have hp1:p + 1 < nc:=by
        have h:=HG.out.next (p:=p) (by have:=HNC.out; omega) (by rw [← HXX.out]; unfold goesR; rw [hop]; rfl)
        have:=HNC.out
        omega
       have hdd:=HGX.out.d
       rw [HPT.out] at hdd
       have hdr:=isPartB_reg hdd
       obtain ⟨r,hr6⟩:∃ r:Nat,x.d=r:=⟨x.d.toNat,by omega⟩
       have hr7:r < K.nr:=by have:=HNR.out; omega
       have hr9:(r:Int) < (nr:Int):=by have:=HNR.out; omega
       have hr8:x.d.toNat=r:=by omega
       have haa:=HGX.out.a
       rw [HPT.out] at haa
       have har:=isPartB_slot haa
       have hro:=((roomL_ge f.code f.params).2 x (by rw [HXX.out]; exact getD_mem hpl)).1 (by omega)
       have hns2:roomL f.params f.code=ns:=HNS.out
       obtain ⟨ra,ha6⟩:∃ r:Nat,x.a=r:=⟨x.a.toNat,by omega⟩
       have ha7:ra < K.ns:=by omega
       have ha9:(ra:Int) < (ns:Int):=by omega
       have ha8:x.a.toNat=ra:=by omega
       have HR1:=Lib.hid (HR.out.inv_go (by omega) (show stepF ck ((l.getD k default).code.getD p default) p R S=.go (p + 1) (upd R x.d.toNat (S x.a.toNat)) S by rw [← HF.out,← HXX.out]; unfold stepF; simp only [hop]; rfl))
       rw [hr8,ha8] at HR1
       have C7:Hid (HSt w m zo zf zr zs K (s + 1) 0 0 R S ((w6.alloc (.cells zV 37)).alloc (.cells zV 37))):=C6.out.ext' exR
       have BX7:Hid (Blk ((w6.alloc (.cells zV 37)).alloc (.cells zV 37)) bx 67 (rgA x)):=BX.out.ext exR
       go_wp2_with (first
        | (go_at_call 103; refine (parts_any x.op _).mono ?_; rw [HPT.out]; rintro r w' ⟨rfl,rfl⟩))
       generalize ((w6.alloc (.cells zV 37)).alloc (.cells zV 37))=w7 at C7 BX7 ⊢
       have HD:Hid (∀ (w':World) {l:Array Bool},l.getD 9 false=false → QSt 10 9 w m zo zf zr zs K (s + 1) 0 0 R S (upd R r (S ra)) S bx x l w' → w'.cell? ⟨bx,0,none⟩=some (.int .i64 x.op)∧w'.cell? ⟨bx,1,none⟩=some (.int .i64 (r:Nat))∧w'.cell? ⟨bx,2,none⟩=some (.int .i64 (ra:Nat))∧w'.cell? ⟨bx,3,none⟩=some (.int .i64 x.b)∧w'.cell? ⟨bx,4,none⟩=some (.int .i64 x.ty.base)∧w'.cell? ⟨bx,5,none⟩=some (.int .i64 x.ty.bits)∧w'.cell? ⟨bx,6,none⟩=some (.string x.ty.name)∧w'.cell? ⟨bx,7,none⟩=some (.bool x.ty.opt)∧w'.cell? ⟨bx,8,none⟩=some (.bool x.ty.err)∧w'.cell? ⟨bx,9,none⟩=some (.string x.name)∧w'.cell? ⟨bx,10,none⟩=some (.slice x.A x.args.length x.cap)):=fun w' l hk h=>by
        have z:=rgA_cells h.2.2
        rw [hr6] at z
        rw [ha6] at z
        exact z
       have HST:∀ (i:Nat) (_:i ≠ 9:=by decide) (l:Array Bool) (w':World),QSt 10 9 w m zo zf zr zs K (s + 1) 0 0 R S (upd R r (S ra)) S bx x (l.setIfInBounds i true) w' ↔ QSt 10 9 w m zo zf zr zs K (s + 1) 0 0 R S (upd R r (S ra)) S bx x l w':=fun i hi l w'=>QSt.same hi l w'
       have hzb:zs < bx:=hzs
       clear d0 d1 d2 d3 d4 d5 d6 d7 d8 d9 d10 zx
       refine flow_begin (QSt 10 9 w m zo zf zr zs K (s + 1) 0 0 R S (upd R r (S ra)) S bx x) #[false,false,false,false,false,false,false,false,false,false] rfl (by kernel_rfl) (fun _ _ _ _ _ h=>h) ((QSt.start C7.out BX7.out rfl rfl)) (fun HQ=>?_)
       (refine ttK 0 9 154 rfl HQ (HST 0) ?_; try simp only [putL,List.set])
       (refine ttK 1 9 155 rfl HQ (HST 1) ?_; try simp only [putL,List.set])
       (refine ttK 2 9 156 rfl HQ (HST 2) ?_; try simp only [putL,List.set])
       (refine ttK 3 9 157 rfl HQ (HST 3) ?_; try simp only [putL,List.set])
       (refine ttK 4 9 158 rfl HQ (HST 4) ?_; try simp only [putL,List.set])
       (refine ttK 5 9 159 rfl HQ (HST 5) ?_; try simp only [putL,List.set])
       (refine ttK 6 9 160 rfl HQ (HST 6) ?_; try simp only [putL,List.set])
       (refine flow_takeK (i:=7) (k:=9) (t:=161) (oi:=⟨some 161,_,_,_,_,_⟩) (ok:=⟨none,_,_,_,_,_⟩) rfl rfl (by kernel_rfl) (by kernel_rfl) (by decide) rfl (by kernel_rfl) (by kernel_rfl) (by kernel_rfl) HQ (HST 7) (does_loadK (by rfl) 37 _ rfl (zs) (ra * 13) rfl ((S ra).cells) _ (fun l w' hlk hF=>(QSt.before hlk hF).ss.range ha7) Tryz.underlying37 rfl HZ.out) ?_; try simp only [putL,List.set])
       (refine ttK 8 9 162 rfl HQ (HST 8) ?_; try simp only [putL,List.set])
       refine flow_put (i:=9) (oi:=⟨none,_,_,_,_,none⟩) rfl rfl (stores_mid (i:=9) rfl 37 _ _ rfl zr (r * 13) (S ra).cells.toArray rfl rfl (fun l w' h=>h.2.1.rr.there hr7) HZ.out (Val.all_one _) (fun l w' h=>QSt.putR con hzb hr7 _ (by decide) h)) (by kernel_rfl) ?_
       refine flow_done (by kernel_rfl) ?_
       intro w8 hm7
       obtain ⟨c8,bx8⟩:=QSt.done hm7 (by rfl)
       have C8:=Lib.hid c8
       clear c8 bx8 hm7 HD HST HQ
       go_wp2_with fail
       go_roundg (gk - 1)
       case measure=>omega
       case rel=>exact ⟨(p + 1),_,_,s + 1,by go_num,hp1,by omega,by omega,C8.out,HR1.out⟩
     ·as_aux_lemma =>
       have q0:(x.op == 0)=false:=(by rw [hop]; rfl); have q1:(x.op == 1)=false:=(by rw [hop]; rfl); have q2:(x.op == 2)=false:=(by rw [hop]; rfl); have q3:(x.op == 3)=false:=(by rw [hop]; rfl); have q4:(x.op == 4)=true:=(by rw [hop]; rfl); have q16:(x.op == 16)=false:=(by rw [hop]; rfl); have q10:(x.op == 10)=false:=(by rw [hop]; rfl); have q11:(x.op == 11)=false:=(by rw [hop]; rfl); have q13:(x.op == 13)=false:=(by rw [hop]; rfl); have q12:(x.op == 12)=false:=(by rw [hop]; rfl); have q15:(x.op == 15)=false:=(by rw [hop]; rfl); have q17:(x.op == 17)=false:=(by rw [hop]; rfl); have q14:(x.op == 14)=false:=(by rw [hop]; rfl)
       have HPT:Hid (partsR x.op=(0,2,1)):=by unfold Hid; rw [hop]; rfl
       have hp1:p + 1 < nc:=by
        have h:=HG.out.next (p:=p) (by have:=HNC.out; omega) (by rw [← HXX.out]; unfold goesR; rw [hop]; rfl)
        have:=HNC.out
        omega
       have haa:=HGX.out.a
       rw [HPT.out] at haa
       have har:=isPartB_slot haa
       have hro:=((roomL_ge f.code f.params).2 x (by rw [HXX.out]; exact getD_mem hpl)).1 (by omega)
       have hns2:roomL f.params f.code=ns:=HNS.out
       obtain ⟨ra,ha6⟩:∃ r:Nat,x.a=r:=⟨x.a.toNat,by omega⟩
       have ha7:ra < K.ns:=by omega
       have ha9:(ra:Int) < (ns:Int):=by omega
       have ha8:x.a.toNat=ra:=by omega
       have hbb:=HGX.out.b
       rw [HPT.out] at hbb
       have hbr:=isPartB_reg hbb
       obtain ⟨rb,hb6⟩:∃ r:Nat,x.b=r:=⟨x.b.toNat,by omega⟩
       have hb7:rb < K.nr:=by have:=HNR.out; omega
       have hbb9:(rb:Int) < (nr:Int):=by have:=HNR.out; omega
       have hb8:x.b.toNat=rb:=by omega
       have HR1:=Lib.hid (HR.out.inv_go (by omega) (show stepF ck ((l.getD k default).code.getD p default) p R S=.go (p + 1) R (upd S x.a.toNat (R x.b.toNat)) by rw [← HF.out,← HXX.out]; unfold stepF; simp only [hop]; rfl))
       rw [ha8,hb8] at HR1
       rw [ha6] at d2
       rw [hb6] at d3
       obtain ⟨va,hva⟩:∃ va,R rb=va:=⟨_,rfl⟩
       have HVA:Hid (w6.rangeAt zr (rb * 13) va.cells):=by rw [← hva]; exact C6.out.rr.range hb7
       rw [hva] at HR1
       go_wp2_with (first
        | (go_at_call 103; refine (parts_any x.op _).mono ?_; rw [HPT.out]; rintro r w' ⟨rfl,rfl⟩)
        | ((with_reducible show wpList _ _ _ (Oper.mk (some 106) (.load 37 (.tmp 105)) _ _ _ _ :: _) _ _); refine wpList_load_mid rfl 37 _ rfl zr (rb * 13) rfl va.cells _ (rangeExt2 HVA.out) Tryz.underlying37 rfl HZ.out ?_)
        | ((with_reducible show wpList _ _ _ (Oper.mk none (.store 37 (.tmp 20) _) _ _ _ _ :: _) _ _)
           refine wpList_store_row rfl 37 _ _ rfl (w6.heap.size + 1) rfl 37 zV va.cells.toArray (blk2 w6 _ _ _) rfl rfl (Val.ones _) HZ.out ?_
           have X7:Hid (Ext w6 (((w6.alloc (.cells zV 37)).alloc (.cells zV 37)).setRow (w6.heap.size + 1) va.cells.toArray)):=by unfold Hid; exact exR
           have BB7:Hid (Blk (((w6.alloc (.cells zV 37)).alloc (.cells zV 37)).setRow (w6.heap.size + 1) va.cells.toArray) (w6.heap.size + 1) 37 va.cells.toArray):=(blk2 w6 _ _ _).row _
           generalize (((w6.alloc (.cells zV 37)).alloc (.cells zV 37)).setRow (w6.heap.size + 1) va.cells.toArray)=w7 at X7 BB7 ⊢
           have C7:=Lib.hid (C6.out.ext' X7.out)
           have BX7:=Lib.hid (BX.out.ext X7.out)
           obtain ⟨f0,f1,f2,f3,f4,f5,f6,f7,f8,f9,f10⟩:=rgA_cells BX7.out
           rw [ha6] at f2
           have zx7:=BX7.out.lt)
        | ((with_reducible show wpList _ _ _ (Oper.mk (some 168) (.load 37 (.tmp 20)) _ _ _ _ :: _) _ _); refine wpList_load_row rfl 37 _ rfl (w6.heap.size + 1) rfl 37 va.cells.toArray (0,0) _ (BB7.out) Tryz.underlying37 rfl HZ.out ?_)
        | ((with_reducible show wpList _ _ _ (Oper.mk none (.store 37 (.tmp 169) _) _ _ _ _ :: _) _ _); refine wpList_store_mid rfl 37 _ _ rfl zs (ra * 13) va.cells.toArray rfl rfl (C7.out.ss.there ha7) HZ.out (Val.all_one _) ?_))
       have C8:=Lib.hid (C7.out.setS con ha7 va)
       go_roundg (gk - 1)
       case measure=>omega
       case rel=>exact ⟨(p + 1),_,_,s + 1,by go_num,hp1,by omega,by omega,C8.out,HR1.out⟩
     ·as_aux_lemma =>
       have q0:(x.op == 0)=false:=(by rw [hop]; rfl); have q1:(x.op == 1)=false:=(by rw [hop]; rfl); have q2:(x.op == 2)=false:=(by rw [hop]; rfl); have q3:(x.op == 3)=false:=(by rw [hop]; rfl); have q4:(x.op == 4)=false:=(by rw [hop]; rfl); have q16:(x.op == 16)=false:=(by rw [hop]; rfl); have q10:(x.op == 10)=false:=(by rw [hop]; rfl); have q11:(x.op == 11)=false:=(by rw [hop]; rfl); have q13:(x.op == 13)=false:=(by rw [hop]; rfl); have q12:(x.op == 12)=false:=(by rw [hop]; rfl); have q15:(x.op == 15)=true:=(by rw [hop]; rfl); have q17:(x.op == 17)=false:=(by rw [hop]; rfl); have q14:(x.op == 14)=false:=(by rw [hop]; rfl)
       have HPT:Hid (partsR x.op=(0,1,0)):=by unfold Hid; rw [hop]; rfl
       have haa:=HGX.out.a
       rw [HPT.out] at haa
       have har:=isPartB_reg haa
       obtain ⟨ra,ha6⟩:∃ r:Nat,x.a=r:=⟨x.a.toNat,by omega⟩
       have ha7:ra < K.nr:=by have:=HNR.out; omega
       have ha9:(ra:Int) < (nr:Int):=by have:=HNR.out; omega
       have ha8:x.a.toNat=ra:=by omega
       obtain ⟨he,ht⟩:=HR.out.inv_done (by omega) (show stepF ck ((l.getD k default).code.getD p default) p R S=.done (.ret (R x.a.toNat)) by rw [← HF.out,← HXX.out]; unfold stepF; simp only [hop]; rfl)
       rw [ha6] at d2
       obtain ⟨va,hva⟩:∃ va,R ra=va:=⟨_,rfl⟩
       have HVA:Hid (w6.rangeAt zr (ra * 13) va.cells):=by rw [← hva]; exact C6.out.rr.range ha7
       rw [ha8,hva] at he
       go_wp2_with (first
        | (go_at_call 103; refine (parts_any x.op _).mono ?_; rw [HPT.out]; rintro r w' ⟨rfl,rfl⟩)
        | ((with_reducible show wpList _ _ _ (Oper.mk (some 99) (.load 37 (.tmp 98)) _ _ _ _ :: _) _ _); refine wpList_load_mid rfl 37 _ rfl zr (ra * 13) rfl va.cells _ (rangeExt2 HVA.out) Tryz.underlying37 rfl HZ.out ?_)
        | ((with_reducible show wpList _ _ _ (Oper.mk none (.store 37 (.tmp 19) _) _ _ _ _ :: _) _ _)
           refine wpList_store_row rfl 37 _ _ rfl w6.heap.size rfl 37 zV va.cells.toArray ((Blk.new w6 _ _).alloc _) rfl rfl (Val.ones _) HZ.out ?_
           have X7:Hid (Ext w6 (((w6.alloc (.cells zV 37)).alloc (.cells zV 37)).setRow w6.heap.size va.cells.toArray)):=by unfold Hid; exact exR
           have BA7:Hid (Blk (((w6.alloc (.cells zV 37)).alloc (.cells zV 37)).setRow w6.heap.size va.cells.toArray) w6.heap.size 37 va.cells.toArray):=((Blk.new w6 _ _).alloc _).row _
           have BB7:Hid (Blk (((w6.alloc (.cells zV 37)).alloc (.cells zV 37)).setRow w6.heap.size va.cells.toArray) (w6.heap.size + 1) 37 zeroV):=(setRow_other _ _ _ _ (by omega)).trans (blk2 w6 _ _ _)
           generalize (((w6.alloc (.cells zV 37)).alloc (.cells zV 37)).setRow w6.heap.size va.cells.toArray)=w7 at X7 BA7 BB7 ⊢
           have C7:=Lib.hid (C6.out.ext' X7.out)
           have BX7:=Lib.hid (BX.out.ext X7.out)
           obtain ⟨f0,f1,f2,f3,f4,f5,f6,f7,f8,f9,f10⟩:=rgA_cells BX7.out
           have zx7:=BX7.out.lt
           have za7:=BA7.out.lt
           have zb7:=BB7.out.lt
           have a5:w7.cell? ⟨w6.heap.size,5,none⟩=some (.int .i64 va.n):=BA7.out.cell 5
           have a6:w7.cell? ⟨w6.heap.size,6,none⟩=some (.bool va.null):=BA7.out.cell 6
           have a7:w7.cell? ⟨w6.heap.size,7,none⟩=some (.string va.err):=BA7.out.cell 7)
        | ((with_reducible show wpList _ _ _ (Oper.mk (some 205) (.load 37 (.tmp 19)) _ _ _ _ :: _) _ _); refine wpList_load_row rfl 37 _ rfl (w6.heap.size) rfl 37 va.cells.toArray (0,0) _ (BA7.out) Tryz.underlying37 rfl HZ.out ?_)
        | ((with_reducible show wpList _ _ _ (Oper.mk none (.store 37 (.tmp 8) _) _ _ _ _ :: _) _ _); refine wpList_store_row rfl 37 _ _ rfl zo rfl 37 zeroV va.cells.toArray (C7.out.oo) rfl rfl (Val.ones _) HZ.out ?_))
       exact bodyPost_ret (results_row_tmp rfl _ _ zo 37 va.cells.toArray (0,0) _ rfl (C7.out.oo.row _) Tryz.underlying37 rfl HZ.out (.bool true) rfl) rfl (by rw [he,ht]; exact HSt.ret con HK0.out (.ret va) C7.out)
     ·as_aux_lemma =>
       have q0:(x.op == 0)=false:=(by rw [hop]; rfl); have q1:(x.op == 1)=false:=(by rw [hop]; rfl); have q2:(x.op == 2)=false:=(by rw [hop]; rfl); have q3:(x.op == 3)=false:=(by rw [hop]; rfl); have q4:(x.op == 4)=false:=(by rw [hop]; rfl); have q16:(x.op == 16)=true:=(by rw [hop]; rfl); have q10:(x.op == 10)=false:=(by rw [hop]; rfl); have q11:(x.op == 11)=false:=(by rw [hop]; rfl); have q13:(x.op == 13)=false:=(by rw [hop]; rfl); have q12:(x.op == 12)=false:=(by rw [hop]; rfl); have q15:(x.op == 15)=false:=(by rw [hop]; rfl); have q17:(x.op == 17)=false:=(by rw [hop]; rfl); have q14:(x.op == 14)=false:=(by rw [hop]; rfl)
       have HPT:Hid (partsR x.op=(1,0,0)):=by unfold Hid; rw [hop]; rfl
       have hp1:p + 1 < nc:=by
        have h:=HG.out.next (p:=p) (by have:=HNC.out; omega) (by rw [← HXX.out]; unfold goesR; rw [hop]; rfl)
        have:=HNC.out
        omega
       have hdd:=HGX.out.d
       rw [HPT.out] at hdd
       have hdr:=isPartB_reg hdd
       obtain ⟨r,hr6⟩:∃ r:Nat,x.d=r:=⟨x.d.toNat,by omega⟩
       have hr7:r < K.nr:=by have:=HNR.out; omega
       have hr9:(r:Int) < (nr:Int):=by have:=HNR.out; omega
       have hr8:x.d.toNat=r:=by omega
       have HR1:=Lib.hid (HR.out.inv_go (by omega) (show stepF ck ((l.getD k default).code.getD p default) p R S=.go (p + 1) (upd R x.d.toNat (pv 0 false x.name)) S by rw [← HF.out,← HXX.out]; unfold stepF; simp only [hop]; rfl))
       rw [hr8] at HR1
       rw [hr6] at d1
       have C7:Hid (HSt w m zo zf zr zs K (s + 1) 0 0 R S ((w6.alloc (.cells zV 37)).alloc (.cells zV 37))):=C6.out.ext' exR
       go_wp2_with (first
        | (go_at_call 103; refine (parts_any x.op _).mono ?_; rw [HPT.out]; rintro r w' ⟨rfl,rfl⟩)
        | ((with_reducible show wpList _ _ _ (Oper.mk none (.store 37 (.tmp 178) _) _ _ _ _ :: _) _ _); refine wpList_store_mid rfl 37 _ _ rfl zr (r * 13) (pv 0 false x.name).cells.toArray rfl rfl (C7.out.rr.there hr7) HZ.out (Val.all_one _) ?_))
       have C8:=Lib.hid (C7.out.setR con hr7 (pv 0 false x.name))
       go_roundg (gk - 1)
       case measure=>omega
       case rel=>exact ⟨(p + 1),_,_,s + 1,by go_num,hp1,by omega,by omega,C8.out,HR1.out⟩
     ·as_aux_lemma =>
       have q0:(x.op == 0)=false:=(by rw [hop]; rfl); have q1:(x.op == 1)=false:=(by rw [hop]; rfl); have q2:(x.op == 2)=false:=(by rw [hop]; rfl); have q3:(x.op == 3)=false:=(by rw [hop]; rfl); have q4:(x.op == 4)=false:=(by rw [hop]; rfl); have q16:(x.op == 16)=false:=(by rw [hop]; rfl); have q10:(x.op == 10)=false:=(by rw [hop]; rfl); have q11:(x.op == 11)=false:=(by rw [hop]; rfl); have q13:(x.op == 13)=false:=(by rw [hop]; rfl); have q12:(x.op == 12)=false:=(by rw [hop]; rfl); have q15:(x.op == 15)=false:=(by rw [hop]; rfl); have q17:(x.op == 17)=true:=(by rw [hop]; rfl); have q14:(x.op == 14)=false:=(by rw [hop]; rfl)
       have HPT:Hid (partsR x.op=(0,4,0)):=by unfold Hid; rw [hop]; rfl
       obtain ⟨he,ht⟩:=HR.out.inv_done (by omega) (show stepF ck ((l.getD k default).code.getD p default) p R S=.done (bif ck then .stop x.a else .ret default) by rw [← HF.out,← HXX.out]; unfold stepF; simp only [hop]; rfl)
       have C7:Hid (HSt w m zo zf zr zs K (s + 1) 0 0 R S ((w6.alloc (.cells zV 37)).alloc (.cells zV 37))):=C6.out.ext' exR
       have HM7:Hid (HMem ((w6.alloc (.cells zV 37)).alloc (.cells zV 37)) m A len cap ck ((s + 1:Nat):Int) 0 0 B bn bc):=by
        have h:=C7.out.mm
        rw [HK0.out] at h
        exact h
       cases ck
       ·rw [cond_false] at he
        go_wp2_with (first
         | (go_at_call 103; refine (parts_any x.op _).mono ?_; rw [HPT.out]; rintro r w' ⟨rfl,rfl⟩)
         | (go_at_call 210; refine (hstop_f m A len cap _ B bn bc x.a _ HM7.out).mono ?_; rintro r w' ⟨rfl,rfl⟩)
         | ((with_reducible show wpList _ _ _ (Oper.mk none (.store 37 (.tmp 8) _) _ _ _ _ :: _) _ _); refine wpList_store_row rfl 37 _ _ rfl zo rfl 37 zeroV (default:Val).cells.toArray (C7.out.oo) rfl rfl (Val.ones _) HZ.out ?_))
        exact bodyPost_ret (results_row_tmp rfl _ _ zo 37 (default:Val).cells.toArray (0,0) _ rfl (C7.out.oo.row _) Tryz.underlying37 rfl HZ.out (.bool true) rfl) rfl (by rw [he,ht]; exact HSt.ret con HK0.out (.ret default) C7.out)
       ·rw [cond_true] at he
        go_wp2_with (first
         | (go_at_call 103; refine (parts_any x.op _).mono ?_; rw [HPT.out]; rintro r w' ⟨rfl,rfl⟩)
         | (go_at_call 210
            refine (hstop_t m A len cap _ B bn bc x.a _ HM7.out).mono ?_; rintro r w8 ⟨rfl,m8,g8⟩
            have C8:=Lib.hid (C7.out.turn con g8 (by rw [HK0.out]; exact m8)))
         | ((with_reducible show wpList _ _ _ (Oper.mk none (.store 37 (.tmp 8) _) _ _ _ _ :: _) _ _); refine wpList_store_row rfl 37 _ _ rfl zo rfl 37 zeroV (default:Val).cells.toArray (C8.out.oo) rfl rfl (Val.ones _) HZ.out ?_))
        exact bodyPost_ret (results_row_tmp rfl _ _ zo 37 (default:Val).cells.toArray (0,0) _ rfl (C8.out.oo.row _) Tryz.underlying37 rfl HZ.out (.bool false) rfl) rfl (by rw [he,ht]; exact HSt.ret con HK0.out (.stop x.a) C8.out)
     ·have q0:(x.op == 0)=false:=by rw [hop]; rfl
      have q1:(x.op == 1)=false:=(by rw [hop]; rfl); have q2:(x.op == 2)=false:=(by rw [hop]; rfl); have q3:(x.op == 3)=false:=(by rw [hop]; rfl); have q4:(x.op == 4)=false:=(by rw [hop]; rfl); have q16:(x.op == 16)=false:=(by rw [hop]; rfl); have q10:(x.op == 10)=false:=(by rw [hop]; rfl); have q11:(x.op == 11)=false:=(by rw [hop]; rfl); have q13:(x.op == 13)=false:=(by rw [hop]; rfl); have q12:(x.op == 12)=false:=(by rw [hop]; rfl); have q15:(x.op == 15)=false:=(by rw [hop]; rfl); have q17:(x.op == 17)=false:=(by rw [hop]; rfl); have q14:(x.op == 14)=true:=(by rw [hop]; rfl)
      have HPT:Hid (partsR x.op=(1,0,0)):=by unfold Hid; rw [hop]; rfl
      have hp1:p + 1 < nc:=by
       have h:=HG.out.next (p:=p) (by have:=HNC.out; omega) (by rw [← HXX.out]; unfold goesR; rw [hop]; rfl)
       have:=HNC.out
       omega
      have hdd:=HGX.out.d
      rw [HPT.out] at hdd
      have hdr:=isPartB_reg hdd
      obtain ⟨r,hr6⟩:∃ r:Nat,x.d=r:=⟨x.d.toNat,by omega⟩
      have hr7:r < K.nr:=by have:=HNR.out; omega
      have hr9:(r:Int) < (nr:Int):=by have:=HNR.out; omega
      have hr8:x.d.toNat=r:=by omega
      obtain ⟨e1,t1,hr1,hr2⟩:=HR.out.inv_call (by omega) (show stepF ck ((l.getD k default).code.getD p default) p R S=.call x.name (x.args.map fun i=>S i.toNat) x.d.toNat by rw [← HF.out,← HXX.out]; unfold stepF; simp only [hop]; rfl)
      obtain ⟨j,hj1,hj2,hj3⟩:=HGX.out.call hop
      rw [hj1,Int.toNat_natCast] at hr1
      rw [hr8] at hr2
      obtain ⟨nb,hnb⟩:∃ nb,nb=x.args.length:=⟨_,rfl⟩
      have hnb4:nb ≤ 4:=by have h:=(HVP.out.2.2 j hj2).1.par; omega
      have HNB:Hid (NumsAt wb x.A x.args):=((HA.out.sub f (by rw [HF.out]; exact getD_mem (by have:=HLN.out; omega))).sub x (by rw [HXX.out]; exact getD_mem hpl))
      obtain ⟨xa,hxa⟩:∃ xa,xa=x.A:=⟨_,rfl⟩
      rw [← hxa] at HNB
      have HXA:=Lib.hid hxa
      have HNL:=Lib.hid hnb
      have HR1:=Lib.hid hr1
      have HR2:=Lib.hid hr2
      have HJ:=Lib.hid hj1
      have HJ2:=Lib.hid hj2
      have HJ3:=Lib.hid hj3
      have hro9:=fun a ha=>((roomL_ge f.code f.params).2 x (by rw [HXX.out]; exact getD_mem hpl)).2 a ha
      have HRO:=Lib.hid hro9
      clear hxa hnb hr1 hr2 hj1 hj2 hj3 hro9
      obtain ⟨i0,hi0,hz0,hz1,hz2⟩:=info_val_parts
      have HI:=Lib.hid hi0
      have HZ0:=Lib.hid hz0
      have HZ1:=Lib.hid hz1
      have HZ2:=Lib.hid hz2
      clear hi0 hz0 hz1 hz2
      have C7:Hid (HSt w m zo zf zr zs K (s + 1) 0 0 R S ((w6.alloc (.cells zV 37)).alloc (.cells zV 37))):=C6.out.ext' exR
      have BX7:Hid (Blk ((w6.alloc (.cells zV 37)).alloc (.cells zV 37)) bx 67 (rgA x)):=BX.out.ext exR
      go_wp2_with (first
       | (go_at_call 103; refine (parts_any x.op _).mono ?_; rw [HPT.out]; rintro r w' ⟨rfl,rfl⟩))
      generalize ((w6.alloc (.cells zV 37)).alloc (.cells zV 37))=w7 at C7 BX7 ⊢
      obtain ⟨bz,hbz⟩:∃ bz,bz=w7.heap.size:=⟨_,rfl⟩
      have hbz2:bx < bz:=by have:=BX7.out.lt; omega
      have hbz3:bz ≤ w7.heap.size:=by omega
      clear hbz
      clear d0 d1 d2 d3 d4 d5 d6 d7 d8 d9 d10 zx
      go_loopw [21,22] (fun v i wq=>∃ q:Nat,q ≤ nb∧i=.int .i64 q∧wq.ownsRow bz 37 13 v q (flatV ((x.args.map fun i=>S i.toNat).take q))∧HSt w m zo zf zr zs K (s + 1) 0 0 R S wq∧Blk wq bx 67 (rgA x)∧bz ≤ wq.heap.size) (fun _ i _=>nb - (intOf i).toNat)
      case atStart=>exact ⟨0,Nat.zero_le _,rfl,World.ownsRow_nil _ _ _ _,C7.out,BX7.out,hbz3⟩
      case round =>
       clear hbz3
       obtain ⟨q2,hq2,rfl,ho,hc,hbx,hzz⟩:=hrel
       have HO:=Lib.hid ho
       have HC:=Lib.hid hc
       have HBX:=Lib.hid hbx
       have hxq:Ext wb wr:=HX.out.grown hc.gr (fun k' e=>by have:=Option.some.inj e; have:=HM0.out; omega)
       obtain ⟨d0,d1,d2,d3,d4,d5,d6,d7,d8,d9,d10⟩:=rgA_cells HBX.out
       rw [← HNL.out,← HXA.out] at d10
       have zx:=hbx.lt
       by_cases hlt:q2 < nb
       ·obtain ⟨b5,o5,rfl,hb5,c5⟩:=(HNB.out.ext hxq).one (k:=q2) (by rw [← HNL.out]; exact hlt)
        have hql:q2 < x.args.length:=by rw [← HNL.out]; exact hlt
        have hmem:x.args.getD q2 0 ∈ x.args:=by rw [List.getD,List.getElem?_eq_getElem hql]; exact List.getElem_mem hql
        have hin:=HGX.out.args (x.args.getD q2 0) hmem
        have hro:=HRO.out _ hmem
        have hns2:roomL f.params f.code=ns:=HNS.out
        obtain ⟨iv,hiv⟩:∃ iv:Nat,x.args.getD q2 0=iv:=⟨(x.args.getD q2 0).toNat,by omega⟩
        rw [hiv] at c5 hin hro
        have hin2:iv < K.ns:=by omega
        have hin3:(iv:Int) < (ns:Int):=by omega
        have HIV:=Lib.hid hiv
        obtain ⟨sv,hsv⟩:∃ sv,S iv=sv:=⟨_,rfl⟩
        have HVR:Hid (wr.rangeAt zs (iv * 13) sv.cells):=by have h:=hc.ss.range hin2; rw [hsv] at h; exact h
        have HSV:=Lib.hid hsv
        clear ho hc hbx hsv hiv hin hro hmem
        go_wp2_with (first
         | ((with_reducible show wpList _ _ _ (Oper.mk (some 231) (.load 37 (.tmp 230)) _ _ _ _ :: _) _ _); refine wpList_load_mid rfl 37 _ rfl zs (iv * 13) rfl [.int .i64 sv.ty.base,.int .i64 sv.ty.bits,.string sv.ty.name,.bool sv.ty.opt,.bool sv.ty.err,.int .i64 sv.n,.bool sv.null,.string sv.err,.int .i64 sv.of.base,.int .i64 sv.of.bits,.string sv.of.name,.bool sv.of.opt,.bool sv.of.err] _ HVR.out Tryz.underlying37 rfl HZ.out ?_)
         | (at_builtin
            refine wpList_append_own _ rfl _ _ 30 rfl bz 37 i0 _ 13 112 Tryz.underlying30 HI.out HZ0.out HZ1.out HZ2.out rfl (by decide) _ _ _ rfl (own_ext HO.out ((Ext.refl wr).alloc _)) ⟨wr.heap.size,0,none⟩ 1 1 sv.cells rfl rfl ?c1 ?c2 ?c3 ?c4 ?c5 ?_))
        case c1 =>
         intro j2 u hj2
         rw [Addr.add_mid,Nat.zero_add]
         exact ((Blk.new wr 37 sv.cells.toArray).cell j2).trans (by simpa using hj2)
        case c2=>exact sv.one
        case c3=>unfold maxLen; omega
        case c4=>omega
        case c5=>simp; omega
        intro v' w3 ow3 g3 _
        have OW3:=Lib.hid ow3
        have C3:=Lib.hid (HSt.off con (HC.out.ext' ((Ext.refl wr).alloc (.cells sv.cells.toArray 37))) g3 (fun k' e=>by have:=own_row HO.out k' e; omega))
        have BX3:=Lib.hid (Blk.aside (HBX.out.ext ((Ext.refl wr).alloc (.cells sv.cells.toArray 37))) g3 (fun k' e=>by have:=own_row HO.out k' e; omega))
        have hz3:bz ≤ w3.heap.size:=by have:=g3.size; simp at this; omega
        clear ow3 g3
        go_wp2_with fail
        go_roundw
        case rel =>
         refine ⟨q2 + 1,by omega,by go_num,?_,C3.out,BX3.out,hz3⟩
         rw [List.take_succ_eq_append_getElem (by rw [List.length_map]; exact hql),flatV_snoc,List.getElem_map]
         have e9:S (x.args[q2]).toNat=sv:=by
          have h:=HIV.out
          rw [List.getD,List.getElem?_eq_getElem hql,Option.getD_some] at h
          rw [h,Int.toNat_natCast]; exact HSV.out
         rw [e9]
         exact OW3.out
        case measure=>simp [intOf]; omega
       ·have hqn:q2=nb:=by omega
        subst hqn
        rw [List.take_of_length_le (by rw [List.length_map]; have:=HNL.out; omega)] at HO
        obtain ⟨vA9,vc9,hv9,hvals⟩:=own_vals HO.out (by rw [List.length_map]; exact HNL.out)
        subst hv9
        have HVL:=Lib.hid hvals
        clear ho hc hbx hvals HO
        go_wp2_with fail
        clear d0 d1 d2 d3 d4 d5 d6 d7 d8 d9 d10 zx
        have HD:Hid (∀ (l':Array Bool) (b':Act) (w':World),LSt w m zo zf zr zs K (s + 1) t1 R S bx x vA9 (x.args.map fun i=>S i.toNat) e1 l' b' w' → (w'.cell? ⟨m,0,none⟩=some (.slice A len cap))∧w'.cell? ⟨bx,0,none⟩=some (.int .i64 x.op)∧w'.cell? ⟨bx,1,none⟩=some (.int .i64 x.d)∧w'.cell? ⟨bx,2,none⟩=some (.int .i64 x.a)∧w'.cell? ⟨bx,3,none⟩=some (.int .i64 x.b)∧w'.cell? ⟨bx,4,none⟩=some (.int .i64 x.ty.base)∧w'.cell? ⟨bx,5,none⟩=some (.int .i64 x.ty.bits)∧w'.cell? ⟨bx,6,none⟩=some (.string x.ty.name)∧w'.cell? ⟨bx,7,none⟩=some (.bool x.ty.opt)∧w'.cell? ⟨bx,8,none⟩=some (.bool x.ty.err)∧w'.cell? ⟨bx,9,none⟩=some (.string x.name)∧w'.cell? ⟨bx,10,none⟩=some (.slice x.A x.args.length x.cap)):=fun l' b' w' h=>by
         have z:=(HMem.facts h.2.1.mm).2.1
         rw [HK0.out] at z
         exact ⟨z,rgA_cells h.2.2.1⟩
        have HST:∀ (i q3:Nat) (v9:Value) (_:i ≠ 11:=by decide) (_:i ≠ 15:=by decide) (_:i ≠ 16:=by decide) (_:q3 ≠ 23:=by decide) (l':Array Bool) (b':Act) (w':World),LSt w m zo zf zr zs K (s + 1) t1 R S bx x vA9 (x.args.map fun i=>S i.toNat) e1 (l'.setIfInBounds i true) (b'.put (some q3) v9) w' ↔ LSt w m zo zf zr zs K (s + 1) t1 R S bx x vA9 (x.args.map fun i=>S i.toNat) e1 l' b' w':=fun i q3 v9 h1 h2 h3 h4 l' b' w'=>LSt.same h1 h2 h3 h4 v9 l' b' w'
        have HCI:Hid (∀ (l':Array Bool) (b':Act) (w':World),LSt w m zo zf zr zs K (s + 1) t1 R S bx x vA9 (x.args.map fun i=>S i.toNat) e1 l' b' w' → Calls Tryz.prog 80 #[.slice A len cap,.string x.name] w' fun e w''=>e=.returned (.int .i64 j)∧LSt w m zo zf zr zs K (s + 1) t1 R S bx x vA9 (x.args.map fun i=>S i.toNat) e1 l' b' w''):=fun l' b' w' h=>by
         have h2:=hfound_any A cap l x.name w' HLN.out (HA.out.ext (HX.out.grown h.2.1.gr (fun k' e=>by have:=Option.some.inj e; have:=HM0.out; omega))) (by omega)
         rw [HJ.out] at h2
         exact h2.mono fun e w'' z=>⟨z.1,by rw [← z.2]; exact h⟩
        have HIC:Hid (∀ (l':Array Bool) (b':Act) (w':World),l'.getD 11 false=false → l'.getD 16 false=false → LSt w m zo zf zr zs K (s + 1) t1 R S bx x vA9 (x.args.map fun i=>S i.toNat) e1 l' b' w' → Calls Tryz.prog 143 #[.pointer (some ⟨m,0,none⟩),.int .i64 j,.slice vA9 q2 vc9,.int .i64 ((d:Int) + 1)] w' fun e w''=>e=.returned (.tuple #[.agg (enV e1).cells.toArray,.bool (enB e1)])∧LSt w m zo zf zr zs K (s + 1) t1 R S bx x vA9 (x.args.map fun i=>S i.toNat) e1 (l'.setIfInBounds 11 true) (b'.put (some 246) (.tuple #[.agg (enV e1).cells.toArray,.bool (enB e1)])) w''):=fun l' b' w' h11 h16 h=>by
         have hm9:=h.2.1.mm
         rw [h11,HK0.out] at hm9
         have h2:=HIH.out j (x.args.map fun i=>S i.toNat) (s + 1) w' vA9 q2 vc9 e1 t1 (by rw [HLN.out]; exact HJ2.out) (by rw [List.length_map]; exact HNL.out) (by rw [List.length_map]; exact HJ3.out.symm) (by omega) (HX.out.grown h.2.1.gr (fun k' e=>by have:=Option.some.inj e; have:=HM0.out; omega)) hm9 (HRM.out.grown h.2.1.gr) (h.2.2.2.1 h11 h16) HR1.out
         rw [show ((d:Int) + 1)=((d + 1:Nat):Int) by omega]
         exact h2.mono fun e w'' z=>⟨z.1,LSt.turn con hzs (by decide) h z.2.1 (by rw [HK0.out]; exact z.2.2)⟩
        have hd4:(d:Int) ≤ 30:=by omega
        have hdw:IntKind.i64.wrap ((d:Int) + 1)=(d:Int) + 1:=IntWalk.i64_in _ (by omega)
        refine flow2_begin (LSt w m zo zf zr zs K (s + 1) t1 R S bx x vA9 (x.args.map fun i=>S i.toNat) e1) #[false,false,false,false,false,false,false,false,false,false,false,false,false,false,false,false,false,false] rfl (by kernel_rfl) (fun _ _ _ _ _ h=>h) ((LSt.start HC.out HBX.out HVL.out _)) (fun HQ=>?_)
        (refine flow2_take (i:=0) (t:=235) (oi:=⟨some 235,_,_,_,_,_⟩) (v:=?_) rfl rfl (by kernel_rfl) (by kernel_rfl) (by kernel_rfl) HQ (HST 0 235 _) (Or.inl ⟨by rfl,fun l b' w' hF=>?_⟩) ?_; rotate_left; (focus (have hq:=HD.out _ _ _ hF; go_simp; try with_reducible rfl)); try simp only [putL,List.set])
        (refine flow2_take (i:=1) (t:=236) (oi:=⟨some 236,_,_,_,_,_⟩) (v:=?_) rfl rfl (by kernel_rfl) (by kernel_rfl) (by kernel_rfl) HQ (HST 1 236 _) (Or.inl ⟨by rfl,fun l b' w' hF=>?_⟩) ?_; rotate_left; (focus (have hq:=HD.out _ _ _ hF; go_simp; try with_reducible rfl)); try simp only [putL,List.set])
        (refine flow2_take (i:=2) (t:=237) (oi:=⟨some 237,_,_,_,_,_⟩) (v:=?_) rfl rfl (by kernel_rfl) (by kernel_rfl) (by kernel_rfl) HQ (HST 2 237 _) (Or.inl ⟨by rfl,fun l b' w' hF=>?_⟩) ?_; rotate_left; (focus (have hq:=HD.out _ _ _ hF; go_simp; try with_reducible rfl)); try simp only [putL,List.set])
        (refine flow2_take (i:=3) (t:=238) (oi:=⟨some 238,_,_,_,_,_⟩) (v:=?_) rfl rfl (by kernel_rfl) (by kernel_rfl) (by kernel_rfl) HQ (HST 3 238 _) (Or.inl ⟨by rfl,fun l b' w' hF=>?_⟩) ?_; rotate_left; (focus (have hq:=HD.out _ _ _ hF; go_simp; try with_reducible rfl)); try simp only [putL,List.set])
        (refine flow2_take (i:=4) (t:=239) (oi:=⟨some 239,_,_,_,_,_⟩) (v:=?_) rfl rfl (by kernel_rfl) (by kernel_rfl) (by kernel_rfl) HQ (HST 4 239 _) (Or.inl ⟨by rfl,fun l b' w' hF=>?_⟩) ?_; rotate_left; (focus (have hq:=HD.out _ _ _ hF; go_simp; try with_reducible rfl)); try simp only [putL,List.set])
        (refine flow2_take (i:=5) (t:=240) (oi:=⟨some 240,_,_,_,_,_⟩) (v:=?_) rfl rfl (by kernel_rfl) (by kernel_rfl) (by kernel_rfl) HQ (HST 5 240 _) (Or.inl ⟨by rfl,fun l b' w' hF=>?_⟩) ?_; rotate_left; (focus (have hq:=HD.out _ _ _ hF; go_simp; try with_reducible rfl)); try simp only [putL,List.set])
        (refine flow2_take (i:=6) (t:=241) (oi:=⟨some 241,_,_,_,_,_⟩) (v:=?_) rfl rfl (by kernel_rfl) (by kernel_rfl) (by kernel_rfl) HQ (HST 6 241 _) (Or.inl ⟨by rfl,fun l b' w' hF=>?_⟩) ?_; rotate_left; (focus (have hq:=HD.out _ _ _ hF; go_simp; try with_reducible rfl)); try simp only [putL,List.set])
        (refine flow2_take (i:=7) (t:=242) (oi:=⟨some 242,_,_,_,_,_⟩) rfl rfl (by kernel_rfl) (by kernel_rfl) (by kernel_rfl) HQ (HST 7 242 _) (Or.inr (Or.inl ⟨by rfl,_,_,fun l b' w' hF=>?_,(HCI.out)⟩)) ?_; (focus (have hq:=HD.out _ _ _ hF; go_simp; try simp only [enters_hfound _ _])); try simp only [putL,List.set])
        (refine flow2_take (i:=8) (t:=243) (oi:=⟨some 243,_,_,_,_,_⟩) (v:=?_) rfl rfl (by kernel_rfl) (by kernel_rfl) (by kernel_rfl) HQ (HST 8 243 _) (Or.inl ⟨by rfl,fun l b' w' hF=>?_⟩) ?_; rotate_left; (focus (have hq:=HD.out _ _ _ hF; go_simp; try with_reducible rfl)); try simp only [putL,List.set])
        (refine flow2_take (i:=9) (t:=244) (oi:=⟨some 244,_,_,_,_,_⟩) (v:=?_) rfl rfl (by kernel_rfl) (by kernel_rfl) (by kernel_rfl) HQ (HST 9 244 _) (Or.inl ⟨by rfl,fun l b' w' hF=>?_⟩) ?_; rotate_left; (focus (have hq:=HD.out _ _ _ hF; go_simp; try with_reducible rfl)); try simp only [putL,List.set])
        (refine flow2_take (i:=10) (t:=245) (oi:=⟨some 245,_,_,_,_,_⟩) (v:=?_) rfl rfl (by kernel_rfl) (by kernel_rfl) (by kernel_rfl) HQ (HST 10 245 _) (Or.inl ⟨by rfl,fun l b' w' hF=>?_⟩) ?_; rotate_left; (focus (have hq:=HD.out _ _ _ hF; go_simp; try with_reducible rfl)); try simp only [putL,List.set])
        refine flow2_two (i:=11) (k:=15) (by kernel_rfl) ?way1 ?way2
        case way1 =>
         (refine step_turn (i:=11) (t:=246) (oi:=⟨some 246,_,_,_,_,_⟩) rfl rfl (by rfl) _ _ (fun w' hF=>?_) (fun w' hF=>HIC.out _ _ _ rfl rfl hF) ?_; (focus (go_simp; try simp only [enters_hcall _ _])); try simp only [Act.put,List.setIfInBounds_toArray,List.set_cons_zero,List.set_cons_succ])
         (refine flow2_take (i:=12) (t:=234) (oi:=⟨some 234,_,_,_,_,_⟩) (v:=?_) rfl rfl (by kernel_rfl) (by kernel_rfl) (by kernel_rfl) HQ (HST 12 234 _) (Or.inl ⟨by rfl,fun l b' w' hF=>?_⟩) ?_; rotate_left; (focus (go_simp; try with_reducible rfl)); try simp only [putL,List.set])
         (refine flow2_take (i:=13) (t:=247) (oi:=⟨some 247,_,_,_,_,_⟩) (v:=?_) rfl rfl (by kernel_rfl) (by kernel_rfl) (by kernel_rfl) HQ (HST 13 247 _) (Or.inl ⟨by rfl,fun l b' w' hF=>?_⟩) ?_; rotate_left; (focus (go_simp; try with_reducible rfl)); try simp only [putL,List.set])
         (refine flow2_take (i:=14) (t:=248) (oi:=⟨some 248,_,_,_,_,_⟩) (v:=?_) rfl rfl (by kernel_rfl) (by kernel_rfl) (by kernel_rfl) HQ (HST 14 248 _) (Or.inl ⟨by rfl,fun l b' w' hF=>?_⟩) ?_; rotate_left; (focus (go_simp; try with_reducible rfl)); try simp only [putL,List.set])
         refine flow2_one (i:=15) (by kernel_rfl) ?_
         (refine step_alloc (i:=15) (t:=23) (oi:=⟨some 23,_,_,_,_,_⟩) (ob:=.cells zeroV 37) rfl rfl (by rfl) (fun w' hF=>?_) (fun w' hF=>LSt.room hzs (show 23 < 257 from by decide) rfl hF) (fun g9=>?_); (focus (go_simp; try rfl)); try simp only [Act.put,List.setIfInBounds_toArray,List.set_cons_zero,List.set_cons_succ])
         (refine flow2_one (i:=16) (by kernel_rfl) (step_put1 (oi:=⟨none,_,_,_,_,_⟩) rfl rfl (by rfl) 37 _ _ rfl g9 0 (enV e1).cells.toArray rfl rfl (fun w' hF=>LSt.space hF rfl rfl) HZ.out (Val.all_one _) (fun w' hF=>LSt.store con hzs hF rfl rfl) ?_))
         (refine flow2_take (i:=17) (t:=24) (oi:=⟨some 24,_,_,_,_,_⟩) (v:=?_) rfl rfl (by kernel_rfl) (by kernel_rfl) (by kernel_rfl) HQ (HST 17 24 _) (Or.inl ⟨by rfl,fun l b' w' hF=>?_⟩) ?_; rotate_left; (focus (go_simp; try with_reducible rfl)); try simp only [putL,List.set])
         refine flow2_done (by kernel_rfl) ?_
         intro w9 hF9
         obtain ⟨_,c9,bx9,_,hg9⟩:=hF9
         obtain ⟨g8,hg8,hg7,bg9⟩:=hg9 rfl
         have eg:Value.pointer (some ⟨g9,0,none⟩)=.pointer (some ⟨g8,0,none⟩):=Option.some.inj hg8
         cases eg
         rw [if_pos (by rfl)] at bg9
         rw [if_pos (by rfl),if_pos (by rfl),if_pos (by rfl)] at c9
         have C9:=Lib.hid c9
         have BG:=Lib.hid bg9
         have BX9:=Lib.hid bx9
         have zg:=bg9.lt
         have zx9:=bx9.lt
         clear hg8 c9 bg9 bx9 HD HST HCI HIC HQ hg9
         have hq9:=Run.quota HR1.out (by omega)
         have hm9:=Run.mono HR1.out
         cases e1 with
         | stop y9 =>
          rcases HR2.out with ⟨_,he,ht⟩ | ⟨v9,hv9,_⟩
          case inr=>cases hv9
          have hb9:enB (En.stop y9)=false:=rfl
          go_wp2_with (first
           | ((with_reducible show wpList _ _ _ (Oper.mk none (.store 37 (.tmp 8) _) _ _ _ _ :: _) _ _); refine wpList_store_row rfl 37 _ _ rfl zo rfl 37 zeroV (default:Val).cells.toArray (C9.out.oo) rfl rfl (Val.ones _) HZ.out ?_))
          exact bodyPost_ret (results_row_tmp rfl _ _ zo 37 (default:Val).cells.toArray (0,0) _ rfl (C9.out.oo.row _) Tryz.underlying37 rfl HZ.out (.bool false) rfl) rfl (by rw [he,ht]; exact HSt.ret con HK0.out (.stop y9) C9.out)
         | long  =>
          rcases HR2.out with ⟨_,he,ht⟩ | ⟨v9,hv9,_⟩
          case inr=>cases hv9
          have hb9:enB (En.long)=false:=rfl
          go_wp2_with (first
           | ((with_reducible show wpList _ _ _ (Oper.mk none (.store 37 (.tmp 8) _) _ _ _ _ :: _) _ _); refine wpList_store_row rfl 37 _ _ rfl zo rfl 37 zeroV (default:Val).cells.toArray (C9.out.oo) rfl rfl (Val.ones _) HZ.out ?_))
          exact bodyPost_ret (results_row_tmp rfl _ _ zo 37 (default:Val).cells.toArray (0,0) _ rfl (C9.out.oo.row _) Tryz.underlying37 rfl HZ.out (.bool false) rfl) rfl (by rw [he,ht]; exact HSt.ret con HK0.out .long C9.out)
         | ret v9 =>
          rcases HR2.out with ⟨hne,_⟩ | ⟨v8,hv8,hrun8⟩
          case inl=>exact absurd rfl (hne v9)
          cases hv8
          have HR8:=Lib.hid hrun8
          clear hrun8
          have hb9:enB (En.ret v9)=true:=rfl
          obtain ⟨d0,d1,d2,d3,d4,d5,d6,d7,d8,d9,d10⟩:=rgA_cells BX9.out
          rw [hr6] at d1
          go_wp2_with (first
           | ((with_reducible show wpList _ _ _ (Oper.mk (some 255) (.load 37 (.tmp 23)) _ _ _ _ :: _) _ _); refine wpList_load_row rfl 37 _ rfl (g9) rfl 37 v9.cells.toArray (0,0) _ (BG.out) Tryz.underlying37 rfl HZ.out ?_)
           | ((with_reducible show wpList _ _ _ (Oper.mk none (.store 37 (.tmp 256) _) _ _ _ _ :: _) _ _); refine wpList_store_mid rfl 37 _ _ rfl zr (r * 13) v9.cells.toArray rfl rfl (C9.out.rr.there hr7) HZ.out (Val.all_one _) ?_))
          have C7:=Lib.hid (C9.out.setR con hr7 v9)
          go_roundg (gk - 1)
          case measure=>omega
          case rel=>exact ⟨p + 1,_,_,t1,by go_num,hp1,by omega,by omega,C7.out,HR8.out⟩
        case way2 =>
         (refine step_alloc (i:=15) (t:=23) (oi:=⟨some 23,_,_,_,_,_⟩) (ob:=.cells zeroV 37) rfl rfl (by rfl) (fun w' hF=>?_) (fun w' hF=>LSt.room hzs (show 23 < 257 from by decide) rfl hF) (fun g9=>?_); (focus (go_simp; try rfl)); try simp only [Act.put,List.setIfInBounds_toArray,List.set_cons_zero,List.set_cons_succ])
         refine flow2_one (i:=11) (by kernel_rfl) ?_
         (refine step_turn (i:=11) (t:=246) (oi:=⟨some 246,_,_,_,_,_⟩) rfl rfl (by rfl) _ _ (fun w' hF=>?_) (fun w' hF=>HIC.out _ _ _ rfl rfl hF) ?_; (focus (go_simp; try simp only [enters_hcall _ _])); try simp only [Act.put,List.setIfInBounds_toArray,List.set_cons_zero,List.set_cons_succ])
         (refine flow2_take (i:=12) (t:=234) (oi:=⟨some 234,_,_,_,_,_⟩) (v:=?_) rfl rfl (by kernel_rfl) (by kernel_rfl) (by kernel_rfl) HQ (HST 12 234 _) (Or.inl ⟨by rfl,fun l b' w' hF=>?_⟩) ?_; rotate_left; (focus (go_simp; try with_reducible rfl)); try simp only [putL,List.set])
         (refine flow2_take (i:=13) (t:=247) (oi:=⟨some 247,_,_,_,_,_⟩) (v:=?_) rfl rfl (by kernel_rfl) (by kernel_rfl) (by kernel_rfl) HQ (HST 13 247 _) (Or.inl ⟨by rfl,fun l b' w' hF=>?_⟩) ?_; rotate_left; (focus (go_simp; try with_reducible rfl)); try simp only [putL,List.set])
         (refine flow2_take (i:=14) (t:=248) (oi:=⟨some 248,_,_,_,_,_⟩) (v:=?_) rfl rfl (by kernel_rfl) (by kernel_rfl) (by kernel_rfl) HQ (HST 14 248 _) (Or.inl ⟨by rfl,fun l b' w' hF=>?_⟩) ?_; rotate_left; (focus (go_simp; try with_reducible rfl)); try simp only [putL,List.set])
         (refine flow2_one (i:=16) (by kernel_rfl) (step_put1 (oi:=⟨none,_,_,_,_,_⟩) rfl rfl (by rfl) 37 _ _ rfl g9 0 (enV e1).cells.toArray rfl rfl (fun w' hF=>LSt.space hF rfl rfl) HZ.out (Val.all_one _) (fun w' hF=>LSt.store con hzs hF rfl rfl) ?_))
         (refine flow2_take (i:=17) (t:=24) (oi:=⟨some 24,_,_,_,_,_⟩) (v:=?_) rfl rfl (by kernel_rfl) (by kernel_rfl) (by kernel_rfl) HQ (HST 17 24 _) (Or.inl ⟨by rfl,fun l b' w' hF=>?_⟩) ?_; rotate_left; (focus (go_simp; try with_reducible rfl)); try simp only [putL,List.set])
         refine flow2_done (by kernel_rfl) ?_
         intro w9 hF9
         obtain ⟨_,c9,bx9,_,hg9⟩:=hF9
         obtain ⟨g8,hg8,hg7,bg9⟩:=hg9 rfl
         have eg:Value.pointer (some ⟨g9,0,none⟩)=.pointer (some ⟨g8,0,none⟩):=Option.some.inj hg8
         cases eg
         rw [if_pos (by rfl)] at bg9
         rw [if_pos (by rfl),if_pos (by rfl),if_pos (by rfl)] at c9
         have C9:=Lib.hid c9
         have BG:=Lib.hid bg9
         have BX9:=Lib.hid bx9
         have zg:=bg9.lt
         have zx9:=bx9.lt
         clear hg8 c9 bg9 bx9 HD HST HCI HIC HQ hg9
         have hq9:=Run.quota HR1.out (by omega)
         have hm9:=Run.mono HR1.out
         cases e1 with
         | stop y9 =>
          rcases HR2.out with ⟨_,he,ht⟩ | ⟨v9,hv9,_⟩
          case inr=>cases hv9
          have hb9:enB (En.stop y9)=false:=rfl
          go_wp2_with (first
           | ((with_reducible show wpList _ _ _ (Oper.mk none (.store 37 (.tmp 8) _) _ _ _ _ :: _) _ _); refine wpList_store_row rfl 37 _ _ rfl zo rfl 37 zeroV (default:Val).cells.toArray (C9.out.oo) rfl rfl (Val.ones _) HZ.out ?_))
          exact bodyPost_ret (results_row_tmp rfl _ _ zo 37 (default:Val).cells.toArray (0,0) _ rfl (C9.out.oo.row _) Tryz.underlying37 rfl HZ.out (.bool false) rfl) rfl (by rw [he,ht]; exact HSt.ret con HK0.out (.stop y9) C9.out)
         | long  =>
          rcases HR2.out with ⟨_,he,ht⟩ | ⟨v9,hv9,_⟩
          case inr=>cases hv9
          have hb9:enB (En.long)=false:=rfl
          go_wp2_with (first
           | ((with_reducible show wpList _ _ _ (Oper.mk none (.store 37 (.tmp 8) _) _ _ _ _ :: _) _ _); refine wpList_store_row rfl 37 _ _ rfl zo rfl 37 zeroV (default:Val).cells.toArray (C9.out.oo) rfl rfl (Val.ones _) HZ.out ?_))
          exact bodyPost_ret (results_row_tmp rfl _ _ zo 37 (default:Val).cells.toArray (0,0) _ rfl (C9.out.oo.row _) Tryz.underlying37 rfl HZ.out (.bool false) rfl) rfl (by rw [he,ht]; exact HSt.ret con HK0.out .long C9.out)
         | ret v9 =>
          rcases HR2.out with ⟨hne,_⟩ | ⟨v8,hv8,hrun8⟩
          case inl=>exact absurd rfl (hne v9)
          cases hv8
          have HR8:=Lib.hid hrun8
          clear hrun8
          have hb9:enB (En.ret v9)=true:=rfl
          obtain ⟨d0,d1,d2,d3,d4,d5,d6,d7,d8,d9,d10⟩:=rgA_cells BX9.out
          rw [hr6] at d1
          go_wp2_with (first
           | ((with_reducible show wpList _ _ _ (Oper.mk (some 255) (.load 37 (.tmp 23)) _ _ _ _ :: _) _ _); refine wpList_load_row rfl 37 _ rfl (g9) rfl 37 v9.cells.toArray (0,0) _ (BG.out) Tryz.underlying37 rfl HZ.out ?_)
           | ((with_reducible show wpList _ _ _ (Oper.mk none (.store 37 (.tmp 256) _) _ _ _ _ :: _) _ _); refine wpList_store_mid rfl 37 _ _ rfl zr (r * 13) v9.cells.toArray rfl rfl (C9.out.rr.there hr7) HZ.out (Val.all_one _) ?_))
          have C7:=Lib.hid (C9.out.setR con hr7 v9)
          go_roundg (gk - 1)
          case measure=>omega
          case rel=>exact ⟨p + 1,_,_,t1,by go_num,hp1,by omega,by omega,C7.out,HR8.out⟩
     ·as_aux_lemma =>
       have hnum:isNumB x.op:=.inl hop
       obtain ⟨u1,u2⟩:=hop
       have q0:(x.op == 0)=false:=by rw [beq_eq_false_iff_ne]; omega
       have q1:(x.op == 1)=false:=by rw [beq_eq_false_iff_ne]; omega
       have q2:(x.op == 2)=false:=by rw [beq_eq_false_iff_ne]; omega
       have q3:(x.op == 3)=false:=by rw [beq_eq_false_iff_ne]; omega
       have q4:(x.op == 4)=false:=by rw [beq_eq_false_iff_ne]; omega
       have q16:(x.op == 16)=false:=by rw [beq_eq_false_iff_ne]; omega
       have q10:(x.op == 10)=false:=by rw [beq_eq_false_iff_ne]; omega
       have q11:(x.op == 11)=false:=by rw [beq_eq_false_iff_ne]; omega
       have q13:(x.op == 13)=false:=by rw [beq_eq_false_iff_ne]; omega
       have q12:(x.op == 12)=false:=by rw [beq_eq_false_iff_ne]; omega
       have q15:(x.op == 15)=false:=by rw [beq_eq_false_iff_ne]; omega
       have q17:(x.op == 17)=false:=by rw [beq_eq_false_iff_ne]; omega
       have q14:(x.op == 14)=false:=by rw [beq_eq_false_iff_ne]; omega
       have HPT:Hid (partsR x.op=(1,1,0)):=by unfold Hid; rcases (show x.op=5 ∨ x.op=6 ∨ x.op=7 ∨ x.op=8 ∨ x.op=9 by omega) with h | h | h | h | h <;> rw [h] <;> rfl
       have hp1:p + 1 < nc:=by
        have h:=HG.out.next (p:=p) (by have:=HNC.out; omega) (by rw [← HXX.out]; unfold goesR; rw [bne_iff_ne.2 (show x.op ≠ 12 by omega),bne_iff_ne.2 (show x.op ≠ 15 by omega),bne_iff_ne.2 (show x.op ≠ 17 by omega)]; rfl)
        have:=HNC.out
        omega
       have hdd:=HGX.out.d
       rw [HPT.out] at hdd
       have hdr:=isPartB_reg hdd
       obtain ⟨r,hr6⟩:∃ r:Nat,x.d=r:=⟨x.d.toNat,by omega⟩
       have hr7:r < K.nr:=by have:=HNR.out; omega
       have hr9:(r:Int) < (nr:Int):=by have:=HNR.out; omega
       have hr8:x.d.toNat=r:=by omega
       have haa:=HGX.out.a
       rw [HPT.out] at haa
       have har:=isPartB_reg haa
       obtain ⟨ra,ha6⟩:∃ r:Nat,x.a=r:=⟨x.a.toNat,by omega⟩
       have ha7:ra < K.nr:=by have:=HNR.out; omega
       have ha9:(ra:Int) < (nr:Int):=by have:=HNR.out; omega
       have ha8:x.a.toNat=ra:=by omega
       rw [hr6] at d1
       rw [ha6] at d2
       obtain ⟨va,hva⟩:∃ va,R ra=va:=⟨_,rfl⟩
       have HVA:Hid (w6.rangeAt zr (ra * 13) va.cells):=by rw [← hva]; exact C6.out.rr.range ha7
       obtain ⟨N,y,hNY⟩:∃ N y,numF ck x (R x.a.toNat) (R x.b.toNat)=(N,y):=⟨_,_,rfl⟩
       have HNY:=Lib.hid hNY
       rw [numF_conv ⟨u1,u2⟩ _ _ default,ha8,hva] at hNY
       have HNY2:=Lib.hid hNY
       clear hNY
       by_cases hy:y=0
       ·have HR1:=Lib.hid (HR.out.inv_go (by omega) (show stepF ck ((l.getD k default).code.getD p default) p R S=.go (p + 1) (upd R x.d.toNat (nv N)) S by rw [← HF.out,← HXX.out,stepF_num hnum,HNY.out]; simp only [hy,bne_self_eq_false,cond_false]))
        rw [hr8] at HR1
        subst hy
        go_wp2_with (first
         | (go_at_call 103; refine (parts_any x.op _).mono ?_; rw [HPT.out]; rintro r w' ⟨rfl,rfl⟩)
         | ((with_reducible show wpList _ _ _ (Oper.mk (some 99) (.load 37 (.tmp 98)) _ _ _ _ :: _) _ _); refine wpList_load_mid rfl 37 _ rfl zr (ra * 13) rfl va.cells _ (rangeExt2 HVA.out) Tryz.underlying37 rfl HZ.out ?_)
         | ((with_reducible show wpList _ _ _ (Oper.mk none (.store 37 (.tmp 19) _) _ _ _ _ :: _) _ _)
            refine wpList_store_row rfl 37 _ _ rfl w6.heap.size rfl 37 zV va.cells.toArray ((Blk.new w6 _ _).alloc _) rfl rfl (Val.ones _) HZ.out ?_
            have X7:Hid (Ext w6 (((w6.alloc (.cells zV 37)).alloc (.cells zV 37)).setRow w6.heap.size va.cells.toArray)):=by unfold Hid; exact exR
            have BA7:Hid (Blk (((w6.alloc (.cells zV 37)).alloc (.cells zV 37)).setRow w6.heap.size va.cells.toArray) w6.heap.size 37 va.cells.toArray):=((Blk.new w6 _ _).alloc _).row _
            have BB7:Hid (Blk (((w6.alloc (.cells zV 37)).alloc (.cells zV 37)).setRow w6.heap.size va.cells.toArray) (w6.heap.size + 1) 37 zeroV):=(setRow_other _ _ _ _ (by omega)).trans (blk2 w6 _ _ _)
            generalize (((w6.alloc (.cells zV 37)).alloc (.cells zV 37)).setRow w6.heap.size va.cells.toArray)=w7 at X7 BA7 BB7 ⊢
            have C7:=Lib.hid (C6.out.ext' X7.out)
            have BX7:=Lib.hid (BX.out.ext X7.out)
            obtain ⟨f0,f1,f2,f3,f4,f5,f6,f7,f8,f9,f10⟩:=rgA_cells BX7.out
            rw [hr6] at f1
            have zx7:=BX7.out.lt
            have za7:=BA7.out.lt
            have zb7:=BB7.out.lt
            have a5:w7.cell? ⟨w6.heap.size,5,none⟩=some (.int .i64 va.n):=BA7.out.cell 5
            have a6:w7.cell? ⟨w6.heap.size,6,none⟩=some (.bool va.null):=BA7.out.cell 6
            have a7:w7.cell? ⟨w6.heap.size,7,none⟩=some (.string va.err):=BA7.out.cell 7)
         | ((with_reducible show wpList _ _ _ (Oper.mk (some 111) (.load 37 (.tmp 19)) _ _ _ _ :: _) _ _); refine wpList_load_row rfl 37 _ rfl (w6.heap.size) rfl 37 va.cells.toArray (0,0) _ (BA7.out) Tryz.underlying37 rfl HZ.out ?_)
         | ((with_reducible show wpList _ _ _ (Oper.mk (some 112) (.load 37 (.tmp 20)) _ _ _ _ :: _) _ _); refine wpList_load_row rfl 37 _ rfl ((w6.heap.size + 1)) rfl 37 zeroV (0,0) _ (BB7.out) Tryz.underlying37 rfl HZ.out ?_)
         | (go_at_call 211
            have hmm9:=C7.out.mm
            rw [HK0.out] at hmm9
            have hnn:=hnumber_any m A len cap ck ((s + 1:Nat):Int) B bn bc x va (default:Val) w7 hmm9 (by omega) (fun h5=>HGX.out.typed (by omega))
            rw [HNY2.out] at hnn
            unfold Rg.val at hnn
            rw [hr6,ha6] at hnn
            refine hnn.mono ?_
            rintro r9 w9 ⟨⟨n9,rfl,hn9⟩,m9,g9⟩
            obtain rfl:n9=N:=hn9 rfl
            have C9:Hid (HSt w m zo zf zr zs K (s + 1) 0 0 R S w9):=C7.out.turn con g9 (by rw [HK0.out]; exact m9)
            have BX9:Hid (Blk w9 bx 67 (rgA x)):=Blk.grown BX7.out g9 (by have:=con.lt; have:=con.o; have:=con.f; have:=con.r; have:=con.s; omega)
            have m3:w9.cell? ⟨m,3,none⟩=some (.int .i64 0):=C9.out.mm.facts.2.2.2.2.1
            have zm:=(HMem.facts C9.out.mm).1
            obtain ⟨g0,g1,g2,g3,g4,g5,g6,g7,g8,g9',g10⟩:=rgA_cells BX9.out
            rw [hr6] at g1
            have zx9:=BX9.out.lt
            clear hnn hmm9 m9 g9 hn9)
         | ((with_reducible show wpList _ _ _ (Oper.mk none (.store 37 (.tmp 125) _) _ _ _ _ :: _) _ _); refine wpList_store_mid rfl 37 _ _ rfl zr (r * 13) (nv n9).cells.toArray rfl rfl (C9.out.rr.there hr7) HZ.out (Val.all_one _) ?_))
        have C8:=Lib.hid (C9.out.setR con hr7 (nv n9))
        go_roundg (gk - 1)
        case measure=>omega
        case rel=>exact ⟨(p + 1),_,_,s + 1,by go_num,hp1,by omega,by omega,C8.out,HR1.out⟩
       ·have hyb:(y != 0)=true:=by simpa using hy
        obtain ⟨he,ht⟩:=HR.out.inv_done (by omega) (show stepF ck ((l.getD k default).code.getD p default) p R S=.done (.stop y) by rw [← HF.out,← HXX.out,stepF_num hnum,HNY.out]; simp only [hyb,cond_true])
        go_wp2_with (first
         | (go_at_call 103; refine (parts_any x.op _).mono ?_; rw [HPT.out]; rintro r w' ⟨rfl,rfl⟩)
         | ((with_reducible show wpList _ _ _ (Oper.mk (some 99) (.load 37 (.tmp 98)) _ _ _ _ :: _) _ _); refine wpList_load_mid rfl 37 _ rfl zr (ra * 13) rfl va.cells _ (rangeExt2 HVA.out) Tryz.underlying37 rfl HZ.out ?_)
         | ((with_reducible show wpList _ _ _ (Oper.mk none (.store 37 (.tmp 19) _) _ _ _ _ :: _) _ _)
            refine wpList_store_row rfl 37 _ _ rfl w6.heap.size rfl 37 zV va.cells.toArray ((Blk.new w6 _ _).alloc _) rfl rfl (Val.ones _) HZ.out ?_
            have X7:Hid (Ext w6 (((w6.alloc (.cells zV 37)).alloc (.cells zV 37)).setRow w6.heap.size va.cells.toArray)):=by unfold Hid; exact exR
            have BA7:Hid (Blk (((w6.alloc (.cells zV 37)).alloc (.cells zV 37)).setRow w6.heap.size va.cells.toArray) w6.heap.size 37 va.cells.toArray):=((Blk.new w6 _ _).alloc _).row _
            have BB7:Hid (Blk (((w6.alloc (.cells zV 37)).alloc (.cells zV 37)).setRow w6.heap.size va.cells.toArray) (w6.heap.size + 1) 37 zeroV):=(setRow_other _ _ _ _ (by omega)).trans (blk2 w6 _ _ _)
            generalize (((w6.alloc (.cells zV 37)).alloc (.cells zV 37)).setRow w6.heap.size va.cells.toArray)=w7 at X7 BA7 BB7 ⊢
            have C7:=Lib.hid (C6.out.ext' X7.out)
            have BX7:=Lib.hid (BX.out.ext X7.out)
            obtain ⟨f0,f1,f2,f3,f4,f5,f6,f7,f8,f9,f10⟩:=rgA_cells BX7.out
            rw [hr6] at f1
            have zx7:=BX7.out.lt
            have za7:=BA7.out.lt
            have zb7:=BB7.out.lt
            have a5:w7.cell? ⟨w6.heap.size,5,none⟩=some (.int .i64 va.n):=BA7.out.cell 5
            have a6:w7.cell? ⟨w6.heap.size,6,none⟩=some (.bool va.null):=BA7.out.cell 6
            have a7:w7.cell? ⟨w6.heap.size,7,none⟩=some (.string va.err):=BA7.out.cell 7)
         | ((with_reducible show wpList _ _ _ (Oper.mk (some 111) (.load 37 (.tmp 19)) _ _ _ _ :: _) _ _); refine wpList_load_row rfl 37 _ rfl (w6.heap.size) rfl 37 va.cells.toArray (0,0) _ (BA7.out) Tryz.underlying37 rfl HZ.out ?_)
         | ((with_reducible show wpList _ _ _ (Oper.mk (some 112) (.load 37 (.tmp 20)) _ _ _ _ :: _) _ _); refine wpList_load_row rfl 37 _ rfl ((w6.heap.size + 1)) rfl 37 zeroV (0,0) _ (BB7.out) Tryz.underlying37 rfl HZ.out ?_)
         | (go_at_call 211
            have hmm9:=C7.out.mm
            rw [HK0.out] at hmm9
            have hnn:=hnumber_any m A len cap ck ((s + 1:Nat):Int) B bn bc x va (default:Val) w7 hmm9 (by omega) (fun h5=>HGX.out.typed (by omega))
            rw [HNY2.out] at hnn
            unfold Rg.val at hnn
            rw [hr6,ha6] at hnn
            refine hnn.mono ?_
            rintro r9 w9 ⟨⟨n9,rfl,hn9⟩,m9,g9⟩
            have C9:Hid (HSt w m zo zf zr zs K (s + 1) 1 y R S w9):=C7.out.turn con g9 (by rw [HK0.out]; rw [if_neg hy] at m9; exact m9)
            have m3:w9.cell? ⟨m,3,none⟩=some (.int .i64 1):=C9.out.mm.facts.2.2.2.2.1
            have zm:=(HMem.facts C9.out.mm).1
            clear hnn hmm9 m9 g9 hn9)
         | ((with_reducible show wpList _ _ _ (Oper.mk none (.store 37 (.tmp 8) _) _ _ _ _ :: _) _ _); refine wpList_store_row rfl 37 _ _ rfl zo rfl 37 zeroV (default:Val).cells.toArray (C9.out.oo) rfl rfl (Val.ones _) HZ.out ?_))
        exact bodyPost_ret (results_row_tmp rfl _ _ zo 37 (default:Val).cells.toArray (0,0) _ rfl (C9.out.oo.row _) Tryz.underlying37 rfl HZ.out (.bool false) rfl) rfl (by rw [he,ht]; exact HSt.ret con HK0.out (.stop y) C9.out)
     ·as_aux_lemma =>
       have hnum:isNumB x.op:=.inr hop
       obtain ⟨u1,u2⟩:=hop
       have q0:(x.op == 0)=false:=by rw [beq_eq_false_iff_ne]; omega
       have q1:(x.op == 1)=false:=by rw [beq_eq_false_iff_ne]; omega
       have q2:(x.op == 2)=false:=by rw [beq_eq_false_iff_ne]; omega
       have q3:(x.op == 3)=false:=by rw [beq_eq_false_iff_ne]; omega
       have q4:(x.op == 4)=false:=by rw [beq_eq_false_iff_ne]; omega
       have q16:(x.op == 16)=false:=by rw [beq_eq_false_iff_ne]; omega
       have q10:(x.op == 10)=false:=by rw [beq_eq_false_iff_ne]; omega
       have q11:(x.op == 11)=false:=by rw [beq_eq_false_iff_ne]; omega
       have q13:(x.op == 13)=false:=by rw [beq_eq_false_iff_ne]; omega
       have q12:(x.op == 12)=false:=by rw [beq_eq_false_iff_ne]; omega
       have q15:(x.op == 15)=false:=by rw [beq_eq_false_iff_ne]; omega
       have q17:(x.op == 17)=false:=by rw [beq_eq_false_iff_ne]; omega
       have q14:(x.op == 14)=false:=by rw [beq_eq_false_iff_ne]; omega
       have HPT:Hid (partsR x.op=(1,1,1)):=by unfold Hid partsR; rw [if_neg (by omega),if_neg (by omega),if_neg (by omega),if_neg (by omega),if_neg (by omega),if_neg (by omega),if_neg (by omega),if_neg (by omega),if_neg (by omega)]
       have hp1:p + 1 < nc:=by
        have h:=HG.out.next (p:=p) (by have:=HNC.out; omega) (by rw [← HXX.out]; unfold goesR; rw [bne_iff_ne.2 (show x.op ≠ 12 by omega),bne_iff_ne.2 (show x.op ≠ 15 by omega),bne_iff_ne.2 (show x.op ≠ 17 by omega)]; rfl)
        have:=HNC.out
        omega
       have hdd:=HGX.out.d
       rw [HPT.out] at hdd
       have hdr:=isPartB_reg hdd
       obtain ⟨r,hr6⟩:∃ r:Nat,x.d=r:=⟨x.d.toNat,by omega⟩
       have hr7:r < K.nr:=by have:=HNR.out; omega
       have hr9:(r:Int) < (nr:Int):=by have:=HNR.out; omega
       have hr8:x.d.toNat=r:=by omega
       have haa:=HGX.out.a
       rw [HPT.out] at haa
       have har:=isPartB_reg haa
       obtain ⟨ra,ha6⟩:∃ r:Nat,x.a=r:=⟨x.a.toNat,by omega⟩
       have ha7:ra < K.nr:=by have:=HNR.out; omega
       have ha9:(ra:Int) < (nr:Int):=by have:=HNR.out; omega
       have ha8:x.a.toNat=ra:=by omega
       have hbb:=HGX.out.b
       rw [HPT.out] at hbb
       have hbr:=isPartB_reg hbb
       obtain ⟨rb,hb6⟩:∃ r:Nat,x.b=r:=⟨x.b.toNat,by omega⟩
       have hb7:rb < K.nr:=by have:=HNR.out; omega
       have hbb9:(rb:Int) < (nr:Int):=by have:=HNR.out; omega
       have hb8:x.b.toNat=rb:=by omega
       rw [hr6] at d1
       rw [ha6] at d2
       rw [hb6] at d3
       obtain ⟨va,hva⟩:∃ va,R ra=va:=⟨_,rfl⟩
       have HVA:Hid (w6.rangeAt zr (ra * 13) va.cells):=by rw [← hva]; exact C6.out.rr.range ha7
       obtain ⟨vb,hvb⟩:∃ vb,R rb=vb:=⟨_,rfl⟩
       obtain ⟨N,y,hNY⟩:∃ N y,numF ck x (R x.a.toNat) (R x.b.toNat)=(N,y):=⟨_,_,rfl⟩
       have HNY:=Lib.hid hNY
       rw [ha8,hva,hb8,hvb] at hNY
       have HNY2:=Lib.hid hNY
       have HVB:=Lib.hid hvb
       clear hNY hvb
       by_cases hy:y=0
       ·have HR1:=Lib.hid (HR.out.inv_go (by omega) (show stepF ck ((l.getD k default).code.getD p default) p R S=.go (p + 1) (upd R x.d.toNat (nv N)) S by rw [← HF.out,← HXX.out,stepF_num hnum,HNY.out]; simp only [hy,bne_self_eq_false,cond_false]))
        rw [hr8] at HR1
        subst hy
        go_wp2_with (first
         | (go_at_call 103; refine (parts_any x.op _).mono ?_; rw [HPT.out]; rintro r w' ⟨rfl,rfl⟩)
         | ((with_reducible show wpList _ _ _ (Oper.mk (some 99) (.load 37 (.tmp 98)) _ _ _ _ :: _) _ _); refine wpList_load_mid rfl 37 _ rfl zr (ra * 13) rfl va.cells _ (rangeExt2 HVA.out) Tryz.underlying37 rfl HZ.out ?_)
         | ((with_reducible show wpList _ _ _ (Oper.mk none (.store 37 (.tmp 19) _) _ _ _ _ :: _) _ _)
            refine wpList_store_row rfl 37 _ _ rfl w6.heap.size rfl 37 zV va.cells.toArray ((Blk.new w6 _ _).alloc _) rfl rfl (Val.ones _) HZ.out ?_
            have X7:Hid (Ext w6 (((w6.alloc (.cells zV 37)).alloc (.cells zV 37)).setRow w6.heap.size va.cells.toArray)):=by unfold Hid; exact exR
            have BA7:Hid (Blk (((w6.alloc (.cells zV 37)).alloc (.cells zV 37)).setRow w6.heap.size va.cells.toArray) w6.heap.size 37 va.cells.toArray):=((Blk.new w6 _ _).alloc _).row _
            have BB7:Hid (Blk (((w6.alloc (.cells zV 37)).alloc (.cells zV 37)).setRow w6.heap.size va.cells.toArray) (w6.heap.size + 1) 37 zeroV):=(setRow_other _ _ _ _ (by omega)).trans (blk2 w6 _ _ _)
            generalize (((w6.alloc (.cells zV 37)).alloc (.cells zV 37)).setRow w6.heap.size va.cells.toArray)=w7 at X7 BA7 BB7 ⊢
            have C7:=Lib.hid (C6.out.ext' X7.out)
            have BX7:=Lib.hid (BX.out.ext X7.out)
            obtain ⟨f0,f1,f2,f3,f4,f5,f6,f7,f8,f9,f10⟩:=rgA_cells BX7.out
            rw [hr6] at f1
            rw [hb6] at f3
            have zx7:=BX7.out.lt
            have za7:=BA7.out.lt
            have zb7:=BB7.out.lt
            have a5:w7.cell? ⟨w6.heap.size,5,none⟩=some (.int .i64 va.n):=BA7.out.cell 5
            have a6:w7.cell? ⟨w6.heap.size,6,none⟩=some (.bool va.null):=BA7.out.cell 6
            have a7:w7.cell? ⟨w6.heap.size,7,none⟩=some (.string va.err):=BA7.out.cell 7
            have HVB7:Hid (w7.rangeAt zr (rb * 13) vb.cells):=by rw [← HVB.out]; exact C7.out.rr.range hb7)
         | ((with_reducible show wpList _ _ _ (Oper.mk (some 106) (.load 37 (.tmp 105)) _ _ _ _ :: _) _ _); refine wpList_load_mid rfl 37 _ rfl zr (rb * 13) rfl vb.cells _ (HVB7.out) Tryz.underlying37 rfl HZ.out ?_)
         | ((with_reducible show wpList _ _ _ (Oper.mk none (.store 37 (.tmp 20) _) _ _ _ _ :: _) _ _)
            refine wpList_store_row rfl 37 _ _ rfl (w6.heap.size + 1) rfl 37 zeroV vb.cells.toArray BB7.out rfl rfl (Val.ones _) HZ.out ?_
            have X8:Hid (Ext w6 (w7.setRow (w6.heap.size + 1) vb.cells.toArray)):=X7.out.setRow (by omega) _
            have BB8:Hid (Blk (w7.setRow (w6.heap.size + 1) vb.cells.toArray) (w6.heap.size + 1) 37 vb.cells.toArray):=BB7.out.row _
            have BA8:Hid (Blk (w7.setRow (w6.heap.size + 1) vb.cells.toArray) w6.heap.size 37 va.cells.toArray):=(setRow_other _ _ _ _ (by omega)).trans BA7.out
            generalize (w7.setRow (w6.heap.size + 1) vb.cells.toArray)=w8 at X8 BB8 BA8 ⊢
            have C8:=Lib.hid (C6.out.ext' X8.out)
            have BX8:=Lib.hid (BX.out.ext X8.out)
            obtain ⟨h0',h1',h2',h3',h4',h5',h6',h7',h8',h9',h10'⟩:=rgA_cells BX8.out
            rw [hr6] at h1'
            have zx8:=BX8.out.lt)
         | ((with_reducible show wpList _ _ _ (Oper.mk (some 111) (.load 37 (.tmp 19)) _ _ _ _ :: _) _ _); refine wpList_load_row rfl 37 _ rfl (w6.heap.size) rfl 37 va.cells.toArray (0,0) _ (BA8.out) Tryz.underlying37 rfl HZ.out ?_)
         | ((with_reducible show wpList _ _ _ (Oper.mk (some 112) (.load 37 (.tmp 20)) _ _ _ _ :: _) _ _); refine wpList_load_row rfl 37 _ rfl ((w6.heap.size + 1)) rfl 37 vb.cells.toArray (0,0) _ (BB8.out) Tryz.underlying37 rfl HZ.out ?_)
         | (go_at_call 211
            have hmm9:=C8.out.mm
            rw [HK0.out] at hmm9
            have hnn:=hnumber_any m A len cap ck ((s + 1:Nat):Int) B bn bc x va vb w8 hmm9 (by omega) (fun h5=>HGX.out.typed (by omega))
            rw [HNY2.out] at hnn
            unfold Rg.val at hnn
            rw [hr6,ha6,hb6] at hnn
            refine hnn.mono ?_
            rintro r9 w9 ⟨⟨n9,rfl,hn9⟩,m9,g9⟩
            obtain rfl:n9=N:=hn9 rfl
            have C9:Hid (HSt w m zo zf zr zs K (s + 1) 0 0 R S w9):=C8.out.turn con g9 (by rw [HK0.out]; exact m9)
            have BX9:Hid (Blk w9 bx 67 (rgA x)):=Blk.grown BX8.out g9 (by have:=con.lt; have:=con.o; have:=con.f; have:=con.r; have:=con.s; omega)
            have m3:w9.cell? ⟨m,3,none⟩=some (.int .i64 0):=C9.out.mm.facts.2.2.2.2.1
            have zm:=(HMem.facts C9.out.mm).1
            obtain ⟨g0,g1,g2,g3,g4,g5,g6,g7,g8,g9',g10⟩:=rgA_cells BX9.out
            rw [hr6] at g1
            have zx9:=BX9.out.lt
            clear hnn hmm9 m9 g9 hn9)
         | ((with_reducible show wpList _ _ _ (Oper.mk none (.store 37 (.tmp 125) _) _ _ _ _ :: _) _ _); refine wpList_store_mid rfl 37 _ _ rfl zr (r * 13) (nv n9).cells.toArray rfl rfl (C9.out.rr.there hr7) HZ.out (Val.all_one _) ?_))
        have C10:=Lib.hid (C9.out.setR con hr7 (nv n9))
        go_roundg (gk - 1)
        case measure=>omega
        case rel=>exact ⟨(p + 1),_,_,s + 1,by go_num,hp1,by omega,by omega,C10.out,HR1.out⟩
       ·have hyb:(y != 0)=true:=by simpa using hy
        obtain ⟨he,ht⟩:=HR.out.inv_done (by omega) (show stepF ck ((l.getD k default).code.getD p default) p R S=.done (.stop y) by rw [← HF.out,← HXX.out,stepF_num hnum,HNY.out]; simp only [hyb,cond_true])
        go_wp2_with (first
         | (go_at_call 103; refine (parts_any x.op _).mono ?_; rw [HPT.out]; rintro r w' ⟨rfl,rfl⟩)
         | ((with_reducible show wpList _ _ _ (Oper.mk (some 99) (.load 37 (.tmp 98)) _ _ _ _ :: _) _ _); refine wpList_load_mid rfl 37 _ rfl zr (ra * 13) rfl va.cells _ (rangeExt2 HVA.out) Tryz.underlying37 rfl HZ.out ?_)
         | ((with_reducible show wpList _ _ _ (Oper.mk none (.store 37 (.tmp 19) _) _ _ _ _ :: _) _ _)
            refine wpList_store_row rfl 37 _ _ rfl w6.heap.size rfl 37 zV va.cells.toArray ((Blk.new w6 _ _).alloc _) rfl rfl (Val.ones _) HZ.out ?_
            have X7:Hid (Ext w6 (((w6.alloc (.cells zV 37)).alloc (.cells zV 37)).setRow w6.heap.size va.cells.toArray)):=by unfold Hid; exact exR
            have BA7:Hid (Blk (((w6.alloc (.cells zV 37)).alloc (.cells zV 37)).setRow w6.heap.size va.cells.toArray) w6.heap.size 37 va.cells.toArray):=((Blk.new w6 _ _).alloc _).row _
            have BB7:Hid (Blk (((w6.alloc (.cells zV 37)).alloc (.cells zV 37)).setRow w6.heap.size va.cells.toArray) (w6.heap.size + 1) 37 zeroV):=(setRow_other _ _ _ _ (by omega)).trans (blk2 w6 _ _ _)
            generalize (((w6.alloc (.cells zV 37)).alloc (.cells zV 37)).setRow w6.heap.size va.cells.toArray)=w7 at X7 BA7 BB7 ⊢
            have C7:=Lib.hid (C6.out.ext' X7.out)
            have BX7:=Lib.hid (BX.out.ext X7.out)
            obtain ⟨f0,f1,f2,f3,f4,f5,f6,f7,f8,f9,f10⟩:=rgA_cells BX7.out
            rw [hr6] at f1
            rw [hb6] at f3
            have zx7:=BX7.out.lt
            have za7:=BA7.out.lt
            have zb7:=BB7.out.lt
            have a5:w7.cell? ⟨w6.heap.size,5,none⟩=some (.int .i64 va.n):=BA7.out.cell 5
            have a6:w7.cell? ⟨w6.heap.size,6,none⟩=some (.bool va.null):=BA7.out.cell 6
            have a7:w7.cell? ⟨w6.heap.size,7,none⟩=some (.string va.err):=BA7.out.cell 7
            have HVB7:Hid (w7.rangeAt zr (rb * 13) vb.cells):=by rw [← HVB.out]; exact C7.out.rr.range hb7)
         | ((with_reducible show wpList _ _ _ (Oper.mk (some 106) (.load 37 (.tmp 105)) _ _ _ _ :: _) _ _); refine wpList_load_mid rfl 37 _ rfl zr (rb * 13) rfl vb.cells _ (HVB7.out) Tryz.underlying37 rfl HZ.out ?_)
         | ((with_reducible show wpList _ _ _ (Oper.mk none (.store 37 (.tmp 20) _) _ _ _ _ :: _) _ _)
            refine wpList_store_row rfl 37 _ _ rfl (w6.heap.size + 1) rfl 37 zeroV vb.cells.toArray BB7.out rfl rfl (Val.ones _) HZ.out ?_
            have X8:Hid (Ext w6 (w7.setRow (w6.heap.size + 1) vb.cells.toArray)):=X7.out.setRow (by omega) _
            have BB8:Hid (Blk (w7.setRow (w6.heap.size + 1) vb.cells.toArray) (w6.heap.size + 1) 37 vb.cells.toArray):=BB7.out.row _
            have BA8:Hid (Blk (w7.setRow (w6.heap.size + 1) vb.cells.toArray) w6.heap.size 37 va.cells.toArray):=(setRow_other _ _ _ _ (by omega)).trans BA7.out
            generalize (w7.setRow (w6.heap.size + 1) vb.cells.toArray)=w8 at X8 BB8 BA8 ⊢
            have C8:=Lib.hid (C6.out.ext' X8.out)
            have BX8:=Lib.hid (BX.out.ext X8.out)
            obtain ⟨h0',h1',h2',h3',h4',h5',h6',h7',h8',h9',h10'⟩:=rgA_cells BX8.out
            rw [hr6] at h1'
            have zx8:=BX8.out.lt)
         | ((with_reducible show wpList _ _ _ (Oper.mk (some 111) (.load 37 (.tmp 19)) _ _ _ _ :: _) _ _); refine wpList_load_row rfl 37 _ rfl (w6.heap.size) rfl 37 va.cells.toArray (0,0) _ (BA8.out) Tryz.underlying37 rfl HZ.out ?_)
         | ((with_reducible show wpList _ _ _ (Oper.mk (some 112) (.load 37 (.tmp 20)) _ _ _ _ :: _) _ _); refine wpList_load_row rfl 37 _ rfl ((w6.heap.size + 1)) rfl 37 vb.cells.toArray (0,0) _ (BB8.out) Tryz.underlying37 rfl HZ.out ?_)
         | (go_at_call 211
            have hmm9:=C8.out.mm
            rw [HK0.out] at hmm9
            have hnn:=hnumber_any m A len cap ck ((s + 1:Nat):Int) B bn bc x va vb w8 hmm9 (by omega) (fun h5=>HGX.out.typed (by omega))
            rw [HNY2.out] at hnn
            unfold Rg.val at hnn
            rw [hr6,ha6,hb6] at hnn
            refine hnn.mono ?_
            rintro r9 w9 ⟨⟨n9,rfl,hn9⟩,m9,g9⟩
            have C9:Hid (HSt w m zo zf zr zs K (s + 1) 1 y R S w9):=C8.out.turn con g9 (by rw [HK0.out]; rw [if_neg hy] at m9; exact m9)
            have m3:w9.cell? ⟨m,3,none⟩=some (.int .i64 1):=C9.out.mm.facts.2.2.2.2.1
            have zm:=(HMem.facts C9.out.mm).1
            clear hnn hmm9 m9 g9 hn9)
         | ((with_reducible show wpList _ _ _ (Oper.mk none (.store 37 (.tmp 8) _) _ _ _ _ :: _) _ _); refine wpList_store_row rfl 37 _ _ rfl zo rfl 37 zeroV (default:Val).cells.toArray (C9.out.oo) rfl rfl (Val.ones _) HZ.out ?_))
        exact bodyPost_ret (results_row_tmp rfl _ _ zo 37 (default:Val).cells.toArray (0,0) _ rfl (C9.out.oo.row _) Tryz.underlying37 rfl HZ.out (.bool false) rfl) rfl (by rw [he,ht]; exact HSt.ret con HK0.out (.stop y) C9.out)
     ·as_aux_lemma =>
       have q0:(x.op == 0)=false:=(by rw [hop]; rfl); have q1:(x.op == 1)=false:=(by rw [hop]; rfl); have q2:(x.op == 2)=false:=(by rw [hop]; rfl); have q3:(x.op == 3)=false:=(by rw [hop]; rfl); have q4:(x.op == 4)=false:=(by rw [hop]; rfl); have q16:(x.op == 16)=false:=(by rw [hop]; rfl); have q10:(x.op == 10)=true:=(by rw [hop]; rfl); have q11:(x.op == 11)=false:=(by rw [hop]; rfl); have q13:(x.op == 13)=false:=(by rw [hop]; rfl); have q12:(x.op == 12)=false:=(by rw [hop]; rfl); have q15:(x.op == 15)=false:=(by rw [hop]; rfl); have q17:(x.op == 17)=false:=(by rw [hop]; rfl); have q14:(x.op == 14)=false:=(by rw [hop]; rfl)
       have HPT:Hid (partsR x.op=(3,1,0)):=by unfold Hid; rw [hop]; rfl
       have haa:=HGX.out.a
       rw [HPT.out] at haa
       have har:=isPartB_reg haa
       obtain ⟨ra,ha6⟩:∃ r:Nat,x.a=r:=⟨x.a.toNat,by omega⟩
       have ha7:ra < K.nr:=by have:=HNR.out; omega
       have ha9:(ra:Int) < (nr:Int):=by have:=HNR.out; omega
       have ha8:x.a.toNat=ra:=by omega
       have hdp:=HGX.out.d
       rw [HPT.out] at hdp
       have hdq:=isPartB_place hdp
       have hp1:p + 1 < nc:=by
        have h:=HG.out.next (p:=p) (by have:=HNC.out; omega) (by rw [← HXX.out]; unfold goesR; rw [hop]; rfl)
        have:=HNC.out
        omega
       obtain ⟨q9,hq1,hq2,hq3⟩:=next_step (ck:=ck) (x:=x) (p:=p) (R:=R) (S:=S) (nc:=nc) (by omega) ⟨hdq.1,by have:=HNC.out; omega⟩ (fun _=>hp1)
       have HR1:=Lib.hid (HR.out.inv_go (by omega) (by rw [← HF.out,← HXX.out]; exact hq3))
       clear hq3
       rw [ha6] at d2
       obtain ⟨va,hva⟩:∃ va,R ra=va:=⟨_,rfl⟩
       have HVA:Hid (w6.rangeAt zr (ra * 13) va.cells):=by rw [← hva]; exact C6.out.rr.range ha7
       rw [ha8,hva,hop] at hq1
       cases hvn:va.null
       all_goals
        go_wp2_with (first
         | (go_at_call 103; refine (parts_any x.op _).mono ?_; rw [HPT.out]; rintro r w' ⟨rfl,rfl⟩)
         | ((with_reducible show wpList _ _ _ (Oper.mk (some 99) (.load 37 (.tmp 98)) _ _ _ _ :: _) _ _); refine wpList_load_mid rfl 37 _ rfl zr (ra * 13) rfl va.cells _ (rangeExt2 HVA.out) Tryz.underlying37 rfl HZ.out ?_)
         | ((with_reducible show wpList _ _ _ (Oper.mk none (.store 37 (.tmp 19) _) _ _ _ _ :: _) _ _)
            refine wpList_store_row rfl 37 _ _ rfl w6.heap.size rfl 37 zV va.cells.toArray ((Blk.new w6 _ _).alloc _) rfl rfl (Val.ones _) HZ.out ?_
            have X7:Hid (Ext w6 (((w6.alloc (.cells zV 37)).alloc (.cells zV 37)).setRow w6.heap.size va.cells.toArray)):=by unfold Hid; exact exR
            have BA7:Hid (Blk (((w6.alloc (.cells zV 37)).alloc (.cells zV 37)).setRow w6.heap.size va.cells.toArray) w6.heap.size 37 va.cells.toArray):=((Blk.new w6 _ _).alloc _).row _
            have BB7:Hid (Blk (((w6.alloc (.cells zV 37)).alloc (.cells zV 37)).setRow w6.heap.size va.cells.toArray) (w6.heap.size + 1) 37 zeroV):=(setRow_other _ _ _ _ (by omega)).trans (blk2 w6 _ _ _)
            generalize (((w6.alloc (.cells zV 37)).alloc (.cells zV 37)).setRow w6.heap.size va.cells.toArray)=w7 at X7 BA7 BB7 ⊢
            have C7:=Lib.hid (C6.out.ext' X7.out)
            have BX7:=Lib.hid (BX.out.ext X7.out)
            obtain ⟨f0,f1,f2,f3,f4,f5,f6,f7,f8,f9,f10⟩:=rgA_cells BX7.out
            have zx7:=BX7.out.lt
            have za7:=BA7.out.lt
            have zb7:=BB7.out.lt
            have a5:w7.cell? ⟨w6.heap.size,5,none⟩=some (.int .i64 va.n):=BA7.out.cell 5
            have a6:w7.cell? ⟨w6.heap.size,6,none⟩=some (.bool va.null):=BA7.out.cell 6
            have a7:w7.cell? ⟨w6.heap.size,7,none⟩=some (.string va.err):=BA7.out.cell 7))
        go_roundg (gk - 1)
        case measure=>omega
        case rel=>exact ⟨q9,R,S,s + 1,by rw [← hq1]; unfold nextR; first | (simp [*]; done) | (simp [*]; go_num; done),hq2,by omega,by omega,C7.out,HR1.out⟩
     ·as_aux_lemma =>
       have q0:(x.op == 0)=false:=(by rw [hop]; rfl); have q1:(x.op == 1)=false:=(by rw [hop]; rfl); have q2:(x.op == 2)=false:=(by rw [hop]; rfl); have q3:(x.op == 3)=false:=(by rw [hop]; rfl); have q4:(x.op == 4)=false:=(by rw [hop]; rfl); have q16:(x.op == 16)=false:=(by rw [hop]; rfl); have q10:(x.op == 10)=false:=(by rw [hop]; rfl); have q11:(x.op == 11)=true:=(by rw [hop]; rfl); have q13:(x.op == 13)=false:=(by rw [hop]; rfl); have q12:(x.op == 12)=false:=(by rw [hop]; rfl); have q15:(x.op == 15)=false:=(by rw [hop]; rfl); have q17:(x.op == 17)=false:=(by rw [hop]; rfl); have q14:(x.op == 14)=false:=(by rw [hop]; rfl)
       have HPT:Hid (partsR x.op=(3,1,0)):=by unfold Hid; rw [hop]; rfl
       have haa:=HGX.out.a
       rw [HPT.out] at haa
       have har:=isPartB_reg haa
       obtain ⟨ra,ha6⟩:∃ r:Nat,x.a=r:=⟨x.a.toNat,by omega⟩
       have ha7:ra < K.nr:=by have:=HNR.out; omega
       have ha9:(ra:Int) < (nr:Int):=by have:=HNR.out; omega
       have ha8:x.a.toNat=ra:=by omega
       have hdp:=HGX.out.d
       rw [HPT.out] at hdp
       have hdq:=isPartB_place hdp
       have hp1:p + 1 < nc:=by
        have h:=HG.out.next (p:=p) (by have:=HNC.out; omega) (by rw [← HXX.out]; unfold goesR; rw [hop]; rfl)
        have:=HNC.out
        omega
       obtain ⟨q9,hq1,hq2,hq3⟩:=next_step (ck:=ck) (x:=x) (p:=p) (R:=R) (S:=S) (nc:=nc) (by omega) ⟨hdq.1,by have:=HNC.out; omega⟩ (fun _=>hp1)
       have HR1:=Lib.hid (HR.out.inv_go (by omega) (by rw [← HF.out,← HXX.out]; exact hq3))
       clear hq3
       rw [ha6] at d2
       obtain ⟨va,hva⟩:∃ va,R ra=va:=⟨_,rfl⟩
       have HVA:Hid (w6.rangeAt zr (ra * 13) va.cells):=by rw [← hva]; exact C6.out.rr.range ha7
       rw [ha8,hva,hop] at hq1
       have hem:va.err.toList.isEmpty=emp va.err:=rfl
       cases hvn:emp va.err
       all_goals
        go_wp2_with (first
         | (go_at_call 103; refine (parts_any x.op _).mono ?_; rw [HPT.out]; rintro r w' ⟨rfl,rfl⟩)
         | ((with_reducible show wpList _ _ _ (Oper.mk (some 99) (.load 37 (.tmp 98)) _ _ _ _ :: _) _ _); refine wpList_load_mid rfl 37 _ rfl zr (ra * 13) rfl va.cells _ (rangeExt2 HVA.out) Tryz.underlying37 rfl HZ.out ?_)
         | ((with_reducible show wpList _ _ _ (Oper.mk none (.store 37 (.tmp 19) _) _ _ _ _ :: _) _ _)
            refine wpList_store_row rfl 37 _ _ rfl w6.heap.size rfl 37 zV va.cells.toArray ((Blk.new w6 _ _).alloc _) rfl rfl (Val.ones _) HZ.out ?_
            have X7:Hid (Ext w6 (((w6.alloc (.cells zV 37)).alloc (.cells zV 37)).setRow w6.heap.size va.cells.toArray)):=by unfold Hid; exact exR
            have BA7:Hid (Blk (((w6.alloc (.cells zV 37)).alloc (.cells zV 37)).setRow w6.heap.size va.cells.toArray) w6.heap.size 37 va.cells.toArray):=((Blk.new w6 _ _).alloc _).row _
            have BB7:Hid (Blk (((w6.alloc (.cells zV 37)).alloc (.cells zV 37)).setRow w6.heap.size va.cells.toArray) (w6.heap.size + 1) 37 zeroV):=(setRow_other _ _ _ _ (by omega)).trans (blk2 w6 _ _ _)
            generalize (((w6.alloc (.cells zV 37)).alloc (.cells zV 37)).setRow w6.heap.size va.cells.toArray)=w7 at X7 BA7 BB7 ⊢
            have C7:=Lib.hid (C6.out.ext' X7.out)
            have BX7:=Lib.hid (BX.out.ext X7.out)
            obtain ⟨f0,f1,f2,f3,f4,f5,f6,f7,f8,f9,f10⟩:=rgA_cells BX7.out
            have zx7:=BX7.out.lt
            have za7:=BA7.out.lt
            have zb7:=BB7.out.lt
            have a5:w7.cell? ⟨w6.heap.size,5,none⟩=some (.int .i64 va.n):=BA7.out.cell 5
            have a6:w7.cell? ⟨w6.heap.size,6,none⟩=some (.bool va.null):=BA7.out.cell 6
            have a7:w7.cell? ⟨w6.heap.size,7,none⟩=some (.string va.err):=BA7.out.cell 7))
        go_roundg (gk - 1)
        case measure=>omega
        case rel=>exact ⟨q9,R,S,s + 1,by rw [← hq1]; unfold nextR; first | (simp [*]; done) | (simp [*]; go_num; done),hq2,by omega,by omega,C7.out,HR1.out⟩
     ·as_aux_lemma =>
       have q0:(x.op == 0)=false:=(by rw [hop]; rfl); have q1:(x.op == 1)=false:=(by rw [hop]; rfl); have q2:(x.op == 2)=false:=(by rw [hop]; rfl); have q3:(x.op == 3)=false:=(by rw [hop]; rfl); have q4:(x.op == 4)=false:=(by rw [hop]; rfl); have q16:(x.op == 16)=false:=(by rw [hop]; rfl); have q10:(x.op == 10)=false:=(by rw [hop]; rfl); have q11:(x.op == 11)=false:=(by rw [hop]; rfl); have q13:(x.op == 13)=false:=(by rw [hop]; rfl); have q12:(x.op == 12)=true:=(by rw [hop]; rfl); have q15:(x.op == 15)=false:=(by rw [hop]; rfl); have q17:(x.op == 17)=false:=(by rw [hop]; rfl); have q14:(x.op == 14)=false:=(by rw [hop]; rfl)
       have HPT:Hid (partsR x.op=(3,0,0)):=by unfold Hid; rw [hop]; rfl
       have hdp:=HGX.out.d
       rw [HPT.out] at hdp
       have hdq:=isPartB_place hdp
       obtain ⟨q9,hq1,hq2,hq3⟩:=next_step (ck:=ck) (x:=x) (p:=p) (R:=R) (S:=S) (nc:=nc) (by omega) ⟨hdq.1,by have:=HNC.out; omega⟩ (fun h=>absurd hop h)
       have HR1:=Lib.hid (HR.out.inv_go (by omega) (by rw [← HF.out,← HXX.out]; exact hq3))
       clear hq3
       rw [hop] at hq1
       have C7:Hid (HSt w m zo zf zr zs K (s + 1) 0 0 R S ((w6.alloc (.cells zV 37)).alloc (.cells zV 37))):=C6.out.ext' exR
       go_wp2_with (first
        | (go_at_call 103; refine (parts_any x.op _).mono ?_; rw [HPT.out]; rintro r w' ⟨rfl,rfl⟩))
       go_roundg (gk - 1)
       case measure=>omega
       case rel=>exact ⟨q9,R,S,s + 1,by rw [← hq1]; rfl,hq2,by omega,by omega,C7.out,HR1.out⟩
     ·as_aux_lemma =>
       have q0:(x.op == 0)=false:=(by rw [hop]; rfl); have q1:(x.op == 1)=false:=(by rw [hop]; rfl); have q2:(x.op == 2)=false:=(by rw [hop]; rfl); have q3:(x.op == 3)=false:=(by rw [hop]; rfl); have q4:(x.op == 4)=false:=(by rw [hop]; rfl); have q16:(x.op == 16)=false:=(by rw [hop]; rfl); have q10:(x.op == 10)=false:=(by rw [hop]; rfl); have q11:(x.op == 11)=false:=(by rw [hop]; rfl); have q13:(x.op == 13)=true:=(by rw [hop]; rfl); have q12:(x.op == 12)=false:=(by rw [hop]; rfl); have q15:(x.op == 15)=false:=(by rw [hop]; rfl); have q17:(x.op == 17)=false:=(by rw [hop]; rfl); have q14:(x.op == 14)=false:=(by rw [hop]; rfl)
       have HPT:Hid (partsR x.op=(3,1,0)):=by unfold Hid; rw [hop]; rfl
       have haa:=HGX.out.a
       rw [HPT.out] at haa
       have har:=isPartB_reg haa
       obtain ⟨ra,ha6⟩:∃ r:Nat,x.a=r:=⟨x.a.toNat,by omega⟩
       have ha7:ra < K.nr:=by have:=HNR.out; omega
       have ha9:(ra:Int) < (nr:Int):=by have:=HNR.out; omega
       have ha8:x.a.toNat=ra:=by omega
       have hdp:=HGX.out.d
       rw [HPT.out] at hdp
       have hdq:=isPartB_place hdp
       have hp1:p + 1 < nc:=by
        have h:=HG.out.next (p:=p) (by have:=HNC.out; omega) (by rw [← HXX.out]; unfold goesR; rw [hop]; rfl)
        have:=HNC.out
        omega
       obtain ⟨q9,hq1,hq2,hq3⟩:=next_step (ck:=ck) (x:=x) (p:=p) (R:=R) (S:=S) (nc:=nc) (by omega) ⟨hdq.1,by have:=HNC.out; omega⟩ (fun _=>hp1)
       have HR1:=Lib.hid (HR.out.inv_go (by omega) (by rw [← HF.out,← HXX.out]; exact hq3))
       clear hq3
       rw [ha6] at d2
       obtain ⟨va,hva⟩:∃ va,R ra=va:=⟨_,rfl⟩
       have HVA:Hid (w6.rangeAt zr (ra * 13) va.cells):=by rw [← hva]; exact C6.out.rr.range ha7
       rw [ha8,hva,hop] at hq1
       cases hvn:va.n == 0
       all_goals
        go_wp2_with (first
         | (go_at_call 103; refine (parts_any x.op _).mono ?_; rw [HPT.out]; rintro r w' ⟨rfl,rfl⟩)
         | ((with_reducible show wpList _ _ _ (Oper.mk (some 99) (.load 37 (.tmp 98)) _ _ _ _ :: _) _ _); refine wpList_load_mid rfl 37 _ rfl zr (ra * 13) rfl va.cells _ (rangeExt2 HVA.out) Tryz.underlying37 rfl HZ.out ?_)
         | ((with_reducible show wpList _ _ _ (Oper.mk none (.store 37 (.tmp 19) _) _ _ _ _ :: _) _ _)
            refine wpList_store_row rfl 37 _ _ rfl w6.heap.size rfl 37 zV va.cells.toArray ((Blk.new w6 _ _).alloc _) rfl rfl (Val.ones _) HZ.out ?_
            have X7:Hid (Ext w6 (((w6.alloc (.cells zV 37)).alloc (.cells zV 37)).setRow w6.heap.size va.cells.toArray)):=by unfold Hid; exact exR
            have BA7:Hid (Blk (((w6.alloc (.cells zV 37)).alloc (.cells zV 37)).setRow w6.heap.size va.cells.toArray) w6.heap.size 37 va.cells.toArray):=((Blk.new w6 _ _).alloc _).row _
            have BB7:Hid (Blk (((w6.alloc (.cells zV 37)).alloc (.cells zV 37)).setRow w6.heap.size va.cells.toArray) (w6.heap.size + 1) 37 zeroV):=(setRow_other _ _ _ _ (by omega)).trans (blk2 w6 _ _ _)
            generalize (((w6.alloc (.cells zV 37)).alloc (.cells zV 37)).setRow w6.heap.size va.cells.toArray)=w7 at X7 BA7 BB7 ⊢
            have C7:=Lib.hid (C6.out.ext' X7.out)
            have BX7:=Lib.hid (BX.out.ext X7.out)
            obtain ⟨f0,f1,f2,f3,f4,f5,f6,f7,f8,f9,f10⟩:=rgA_cells BX7.out
            have zx7:=BX7.out.lt
            have za7:=BA7.out.lt
            have zb7:=BB7.out.lt
            have a5:w7.cell? ⟨w6.heap.size,5,none⟩=some (.int .i64 va.n):=BA7.out.cell 5
            have a6:w7.cell? ⟨w6.heap.size,6,none⟩=some (.bool va.null):=BA7.out.cell 6
            have a7:w7.cell? ⟨w6.heap.size,7,none⟩=some (.string va.err):=BA7.out.cell 7))
        go_roundg (gk - 1)
        case measure=>omega
        case rel=>exact ⟨q9,R,S,s + 1,by rw [← hq1]; unfold nextR; first | (simp [*]; done) | (simp [*]; go_num; done),hq2,by omega,by omega,C7.out,HR1.out⟩
end Go.Proofs.YtknaemlnhediaaaGreatDoor.c
