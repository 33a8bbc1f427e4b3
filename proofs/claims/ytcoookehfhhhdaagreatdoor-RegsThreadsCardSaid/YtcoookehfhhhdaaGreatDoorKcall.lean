/- Contract of regs.machine.call for code of three operations: it comes to what the run comes to. Conditions: right code. Contract of regs.run: what a call comes to. The table strings.asciiSpace holds what its text lays; lengths are bounded. Contracts of regs.Run and regs.Steps: the outcome of a call, and its steps. The table strings.asciiSpace holds what its text lays; lengths are bounded. The code that known of the statements about register code looks at: its contract, and that of known; Same of outcomes. The table strings.asciiSpace holds what its text lays. -/
import Derived.Test.YtcoookehfhhhdaaGreatDoorGm
import Derived.Test.YtcoookehfhhhdaaGreatDoorGconv
import Derived.Test.YtcoookehfhhhdaaGreatDoorFlow
import Derived.Test.YtcoookehfhhhdaaGreatDoorHm
namespace Go.Proofs.YtcoookehfhhhdaaGreatDoor.c
open Go.RowKit
set_option linter.unusedVariables false
set_option maxRecDepth 100000
set_option maxHeartbeats 64000000
set_option linter.unusedSimpArgs false
def GRet (m:Nat) (A:Option Addr) (len cap:Nat) (ck:Bool) (en:En) (t:Nat) (w:World) (e:Ending) (w':World):Prop :=
 e=.returned (.agg (enC en))∧w.grownBy w' (some m)∧Blk w' m 139 #[.slice A len cap,.bool ck,.int .i64 t]
def GCall (l:List Rf) (A:Option Addr) (len cap:Nat) (ck:Bool) (wb:World) (m d:Nat):Prop :=
 ∀ (k:Nat) (av:List Val) (s:Nat) (w:World) (vA:Option Addr) (vn vc:Nat) (en:En) (t:Nat),k < len → vn=av.length → av.length ≤ 300 → s ≤ 40000 → Ext wb w → Blk w m 139 #[.slice A len cap,.bool ck,.int .i64 s] → ValsAt w vA av → Run l ck (.call d k av) s en t →
  Calls Tryz.prog 79 #[.pointer (some ⟨m,0,none⟩),.int .i64 k,.slice vA vn vc,.int .i64 d] w fun e w'=>GRet m A len cap ck en t w e w'
theorem gcall_few (l:List Rf) (A:Option Addr) (len cap:Nat) (ck:Bool) (wb:World) (m d:Nat) (hlen:len=l.length) (hval:validR l=0) (hA:RfAt wb A l) (hmb:wb.heap.size ≤ m) (hd:d ≤ 30) (hops:∀ f,f ∈ l → ∀ x,x ∈ f.code → x.op=0 ∨ x.op=105 ∨ x.op=15):GCall l A len cap ck wb m d:=by
 intro k av s w vA vn vc en t hk hvn hav hs hx hm hv hr
 have hr:=hr.inv_enter hd
 have hvp:=validR_parts hval
 have hl48:len ≤ 48:=by omega
 obtain ⟨f,hf⟩:∃ f,f=l.getD k default:=⟨_,rfl⟩
 have hgf:=(hvp.2.2 k (by omega)).1
 rw [← hf] at hgf
 obtain ⟨b,off,hAe,hb,c0,c1,c2,c3,c4,c5,c6,c7,c8,hcd⟩:=(hA.ext hx).at_ (k:=k) (by omega) hf
 have hcode:=hgf.few
 obtain ⟨nc,hnc⟩:∃ nc,nc=f.code.length:=⟨_,rfl⟩
 have con:CCon w m w.heap.size (w.heap.size + 1) (w.heap.size + 1 + 1) (w.heap.size + 1 + 1 + 1):=⟨hm.lt,Nat.le_refl _,by omega,by omega,by omega⟩
 have C0:Hid (CSt w m w.heap.size (w.heap.size + 1) (w.heap.size + 1 + 1) (w.heap.size + 1 + 1 + 1) A len cap ck f s (fun _=>default) (fun _=>default) ((((w.alloc (.cells endZ 99)).alloc (.cells (rfA f) 45)).alloc (.cells Tryz.zeroCells177 177)).alloc (.cells Tryz.zeroCells178 178))):=by
  refine ⟨ext_grown exA _,((((hm.alloc _).alloc _).alloc _).alloc _),((((Blk.new w _ _).alloc _).alloc _).alloc _),(((blk2 w _ _ _).alloc _).alloc _),?_,?_⟩
  ·rw [zero6]
   exact VRow.zeros ((blk3 w _ _ _ _).alloc _)
  ·rw [zero300]
   refine VRow.zeros ?_
   have h:=Blk.new (((w.alloc (.cells endZ 99)).alloc (.cells (rfA f) 45)).alloc (.cells Tryz.zeroCells177 177)) 178 (zvals 300)
   rwa [size_alloc,size_alloc,size_alloc] at h
 have hxw:Ext w ((((w.alloc (.cells endZ 99)).alloc (.cells (rfA f) 45)).alloc (.cells Tryz.zeroCells177 177)).alloc (.cells Tryz.zeroCells178 178)):=exA
 have HV:=Lib.hid (hv.ext hxw)
 have m0:=hm.cell 0
 simp only [List.getElem?_toArray,List.getElem?_cons_zero] at m0
 have zm:=hm.lt
 have HR:=Lib.hid hr
 have HCON:=Lib.hid con
 have HG:=Lib.hid hgf
 have HF:=Lib.hid hf
 have HCD:=Lib.hid hcd
 have HVP:=Lib.hid hvp
 have HLN:=Lib.hid hlen
 have HAE:=Lib.hid hAe
 have HX:=Lib.hid hx
 have HOPS:Hid (∀ x,x ∈ f.code → x.op=0 ∨ x.op=105 ∨ x.op=15):=fun x hx=>hops f (by rw [hf]; exact getD_mem (by omega)) x hx
 have HA:=Lib.hid hA
 have HNC:=Lib.hid hnc
 subst hvn
 rw [hAe] at m0
 clear hAe
 have hd3:¬ (30:Int) < (d:Int):=by omega
 have HU:Hid (Tryz.prog.underlying 23 = some (.slice 50)):=by unfold Hid; kernel_rfl
 have HZ:Hid ((Tryz.prog.info? 50).map (·.size)=some 13):=by unfold Hid; kernel_rfl
 have HM0:=Lib.hid hmb
 clear hr con hgf hf hcd hvp hlen hx hops hA hnc hm hv hxw hval hmb
 go_enter Tryz.func79,Tryz.ntmps79
 go_wp2_with fail
 change Hid (CSt w m w.heap.size (w.heap.size + 1) (w.heap.size + 1 + 1) (w.heap.size + 1 + 1 + 1) A len cap ck f s (fun _=>default) (fun _=>default) ((((w.alloc (.cells #[.int .i64 0,.int .i64 0,.int .i64 0,.int .i64 0,.string ⟨#[]⟩,.bool false,.bool false,.int .i64 0,.bool false,.string ⟨#[]⟩,.int .i64 0,.int .i64 0,.string ⟨#[]⟩,.bool false,.bool false] 99)).alloc (.cells #[.string f.name,.int .i64 f.params,.int .i64 f.regs,.int .i64 f.ty.base,.int .i64 f.ty.bits,.string f.ty.name,.bool f.ty.opt,.bool f.ty.err,.slice f.A f.code.length f.cap] 45)).alloc (.cells Tryz.zeroCells177 177)).alloc (.cells Tryz.zeroCells178 178))) at C0
 change Hid (ValsAt ((((w.alloc (.cells #[.int .i64 0,.int .i64 0,.int .i64 0,.int .i64 0,.string ⟨#[]⟩,.bool false,.bool false,.int .i64 0,.bool false,.string ⟨#[]⟩,.int .i64 0,.int .i64 0,.string ⟨#[]⟩,.bool false,.bool false] 99)).alloc (.cells #[.string f.name,.int .i64 f.params,.int .i64 f.regs,.int .i64 f.ty.base,.int .i64 f.ty.bits,.string f.ty.name,.bool f.ty.opt,.bool f.ty.err,.slice f.A f.code.length f.cap] 45)).alloc (.cells Tryz.zeroCells177 177)).alloc (.cells Tryz.zeroCells178 178)) vA av) at HV
 generalize ((((w.alloc (.cells #[.int .i64 0,.int .i64 0,.int .i64 0,.int .i64 0,.string ⟨#[]⟩,.bool false,.bool false,.int .i64 0,.bool false,.string ⟨#[]⟩,.int .i64 0,.int .i64 0,.string ⟨#[]⟩,.bool false,.bool false] 99)).alloc (.cells #[.string f.name,.int .i64 f.params,.int .i64 f.regs,.int .i64 f.ty.base,.int .i64 f.ty.bits,.string f.ty.name,.bool f.ty.opt,.bool f.ty.err,.slice f.A f.code.length f.cap] 45)).alloc (.cells Tryz.zeroCells177 177)).alloc (.cells Tryz.zeroCells178 178))=w4 at C0 HV ⊢
 generalize w.heap.size + 1 + 1 + 1=zs at C0 HCON ⊢
 generalize w.heap.size + 1 + 1=zr at C0 HCON ⊢
 generalize w.heap.size + 1=zf at C0 HCON ⊢
 obtain ⟨zo,hzo⟩:∃ zo,zo=w.heap.size:=⟨_,rfl⟩
 rw [← hzo] at C0 HCON ⊢
 have hcopy:=fun ty=>run_copy_vals (P:=Tryz.prog) w4 23 23 ty 50 zs 300 300 vA vc av HU.out HZ.out hav HV.out C0.out.ss.whole
 simp only [hcopy,Result.andThen_ok,Oper.upon_value]
 have C5:Hid (CSt w m zo zf zr zs A len cap ck f s (fun _=>default) (fun i=>av.getD i default) (w4.setCells zs 0 (flatV av))):=by
  have h:=CSt.fillS HCON.out C0.out av hav
  exact h
 generalize w4.setCells zs 0 (flatV av)=w5 at C5 ⊢
 clear hcopy C0 HV hzo zm m0 c0 c1 c2 c3 c4 c5 c6 c7 c8
 go_wp2_with fail
 go_loopg [12] 40001 (fun n v wr=>∃ (p:Nat) (R S:Nat → Val) (s':Nat),v=.int .i64 p∧p < nc∧s' ≤ 40000∧40001 - s' ≤ n∧CSt w m zo zf zr zs A len cap ck f s' R S wr∧Run l ck (.at_ d k p R S) s' en t)
 case atStart=>exact ⟨0,_,_,s,rfl,by have:=HG.out.pos; have:=HNC.out; omega,hs,by omega,C5.out,HR.out⟩
 case round =>
  clear C5 HR hs
  obtain ⟨p,R,S,s,rfl,hp,hs,hgk,hc,hr⟩:=hrel
  have HC:=Lib.hid hc
  have HR:=Lib.hid hr
  have con:=HCON.out
  have zm:=hc.mm.lt
  have m0:=hc.mm.cell 0
  have m2:=hc.mm.cell 2
  have fz:=hc.mm.frozen 2
  simp only [List.getElem?_toArray,List.getElem?_cons_zero,List.getElem?_cons_succ] at m0 m2
  by_cases hfull:s=40000
  ·have hfull2:((s:Int) == 40000)=true:=by rw [hfull]; rfl
   obtain ⟨he,ht⟩:=hr.inv_full (by omega)
   subst he ht
   have HZE:Hid ((Tryz.prog.info? 99).map (·.size)=some 15):=by unfold Hid; kernel_rfl
   clear hc hr
   go_wp2_with (first
    | ((with_reducible show wpList _ _ _ (Oper.mk none (.store 99 (.tmp 8) _) _ _ _ _ :: _) _ _); refine wpList_store_row rfl 99 _ _ rfl zo rfl 99 endZ (enC .long) HC.out.oo rfl rfl (enC_one _) HZE.out ?_))
   exact bodyPost_ret (results_cell_row rfl _ _ zo 99 (enC .long) (0,0) _ rfl (HC.out.oo.row _) Tryz.underlying99 rfl HZE.out) rfl (CSt.ret con HC.out .long)
  ·have hfull2:((s:Int) == 40000)=false:=by rw [beq_eq_false_iff_ne]; omega
   have hs1:IntKind.i64.wrap ((s:Int) + 1)=((s + 1:Nat):Int):=by rw [IntWalk.i64_in _ (by omega)]; omega
   obtain ⟨x,hxx⟩:∃ x,x=f.code.getD p default:=⟨_,rfl⟩
   have hpl:p < f.code.length:=by have:=HNC.out; omega
   have hxb:Ext wb wr:=HX.out.grown hc.gr (fun k' e=>by have:=Option.some.inj e; have:=HM0.out; omega)
   obtain ⟨bc,oc,hac,hbc,d0,d1,d2,d3,d4,d5,d6,d7,d8,d9,d10,hna⟩:=((HA.out.sub f (by rw [HF.out]; exact getD_mem (by have:=HLN.out; omega))).ext hxb).at_ (k:=p) hpl hxx
   obtain ⟨bc2,oc2,hac2,hbc2,_⟩:=(HA.out.sub f (by rw [HF.out]; exact getD_mem (by have:=HLN.out; omega))).at_ (k:=p) hpl hxx
   rw [hac] at hac2
   cases hac2
   have hnec:bc ≠ m:=by have:=HM0.out; omega
   have f8:=hc.ff.cell 8
   have zf1:=hc.ff.lt
   unfold rfA at f8
   simp only [List.getElem?_toArray,List.getElem?_cons_zero,List.getElem?_cons_succ] at f8
   rw [hac,← HNC.out] at f8
   have hnef:zf ≠ m:=by have:=con.lt; have:=con.o; have:=con.f; omega
   have HXX:=Lib.hid hxx
   have HNA:=Lib.hid hna
   have hzs:=hc.ss.lt
   have C6:Hid (CSt w m zo zf zr zs A len cap ck f (s + 1) R S ((wr.setCell ⟨m,2,none⟩ (.int .i64 ((s:Int) + 1))).alloc (.cells (rgA x) 83))):=(hc.step con (s + 1)).ext' ((Ext.refl _).alloc _)
   have BX:Hid (Blk ((wr.setCell ⟨m,2,none⟩ (.int .i64 ((s:Int) + 1))).alloc (.cells (rgA x) 83)) wr.heap.size 83 (rgA x)):=by
    have h:=Blk.new (wr.setCell ⟨m,2,none⟩ (.int .i64 ((s:Int) + 1))) 83 (rgA x)
    rwa [show (wr.setCell ⟨m,2,none⟩ (.int .i64 ((s:Int) + 1))).heap.size=wr.heap.size by simp] at h
   have NAX:Hid (NumsAt ((wr.setCell ⟨m,2,none⟩ (.int .i64 ((s:Int) + 1))).alloc (.cells (rgA x) 83)) x.A x.args):=by
    exact NumsAt.ext ((HA.out.sub f (by rw [HF.out]; exact getD_mem (by have:=HLN.out; omega))).sub x (by rw [hxx]; exact getD_mem hpl)) (HX.out.grown C6.out.gr (fun k' e=>by have:=Option.some.inj e; have:=HM0.out; omega))
   have HGX:Hid (GoodX l f x):=HG.out.at_ (by rw [hxx]; exact getD_mem hpl)
   clear hc hr hxx hna hac hxb
   go_wp2_with fail
   change Hid (CSt w m zo zf zr zs A len cap ck f (s + 1) R S ((wr.setCell ⟨m,2,none⟩ (.int .i64 ((s:Int) + 1))).alloc (.cells #[.int .i64 x.op,.int .i64 x.d,.int .i64 x.a,.int .i64 x.b,.int .i64 x.ty.base,.int .i64 x.ty.bits,.string x.ty.name,.bool x.ty.opt,.bool x.ty.err,.string x.name,.slice x.A x.args.length x.cap] 83))) at C6
   change Hid (Blk ((wr.setCell ⟨m,2,none⟩ (.int .i64 ((s:Int) + 1))).alloc (.cells #[.int .i64 x.op,.int .i64 x.d,.int .i64 x.a,.int .i64 x.b,.int .i64 x.ty.base,.int .i64 x.ty.bits,.string x.ty.name,.bool x.ty.opt,.bool x.ty.err,.string x.name,.slice x.A x.args.length x.cap] 83)) wr.heap.size 83 (rgA x)) at BX
   change Hid (NumsAt ((wr.setCell ⟨m,2,none⟩ (.int .i64 ((s:Int) + 1))).alloc (.cells #[.int .i64 x.op,.int .i64 x.d,.int .i64 x.a,.int .i64 x.b,.int .i64 x.ty.base,.int .i64 x.ty.bits,.string x.ty.name,.bool x.ty.opt,.bool x.ty.err,.string x.name,.slice x.A x.args.length x.cap] 83)) x.A x.args) at NAX
   generalize ((wr.setCell ⟨m,2,none⟩ (.int .i64 ((s:Int) + 1))).alloc (.cells #[.int .i64 x.op,.int .i64 x.d,.int .i64 x.a,.int .i64 x.b,.int .i64 x.ty.base,.int .i64 x.ty.bits,.string x.ty.name,.bool x.ty.opt,.bool x.ty.err,.string x.name,.slice x.A x.args.length x.cap] 83))=w6 at C6 BX NAX ⊢
   generalize wr.heap.size=bx at BX hzs ⊢
   clear d0 d1 d2 d3 d4 d5 d6 d7 d8 d9 d10 m0 m2 fz f8 zf1 hnef hnec hfull2 hbc hbc2 zm hs1
   obtain ⟨d0,d1,d2,d3,d4,d5,d6,d7,d8,d9,d10⟩:=rgA_cells BX.out
   have zx:=BX.out.lt
   have hpb:(p:Int) ≤ 6000:=by have:=HNC.out; omega
   have HO3:Hid (x.op=0 ∨ x.op=15 ∨ (105 ≤ x.op∧x.op ≤ 123)):=by
    have h9:=HOPS.out x (by rw [HXX.out]; exact getD_mem (by have:=HNC.out; omega))
    show x.op=0 ∨ x.op=15 ∨ _
    omega
   rcases HO3.out with hop | hop | hop
   ·as_aux_lemma =>
     have q0:(x.op == 0)=true:=by rw [hop]; rfl
     have q1:(x.op == 1)=false:=by rw [hop]; rfl
     have q2:(x.op == 2)=false:=by rw [hop]; rfl
     have q3:(x.op == 3)=false:=by rw [hop]; rfl
     have q4:(x.op == 4)=false:=by rw [hop]; rfl
     have q16:(x.op == 16)=false:=by rw [hop]; rfl
     have q15:(x.op == 15)=false:=by rw [hop]; rfl
     have q17:(x.op == 17)=false:=by rw [hop]; rfl
     have q14:(x.op == 14)=false:=by rw [hop]; rfl
     have q5:(x.op == 5)=false:=by rw [hop]; rfl
     have q6:(x.op == 6)=false:=by rw [hop]; rfl
     have q7:(x.op == 7)=false:=by rw [hop]; rfl
     have q8:(x.op == 8)=false:=by rw [hop]; rfl
     have q9:(x.op == 9)=false:=by rw [hop]; rfl
     have HLD:Hid (leadsR x.op=false):=by unfold Hid leadsR; rw [hop]; rfl
     have hp1:p + 1 < nc:=by
      have h:=HG.out.next (p:=p) (by have:=HNC.out; omega) (by rw [← HXX.out]; unfold goesR; rw [hop]; rfl)
      have:=HNC.out
      omega
     have hdd:=HGX.out.d
     rw [show (partsR x.op).1=1 by rw [hop]; rfl] at hdd
     have hdr:=isPartB_reg hdd
     have hg6:=HG.out.reg
     obtain ⟨r,hr6⟩:∃ r:Nat,x.d=r:=⟨x.d.toNat,by omega⟩
     have hr7:r < 6:=by omega
     have hr9:(r:Int) < 6:=by omega
     have hr8:x.d.toNat=r:=by omega
     have HR1:=Lib.hid (HR.out.inv_go (by omega) (show stepF ck ((l.getD k default).code.getD p default) p R S=.go (p + 1) (upd R x.d.toNat (nv (wrapT x.ty x.a))) S by rw [← HF.out,← HXX.out]; unfold stepF; simp only [hop]; rfl))
     rw [hr8] at HR1
     go_wp2_with (first
      | (go_at_call 53; refine (gleads_any x.op _).mono ?_; rw [HLD.out]; rintro r w' ⟨rfl,rfl⟩))
     obtain ⟨N,hN⟩:∃ N,wrapT x.ty x.a=N:=⟨_,rfl⟩
     rw [hN] at HR1
     have HW:Hid (∀ w',Calls Tryz.prog 122 #[.agg #[.int .i64 x.ty.base,.int .i64 x.ty.bits,.string x.ty.name,.bool x.ty.opt,.bool x.ty.err],.int .i64 x.a] w' fun e w''=>e=.returned (.int .i64 N)∧Ext w' w''):=fun w'=>by
      have h:=gwrap_any x.ty x.a w' (HGX.out.row hop)
      rwa [hN] at h
     clear hN
     have HC:Hid (∀ (l:Array Bool) (w':World),l.getD 9 false=false → RSt 10 9 w m zo zf zr zs A len cap ck f (s + 1) R S (upd R r (nv N)) S bx x l w' → Calls Tryz.prog 122 #[.agg #[.int .i64 x.ty.base,.int .i64 x.ty.bits,.string x.ty.name,.bool x.ty.opt,.bool x.ty.err],.int .i64 x.a] w' fun e w''=>e=.returned (.int .i64 N)∧RSt 10 9 w m zo zf zr zs A len cap ck f (s + 1) R S (upd R r (nv N)) S bx x l w''):=fun l w' _ h=>(HW.out w').mono fun e w'' q=>⟨q.1,h.ext' q.2⟩
     have HD:Hid (∀ (w':World) {l:Array Bool},l.getD 9 false=false → RSt 10 9 w m zo zf zr zs A len cap ck f (s + 1) R S (upd R r (nv N)) S bx x l w' → w'.cell? ⟨bx,0,none⟩=some (.int .i64 x.op)∧w'.cell? ⟨bx,1,none⟩=some (.int .i64 (r:Nat))∧w'.cell? ⟨bx,2,none⟩=some (.int .i64 x.a)∧w'.cell? ⟨bx,3,none⟩=some (.int .i64 x.b)∧w'.cell? ⟨bx,4,none⟩=some (.int .i64 x.ty.base)∧w'.cell? ⟨bx,5,none⟩=some (.int .i64 x.ty.bits)∧w'.cell? ⟨bx,6,none⟩=some (.string x.ty.name)∧w'.cell? ⟨bx,7,none⟩=some (.bool x.ty.opt)∧w'.cell? ⟨bx,8,none⟩=some (.bool x.ty.err)∧w'.cell? ⟨bx,9,none⟩=some (.string x.name)∧w'.cell? ⟨bx,10,none⟩=some (.slice x.A x.args.length x.cap)):=fun w' l hk h=>by
      have z:=rgA_cells h.2.2
      rw [hr6] at z
      obtain ⟨g0,g1,g2,g3,g4,g5,g6,g7,g8,g9,g10⟩:=z
      exact ⟨g0,g1,g2,g3,g4,g5,g6,g7,g8,g9,g10⟩
     have HST:∀ (i:Nat) (_:i ≠ 9:=by decide) (l:Array Bool) (w':World),RSt 10 9 w m zo zf zr zs A len cap ck f (s + 1) R S (upd R r (nv N)) S bx x (l.setIfInBounds i true) w' ↔ RSt 10 9 w m zo zf zr zs A len cap ck f (s + 1) R S (upd R r (nv N)) S bx x l w':=fun i hi l w'=>RSt.same hi l w'
     have hzb:zs < bx:=hzs
     clear d0 d1 d2 d3 d4 d5 d6 d7 d8 d9 d10 zx
     refine flow_begin (RSt 10 9 w m zo zf zr zs A len cap ck f (s + 1) R S (upd R r (nv N)) S bx x) #[false,false,false,false,false,false,false,false,false,false] rfl (by kernel_rfl) (fun _ _ _ _ _ h=>h) ((RSt.start C6.out BX.out rfl rfl)) (fun HQ=>?_)
     (refine ttK 0 9 83 rfl HQ (HST 0) ?_; try simp only [putL,List.set])
     (refine ttK 1 9 84 rfl HQ (HST 1) ?_; try simp only [putL,List.set])
     (refine ttK 2 9 85 rfl HQ (HST 2) ?_; try simp only [putL,List.set])
     (refine ttK 3 9 86 rfl HQ (HST 3) ?_; try simp only [putL,List.set])
     (refine ttK 4 9 87 rfl HQ (HST 4) ?_; try simp only [putL,List.set])
     (refine ttK 5 9 88 rfl HQ (HST 5) ?_; try simp only [putL,List.set])
     (refine tcK 6 9 89 rfl (by kernel_rfl) HQ (HST 6) (by rfl) (fun l w' hlk hF=>?_) ((HC.out)) ?_; (focus (have hq:=HD.out _ hlk hF; go_simp; try simp only [enters_gwrap _ _])); try simp only [putL,List.set])
     (refine ttK 7 9 90 rfl HQ (HST 7) ?_; try simp only [putL,List.set])
     (refine ttK 8 9 91 rfl HQ (HST 8) ?_; try simp only [putL,List.set])
     refine flow_put (i:=9) (oi:=⟨none,_,_,_,_,none⟩) rfl rfl (stores_mid (i:=9) rfl 50 _ _ rfl zr (r * 13) (nv N).cells.toArray rfl rfl (fun l w' h=>h.2.1.rr.there hr7) HZ.out (Val.all_one _) (fun l w' h=>RSt.putR con hzb hr7 _ (by decide) h)) (by kernel_rfl) ?_
     refine flow_done (by kernel_rfl) ?_
     intro w7 hm7
     obtain ⟨c7,bx7⟩:=RSt.done hm7 (by rfl)
     have C7:=Lib.hid c7
     have BX7:=Lib.hid bx7
     clear c7 bx7 hm7 HD HST HQ
     go_wp2_with fail
     go_roundg (gk - 1)
     case measure=>omega
     case rel=>exact ⟨(p + 1),_,_,s + 1,by go_num,hp1,by omega,by omega,C7.out,HR1.out⟩
   ·have q0:(x.op == 0)=false:=by rw [hop]; rfl
    have q1:(x.op == 1)=false:=by rw [hop]; rfl
    have q2:(x.op == 2)=false:=by rw [hop]; rfl
    have q3:(x.op == 3)=false:=by rw [hop]; rfl
    have q4:(x.op == 4)=false:=by rw [hop]; rfl
    have q16:(x.op == 16)=false:=by rw [hop]; rfl
    have q15:(x.op == 15)=true:=by rw [hop]; rfl
    have q17:(x.op == 17)=false:=by rw [hop]; rfl
    have q14:(x.op == 14)=false:=by rw [hop]; rfl
    have q5:(x.op == 5)=false:=by rw [hop]; rfl
    have q6:(x.op == 6)=false:=by rw [hop]; rfl
    have q7:(x.op == 7)=false:=by rw [hop]; rfl
    have q8:(x.op == 8)=false:=by rw [hop]; rfl
    have q9:(x.op == 9)=false:=by rw [hop]; rfl
    have HLD:Hid (leadsR x.op=false):=by unfold Hid leadsR; rw [hop]; rfl
    have haa:=HGX.out.a
    rw [show (partsR x.op).2.1=1 by rw [hop]; rfl] at haa
    have har:=isPartB_reg haa
    have hg6a:=HG.out.reg
    obtain ⟨ra,ha6⟩:∃ r:Nat,x.a=r:=⟨x.a.toNat,by omega⟩
    have ha7:ra < 6:=by omega
    have ha9:(ra:Int) < 6:=by omega
    have ha8:x.a.toNat=ra:=by omega
    obtain ⟨he,ht⟩:=HR.out.inv_done (by omega) (show stepF ck ((l.getD k default).code.getD p default) p R S=.done (.ret (R x.a.toNat)) by rw [← HF.out,← HXX.out]; unfold stepF; simp only [hop]; rfl)
    rw [ha8] at he
    rw [ha6] at d2
    have HVR:Hid (w6.rangeAt zr (ra * 13) (R ra).cells):=C6.out.rr.range ha7
    generalize R ra=vv at he HVR
    have HZE:Hid ((Tryz.prog.info? 99).map (·.size)=some 15):=by unfold Hid; kernel_rfl
    go_wp2_with (first
     | (go_at_call 53; refine (gleads_any x.op _).mono ?_; rw [HLD.out]; rintro r w' ⟨rfl,rfl⟩)
     | ((with_reducible show wpList _ _ _ (Oper.mk (some 138) (.load 50 (.tmp 137)) _ _ _ _ :: _) _ _); refine wpList_load_mid rfl 50 _ rfl zr (ra * 13) rfl [.int .i64 vv.ty.base,.int .i64 vv.ty.bits,.string vv.ty.name,.bool vv.ty.opt,.bool vv.ty.err,.int .i64 vv.n,.bool vv.null,.string vv.err,.int .i64 vv.of.base,.int .i64 vv.of.bits,.string vv.of.name,.bool vv.of.opt,.bool vv.of.err] _ HVR.out Tryz.underlying50 rfl HZ.out ?_)
     | ((with_reducible show wpList _ _ _ (Oper.mk none (.store 99 (.tmp 8) _) _ _ _ _ :: _) _ _); refine wpList_store_row rfl 99 _ _ rfl zo rfl 99 endZ (enC (.ret vv)) C6.out.oo rfl rfl (enC_one _) HZE.out ?_))
    exact bodyPost_ret (results_cell_row rfl _ _ zo 99 (enC (.ret vv)) (0,0) _ rfl (C6.out.oo.row _) Tryz.underlying99 rfl HZE.out) rfl (by rw [he,ht]; exact CSt.ret con C6.out (.ret vv))
   ·as_aux_lemma =>
     have hnum:isNumB x.op:=.inr hop
     obtain ⟨u1,u2⟩:=hop
     have q0:(x.op == 0)=false:=by rw [beq_eq_false_iff_ne]; omega
     have q1:(x.op == 1)=false:=by rw [beq_eq_false_iff_ne]; omega
     have q2:(x.op == 2)=false:=by rw [beq_eq_false_iff_ne]; omega
     have q3:(x.op == 3)=false:=by rw [beq_eq_false_iff_ne]; omega
     have q4:(x.op == 4)=false:=by rw [beq_eq_false_iff_ne]; omega
     have q16:(x.op == 16)=false:=by rw [beq_eq_false_iff_ne]; omega
     have q15:(x.op == 15)=false:=by rw [beq_eq_false_iff_ne]; omega
     have q17:(x.op == 17)=false:=by rw [beq_eq_false_iff_ne]; omega
     have q14:(x.op == 14)=false:=by rw [beq_eq_false_iff_ne]; omega
     have q5:(x.op == 5)=false:=by rw [beq_eq_false_iff_ne]; omega
     have q6:(x.op == 6)=false:=by rw [beq_eq_false_iff_ne]; omega
     have q7:(x.op == 7)=false:=by rw [beq_eq_false_iff_ne]; omega
     have q8:(x.op == 8)=false:=by rw [beq_eq_false_iff_ne]; omega
     have q9:(x.op == 9)=false:=by rw [beq_eq_false_iff_ne]; omega
     have HP:Hid (partsR x.op=(1,1,1)):=by unfold Hid partsR; rw [if_neg (by omega),if_neg (by omega),if_neg (by omega),if_neg (by omega),if_neg (by omega),if_neg (by omega),if_neg (by omega),if_neg (by omega),if_neg (by omega)]
     have HLD:Hid (leadsR x.op=false):=by unfold Hid leadsR; rw [beq_eq_false_iff_ne.2 (show x.op ≠ 12 by omega),beq_eq_false_iff_ne.2 (show x.op ≠ 13 by omega),beq_eq_false_iff_ne.2 (show x.op ≠ 10 by omega),beq_eq_false_iff_ne.2 (show x.op ≠ 11 by omega)]; rfl
     have hp1:p + 1 < nc:=by
      have h:=HG.out.next (p:=p) (by have:=HNC.out; omega) (by rw [← HXX.out]; unfold goesR; rw [bne_iff_ne.2 (show x.op ≠ 12 by omega),bne_iff_ne.2 (show x.op ≠ 15 by omega),bne_iff_ne.2 (show x.op ≠ 17 by omega)]; rfl)
      have:=HNC.out
      omega
     have hdd:=HGX.out.d
     rw [show (partsR x.op).1=1 by rw [HP.out]] at hdd
     have hdr:=isPartB_reg hdd
     have hg6:=HG.out.reg
     obtain ⟨r,hr6⟩:∃ r:Nat,x.d=r:=⟨x.d.toNat,by omega⟩
     have hr7:r < 6:=by omega
     have hr9:(r:Int) < 6:=by omega
     have hr8:x.d.toNat=r:=by omega
     have haa:=HGX.out.a
     rw [show (partsR x.op).2.1=1 by rw [HP.out]] at haa
     have har:=isPartB_reg haa
     have hg6a:=HG.out.reg
     obtain ⟨ra,ha6⟩:∃ r:Nat,x.a=r:=⟨x.a.toNat,by omega⟩
     have ha7:ra < 6:=by omega
     have ha9:(ra:Int) < 6:=by omega
     have ha8:x.a.toNat=ra:=by omega
     have hbb:=HGX.out.b
     rw [show (partsR x.op).2.2=1 by rw [HP.out]] at hbb
     have hbr:=isPartB_reg hbb
     have hg6b:=HG.out.reg
     obtain ⟨rb,hb6⟩:∃ r:Nat,x.b=r:=⟨x.b.toNat,by omega⟩
     have hb7:rb < 6:=by omega
     have hb9:(rb:Int) < 6:=by omega
     have hb8:x.b.toNat=rb:=by omega
     obtain ⟨N,y,hNY⟩:∃ N y,numF ck x (R x.a.toNat) (R x.b.toNat)=(N,y):=⟨_,_,rfl⟩
     have HNY:=Lib.hid hNY
     clear hNY
     have HC:Hid (∀ (l:Array Bool) (w':World),l.getD 19 false=false → RSt 21 19 w m zo zf zr zs A len cap ck f (s + 1) R S (upd R r (nv N)) S bx x l w' → Calls Tryz.prog 124 #[.pointer (some ⟨m,0,none⟩),(.agg #[.int .i64 x.op,.int .i64 x.d,.int .i64 x.a,.int .i64 x.b,.int .i64 x.ty.base,.int .i64 x.ty.bits,.string x.ty.name,.bool x.ty.opt,.bool x.ty.err,.string x.name,.slice x.A x.args.length x.cap]),.int .i64 (R ra).n,.int .i64 (R rb).n] w' fun e w''=>e=.returned (.tuple #[.agg (nv N).cells.toArray,.int .i64 y])∧RSt 21 19 w m zo zf zr zs A len cap ck f (s + 1) R S (upd R r (nv N)) S bx x l w''):=fun l w' _ h=>by
      have h2:=operate_any m ck x (R ra) (R rb) w' h.2.1.mm.lt (h.2.1.mm.cell 1) u1 u2 (fun h5=>HGX.out.typed (by omega))
      rw [← ha8,← hb8,HNY.out] at h2
      rw [← ha8,← hb8]
      exact h2.mono fun e w'' q=>⟨q.1,h.ext' q.2⟩
     go_wp2_with (first
      | (go_at_call 53; refine (gleads_any x.op _).mono ?_; rw [HLD.out]; rintro r w' ⟨rfl,rfl⟩))
     have HD:Hid (∀ (w':World) {l:Array Bool},l.getD 19 false=false → RSt 21 19 w m zo zf zr zs A len cap ck f (s + 1) R S (upd R r (nv N)) S bx x l w' → w'.cell? ⟨bx,0,none⟩=some (.int .i64 x.op)∧w'.cell? ⟨bx,1,none⟩=some (.int .i64 (r:Nat))∧w'.cell? ⟨bx,2,none⟩=some (.int .i64 (ra:Nat))∧w'.cell? ⟨bx,3,none⟩=some (.int .i64 (rb:Nat))∧w'.cell? ⟨bx,4,none⟩=some (.int .i64 x.ty.base)∧w'.cell? ⟨bx,5,none⟩=some (.int .i64 x.ty.bits)∧w'.cell? ⟨bx,6,none⟩=some (.string x.ty.name)∧w'.cell? ⟨bx,7,none⟩=some (.bool x.ty.opt)∧w'.cell? ⟨bx,8,none⟩=some (.bool x.ty.err)∧w'.cell? ⟨bx,9,none⟩=some (.string x.name)∧w'.cell? ⟨bx,10,none⟩=some (.slice x.A x.args.length x.cap)∧w'.cell? ⟨zr,ra * 13 + 5,none⟩=some (.int .i64 (R ra).n)∧w'.cell? ⟨zr,rb * 13 + 5,none⟩=some (.int .i64 (R rb).n)):=fun w' l hk h=>by
      have z:=rgA_cells h.2.2
      rw [hr6] at z
      rw [ha6] at z
      rw [hb6] at z
      obtain ⟨g0,g1,g2,g3,g4,g5,g6,g7,g8,g9,g10⟩:=z
      exact ⟨g0,g1,g2,g3,g4,g5,g6,g7,g8,g9,g10,(RSt.before hk h).rr.cell (j:=5) ha7 (by decide),(RSt.before hk h).rr.cell (j:=5) hb7 (by decide)⟩
     have HST:∀ (i:Nat) (_:i ≠ 19:=by decide) (l:Array Bool) (w':World),RSt 21 19 w m zo zf zr zs A len cap ck f (s + 1) R S (upd R r (nv N)) S bx x (l.setIfInBounds i true) w' ↔ RSt 21 19 w m zo zf zr zs A len cap ck f (s + 1) R S (upd R r (nv N)) S bx x l w':=fun i hi l w'=>RSt.same hi l w'
     have hzb:zs < bx:=hzs
     clear d0 d1 d2 d3 d4 d5 d6 d7 d8 d9 d10 zx
     refine flow_begin (RSt 21 19 w m zo zf zr zs A len cap ck f (s + 1) R S (upd R r (nv N)) S bx x) #[false,false,false,false,false,false,false,false,false,false,false,false,false,false,false,false,false,false,false,false,false] rfl (by kernel_rfl) (fun _ _ _ _ _ h=>h) ((RSt.start C6.out BX.out rfl rfl)) (fun HQ=>?_)
     (refine ttK 0 19 63 rfl HQ (HST 0) ?_; try simp only [putL,List.set])
     (refine ttK 1 19 64 rfl HQ (HST 1) ?_; try simp only [putL,List.set])
     (refine ttK 2 19 65 rfl HQ (HST 2) ?_; try simp only [putL,List.set])
     (refine ttK 3 19 66 rfl HQ (HST 3) ?_; try simp only [putL,List.set])
     (refine ttK 4 19 67 rfl HQ (HST 4) ?_; try simp only [putL,List.set])
     (refine ttK 5 19 68 rfl HQ (HST 5) ?_; try simp only [putL,List.set])
     (refine ttK 6 19 69 rfl HQ (HST 6) ?_; try simp only [putL,List.set])
     (refine ttK 7 19 70 rfl HQ (HST 7) ?_; try simp only [putL,List.set])
     (refine ttK 8 19 71 rfl HQ (HST 8) ?_; try simp only [putL,List.set])
     (refine ttK 9 19 72 rfl HQ (HST 9) ?_; try simp only [putL,List.set])
     (refine ttK 10 19 73 rfl HQ (HST 10) ?_; try simp only [putL,List.set])
     (refine ttK 11 19 74 rfl HQ (HST 11) ?_; try simp only [putL,List.set])
     (refine ttK 12 19 75 rfl HQ (HST 12) ?_; try simp only [putL,List.set])
     (refine ttK 13 19 76 rfl HQ (HST 13) ?_; try simp only [putL,List.set])
     (refine tcK 14 19 77 rfl (by kernel_rfl) HQ (HST 14) (by rfl) (fun l w' hlk hF=>?_) ((HC.out)) ?_; (focus (have hq:=HD.out _ hlk hF; go_simp; try simp only [enters_goperate _ _])); try simp only [putL,List.set])
     (refine ttK 15 19 62 rfl HQ (HST 15) ?_; try simp only [putL,List.set])
     (refine ttK 16 19 78 rfl HQ (HST 16) ?_; try simp only [putL,List.set])
     (refine tp 17 79 rfl HQ (HST 17) ?_; try simp only [putL,List.set])
     (refine ttK 18 19 80 rfl HQ (HST 18) ?_; try simp only [putL,List.set])
     refine flow_put (i:=19) (oi:=⟨none,_,_,_,_,none⟩) rfl rfl (stores_mid (i:=19) rfl 50 _ _ rfl zr (r * 13) (nv N).cells.toArray rfl rfl (fun l w' h=>h.2.1.rr.there hr7) HZ.out (Val.all_one _) (fun l w' h=>RSt.putR con hzb hr7 _ (by decide) h)) (by kernel_rfl) ?_
     (refine tp 20 14 rfl HQ (HST 20) ?_; try simp only [putL,List.set])
     refine flow_done (by kernel_rfl) ?_
     intro w7 hm7
     obtain ⟨c7,bx7⟩:=RSt.done hm7 (by rfl)
     have C7:=Lib.hid c7
     have BX7:=Lib.hid bx7
     clear c7 bx7 hm7 HD HST HQ
     have HZE:Hid ((Tryz.prog.info? 99).map (·.size)=some 15):=by unfold Hid; kernel_rfl
     by_cases hy:y=0
     ·have hyb:(y != 0)=false:=by rw [hy]; rfl
      have HR1:=Lib.hid (HR.out.inv_go (by omega) (show stepF ck ((l.getD k default).code.getD p default) p R S=.go (p + 1) (upd R x.d.toNat (nv N)) S by rw [← HF.out,← HXX.out,stepF_num hnum,HNY.out]; simp only [hyb,cond_false]))
      rw [hr8] at HR1
      subst hy
      go_wp2_with fail
      go_roundg (gk - 1)
      case measure=>omega
      case rel=>exact ⟨(p + 1),_,_,s + 1,by go_num,hp1,by omega,by omega,C7.out,HR1.out⟩
     ·have hyb:(y != 0)=true:=by simpa using hy
      obtain ⟨he,ht⟩:=HR.out.inv_done (by omega) (show stepF ck ((l.getD k default).code.getD p default) p R S=.done (.stop y) by rw [← HF.out,← HXX.out,stepF_num hnum,HNY.out]; simp only [hyb,cond_true])
      go_wp2_with (first
       | ((with_reducible show wpList _ _ _ (Oper.mk none (.store 99 (.tmp 8) _) _ _ _ _ :: _) _ _); refine wpList_store_row rfl 99 _ _ rfl zo rfl 99 endZ (enC (.stop y)) C7.out.oo rfl rfl (enC_one _) HZE.out ?_))
      exact bodyPost_ret (results_cell_row rfl _ _ zo 99 (enC (.stop y)) (0,0) _ rfl (C7.out.oo.row _) Tryz.underlying99 rfl HZE.out) rfl (by rw [he,ht]; exact CSt.ret con C7.out (.stop y))
def RRet (l:List Rf) (nm:ByteArray) (av:List Val) (A:Option Addr) (len cap:Nat) (ck:Bool) (w:World) (e:Ending) (w':World):Prop :=
 ∃ mp,e=.returned (.tuple #[mp,.agg (enC (outR l nm av ck).1),.int .i64 (runE l nm av)])∧Ext w w'∧(runE l nm av=0 → ∃ m,mp=.pointer (some ⟨m,0,none⟩)∧Blk w' m 139 #[.slice A len cap,.bool ck,.int .i64 (outR l nm av ck).2])
theorem out_bad {l:List Rf} {nm:ByteArray} {av:List Val} {ck:Bool} (h:runE l nm av ≠ 0):outR l nm av ck=(.ret default,0):=by
 unfold outR
 rw [if_neg h]
theorem RRet.bad {l:List Rf} {nm:ByteArray} {av:List Val} {A:Option Addr} {len cap:Nat} {ck:Bool} {w w':World} {e:Int} (h:runE l nm av=e) (h0:e ≠ 0) (x:Ext w w'):RRet l nm av A len cap ck w (.returned (.tuple #[.pointer none,.agg endZ,.int .i64 e])) w':=by
 subst h
 refine ⟨.pointer none,?_,x,fun h=>absurd h h0⟩
 rw [out_bad h0]
 rfl
def F19 (w0:World) (zo z17 mm:Nat) (mc:Array Value) (en:En) (l':Array Bool) (w':World):Prop :=
 Ext w0 w'∧Blk w' z17 99 (enC en)∧Blk w' mm 139 mc∧l'.size=5∧Blk w' zo 99 (if l'.getD 3 false=true then enC en else endZ)
section
variable {w0 w':World} {zo z17 mm:Nat} {mc:Array Value} {en:En} {l':Array Bool}
theorem F19.same {i:Nat} (h:i ≠ 3) (l':Array Bool) (w':World):F19 w0 zo z17 mm mc en (l'.setIfInBounds i true) w' ↔ F19 w0 zo z17 mm mc en l' w':=by
 unfold F19
 rw [getD_set_ne false h,Array.size_setIfInBounds]
theorem F19.range (h:F19 w0 zo z17 mm mc en l' w'):w'.rangeAt z17 0 (enC en).toList:=by
 intro j v hv
 rw [Nat.zero_add,h.2.1.cell]
 simpa using hv
theorem endSize {a:Array Value} (h:a=enC en ∨ a=endZ):a.size=15:=by
 rcases h with rfl | rfl
 ·exact enC_size en
 ·rfl
theorem F19.put (h:F19 w0 zo z17 mm mc en l' w') (h1:w0.heap.size ≤ zo) (h2:z17 ≠ zo) (h3:mm ≠ zo):F19 w0 zo z17 mm mc en (l'.setIfInBounds 3 true) (w'.setCells zo 0 (enC en).toList):=by
 obtain ⟨a1,a2,a3,a4,a5⟩:=h
 have e:(l'.setIfInBounds 3 true).getD 3 false=true:=by simp [Array.getD,a4]
 refine ⟨a1.setCells h1 _ _,a2.setCells_far h2 _ _,a3.setCells_far h3 _ _,by rw [Array.size_setIfInBounds]; exact a4,?_⟩
 rw [if_pos e]
 have h5:(if l'.getD 3 false=true then enC en else endZ).size=15:=endSize (en:=en) (by by_cases h:l'.getD 3 false=true <;> simp [h])
 have h6:=a5.over (enC en).toList (by rw [h5,Array.length_toList,enC_size])
 rw [Array.toArray_toList] at h6
 exact h6
theorem F19.there (h:F19 w0 zo z17 mm mc en l' w'):w'.there zo 0 (enC en).size:=by
 refine h.2.2.2.2.there0 ?_
 rw [enC_size]
 exact (endSize (en:=en) (by by_cases h:l'.getD 3 false=true <;> simp [h])).symm
end
theorem grun_any (A:Option Addr) (cap:Nat) (l:List Rf) {len:Nat} (nm:ByteArray) (vA:Option Addr) (vc:Nat) (av:List Val) {na:Nat} (ck:Bool) (w:World) (g:Laid w) (hlen:len=l.length) (hna:na=av.length) (hA:RfAt w A l) (hV:ValsAt w vA av) (hl:len ≤ 9223372036854775806) (hna2:na ≤ 1000) (hc:l.length ≤ 48 → countR l ≤ 9223372036854775806) (hin:RgsIn l) (hops:∀ f,f ∈ l → ∀ x,x ∈ f.code → x.op=0 ∨ x.op=105 ∨ x.op=15) :
  Calls Tryz.prog 44 #[.slice A len cap,.string nm,.slice vA na vc,.bool ck] w fun e w'=>RRet l nm av A len cap ck w e w':=by
 have HOPS:=Lib.hid hops
 clear hops
 have HA:=Lib.hid hA
 have HV:=Lib.hid hV
 have HLN:=Lib.hid hlen
 have HNA:=Lib.hid hna
 have HZE:Hid ((Tryz.prog.info? 99).map (·.size)=some 15):=by unfold Hid; kernel_rfl
 have HVALC:Hid (∀ w1,Ext w w1 → Calls Tryz.prog 29 #[.slice A len cap] w1 fun e w'=>e=.returned (.int .i64 (validR l))∧Ext w1 w'):=fun w1 x=>by
  have h:=gValidate_any A cap l w1 (g.ext x) (hA.ext x) (by omega) hc hin
  rwa [← hlen] at h
 have HIXC:Hid (∀ w1,Ext w w1 → Calls Tryz.prog 56 #[.slice A len cap,.string nm] w1 fun e w'=>e=.returned (.int .i64 (indexR l nm))∧Ext w1 w'):=fun w1 x=>by
  have h:=gindex_any A cap l nm w1 (hA.ext x) (by omega)
  rwa [← hlen] at h
 have BZ:Hid (Blk (w.alloc (.cells #[.int .i64 0,.int .i64 0,.int .i64 0,.int .i64 0,.string ⟨#[]⟩,.bool false,.bool false,.int .i64 0,.bool false,.string ⟨#[]⟩,.int .i64 0,.int .i64 0,.string ⟨#[]⟩,.bool false,.bool false] 99)) w.heap.size 99 endZ):=Blk.new w 99 endZ
 clear hA hV hlen hna hin hc
 obtain ⟨v,hv⟩:∃ v,validR l=v:=⟨_,rfl⟩
 rw [hv] at HVALC
 by_cases h0:v=0
 ·subst h0
  have HV0:=Lib.hid hv
  rcases indexR_cases l nm with h | ⟨j,h,hj⟩
  ·have HR:Hid (runE l nm av=4):=by unfold Hid runE; rw [HV0.out,if_neg (by decide),h,if_pos (by decide)]
   have HI:=Lib.hid h
   rw [h] at HIXC
   clear h hv
   go_enter Tryz.func44,Tryz.ntmps44
   go_wp2_with (first
    | (go_at_call 29; (with_reducible refine (HVALC.out _ exA).mono ?_); rintro r w1 ⟨rfl,x1⟩)
    | (go_at_call 56; (with_reducible refine (HIXC.out _ exA).mono ?_); rintro r w2 ⟨rfl,x2⟩)
    | ((with_reducible show wpList _ _ _ (Oper.mk none (.store 99 (.tmp 9) _) _ _ _ _ :: _) _ _); refine wpList_store_row rfl 99 _ _ rfl w.heap.size rfl 99 endZ endZ (BZ.out.ext exA) rfl rfl (enC_one (.ret default)) HZE.out ?_))
   exact bodyPost_ret (results_tmp_row_tmp rfl _ _ w.heap.size 99 endZ (0,0) _ rfl ((BZ.out.ext exA).row _) Tryz.underlying99 rfl HZE.out _ _ rfl rfl) rfl (RRet.bad HR.out (by decide) exR)
  ·obtain ⟨f,hf⟩:∃ f,f=l.getD j default:=⟨_,rfl⟩
   have HRN:Hid (runE l nm av=if (na:Int) ≠ f.params then 10 else if av.all okV=true then 0 else 1):=by
    unfold Hid runE
    rw [HV0.out,if_neg (by decide),h,if_neg (by omega),Int.toNat_natCast,← hf,HNA.out]
   rw [h] at HIXC
   have HJ:=Lib.hid h
   have HF:=Lib.hid hf
   have HJL:=Lib.hid hj
   have HAT:Hid (∀ w1,Ext w w1 → ∃ b off,A=some ⟨b,off,none⟩∧b < w1.heap.size∧w1.cell? ⟨b,off + j * 9 + 1,none⟩=some (.int .i64 f.params)):=fun w1 x=>by
    obtain ⟨b,off,hA,hb,_,c1,_⟩:=(HA.out.ext x).at_ (k:=j) HJL.out HF.out
    exact ⟨b,off,hA,hb,c1⟩
   obtain ⟨b,off,rfl,hb,c1⟩:=HAT.out w (Ext.refl w)
   have hjl:j < len:=by have:=HLN.out; have:=HJL.out; omega
   have hjl2:(j:Int) < len:=by omega
   have hnj:¬ (j:Int) < 0:=by omega
   have hbw:b ≠ w.heap.size:=by omega
   clear hj h hv hf
   by_cases hp:(na:Int)=f.params
   ·rw [if_neg (by simpa using hp)] at HRN
    rw [← hp] at c1
    go_enter Tryz.func44,Tryz.ntmps44
    go_wp2_with (first
     | (go_at_call 29; (with_reducible refine (HVALC.out _ exA).mono ?_); rintro r w1 ⟨rfl,x1⟩; have y1:=x1.facts; have z1:=x1.size; (try simp at z1); have hb1:b < w1.heap.size:=(by omega))
     | (go_at_call 56; (with_reducible refine (HIXC.out _ exA).mono ?_); rintro r w2 ⟨rfl,x2⟩; have y2:=x2.facts; have z2:=x2.size; have hb2:b < w2.heap.size:=(by omega)))
    have HX2:Hid (Ext w w2):=by unfold Hid; exact exA
    have HBZ2:=Lib.hid ((BZ.out.ext x1).ext x2)
    obtain ⟨bz,hbz⟩:∃ bz,bz=w2.heap.size:=⟨_,rfl⟩
    obtain ⟨zo,hzo⟩:∃ zo,zo=w.heap.size:=⟨_,rfl⟩
    have hzo2:=HBZ2.out.lt
    rw [← hzo] at HBZ2 hzo2 ⊢
    have hbz1:zo < bz:=by omega
    have hbz2:bz ≤ w2.heap.size:=by omega
    have hwz:w.heap.size ≤ zo:=by omega
    clear x1 x2 y1 z1 y2 z2 hb1 hb2 BZ HVALC HIXC hbz hzo
    go_loopw [13,41] (fun v i wq=>∃ q:Nat,q ≤ na∧i=.int .i64 q∧wq.ownsRow bz 50 13 v q (flatV ((av.map plainV).take q))∧Ext w wq∧Blk wq zo 99 endZ∧bz ≤ wq.heap.size∧(∀ j,j < q → okV (av.getD j default)=true)) (fun _ i _=>na - (intOf i).toNat)
    case atStart=>exact ⟨0,Nat.zero_le _,rfl,World.ownsRow_nil _ _ _ _,HX2.out,HBZ2.out,hbz2,fun j hj=>by omega⟩
    case round =>
     clear HX2 HBZ2 hbz2
     obtain ⟨q,hq,rfl,ho,hx,hzz,hbz,hok⟩:=hrel
     have HO:=Lib.hid ho
     have HX:=Lib.hid hx
     have HZZ:=Lib.hid hzz
     have HOK:=Lib.hid hok
     by_cases hlt:q < na
     ·have hqa:q < av.length:=by have:=HNA.out; omega
      have hlt2:(q:Int) < na:=by omega
      obtain ⟨u,hu⟩:∃ u,u=av.getD q default:=⟨_,rfl⟩
      obtain ⟨bv,ov,rfl,hbv,u0,u1,u2,u3,u4,u5,u6,u7,u8,u9,u10,u11,u12⟩:=(HV.out.ext hx).at_ (k:=q) hqa hu
      have HU:=Lib.hid hu
      clear ho hx hzz hok hu
      cases hou:okV u
      ·have HOU:=Lib.hid hou
       have HR:Hid (runE l nm av=1):=by
        unfold Hid
        rw [HRN.out,if_neg]
        intro hall
        rw [List.all_eq_true] at hall
        have h9:=hall u (by rw [HU.out]; exact getD_mem hqa)
        rw [HOU.out] at h9
        cases h9
       clear hou
       go_wp2_with (first
        | (go_at_call 78; refine (gwithin_any _ _ _ _).mono ?_; rw [show inB u.n (-2147483648) 2147483648=false from HOU.out]; rintro r w' ⟨rfl,rfl⟩)
        | ((with_reducible show wpList _ _ _ (Oper.mk none (.store 99 (.tmp 9) _) _ _ _ _ :: _) _ _); refine wpList_store_row rfl 99 _ _ rfl zo rfl 99 endZ endZ (HZZ.out.ext exR) rfl rfl (enC_one (.ret default)) HZE.out ?_))
       exact bodyPost_ret (results_tmp_row_tmp rfl _ _ zo 99 endZ (0,0) _ rfl ((HZZ.out.ext exR).row _) Tryz.underlying99 rfl HZE.out _ _ rfl rfl) rfl (RRet.bad HR.out (by decide) ((HX.out.trans exR).setRow hwz _))
      ·have HOU:=Lib.hid hou
       clear hou
       obtain ⟨i0,hi0,hz0,hz1,hz2⟩:=info_val_parts
       have HI:=Lib.hid hi0
       have HZ0:=Lib.hid hz0
       have HZ1:=Lib.hid hz1
       have HZ2:=Lib.hid hz2
       clear hi0 hz0 hz1 hz2
       go_wp2_with (first
        | (go_at_call 78; refine (gwithin_any _ _ _ _).mono ?_; rw [show inB u.n (-2147483648) 2147483648=true from HOU.out]; rintro r w' ⟨rfl,rfl⟩)
        | (at_builtin
           refine wpList_append_own _ rfl _ _ 23 rfl bz 50 i0 _ 13 112 Tryz.underlying23 HI.out HZ0.out HZ1.out HZ2.out rfl (by decide) _ _ _ rfl (own_ext HO.out exR) ⟨_,0,none⟩ 1 1 (plainV u).cells rfl rfl ?c1 ?c2 ?c3 ?c4 ?c5 ?_))
       case c1 =>
        intro j2 u2 hj2
        rw [Addr.add_mid,Nat.zero_add]
        exact ((blk2 wr _ 50 (plainV u).cells.toArray).cell j2).trans (by simpa using hj2)
       case c2=>exact (plainV u).one
       case c3=>unfold maxLen; omega
       case c4=>omega
       case c5=>simp; omega
       intro v' w3 ow3 g3 _
       have OW3:=Lib.hid ow3
       have X3:Hid (Ext w w3):=((HX.out.trans exR).grown g3 (fun k hk=>by have:=own_row HO.out k hk; omega))
       have Z3:Hid (Blk w3 zo 99 endZ):=(g3.block zo (HZZ.out.ext exR).lt (fun e=>by have:=own_row HO.out zo e.symm; omega)).trans (HZZ.out.ext exR)
       have hbz3:bz ≤ w3.heap.size:=by have:=g3.size; simp at this; omega
       have HOK3:Hid (∀ j,j < q + 1 → okV (av.getD j default)=true):=fun j hj=>by
        rcases Nat.lt_or_ge j q with h | h
        ·exact HOK.out j h
        ·obtain rfl:j=q:=by omega
         rw [← HU.out]; exact HOU.out
       clear ow3 g3
       go_wp2_with fail
       go_roundw
       case rel =>
        refine ⟨q + 1,by omega,by go_num,?_,X3.out,Z3.out,hbz3,HOK3.out⟩
        rw [List.take_succ_eq_append_getElem (by rw [List.length_map]; exact hqa),flatV_snoc,List.getElem_map]
        have e9:av[q]=u:=by rw [HU.out,List.getD,List.getElem?_eq_getElem hqa]; rfl
        rw [e9]
        exact OW3.out
       case measure=>simp [intOf]; omega
     ·obtain rfl:q=na:=by omega
      rw [List.take_of_length_le (by rw [List.length_map]; have:=HNA.out; omega)] at HO
      obtain ⟨vA9,vc9,hv9,hvals⟩:=own_vals HO.out (by rw [List.length_map]; exact HNA.out)
      subst hv9
      have HR:Hid (runE l nm av=0):=by
       unfold Hid
       rw [HRN.out,if_pos]
       rw [List.all_eq_true]
       intro x hx
       obtain ⟨i,hi,rfl⟩:=List.getElem_of_mem hx
       have h9:=HOK.out i (by have:=HNA.out; omega)
       rwa [List.getD,List.getElem?_eq_getElem hi,Option.getD_some] at h9
      obtain ⟨en,t,hr⟩:=Run.total l ck 1 j (av.map plainV) 0
      have HOUT:=Lib.hid (outR_eq (ck:=ck) HR.out HJ.out hr)
      have HVALS:=Lib.hid hvals
      clear ho hx hzz hok hvals HO
      have hws:=HX.out.size
      have hq4:(q:Int) ≤ 4:=by
       have h:=((validR_parts HV0.out).2.2 j HJL.out).1.par
       rw [← HF.out] at h
       omega
      have MB:Hid (Blk (wr.alloc (.cells #[.slice (some ⟨b,off,none⟩) len cap,.bool ck,.int .i64 0] 139)) wr.heap.size 139 #[.slice (some ⟨b,off,none⟩) len cap,.bool ck,.int .i64 0]):=Blk.new _ _ _
      have XM:Hid (Ext w (wr.alloc (.cells #[.slice (some ⟨b,off,none⟩) len cap,.bool ck,.int .i64 0] 139))):=HX.out.alloc _
      have HCALL:Hid (Calls Tryz.prog 79 #[.pointer (some ⟨wr.heap.size,0,none⟩),.int .i64 j,.slice vA9 q vc9,.int .i64 1] (wr.alloc (.cells #[.slice (some ⟨b,off,none⟩) len cap,.bool ck,.int .i64 0] 139)) fun e w'=>GRet wr.heap.size (some ⟨b,off,none⟩) len cap ck en t (wr.alloc (.cells #[.slice (some ⟨b,off,none⟩) len cap,.bool ck,.int .i64 0] 139)) e w') :=
       gcall_few l (some ⟨b,off,none⟩) len cap ck w wr.heap.size 1 HLN.out HV0.out HA.out hws (by decide) HOPS.out j (av.map plainV) 0 _ vA9 q vc9 en t hjl (by rw [List.length_map]; exact HNA.out) (by rw [List.length_map]; have:=HNA.out; omega) (by omega) XM.out MB.out (HVALS.out.ext ((Ext.refl _).alloc _)) hr
      have hnam:wr.heap.size ≠ zo:=by have:=HZZ.out.lt; omega
      clear hr
      go_wp2_with (first
       | (go_at_call 79; (with_reducible refine HCALL.out.mono ?_); rintro r w9 ⟨rfl,g9,m9⟩; have z9:=m9.lt)
       | ((with_reducible show wpList _ _ _ (Oper.mk none (.store 99 (.tmp 17) _) _ _ _ _ :: _) _ _); refine wpList_store_row rfl 99 _ _ rfl w9.heap.size rfl 99 endZ (enC en) (Blk.new w9 _ _) rfl (by rw [enC_size]; rfl) (enC_one en) (by rw [enC_size]; exact HZE.out) ?_))
      have X9:Hid (Ext w w9):=XM.out.grown g9 (fun k e=>by have:=Option.some.inj e; omega)
      have Z9:Hid (Blk w9 zo 99 endZ):=(HZZ.out.ext ((Ext.refl _).alloc _)).grownM g9 hnam.symm
      have F0:Hid (F19 w zo w9.heap.size wr.heap.size #[.slice (some ⟨b,off,none⟩) len cap,.bool ck,.int .i64 t] en #[false,false,false,false,false] ((w9.alloc (.cells endZ 99)).setRow w9.heap.size (enC en))) :=
       ⟨(X9.out.alloc _).setRow (by have:=X9.out.size; omega) _,(Blk.new w9 99 endZ).row _,(setRow_other _ _ _ _ (by omega)).trans (m9.alloc _),rfl,(setRow_other _ _ _ _ (by have:=Z9.out.lt; omega)).trans (Z9.out.alloc _)⟩
      have hn17:w9.heap.size ≠ zo:=by have:=Z9.out.lt; omega
      change Hid (F19 w zo w9.heap.size wr.heap.size #[.slice (some ⟨b,off,none⟩) len cap,.bool ck,.int .i64 t] en #[false,false,false,false,false] ((w9.alloc (.cells #[.int .i64 0,.int .i64 0,.int .i64 0,.int .i64 0,.string ⟨#[]⟩,.bool false,.bool false,.int .i64 0,.bool false,.string ⟨#[]⟩,.int .i64 0,.int .i64 0,.string ⟨#[]⟩,.bool false,.bool false] 99)).setRow w9.heap.size (enC en))) at F0
      generalize ((w9.alloc (.cells #[.int .i64 0,.int .i64 0,.int .i64 0,.int .i64 0,.string ⟨#[]⟩,.bool false,.bool false,.int .i64 0,.bool false,.string ⟨#[]⟩,.int .i64 0,.int .i64 0,.string ⟨#[]⟩,.bool false,.bool false] 99)).setRow w9.heap.size (enC en))=w10 at F0 ⊢
      generalize w9.heap.size=z17 at F0 hn17 ⊢
      generalize wr.heap.size=mm at F0 hnam ⊢
      clear X9 Z9 g9 m9 HCALL XM MB HZZ HX
      have HST:∀ (i:Nat) (_:i ≠ 3:=by decide) (l':Array Bool) (w':World),F19 w zo z17 mm #[.slice (some ⟨b,off,none⟩) len cap,.bool ck,.int .i64 t] en (l'.setIfInBounds i true) w' ↔ F19 w zo z17 mm #[.slice (some ⟨b,off,none⟩) len cap,.bool ck,.int .i64 t] en l' w':=fun i h l' w'=>F19.same h l' w'
      go_wp2_with fail
      refine flow_begin (F19 w zo z17 mm #[.slice (some ⟨b,off,none⟩) len cap,.bool ck,.int .i64 t] en) #[false,false,false,false,false] rfl (by kernel_rfl) (fun _ _ _ _ _ h=>h) ((by obtain ⟨a1,a2,a3,a4,a5⟩:=F0.out; exact ⟨a1.drew,a2.drew,a3.drew,a4,a5.drew⟩)) (fun HQ=>?_)
      (refine tp 0 69 rfl HQ (HST 0) ?_; try simp only [putL,List.set])
      (refine flow_take (i:=1) (t:=70) (oi:=⟨some 70,_,_,_,_,_⟩) rfl rfl (by kernel_rfl) (by kernel_rfl) (by kernel_rfl) HQ (HST 1) (does_load (by rfl) 99 _ rfl z17 0 rfl (enC en).toList _ (fun l w' hF=>hF.range) Tryz.underlying99 rfl (by rw [Array.length_toList,enC_size]; exact HZE.out)) ?_; try simp only [Act.put,List.setIfInBounds_toArray,List.set_cons_zero,List.set_cons_succ])
      (refine tp 2 8 rfl HQ (HST 2) ?_; try simp only [putL,List.set])
      refine flow_put (i:=3) (oi:=⟨none,_,_,_,_,none⟩) rfl rfl (stores_mid (i:=3) rfl 99 _ _ rfl zo 0 (enC en) rfl rfl (fun l w' h=>h.there) (by rw [enC_size]; exact HZE.out) (enC_all en) (fun l w' h=>h.put hwz hn17 hnam)) (by kernel_rfl) ?_
      try simp only [Act.put,List.setIfInBounds_toArray,List.set_cons_zero,List.set_cons_succ]
      (refine tp 4 10 rfl HQ (HST 4) ?_; try simp only [putL,List.set])
      refine flow_done (by kernel_rfl) ?_
      intro w11 hF
      obtain ⟨a1,a2,a3,a4,a5⟩:=hF
      rw [if_pos (by rfl)] at a5
      have A1:=Lib.hid a1
      have A3:=Lib.hid a3
      have A5:=Lib.hid a5
      clear a1 a2 a3 a4 a5 HST HQ
      go_wp2_with fail
      refine bodyPost_ret (results_tmp_row_tmp rfl _ _ zo 99 (enC en) (0,0) _ rfl A5.out Tryz.underlying99 rfl (by rw [enC_size]; exact HZE.out) (.pointer (some ⟨mm,0,none⟩)) (.int .i64 0) rfl rfl) rfl ?_
      refine ⟨.pointer (some ⟨mm,0,none⟩),by rw [HR.out,HOUT.out],A1.out,fun _=>⟨mm,rfl,by rw [HOUT.out]; exact A3.out⟩⟩
   ·have hpb:((na:Int) != f.params)=true:=by rw [bne_iff_ne]; exact hp
    rw [if_pos hp] at HRN
    have HR:=HRN
    go_enter Tryz.func44,Tryz.ntmps44
    go_wp2_with (first
     | (go_at_call 29; (with_reducible refine (HVALC.out _ exA).mono ?_); rintro r w1 ⟨rfl,x1⟩; have y1:=x1.facts; have z1:=x1.size; (try simp at z1); have hb1:b < w1.heap.size:=(by omega))
     | (go_at_call 56; (with_reducible refine (HIXC.out _ exA).mono ?_); rintro r w2 ⟨rfl,x2⟩; have y2:=x2.facts; have z2:=x2.size; have hb2:b < w2.heap.size:=(by omega))
     | ((with_reducible show wpList _ _ _ (Oper.mk none (.store 99 (.tmp 9) _) _ _ _ _ :: _) _ _); refine wpList_store_row rfl 99 _ _ rfl w.heap.size rfl 99 endZ endZ (BZ.out.ext exA) rfl rfl (enC_one (.ret default)) HZE.out ?_))
    exact bodyPost_ret (results_tmp_row_tmp rfl _ _ w.heap.size 99 endZ (0,0) _ rfl ((BZ.out.ext exA).row _) Tryz.underlying99 rfl HZE.out _ _ rfl rfl) rfl (RRet.bad HR.out (by decide) exR)
 ·have HR:Hid (runE l nm av=v):=by unfold Hid runE; rw [hv,if_pos h0]
  have hb:(v != 0)=true:=by rw [bne_iff_ne]; exact h0
  clear hv
  go_enter Tryz.func44,Tryz.ntmps44
  go_wp2_with (first
   | (go_at_call 29; (with_reducible refine (HVALC.out _ exA).mono ?_); rintro r w1 ⟨rfl,x1⟩)
   | ((with_reducible show wpList _ _ _ (Oper.mk none (.store 99 (.tmp 9) _) _ _ _ _ :: _) _ _); refine wpList_store_row rfl 99 _ _ rfl w.heap.size rfl 99 endZ endZ (BZ.out.ext exA) rfl rfl (enC_one (.ret default)) HZE.out ?_))
  exact bodyPost_ret (results_tmp_row_tmp rfl _ _ w.heap.size 99 endZ (0,0) _ rfl ((BZ.out.ext exA).row _) Tryz.underlying99 rfl HZE.out _ _ rfl rfl) rfl (RRet.bad HR.out h0 exR)
theorem enC_split (en:En):∃ (k y:Int) (v:Val),enC en=#[.int .i64 k,.int .i64 y,.int .i64 v.ty.base,.int .i64 v.ty.bits,.string v.ty.name,.bool v.ty.opt,.bool v.ty.err,.int .i64 v.n,.bool v.null,.string v.err,.int .i64 v.of.base,.int .i64 v.of.bits,.string v.of.name,.bool v.of.opt,.bool v.of.err] ∧
  outC en=#[.int .i64 k,.int .i64 v.ty.base,.int .i64 v.ty.bits,.string v.ty.name,.bool v.ty.opt,.bool v.ty.err,.int .i64 v.n,.bool v.null,.string v.err,.int .i64 v.of.base,.int .i64 v.of.bits,.string v.of.name,.bool v.of.opt,.bool v.of.err,.int .i64 y,.slice none 0 0]:=by
 cases en with
 | ret v=>exact ⟨0,0,v,rfl,rfl⟩
 | stop y=>exact ⟨1,y,default,rfl,rfl⟩
 | long=>exact ⟨2,0,default,rfl,rfl⟩
section
variable (A:Option Addr) (cap:Nat) (l:List Rf) {len:Nat} (nm:ByteArray) (vA:Option Addr) (vc:Nat) (av:List Val) {na:Nat} (ck:Bool) (w:World) (g:Laid w) (hlen:len=l.length) (hna:na=av.length) (hA:RfAt w A l) (hV:ValsAt w vA av) (hl:len ≤ 9223372036854775806) (hna2:na ≤ 1000) (hc:l.length ≤ 48 → countR l ≤ 9223372036854775806) (hin:RgsIn l) (hops:∀ f,f ∈ l → ∀ x,x ∈ f.code → x.op=0 ∨ x.op=105 ∨ x.op=15)
include g hlen hna hA hV hl hna2 hc hin hops
theorem gRun_any:Calls Tryz.prog 18 #[.slice A len cap,.string nm,.slice vA na vc,.bool ck] w fun e w'=>e=.returned (.tuple #[.agg (outC (outR l nm av ck).1),.int .i64 (runE l nm av)])∧Ext w w':=by
 have HZO:Hid ((Tryz.prog.info? 52).map (·.size)=some 16):=by unfold Hid; kernel_rfl
 have HRUN:Hid (∀ w1,Ext w w1 → Calls Tryz.prog 44 #[.slice A len cap,.string nm,.slice vA na vc,.bool ck] w1 fun e w'=>RRet l nm av A len cap ck w1 e w'):=fun w1 x=>grun_any A cap l nm vA vc av ck w1 (g.ext x) hlen hna (hA.ext x) (hV.ext x) hl hna2 hc hin hops
 have HOUTB:Hid (runE l nm av ≠ 0 → outC (outR l nm av ck).1=outZ):=fun h=>by rw [out_bad h]; rfl
 have BZ:Hid (Blk (w.alloc (.cells #[.int .i64 0,.int .i64 0,.int .i64 0,.string ⟨#[]⟩,.bool false,.bool false,.int .i64 0,.bool false,.string ⟨#[]⟩,.int .i64 0,.int .i64 0,.string ⟨#[]⟩,.bool false,.bool false,.int .i64 0,.slice none 0 0] 52)) w.heap.size 52 outZ):=Blk.new w 52 outZ
 clear g hlen hna hA hV hl hna2 hc hin hops
 obtain ⟨out,hout⟩:∃ out,out=outR l nm av ck:=⟨_,rfl⟩
 obtain ⟨v,hv⟩:∃ v,v=runE l nm av:=⟨_,rfl⟩
 unfold RRet at HRUN
 rw [← hout,← hv] at HRUN HOUTB ⊢
 clear hout hv
 obtain ⟨k,y,u,he1,he2⟩:=enC_split out.1
 rw [he1] at HRUN
 have HOS:=outC_size out.1
 have HO1:=outC_one out.1
 have HOS2:=Lib.hid HOS
 have HO2:=Lib.hid HO1
 clear HOS HO1
 obtain ⟨oc,hoc⟩:∃ oc,oc=outC out.1:=⟨_,rfl⟩
 rw [← hoc] at HOUTB HOS2 HO2 he2 ⊢
 have HE2:=Lib.hid he2
 clear he1 he2 hoc
 go_enter Tryz.func18,Tryz.ntmps18
 by_cases h0:v=0
 ·subst h0
  go_wp2_with (first
   | (go_at_call 44; (with_reducible refine (HRUN.out _ exA).mono ?_); rintro r w1 ⟨mp,rfl,x1,hm1⟩)
   | ((with_reducible show wpList _ _ _ (Oper.mk none (.store 52 (.tmp 8) _) _ _ _ _ :: _) _ _); refine wpList_store_row rfl 52 _ _ rfl w.heap.size rfl 52 outZ oc ((BZ.out.ext x1).ext exR) (by rw [HE2.out]; rfl) (by rw [HOS2.out]; rfl) HO2.out (by rw [HOS2.out]; exact HZO.out) ?_))
  exact bodyPost_ret (results_row_tmp rfl _ _ w.heap.size 52 oc (0,0) _ rfl (((BZ.out.ext x1).ext exR).row _) Tryz.underlying52 rfl (by rw [HOS2.out]; exact HZO.out) (.int .i64 0) rfl) rfl ⟨rfl,exR⟩
 ·have hb:(v != 0)=true:=by rw [bne_iff_ne]; exact h0
  have HB:=Lib.hid (HOUTB.out h0)
  go_wp2_with (first
   | (go_at_call 44; (with_reducible refine (HRUN.out _ exA).mono ?_); rintro r w1 ⟨mp,rfl,x1,hm1⟩)
   | ((with_reducible show wpList _ _ _ (Oper.mk none (.store 52 (.tmp 8) _) _ _ _ _ :: _) _ _); refine wpList_store_row rfl 52 _ _ rfl w.heap.size rfl 52 outZ outZ ((BZ.out.ext x1).ext exR) rfl rfl (outC_one (.ret default)) HZO.out ?_))
  exact bodyPost_ret (results_row_tmp rfl _ _ w.heap.size 52 outZ (0,0) _ rfl (((BZ.out.ext x1).ext exR).row _) Tryz.underlying52 rfl HZO.out (.int .i64 v) rfl) rfl ⟨by rw [HB.out],exR⟩
end
def sumC:Array Value:=#[.int .i64 0,.int .i64 0,.int .i64 200,.int .i64 0,.int .i64 2,.int .i64 8,.string ⟨#[]⟩,.bool false,.bool false,.string ⟨#[]⟩,.slice none 0 0,
 .int .i64 0,.int .i64 1,.int .i64 100,.int .i64 0,.int .i64 2,.int .i64 8,.string ⟨#[]⟩,.bool false,.bool false,.string ⟨#[]⟩,.slice none 0 0,
 .int .i64 105,.int .i64 0,.int .i64 0,.int .i64 1,.int .i64 2,.int .i64 8,.string ⟨#[]⟩,.bool false,.bool false,.string ⟨#[]⟩,.slice none 0 0,
 .int .i64 15,.int .i64 0,.int .i64 0,.int .i64 0,.int .i64 0,.int .i64 0,.string ⟨#[]⟩,.bool false,.bool false,.string ⟨#[]⟩,.slice none 0 0]
def sumF (g:Nat):Array Value:=#[.string ⟨#[102]⟩,.int .i64 0,.int .i64 2,.int .i64 2,.int .i64 8,.string ⟨#[]⟩,.bool false,.bool false,.slice (some ⟨g,0,none⟩) 4 4]
theorem sum_at {w:World} {gf gc:Nat} (h1:Blk w gf 45 (sumF gc)) (h2:Blk w gc 83 sumC):RfAt w (some ⟨gf,0,none⟩) [fSum (some ⟨gc,0,none⟩)]:=by
 refine ⟨fun _=>⟨gf,0,rfl,h1.lt,fun i j hi hj=>?_⟩,fun f hf=>?_⟩
 ·have:i=0:=by simp at hi; omega
  subst this
  rw [Nat.zero_add,Nat.zero_mul,Nat.zero_add,h1.cell j]
  match j,hj with
  | 0,_=>rfl
  | 1,_=>rfl
  | 2,_=>rfl
  | 3,_=>rfl
  | 4,_=>rfl
  | 5,_=>rfl
  | 6,_=>rfl
  | 7,_=>rfl
  | 8,_=>rfl
 ·rw [List.mem_singleton] at hf
  subst hf
  refine ⟨fun _=>⟨gc,0,rfl,h2.lt,fun i j hi hj=>?_⟩,fun x hx=>?_⟩
  ·rw [Nat.zero_add,h2.cell]
   have hi4:i < 4:=hi
   have hq:∀ i,i < 4 → ∀ j,j < 11 → sumC[i * 11 + j]?=some (rgC ([gLi 0 200,gLi 1 100,gAdd,gRet].getD i default) j):=by
    intro i hi j hj
    match i,hi with
    | 0,_=>match j,hj with
     | 0,_ | 1,_ | 2,_ | 3,_ | 4,_ | 5,_ | 6,_ | 7,_ | 8,_ | 9,_ | 10,_=>rfl
    | 1,_=>match j,hj with
     | 0,_ | 1,_ | 2,_ | 3,_ | 4,_ | 5,_ | 6,_ | 7,_ | 8,_ | 9,_ | 10,_=>rfl
    | 2,_=>match j,hj with
     | 0,_ | 1,_ | 2,_ | 3,_ | 4,_ | 5,_ | 6,_ | 7,_ | 8,_ | 9,_ | 10,_=>rfl
    | 3,_=>match j,hj with
     | 0,_ | 1,_ | 2,_ | 3,_ | 4,_ | 5,_ | 6,_ | 7,_ | 8,_ | 9,_ | 10,_=>rfl
   exact hq i hi4 j hj
  ·have:x.args=[]∧x.A=none:=by
    have hx:x ∈ [gLi 0 200,gLi 1 100,gAdd,gRet]:=hx
    simp only [List.mem_cons,List.not_mem_nil,or_false] at hx
    rcases hx with rfl | rfl | rfl | rfl <;> exact ⟨rfl,rfl⟩
   rw [this.1,this.2]
   exact At.nil _ _ _ _
theorem sum_any (w:World):Calls Tryz.prog 19 #[] w fun e w'=>∃ gf gc,e=.returned (.slice (some ⟨gf,0,none⟩) 1 1)∧Ext w w'∧RfAt w' (some ⟨gf,0,none⟩) [fSum (some ⟨gc,0,none⟩)]:=by
 go_enter Tryz.func19,Tryz.ntmps19
 go_wp2_with fail
 go_ret
 exact ⟨w.heap.size + 1 + 1,w.heap.size + 1,rfl,exA,sum_at (blk3 w _ _ _ _) ((blk2 w _ _ _).alloc _)⟩
theorem same_any (k y:Int) (v:Val) (w:World):Calls Tryz.prog 16 #[.agg #[.int .i64 k,.int .i64 v.ty.base,.int .i64 v.ty.bits,.string v.ty.name,.bool v.ty.opt,.bool v.ty.err,.int .i64 v.n,.bool v.null,.string v.err,.int .i64 v.of.base,.int .i64 v.of.bits,.string v.of.name,.bool v.of.opt,.bool v.of.err,.int .i64 y,.slice none 0 0],
  .agg #[.int .i64 k,.int .i64 v.ty.base,.int .i64 v.ty.bits,.string v.ty.name,.bool v.ty.opt,.bool v.ty.err,.int .i64 v.n,.bool v.null,.string v.err,.int .i64 v.of.base,.int .i64 v.of.bits,.string v.of.name,.bool v.of.opt,.bool v.of.err,.int .i64 y,.slice none 0 0]] w fun e w'=>e=.returned (.bool true)∧Ext w w':=by
 go_enter Tryz.func16,Tryz.ntmps16
 go_wp2_with fail
 go_loop [5] (fun i=>i=.int .i64 0) (fun _=>0)
 case atStart=>rfl
 case round =>
  subst hrel
  go_wp2_with fail
  go_ret
  exact ⟨rfl,exA⟩
theorem out_stop:outC (.stop 1)=#[.int .i64 1,.int .i64 0,.int .i64 0,.string ⟨#[]⟩,.bool false,.bool false,.int .i64 0,.bool false,.string ⟨#[]⟩,.int .i64 0,.int .i64 0,.string ⟨#[]⟩,.bool false,.bool false,.int .i64 1,.slice none 0 0]:=rfl
theorem out_ret44:outC (.ret (nv 44))=#[.int .i64 0,.int .i64 0,.int .i64 0,.string ⟨#[]⟩,.bool false,.bool false,.int .i64 44,.bool false,.string ⟨#[]⟩,.int .i64 0,.int .i64 0,.string ⟨#[]⟩,.bool false,.bool false,.int .i64 0,.slice none 0 0]:=rfl
theorem sum_in (g:Option Addr):RgsIn [fSum g]:=by
 intro f hf x hx
 rw [List.mem_singleton] at hf
 subst hf
 have hx:x ∈ [gLi 0 200,gLi 1 100,gAdd,gRet]:=hx
 simp only [List.mem_cons,List.not_mem_nil,or_false] at hx
 rcases hx with rfl | rfl | rfl | rfl <;> exact ⟨⟨by decide,by decide⟩,by decide⟩
theorem sum_ops (g:Option Addr):∀ f,f ∈ [fSum g] → ∀ x,x ∈ f.code → x.op=0 ∨ x.op=105 ∨ x.op=15:=by
 intro f hf x hx
 rw [List.mem_singleton] at hf
 subst hf
 have hx:x ∈ [gLi 0 200,gLi 1 100,gAdd,gRet]:=hx
 simp only [List.mem_cons,List.not_mem_nil,or_false] at hx
 rcases hx with rfl | rfl | rfl | rfl
 ·exact .inl rfl
 ·exact .inl rfl
 ·exact .inr (.inl rfl)
 ·exact .inr (.inr rfl)
theorem sum_run (ck:Bool) (gf gc:Nat) (w:World) (L:Laid w) (h:RfAt w (some ⟨gf,0,none⟩) [fSum (some ⟨gc,0,none⟩)]) :
  Calls Tryz.prog 18 #[.slice (some ⟨gf,0,none⟩) 1 1,.string ⟨#[102]⟩,.slice none 0 0,.bool ck] w fun e w'=>e=.returned (.tuple #[.agg (outC (outR [fSum (some ⟨gc,0,none⟩)] ⟨#[102]⟩ [] ck).1),.int .i64 0])∧Ext w w':=by
 have h2:=gRun_any (some ⟨gf,0,none⟩) 1 [fSum (some ⟨gc,0,none⟩)] (len:=1) ⟨#[102]⟩ none 0 [] (na:=0) ck w L rfl rfl h (At.nil _ _ _ _) (by decide) (by decide) (fun _=>by simp [countR,fSum]) (sum_in _) (sum_ops _)
 rwa [runE_sum] at h2
theorem rknown_any (w:World) (L:Laid w):Calls Tryz.prog 6 #[] w fun e w'=>e=.returned (.bool true)∧Ext w w':=by
 have HL:=Lib.hid L
 clear L
 go_enter Tryz.func6,Tryz.ntmps6
 go_wp2_with (first
  | (go_at_call 19
     first
      | (refine (sum_any _).mono ?_; rintro r w4 ⟨gf,gc,rfl,x4,hf⟩; have HF:=Lib.hid hf; clear hf; have y4:=x4.facts; have z4:w2.heap.size < w4.heap.size:=(by have h:=x4.size; simp at h; omega))
      | (refine (sum_any _).mono ?_; rintro r w1 ⟨gf,gc,rfl,x1,hf⟩; have HF:=Lib.hid hf; clear hf))
  | (go_at_call 18
     first
      | (with_reducible refine (sum_run true _ _ _ (HL.out.ext exA) HF.out).mono ?_; rw [out_sum,out_stop]; rintro r w2 ⟨rfl,x2⟩; clear HF)
      | (with_reducible refine (sum_run false _ _ _ (HL.out.ext exA) HF.out).mono ?_; rw [out_sum2,out_ret44]; rintro r w3 ⟨rfl,x3⟩; have y3:=x3.facts; have z3:w2.heap.size < w3.heap.size:=(by have h:=x3.size; omega))))
 go_ret
 exact ⟨rfl,exA⟩
end Go.Proofs.YtcoookehfhhhdaaGreatDoor.c
