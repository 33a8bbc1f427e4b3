/- tree.copyExprs and tree.copyExpr: the same nodes in new memory that may be written. Condition: what is copied lies in elder memory. -/
import Derived.Test.YtmmnhbhnjiajhaaGreatDoorSVa
import Derived.Test.YtmmnhbhnjiajhaaGreatDoorSVd
import Derived.Test.YtmmnhbhnjiajhaaGreatDoorSLw
namespace Go.Proofs.YtmmnhbhnjiajhaaGreatDoor.c
open Go.RowKit
set_option linter.unusedVariables false
set_option maxRecDepth 100000
set_option maxHeartbeats 3200000
set_option linter.unusedSimpArgs false
theorem app_nil:∀ x:Nd,x.app .nil=x
 | .nil=>rfl
 | .ex o t n k a b tl=>by rw [Nd.app,app_nil tl]
 | .st o n t a b c tl=>by rw [Nd.app,app_nil tl]
 | .bl b tl=>by rw [Nd.app,app_nil tl]
 | .ca l h b tl=>by rw [Nd.app,app_nil tl]
 | .pa n t k tl=>by rw [Nd.app,app_nil tl]
 | .de f n p t v b tl=>by rw [Nd.app,app_nil tl]
theorem app_assoc:∀ x y z:Nd,(x.app y).app z=x.app (y.app z)
 | .nil,y,z=>rfl
 | .ex o t n k a b tl,y,z=>by rw [Nd.app,Nd.app,Nd.app,app_assoc tl]
 | .st o n t a b c tl,y,z=>by rw [Nd.app,Nd.app,Nd.app,app_assoc tl]
 | .bl b tl,y,z=>by rw [Nd.app,Nd.app,Nd.app,app_assoc tl]
 | .ca l h b tl,y,z=>by rw [Nd.app,Nd.app,Nd.app,app_assoc tl]
 | .pa n t k tl,y,z=>by rw [Nd.app,Nd.app,Nd.app,app_assoc tl]
 | .de f n p t v b tl,y,z=>by rw [Nd.app,Nd.app,Nd.app,app_assoc tl]
theorem hd_app {x:Nd} (h:0 < x.len):x.hd.app x.tl=x:=by
 cases x <;> first | rfl | (simp [Nd.len] at h)
structure CpL (p:Nat → Prop) (E:TypeId) (k:Nat) (w:World) (A:Option Addr) (N i:Nat) (x r:Nd) (v:Value) (acc:Nd) (wr:World):Prop where
 ext:Ext w wr
 L:Lp (vp p wr) A N k i r
 gz:Gz w.heap.size E k v acc wr
 eq:acc.app r=x
section
variable {p:Nat → Prop} {E:TypeId} {k:Nat} {w wr w2 w':World} {A:Option Addr} {N i:Nat} {x r acc:Nd} {v v':Value} {cs:Array Value} {xs:List Value}
theorem CpL.init (l:Lp (vp p w) A N k 0 x):CpL p E k w A N 0 x x sl0 .nil w:=⟨Ext.refl w,l,Gz.nil _ _ _ _,rfl⟩
theorem CpL.to (h:CpL p E k w A N i x r v acc wr) (y:Ext wr w2):CpL p E k w A N i x r v acc w2:=⟨h.ext.trans y,h.L.mono (vp_ext y),h.gz.ext y,h.eq⟩
theorem CpL.len (h:CpL p E k w A N i x r v acc wr):acc.len ≤ x.len:=by rw [← h.eq,app_len]; omega
theorem CpL.room (h:CpL p E k w A N i x r v acc wr) (hi:i < N):acc.len + 1 ≤ x.len:=by
 have h1:=h.L.1
 have h2:=congrArg Nd.len h.eq
 rw [app_len] at h2
 omega
theorem CpL.lw (h:CpL p E k w A N i x r v acc wr) (hw:LW x):LW r:=LW.right (x:=acc) (by rw [h.eq]; exact hw)
theorem Sl.bytes {V:Vw} {v:Value} {x:Nd} {k:Nat} (s:Sl V v x k) (h:LW x):x.len * bzK k ≤ 140737488355328:=by
 obtain ⟨_,_,_,_,_,he⟩:=s
 exact h.bytes he
theorem CpL.fin (h:CpL p E k w A N i x .nil v acc wr):Sl (vp (fz w.heap.size wr) wr) v x k:=by
 have:=h.eq
 rw [app_nil] at this
 subst this
 exact h.gz.sl
theorem CpL.put {z:Nat} (h:CpL p E k w A N i x r v acc w2) (hi:i < N) (hp:∀ b,p b → b < w.heap.size)
  (h1:w2.ownsRow w.heap.size E (szK k) v acc.len xs) (h2:Elems (vp (fun i=>fz w.heap.size w2 i∧v.ownBlock ≠ some i) w2) acc k xs) (hn:Nv (vp (fz z w2) w2) k r.hd cs) (hz:w.heap.size ≤ z) (hv:∀ g,v.ownBlock=some g → g < z)
  (r1:w'.ownsRow w.heap.size E (szK k) v' (acc.len + 1) (xs ++ cs.toList)) (r2:w2.grownBy w' v.ownBlock) (r3:v'.ownBlock=v.ownBlock ∨ v'.ownBlock=some w2.heap.size):CpL p E k w A N (i + 1) x r.tl v' (acc.app r.hd) w':=by
 have hr:0 < r.len:=by have:=h.L.1; omega
 obtain ⟨_,_,_,_,_,_,L'⟩:=h.L.step hi
 have hlo:∀ q,v.ownBlock=some q → w.heap.size ≤ q:=fun q hq=>(h.gz.own_lt hq).1
 refine ⟨h.ext.grown r2 hlo,L'.mono (vp_le fun b hb hl=>⟨hb,r2.block b hl fun e=>?_⟩),Gz.grown h1 h2 hn hz hv r1 r2 r3,?_⟩
 ·have:=hlo b e.symm; have:=hp b hb; omega
 ·rw [app_assoc,hd_app hr]; exact h.eq
end
def CPX (n:Nat):Prop:=∀ (x:Nd),x.sz < n → x.len=1 → LW x → ∀ (w:World) (cs:Array Value) (p:Nat → Prop),(∀ b,p b → b < w.heap.size) → Nv (vp p w) 0 x cs → Calls Tryz.prog 38 #[.agg cs] w fun e w'=>∃ ds,e=.returned (.agg ds)∧Nv (vp (fz w.heap.size w') w') 0 x ds∧Ext w w'
def CPE (n:Nat):Prop:=∀ (x:Nd),x.sz < n → LW x → ∀ (w:World) (v:Value) (p:Nat → Prop),(∀ b,p b → b < w.heap.size) → Sl (vp p w) v x 0 → Calls Tryz.prog 75 #[v] w fun e w'=>∃ u,e=.returned u∧Sl (vp (fz w.heap.size w') w') u x 0∧Ext w w'
def CPB (n:Nat):Prop:=∀ (x:Nd),x.sz < n → LW x → ∀ (w:World) (v:Value) (p:Nat → Prop),(∀ b,p b → b < w.heap.size) → Sl (vp p w) v x 1 → Calls Tryz.prog 39 #[v] w fun e w'=>∃ u,e=.returned u∧Sl (vp (fz w.heap.size w') w') u x 1∧Ext w w'
theorem cpe_step {n:Nat} (ihX:CPX n):CPE n:=by
 intro x hsz hlw w v p hp hsl
 have HZ:Hid ((Tryz.prog.info? 36).map (·.size)=some 10):=by unfold Hid; kernel_rfl
 obtain ⟨A,c,rfl,la⟩:=hsl.lp
 have hby:x.len * 120 ≤ 140737488355328:=hsl.bytes hlw
 generalize hN:x.len=N at *
 have HLW:=Lib.hid hlw
 have C0:Hid (CpL p 36 0 w A N 0 x x sl0 .nil w):=CpL.init la
 have HP:=Lib.hid hp
 have HN:=Lib.hid hN
 clear la hsl hN hp hlw
 go_enter Tryz.func75,Tryz.ntmps75
 go_wp2_with fail
 go_loopw [3,8] (fun v u wr=>∃ (i:Nat) (r acc:Nd),u=.int .i64 i∧Hid (CpL p 36 0 w A N i x r v acc wr)∧r.sz ≤ x.sz) (fun _ u _=>N - (intOf u).toNat)
 case atStart=>exact ⟨0,x,.nil,rfl,C0,Nat.le_refl _⟩
 case round =>
  clear C0
  obtain ⟨i,r,acc,rfl,K,hrz⟩:=hrel
  by_cases hlt:i < N
  ·have hrl:0 < r.len:=by have:=K.out.L.1; omega
   obtain ⟨bb,o,ds,hA,hnv,hc,_⟩:=K.out.L.step hlt
   have hltI:(i:Int) < (N:Int):=by omega
   have NV:=Lib.hid hnv
   have HC:=Lib.hid hc
   have hrs:r.hd.sz < n∧r.tl.sz ≤ x.sz:=by have:=hd_sz hrl; omega
   have hwi:wrap64 ((i:Int) + 1)=(i:Int) + 1:=IntWalk.wrap64_in _ (by omega)
   have hal:(acc.len + 1) * 120 ≤ 140737488355328:=by have:=K.out.room hlt; have:=HN.out; omega
   have hlr:=Lib.hid (K.out.lw HLW.out).hd
   subst hA
   clear hnv hc hrz
   go_wp2_with (first
    | ((with_reducible show wpList _ _ _ (Oper.mk (some 11) (.load 36 (.tmp 10)) _ _ _ _ :: _) _ _); refine wpList_load_mid rfl _ _ rfl _ _ rfl ds.toList _ (fun j v hv=>(vp_some (HC.out j v hv)).2) Tryz.underlying36 rfl (by rw [Array.length_toList,show ds.size=10 from NV.out.size]; exact HZ.out) ?_; rw [Array.toArray_toList])
    | ((with_reducible show wpList _ _ _ (Oper.mk none (.store 36 (.tmp 5) _) _ _ _ _ :: _) _ _); refine wpList_store_row rfl _ _ _ rfl wr.heap.size rfl 36 zEx ds (Blk.new wr _ zEx) rfl NV.out.size NV.out.one (by rw [show ds.size=10 from NV.out.size]; exact HZ.out) ?_; refine nmW fun w3 hw3=>?_
       have x3:Ext wr w3:=by rw [← hw3]; exact (newRow wr _ zEx ds).1
       have K3:Hid (Blk w3 wr.heap.size 36 ds):=by rw [← hw3]; exact (newRow wr _ zEx ds).2
       have C3:=Lib.hid (K.out.to x3)
       clear hw3)
    | ((with_reducible show wpList _ _ _ (Oper.mk (some 13) (.load 36 (.tmp 5)) _ _ _ _ :: _) _ _); refine wpList_ldb rfl _ _ rfl wr.heap.size 36 ds rfl K3.out _ Tryz.underlying36 rfl (by rw [show ds.size=10 from NV.out.size]; exact HZ.out) ?_)
    | (go_at_call 38; refine (ihX r.hd hrs.1 (hd_len hrl) hlr.out w3 ds p (fun b hb=>Nat.lt_of_lt_of_le (HP.out b hb) C3.out.ext.size) (NV.out.mono (vp_ext x3))).mono ?_; rintro e w4 ⟨cs,rfl,hcs,x4⟩)
    | ((with_reducible show wpList _ _ _ (Oper.mk (some 15) (.buildSlice _ _ _) _ _ _ _ :: _) _ _); refine wpList_bsE rfl _ rfl cs rfl hcs.size ?_)
    | ((with_reducible show wpList _ _ _ (Oper.mk (some 16) (.call _) _ _ _ _ :: _) _ _)
       have C4:=Lib.hid (C3.out.to (x4.alloc (.cells cs 36)))
       obtain ⟨xs,o1,o2⟩:=C4.out.gz
       refine wpList_app2 Tryz.underlying33 infoEx rfl (by decide) (by decide) rfl _ _ rfl w.heap.size _ acc.len xs rfl o1 _ _ cs rfl (Blk.new w4 _ cs) hcs.size hcs.one hal C4.out.ext.size ?_
       intro v' w' r1 r2 r3))
   go_roundw
   case rel=>exact ⟨i + 1,r.tl,acc.app r.hd,by first | rfl | (rw [hwi]; rfl),C4.out.put hlt HP.out o1 o2 (hcs.fx ((Ext.refl w4).alloc _) (Nat.le_refl _)) C3.out.ext.size (fun g hg=>(C3.out.gz.own_lt hg).2) r1 r2 r3,hrs.2⟩
   case measure=>(try rw [hwi]); rw [iof_succ,iof_nat]; exact Nat.sub_lt_sub_left hlt (Nat.lt_succ_self i)
  ·obtain rfl:=K.out.L.fin hlt
   have hltI:¬ (i:Int) < (N:Int):=by omega
   go_wp2_with fail
   go_ret
   exact ⟨_,rfl,K.out.fin,K.out.ext⟩
def exCl (op:Int) (ty:Ty) (nm:ByteArray) (k:Int) (va vb:Value):Array Value:=#[.int .i64 op,.int .i64 ty.base,.int .i64 ty.bits,.string ty.name,.bool ty.opt,.bool ty.err,.string nm,.int .i64 k,va,vb]
theorem exCl_one (op:Int) (ty:Ty) (nm:ByteArray) (k:Int) {va vb:Value} (h1:va.oneCell'=true) (h2:vb.oneCell'=true):∀ u ∈ (exCl op ty nm k va vb).toList,u.oneCell'=true:=by
 intro u hu
 simp only [exCl,List.mem_cons,List.not_mem_nil,or_false] at hu
 rcases hu with rfl | rfl | rfl | rfl | rfl | rfl | rfl | rfl | rfl | rfl <;> first | rfl | exact h1 | exact h2
theorem nv_exCl {V:Vw} {op:Int} {ty:Ty} {nm:ByteArray} {k:Int} {a b:Nd} {va vb:Value} (h1:Sl V va a 0) (h2:Sl V vb b 1):Nv V 0 (.ex op ty nm k a b .nil) (exCl op ty nm k va vb) :=
 ⟨⟨rfl,va,vb,[],rfl,h1,h2,rfl⟩,rfl⟩
structure CpS (w:World) (cs:Array Value) (wr:World):Prop where
 ext:Ext w wr
 box:Blk wr w.heap.size 36 cs
 res:Blk wr (w.heap.size + 1) 36 zEx
theorem CpS.to {w wr w2:World} {cs:Array Value} (h:CpS w cs wr) (y:Ext wr w2):CpS w cs w2:=⟨h.ext.trans y,h.box.ext y,h.res.ext y⟩
theorem CpS.init (w:World) (cs:Array Value):CpS w cs ((w.alloc (.cells cs 36)).alloc (.cells zEx 36)) :=
 ⟨((Ext.refl w).alloc _).alloc _,(Blk.new w _ cs).alloc _,by have:=Blk.new (w.alloc (.cells cs 36)) 36 zEx; rwa [show (w.alloc (.cells cs 36)).heap.size=w.heap.size + 1 by simp] at this⟩
theorem CpS.put {w wr:World} {cs:Array Value} (h:CpS w cs wr) (i:Nat) (u:Value):CpS w (cs.setIfInBounds i u) (wr.setCell ⟨w.heap.size,i,none⟩ u) :=
 ⟨h.ext.setCell (p:=⟨w.heap.size,i,none⟩) (Nat.le_refl _) u,h.box.set_ i u,h.res.far (p:=⟨w.heap.size,i,none⟩) (by show w.heap.size + 1 ≠ w.heap.size; omega) u⟩
theorem Sl.fk {lo lo' k:Nat} {w w':World} {v:Value} {x:Nd} (h:Sl (vp (fz lo w) w) v x k) (hk:∀ b,lo ≤ b → b < w.heap.size → w'.heap[b]?=w.heap[b]?) (hl:lo' ≤ lo):Sl (vp (fz lo' w') w') v x k:=h.mono (vp_le fun b hb hlt=>have e:=hk b hb.1 hlt; ⟨hb.same e hl,e⟩)
theorem Nv.fk {lo lo' k:Nat} {w w':World} {cs:Array Value} {x:Nd} (h:Nv (vp (fz lo w) w) k x cs) (hk:∀ b,lo ≤ b → b < w.heap.size → w'.heap[b]?=w.heap[b]?) (hl:lo' ≤ lo):Nv (vp (fz lo' w') w') k x cs:=h.mono (vp_le fun b hb hlt=>have e:=hk b hb.1 hlt; ⟨hb.same e hl,e⟩)
theorem cpx_step {n:Nat} (ihE:CPE n) (ihB:CPB n):CPX (n + 1):=by
 intro x hsz h1 hlw w cs p hp hnv
 obtain rfl | ⟨op,ty,nm,k,a,b,r,rfl⟩:=hnv.1.ex
 ·cases h1
 obtain rfl:r=.nil:=tl_one h1
 obtain ⟨va,vb,rfl,ha,hb⟩:=nv_exI hnv
 have HZ:Hid ((Tryz.prog.info? 36).map (·.size)=some 10):=by unfold Hid; kernel_rfl
 have hsa:a.sz < n:=by simp [Nd.sz] at hsz; omega
 have hsb:b.sz < n:=by simp [Nd.sz] at hsz; omega
 have HLA:=Lib.hid (show LW a from hlw.2.1)
 have HLB:=Lib.hid (show LW b from hlw.2.2.1)
 have S0:=Lib.hid (CpS.init w (exCl op ty nm k va vb))
 have HP:=Lib.hid hp
 have HA:=Lib.hid ha
 have HB:=Lib.hid hb
 have i8:∀ u,(exCl op ty nm k va vb).setIfInBounds 8 u=exCl op ty nm k u vb:=fun _=>rfl
 have i9:∀ u u2,(exCl op ty nm k u vb).setIfInBounds 9 u2=exCl op ty nm k u u2:=fun _ _=>rfl
 have HI:=Lib.hid (And.intro i8 i9)
 clear hnv ha hb hp h1 hsz i8 i9 hlw
 show Calls Tryz.prog 38 #[.agg (exCl op ty nm k va vb)] w _
 generalize hcs:exCl op ty nm k va vb=cs0 at S0 ⊢
 have HCS:=Lib.hid hcs
 have c8:cs0[8]?=some va:=by rw [← hcs]; rfl
 clear hcs
 go_enter Tryz.func38,Tryz.ntmps38
 go_wp2_with (first
  | (go_at_call 75; refine (ihE a hsa HLA.out _ va p (fun b hb=>Nat.lt_of_lt_of_le (HP.out b hb) S0.out.ext.size) (HA.out.mono (vp_ext S0.out.ext))).mono ?_; rintro e w3 ⟨u,rfl,hu,x3⟩
     obtain ⟨Au,nu,cu,rfl,_⟩:=Sl.shape hu
     have S3:=Lib.hid (S0.out.to x3)
     have q8:w3.cell? ⟨w.heap.size,8,none⟩=some va:=by rw [S3.out.box.cell,← HCS.out]; rfl
     have qf:=S3.out.box.frozen
     have hl3:=S3.out.res.lt
     have S4:Hid (CpS w (exCl op ty nm k (.slice Au nu cu) vb) (w3.setCell ⟨w.heap.size,8,none⟩ (.slice Au nu cu))):=by have:=S3.out.put 8 (.slice Au nu cu); rw [← HCS.out,HI.out.1] at this; exact this
     have q9:(w3.setCell ⟨w.heap.size,8,none⟩ (.slice Au nu cu)).cell? ⟨w.heap.size,9,none⟩=some vb:=S4.out.box.cell 9)
  | (go_at_call 39; refine (ihB b hsb HLB.out _ vb p (fun b hb=>Nat.lt_of_lt_of_le (HP.out b hb) S4.out.ext.size) (HB.out.mono (vp_ext S4.out.ext))).mono ?_; rintro e w5 ⟨u2,rfl,hu2,x5⟩
     obtain ⟨A2,n2,c2,rfl,_⟩:=Sl.shape hu2
     have S5:=Lib.hid (S4.out.to x5)
     have q9':w5.cell? ⟨w.heap.size,9,none⟩=some vb:=S5.out.box.cell 9
     have qf5:=S5.out.box.frozen
     have hl5:=S5.out.res.lt
     have S6:Hid (CpS w (exCl op ty nm k (.slice Au nu cu) (.slice A2 n2 c2)) (w5.setCell ⟨w.heap.size,9,none⟩ (.slice A2 n2 c2))):=by have:=S5.out.put 9 (.slice A2 n2 c2); rw [HI.out.2] at this; exact this)
  | ((with_reducible show wpList _ _ _ (Oper.mk (some 11) (.load 36 (.tmp 1)) _ _ _ _ :: _) _ _); refine wpList_ldb rfl _ _ rfl w.heap.size 36 (exCl op ty nm k (.slice Au nu cu) (.slice A2 n2 c2)) rfl S6.out.box _ Tryz.underlying36 rfl HZ.out ?_)
  | ((with_reducible show wpList _ _ _ (Oper.mk none (.store 36 (.tmp 2) _) _ _ _ _ :: _) _ _); refine wpList_store_row rfl _ _ _ rfl (w.heap.size + 1) rfl 36 zEx (exCl op ty nm k (.slice Au nu cu) (.slice A2 n2 c2)) S6.out.res rfl rfl (exCl_one _ _ _ _ hu.one hu2.one) HZ.out ?_))
 refine bodyPost_ret (results_cell_row rfl _ _ (w.heap.size + 1) _ (exCl op ty nm k (.slice Au nu cu) (.slice A2 n2 c2)) (0,0) _ rfl (S6.out.res.row _) Tryz.underlying36 rfl HZ.out) rfl ?_
 have hw:((w.alloc (.cells cs0 36)).alloc (.cells zEx 36)).heap.size=w.heap.size + 2:=by simp
 rw [hw] at hu
 have h5:w.heap.size + 2 ≤ (w3.setCell ⟨w.heap.size,8,none⟩ (.slice Au nu cu)).heap.size:=by rw [setCell_sz]; omega
 refine ⟨_,rfl,nv_exCl ?_ ?_,S6.out.ext.setRow (Nat.le_succ _) _⟩
 ·refine Sl.fk (lo:=w.heap.size + 2) (w:=w5.setCell ⟨w.heap.size,9,none⟩ (.slice A2 n2 c2)) ?_ (fun b hb _=>setRow_other _ _ _ _ (by omega)) (by omega)
  refine Sl.fk (lo:=w.heap.size + 2) (w:=w5) ?_ (fun b hb _=>Below.heap_setCell _ _ _ _ (by show b ≠ w.heap.size; omega)) (Nat.le_refl _)
  refine Sl.fx (lo:=w.heap.size + 2) ?_ x5 (Nat.le_refl _)
  exact hu.fk (fun b hb _=>Below.heap_setCell _ _ _ _ (by show b ≠ w.heap.size; omega)) (Nat.le_refl _)
 ·refine Sl.fk (lo:=w.heap.size + 2) (w:=w5.setCell ⟨w.heap.size,9,none⟩ (.slice A2 n2 c2)) ?_ (fun b hb _=>setRow_other _ _ _ _ (by omega)) (by omega)
  exact hu2.fk (fun b hb _=>Below.heap_setCell _ _ _ _ (by show b ≠ w.heap.size; omega)) h5
end Go.Proofs.YtmmnhbhnjiajhaaGreatDoor.c
